/-
  What trace.Serial keeps while it orders.
  trace.trace.
  concordref28: put.
  concordref28: Graph.
  trace.Graph.
  trace.Serial.
  slices.Reverse of ints; trace.way.
-/
import Derived.Test.YteddiknlcdbhjaaGreatTsB4
import Derived.Test.YteddiknlcdbhjaaGreatTsB12
import Derived.Test.YteddiknlcdbhjaaGreatTsB5
import Derived.Test.YteddiknlcdbhjaaGreatTsB10
import Derived.BigQuiet
import Derived.Deep.QuietTactic
import Derived.Test.YteddiknlcdbhjaaGreatTsB9
import Derived.Deep.Cut
import Derived.Deep.CutRange
import Derived.Deep.RegionHeld3
import Derived.Test.YteddiknlcdbhjaaGreatTsB7
import Derived.Test.YteddiknlcdbhjaaGreatTsB2
set_option linter.unusedVariables false
namespace Go.Proofs.YteddiknlcdbhjaaGreat
open Go Go.RowKit TrP HeapPlain Assoc

theorem RdSt.blk {B p : Nat} {w : World} {xs : List Int} (h : RdSt B p w xs) {k : Nat} (hk : ownR p w k) : ∃ t cs, Blk w k t cs := by
  obtain ⟨v, hb, ho⟩ := h.obj
  rcases hk with rfl | ⟨v', h1, h2⟩
  · exact ⟨_, _, hb⟩
  · rw [hb.cell] at h1
    cases h1
    rcases ho.2 with ⟨e, _⟩ | ⟨g, cap, cur, rfl, _, hg, _⟩
    · rw [e] at h2; cases h2
    · cases h2; exact ⟨_, _, hg⟩
theorem IIter.updP {O : Nat → Prop} {w w' : World} {q : IntKind} {b r : Nat} {L rest : List IEnt} (h : IIter w q b r L rest) (hu : UpdP O w w') (hb : ¬ O b) (hr : ¬ O r) : IIter w' q b r L rest := by
  have hu' : ∀ x, x < w.heap.size → (x = b ∨ x = r) → w'.heap[x]? = w.heap[x]? := fun x hx e => hu.keep x hx (by
    rcases e with rfl | rfl
    · exact hb
    · exact hr)
  obtain ⟨c, s, seen, c0, h1, h2, h3⟩ := h.all
  exact ⟨c, s, seen, c0, ⟨(hu' b h1.lt' (.inl rfl)).trans h1.blk, h1.keys, h1.stamps, h1.lt⟩, (hu' r h.lt (.inr rfl)).trans h2, h3⟩
theorem RdSt.not_iter {B p : Nat} {w : World} {xs : List Int} {q : IntKind} {b r : Nat} {L rest : List IEnt} (h : RdSt B p w xs) (hi : IIter w q b r L rest) : ¬ ownR p w b ∧ ¬ ownR p w r := by
  obtain ⟨c, s, seen, c0, h1, h2, h3⟩ := hi.all
  refine ⟨fun hk => ?_, fun hk => ?_⟩
  · obtain ⟨t, cs, hb⟩ := h.blk hk
    have := h1.blk
    rw [show w.heap[b]? = _ from hb] at this
    cases this
  · obtain ⟨t, cs, hb⟩ := h.blk hk
    rw [show w.heap[r]? = _ from hb] at h2
    cases h2
/-- A tracer's counts, a heap, and those that are out. -/
structure SerSt (bt Rb rb cn : Nat) (wR : World) (f : Int → Option Int) (wq : World) (vo : Value) (out xs : List Int) : Prop where
  fr : UpdP (fun x => x = bt ∨ Rb ≤ x) wR wq
  tx : IMap wq .i64 bt (fun k => (f k).map (.int .i64)) cn
  rd : RdSt Rb rb wq xs
  hp : Hp ltN xs.length xs
  ow : Ow encK 3 wq Rb vo out
  ap : ∀ y, vo.ownBlock = some y → ¬ ownR rb wq y
section
variable {bt Rb rb cn : Nat} {wR : World} {f : Int → Option Int} {wq w' : World} {vo : Value} {out xs : List Int}
theorem SerSt.upd0 (h : SerSt bt Rb rb cn wR f wq vo out xs) (hu : Upd [] wq w') : SerSt bt Rb rb cn wR f w' vo out xs := by
  have hk := h.rd.keep (O := fun _ => False) (.of_upd hu (by simp)) (fun _ _ h => h)
  exact ⟨h.fr.trans (UpdP.of_upd (O := fun x => x = bt ∨ Rb ≤ x) hu (by simp)) (fun x hx => .inl hx), h.tx.upd hu (by simp), hk.1, h.hp, h.ow.upd0 hu, fun y hy hc => h.ap y hy ((hk.2 y).1 hc)⟩
theorem SerSt.heap (h : SerSt bt Rb rb cn wR f wq vo out xs) (hbt : bt < Rb) {ys : List Int} (hr : RdSt Rb rb w' ys) (hh : Hp ltN ys.length ys) (hf : FrR rb wq w') : SerSt bt Rb rb cn wR f w' vo out ys where
  fr := h.fr.trans (hf.1.mono (O' := fun x => x = bt ∨ Rb ≤ x) (fun x hx => .inl (.inr (h.rd.own_lt hx).1))) (fun x hx => .inl hx)
  tx := h.tx.updP hf.1 (fun hx => by have := (h.rd.own_lt hx).1; omega)
  rd := hr
  hp := hh
  ow := own_updP h.ow hf.1 (fun x hx hO => h.ap x hx hO)
  ap := fun y hy hc => (hf.2 y hc).elim (h.ap y hy) (fun g => by have := (own_lt h.ow hy).2; omega)
theorem SerSt.setTx (h : SerSt bt Rb rb cn wR f wq vo out xs) (hbt : bt < Rb) (hu : Upd [bt] wq w') {f' : Int → Option Int} (im : IMap w' .i64 bt (fun k => (f' k).map (.int .i64)) cn) : SerSt bt Rb rb cn wR f' w' vo out xs := by
  have hk := h.rd.keep (O := fun x => x = bt) (.of_upd hu (by simp)) (fun k hk e => by have := (h.rd.own_lt hk).1; omega)
  exact ⟨h.fr.trans (UpdP.of_upd (O := fun x => x = bt ∨ Rb ≤ x) hu (by intro x hx; simp at hx; exact .inl (.inl hx))) (fun x hx => .inl hx), im, hk.1, h.hp, h.ow.upd hu (fun b hb hm => by simp at hm; have := (own_lt h.ow hb).1; omega), fun y hy hc => h.ap y hy ((hk.2 y).1 hc)⟩
theorem SerSt.app (h : SerSt bt Rb rb cn wR f wq vo out xs) (hbt : bt < Rb) {vo' : Value} {out' : List Int} (hu : Upd vo.ownBlock.toList wq w') (ho : Ow encK 3 w' Rb vo' out') (hb : vo'.ownBlock = vo.ownBlock ∨ ∃ b, vo'.ownBlock = some b ∧ wq.heap.size ≤ b) : SerSt bt Rb rb cn wR f w' vo' out' xs := by
  have hk := h.rd.keep (O := fun x => vo.ownBlock = some x) (.of_upd hu (fun x hx => .inl (by simpa using hx))) (fun k hk e => h.ap k e hk)
  refine ⟨h.fr.trans (UpdP.of_upd (O := fun x => x = bt ∨ Rb ≤ x) hu (fun x hx => .inl (.inr (own_lt h.ow (by simpa using hx)).1))) (fun x hx => .inl hx), h.tx.upd hu (fun hm => by have := (own_lt h.ow (b := bt) (by simpa using hm)).1; omega), hk.1, h.hp, ho, fun y hy hc => ?_⟩
  have hc' := (hk.2 y).1 hc
  rcases hb with e | ⟨b, e, hlt⟩
  · exact h.ap y (e ▸ hy) hc'
  · rw [e] at hy
    cases hy
    have := (h.rd.own_lt hc').2
    omega
end
theorem least_head {xs : List Int} {n : Nat} (hl : xs.length = n + 1) (hh : Hp ltN xs.length xs) : ∀ b ∈ xs, xs.getD 0 default ≤ b := by
  intro b hb
  obtain ⟨k, hk, rfl⟩ := List.getElem_of_mem hb
  have := Hp.least ltN_ord (fun a => by simp [ltN]) hh k hk
  rw [List.getD_eq_getElem?_getD (i := k), List.getElem?_eq_getElem hk] at this
  simp [ltN] at this
  exact this
theorem imap_len {w : World} {b cn : Nat} {g : List Ed} {all out : List Int} (hr : RiseI all) (h : IMap w .i64 b (fun k => (cntR g all out k).map (.int .i64)) cn) : cn = all.length := by
  obtain ⟨al, h1, h2, _, h4⟩ := al_of h
  have hp : (al.map (·.1)).Perm all := (List.perm_ext_iff_of_nodup (List.pairwise_map.2 (h1.imp (fun h => by omega))) hr.nodup).2 (fun k => by
    rw [get_keys h1, h4]
    unfold cntR
    by_cases e : k ∈ all <;> simp [e])
  rw [← h2, ← hp.length_eq, List.length_map]
end Go.Proofs.YteddiknlcdbhjaaGreat

namespace Go.Proofs.YteddiknlcdbhjaaGreat
open Go Go.RowKit TrP
open Vk (cellIn cntOf NotedSt)
attribute [local go_sem] litStep_value

def trimR (w : World) (ρ : Rho) : Rho := fun x => if x < w.heap.size then ρ x else .other
theorem TrSt.trim {w : World} {ρ : Rho} {B tb : Nat} {b : TB} {fv sv : Value} {T : TC} (h : TrSt w ρ B tb b fv sv T) : TrSt w (trimR w ρ) B tb b fv sv T :=
  h.fr (O := fun _ => False) (UpdP.refl _ _) (fun x hx => by unfold trimR; rw [if_pos hx]) (fun x hx => by
    unfold trimR at hx
    by_cases e : x < w.heap.size
    · rw [if_pos e] at hx; exact h.hi x hx
    · rw [if_neg e] at hx; exact absurd rfl hx) (fun _ h => h.elim)
theorem notesE_no : ∀ (r pre : List Ev), (notesE pre r).1 = 0 ∨ (notesE pre r).1 = 2 ∨ (notesE pre r).1 = 7
  | [], _ => .inl rfl
  | x :: r, pre => by
    unfold notesE
    split
    · exact noteE_le pre x
    · exact notesE_no r _
def TracePost (l : List Ev) (sv : Value) (w : World) (e : Ending) (w' : World) : Prop := ∃ t v, e = .returned (.tuple #[t, v]) ∧ ErrV w' v (wrongE l).1 (wrongE l).2 ∧ Upd [] w w' ∧ ((wrongE l).1 ≠ 0 → t = .pointer none) ∧
  ((wrongE l).1 = 0 → v = .nilIface ∧ ∃ ρ tb b S cn, t = .pointer (some ⟨tb, 0, none⟩) ∧ cn ≤ 60 ∧ TrSt w' ρ w.heap.size tb b .nilIface sv (tcOf (cntOf l) cn l S (fun _ => [])) ∧ ∀ y, y ∈ S ↔ EdgeP l y)
set_option maxRecDepth 100000 in
set_option maxHeartbeats 4000000 in
theorem t_trace (A : Option Addr) (n k : Nat) (l : List Ev) (w : World) (h : Rd encEv w (.slice A n k) l) (hn : l.length = n) (hl : n ≤ 60) (hev : ∀ x ∈ l, EvIn x) :
    Calls Tryz.prog 21 #[.slice A n k] w fun e w' => TracePost l (.slice A n k) w e w' := by
  have H := Lib.hid h
  have HN := Lib.hid hn
  have HEV := Lib.hid hev
  clear h hn hev
  go_enter Tryz.func21, Tryz.ntmps21
  have q0 : ¬ (500 : Int) < (n : Int) := by omega
  have q0' : decide ((500 : Int) < (n : Int)) = false := by simp; omega
  go_wp2_with fail
  clear q0 q0'
  refine (t_new A n k l w H.out HN.out hl).mono ?_; rintro e w1 ⟨ρ, tb, b, rfl, u1, hok, hbad⟩
  have U1 := Lib.hid u1
  clear u1
  by_cases h0 : (notesE [] l).1 = 0
  · obtain ⟨cn, hcn, hs⟩ := hok h0
    have HNo : Hid (Noted l) := Lib.hid ((notesE_ok Noted.nil rfl).1.1 h0)
    have HW : Hid (wrongE l = lostE l 0 l) := Lib.hid (by unfold wrongE; rw [h0, if_neg (by simp)])
    have HS := Lib.hid hs
    have c5 : w1.cell? ⟨tb, 5, none⟩ = some .nilIface := hs.tr.cell 5
    clear hok hbad hs h0
    go_wp2_with fail
    refine (t_lost A n k ρ w.heap.size tb b .nilIface l _ w1 HS.out rfl rfl (H.out.upd0 U1.out) HN.out hl).mono ?_; rintro e w2 ⟨v, rfl, ev, u2⟩
    have U2 := Lib.hid (U1.out.trans u2)
    have S2 := Lib.hid (HS.out.upd0 u2)
    clear c5 u2
    rw [← HW.out] at ev
    rcases ev with ⟨rfl, hz, hz2⟩ | ⟨rfl, hz, hz2⟩ | ⟨g, rfl, hg⟩
    · have HZ : Hid ((wrongE l).1 = 0 ∧ (wrongE l).2 = 0) := Lib.hid ⟨hz, hz2⟩
      clear hz hz2
      have S3 := Lib.hid S2.out.trim
      obtain ⟨ρ2, hρ2⟩ : ∃ ρ2, trimR w2 ρ = ρ2 := ⟨_, rfl⟩
      have HNEW : Hid (∀ x, w2.heap.size ≤ x → ρ2 x = .other) := Lib.hid (fun x hx => by rw [← hρ2]; unfold trimR; rw [if_neg (by omega)])
      rw [hρ2] at S3
      clear hρ2 S2 HS
      obtain ⟨rw0, fw, nw, iw, dw, ew⟩ := S3.out.wr
      have HBE : Hid (ρ2 b.be = .edges) := Lib.hid S3.out.ed.1
      have HBL : Hid (b.be < w2.heap.size) := Lib.hid (by obtain ⟨_, n, hm⟩ := S3.out.ed; exact hm.lt)
      have HRW : Hid (b.bw ∉ [b.be]) := Lib.hid (by
        intro hm
        simp at hm
        rw [hm, HBE.out] at rw0
        cases rw0)
      obtain ⟨L, w5, hr1, it, hfi, hke, _, u5, _⟩ := run_range_int (P := Tryz.prog) (mt := 60) Tryz.underlying60 iw
      have hcell : ∀ x ∈ L, cellIn l x.1 := fun x hx => Classical.byContradiction fun hc => by
        have := (dw x.1).2 hc
        rw [hfi, findI_mem hke hx] at this
        cases this
      have hall : ∀ c, cellIn l c → ∃ x ∈ L, x.1 = c := fun c hc => by
        have : (findI L c).isSome = true := by
          rw [← hfi]
          cases e : fw c with
          | none => exact absurd hc ((dw c).1 e)
          | some _ => rfl
        exact List.mem_map.1 (findI_some.1 this)
      have HCELL := Lib.hid hcell
      have HALL := Lib.hid hall
      have k1 : w2.cell? ⟨tb, 1, none⟩ = some (.map (some b.bw)) := S3.out.tr.cell 1
      have IT := Lib.hid it
      have U5 := Lib.hid u5
      have S5 := Lib.hid (S3.out.upd0 u5)
      clear hcell hall it u5 hfi hke iw dw ew rw0
      go_wp2_with fail
      clear k1 hr1
      obtain ⟨R0, hR0⟩ : ∃ R0, w2.heap.size = R0 := ⟨_, rfl⟩
      rw [hR0] at IT HBL HNEW ⊢
      have HR0 := Lib.hid hR0
      clear hR0
      go_loopw [6] (fun _ wq => Hid (∃ rest S, IIter wq .u64 b.bw R0 L rest ∧ TrSt wq ρ2 w.heap.size tb b .nilIface (.slice A n k) (tcOf (cntOf l) cn l S (fun _ => [])) ∧ (∀ y, y ∈ S ↔ ∃ x, x ∈ L ∧ x ∉ rest ∧ EdgeAt l x.1 y) ∧ Upd [b.be] w2 wq)) (fun _ wq => itLeft b.bw R0 wq)
      case atStart => exact Lib.hid ⟨L, [], IT.out, S5.out, fun y => ⟨fun h => (by cases h), fun ⟨x, h1, h2, _⟩ => absurd h1 h2⟩, U5.out.mono (by simp)⟩
      case round =>
        obtain ⟨rest, S, hit, hT, hM, hU⟩ := hrel.out
        rename World => wq
        have HT := Lib.hid hT
        have HM := Lib.hid hM
        have U6 := Lib.hid hU
        have HLF := Lib.hid hit.left
        have HND := Lib.hid hit.nodup
        clear hrel hT hM hU
        rcases run_next_int (P := Tryz.prog) hit 0 with ⟨h0, r2⟩ | ⟨⟨xk, xv, xs⟩, rest', w7, hp, r2, it2, u2, r3⟩
        · subst h0
          clear hit
          have hrest : Upd [] w wq := U2.out.trans' U6.out (by
            intro y hy
            simp at hy
            subst hy
            exact .inr (S3.out.hi _ (by rw [HBE.out]; simp)))
          have HREST := Lib.hid hrest
          clear hrest
          go_wp2_with fail
          go_ret2
          refine ⟨_, _, rfl, by rw [HZ.out.1, HZ.out.2]; exact ErrV.nil _, HREST.out, fun h => absurd HZ.out.1 h, fun _ => ⟨rfl, ρ2, tb, b, S, cn, rfl, by have := HN.out; omega, HT.out, fun y => ?_⟩⟩
          rw [HM.out, edgeP_at]
          constructor
          · rintro ⟨x, _, _, h⟩
            exact ⟨x.1, h⟩
          · rintro ⟨c, h⟩
            obtain ⟨x, hx, rfl⟩ := HALL.out c (by obtain ⟨x, hx, e⟩ := edgeAt_cell h; exact List.mem_map.2 ⟨x, hx, e⟩)
            exact ⟨x, hx, by simp, h⟩
        · have hxL : (xk, xv, xs) ∈ L := (HND.out.2 _ (hp.mem_iff.1 (List.mem_cons_self ..)))
          have hsz : w2.heap.size ≤ w7.heap.size := Nat.le_trans U6.out.size u2.size
          have U7 : Hid (Upd [b.be] w2 w7) := Lib.hid (U6.out.trans' u2 (by intro y hy; simp at hy; subst hy; exact .inr (by rw [HR0.out]; exact Nat.le_refl _)))
          have T7 : Hid (TrSt w7 ρ2 w.heap.size tb b .nilIface (.slice A n k) (tcOf (cntOf l) cn l S (fun _ => []))) := Lib.hid (HT.out.fr (UpdP.of_upd (O := fun y => y = R0) u2 (by intro y hy; simp at hy; exact .inl hy)) (Agr.refl _ _) HT.out.hi (fun y hy => .inl (by rw [hy]; exact HNEW.out _ (Nat.le_refl _))))
          have IT2 := Lib.hid it2
          have HP := Lib.hid hp
          have HXL := Lib.hid hxL
          clear hit hp it2 u2 hxL
          go_wp2_with fail
          refine (t_cell ρ2 w.heap.size tb b .nilIface (.slice A n k) (cntOf l) cn l S (fun _ => []) xk w7 T7.out (HCELL.out _ HXL.out) HEV.out (by rw [HN.out]; exact hl) HNo.out (fun x hx => HNEW.out x (by have := HR0.out; omega))).mono ?_; rintro e w8 ⟨rfl, S', t8, m8, u8⟩
          have HGO : Hid (∀ z : IEnt, z ∉ rest' ↔ z ∉ rest ∨ z = (xk, xv, xs)) := Lib.hid (gone_step HP.out HND.out.1)
          have IT8 := Lib.hid (IT2.out.upd u8 HRW.out (fun hm => by simp at hm; have := HBL.out; omega))
          have HLL : Hid (itLeft b.bw R0 w8 < itLeft b.bw R0 wq) := Lib.hid (by rw [IT8.out.left, HLF.out, ← HP.out.length_eq]; simp)
          have HREL : Hid (∃ rest S, IIter w8 .u64 b.bw R0 L rest ∧ TrSt w8 ρ2 w.heap.size tb b .nilIface (.slice A n k) (tcOf (cntOf l) cn l S (fun _ => [])) ∧ (∀ y, y ∈ S ↔ ∃ x, x ∈ L ∧ x ∉ rest ∧ EdgeAt l x.1 y) ∧ Upd [b.be] w2 w8) := Lib.hid ⟨rest', S', IT8.out, t8, fun y => by
            rw [m8, HM.out]
            constructor
            · rintro (⟨x, h1, h2, h3⟩ | h)
              · exact ⟨x, h1, (HGO.out x).2 (.inl h2), h3⟩
              · exact ⟨_, HXL.out, (HGO.out _).2 (.inr rfl), h⟩
            · rintro ⟨x, h1, h2, h3⟩
              rcases (HGO.out x).1 h2 with h4 | rfl
              · exact .inl ⟨x, h1, h4, h3⟩
              · exact .inr h3, U7.out.trans u8⟩
          clear t8 m8 u8
          go_wp2_with fail
          go_roundw
          case rel => exact HREL
          case measure => exact HLL.out
    · have HZ := Lib.hid hz
      have HZ2 := Lib.hid hz2
      clear hz hz2
      go_wp2_with fail
      go_ret2
      exact ⟨.pointer none, _, rfl, .inr (.inl ⟨rfl, HZ.out, HZ2.out⟩), U2.out, fun _ => rfl, fun h => absurd h (by have := HZ.out; omega)⟩
    · have HG := Lib.hid hg
      clear hg
      go_wp2_with fail
      go_ret2
      exact ⟨.pointer none, _, rfl, .inr (.inr ⟨g, rfl, HG.out⟩), U2.out, fun _ => rfl, fun h => absurd h (by have := HG.out; omega)⟩
  · have HW : Hid (wrongE l = notesE [] l) := Lib.hid (by unfold wrongE; rw [if_pos h0])
    obtain ⟨fb, x0, x1, x2, x3, x4, hb1, hb2⟩ := hbad h0
    have HB2 := Lib.hid hb2
    have H0 := Lib.hid h0
    have c5 : w1.cell? ⟨tb, 5, none⟩ = some (.iface 106 (.pointer (some ⟨fb, 0, none⟩))) := hb1.cell 5
    clear hok hbad hb1 hb2 h0
    go_wp2_with fail
    go_quiet (fail)
    go_wp2_with fail
    go_ret2
    refine ⟨.pointer none, _, rfl, ?_, U1.out.drewN _, fun _ => rfl, fun h => absurd (by rw [← HW.out]; exact h) H0.out⟩
    rw [HW.out]
    have hno := notesE_no l []
    have := H0.out
    exact ErrV.fault (HB2.out.drewN _) (by omega) (by omega)
end Go.Proofs.YteddiknlcdbhjaaGreat

namespace Go.Proofs.YteddiknlcdbhjaaGreat
open Go.RowKit TrP
attribute [local go_sem] litStep_value

def PutEPost (B : Nat) (l : List Ed) (x : Ed) (w : World) (e : Ending) (w' : World) : Prop := ∃ u, e = .returned u ∧ Ow encE 49 w' B u (putE l x) ∧ Upd [] w w'
def vE (x : Ed) : Value := .agg #[.int .i64 x.1, .int .i64 x.2.1, .int .i64 x.2.2]
set_option maxRecDepth 100000 in
set_option maxHeartbeats 4000000 in
theorem r_putE (B : Nat) (A : Option Addr) (n c : Nat) (l : List Ed) (x : Ed) (w : World) (h : Ow encE 49 w B (.slice A n c) l) (hn : l.length = n) (hl : n ≤ 1000) (hB : B ≤ w.heap.size) :
    Calls Tryz.prog 45 #[.slice A n c, .agg #[.int .i64 x.1, .int .i64 x.2.1, .int .i64 x.2.2]] w fun e w' => PutEPost B l x w e w' := by
  obtain ⟨x0, x1, x2⟩ := x
  have HO := Lib.hid h
  have HN := Lib.hid hn
  have HB := Lib.hid hB
  obtain ⟨A', c', e, hnc, hcm⟩ := own_slice h
  injection e with e1 e2 e3
  subst e1 e3
  rw [hn] at hnc
  unfold maxLen at hcm
  clear h hn e2 hB
  go_enter Tryz.func45, Tryz.ntmps45
  have X0 : Hid (Blk (w.alloc (.cells #[.int .i64 x0, .int .i64 x1, .int .i64 x2] 49)) w.heap.size 49 #[.int .i64 x0, .int .i64 x1, .int .i64 x2]) := Lib.hid (Blk.new w _ _)
  have U1 : Hid (Upd [] w (w.alloc (.cells #[.int .i64 x0, .int .i64 x1, .int .i64 x2] 49))) := Lib.hid ((Upd.refl [] w).alloc _)
  by_cases h01 : x0 = x1
  · subst h01
    go_wp2_with fail
    go_ret
    refine ⟨_, rfl, ?_, U1.out⟩
    rw [show putE l (x0, x0, x2) = l from by simp [putE]]
    exact HO.out.upd0 U1.out
  · have h01' : (x0 == x1) = false := by simpa using h01
    have HPE : Hid (putE l (x0, x1, x2) = insG ltE l (x0, x1, x2)) := Lib.hid (by unfold putE; rw [if_neg h01])
    go_wp2_with fail
    generalize (w.alloc (.cells #[.int .i64 x0, .int .i64 x1, .int .i64 x2] 49)) = w1 at *
    clear h01 h01'
    go_loopw [5] (fun v wr => ∃ k : Nat, v = .int .i64 k ∧ k ≤ n ∧ Hid (Upd [] w1 wr) ∧ Hid (k ≤ posG ltE l (x0, x1, x2))) (fun v _ => n - (intOf v).toNat)
    case atStart => exact ⟨0, rfl, by omega, Lib.hid (.refl _ _), Lib.hid (Nat.zero_le _)⟩
    case round =>
      obtain ⟨k, rfl, hk, KU, HP⟩ := hrel
      have q1 : (0 : Int) ≤ (k : Int) := by omega
      have q3 : (k : Int) ≤ (c : Int) := by omega
      have q4 : (n : Int) ≤ (c : Int) := by omega
      have q5 : (k : Int) ≤ (n : Int) := by omega
      go_upto_region 4 with fail
      go_cut [65] from 12 to 65 (fun t wx => ∃ bt, t = .bool bt ∧ Hid (Upd [] w1 wx) ∧ Hid (bt = true → k < n ∧ k + 1 ≤ posG ltE l (x0, x1, x2)) ∧ Hid (bt = false → k = posG ltE l (x0, x1, x2)))
      case first =>
        have XR := Lib.hid (X0.out.upd KU.out (by simp))
        have c0 : wr.cell? ⟨w.heap.size, 0, none⟩ = some (.int .i64 x0) := XR.out.cell 0
        have c1 : wr.cell? ⟨w.heap.size, 1, none⟩ = some (.int .i64 x1) := XR.out.cell 1
        have c2 : wr.cell? ⟨w.heap.size, 2, none⟩ = some (.int .i64 x2) := XR.out.cell 2
        by_cases hkn : k < n
        · obtain ⟨⟨z0, z1, z2⟩, hz⟩ : ∃ z, l[k]? = some z := ⟨_, List.getElem?_eq_getElem (by rw [HN.out]; omega)⟩
          have HZ := Lib.hid hz
          obtain ⟨g, cg, cur, e1, -⟩ := own_form HO.out (by rw [HN.out]; omega)
          injection e1 with e1 e2 e1'
          subst e1 e1'
          have HR := Lib.hid ((HO.out.upd0 (U1.out.trans KU.out)).at_ hz)
          have z0' : wr.cell? ⟨g, k * 3, none⟩ = some (.int .i64 z0) := HR.out 0 _ rfl
          have z1' : wr.cell? ⟨g, k * 3 + 1, none⟩ = some (.int .i64 z1) := HR.out 1 _ rfl
          have z2' : wr.cell? ⟨g, k * 3 + 2, none⟩ = some (.int .i64 z2) := HR.out 2 _ rfl
          have q2 : (k : Int) < (n : Int) := by omega
          clear hz e2
          by_cases a0 : z0 < x0
          · have e0 : decide (z0 < x0) = true := by simpa using a0
            have HP2 : Hid (k + 1 ≤ posG ltE l (x0, x1, x2)) := Lib.hid (posG_step HP.out HZ.out (ltE_iff.2 (by
              simp only
              omega)))
            go_wp2_with fail
            go_quiet (fail)
            go_wp2_with fail
            go_meet
            exact ⟨_, rfl, Lib.hid (KU.out.drewN _), Lib.hid (fun _ => ⟨hkn, HP2.out⟩), Lib.hid (fun h => by first | (cases h; done) | (simp at h; omega))⟩
          · have e0 : decide (z0 < x0) = false := by simpa using a0
            by_cases b0 : z0 = x0
            · have f0 : (z0 == x0) = true := by simpa using b0
              by_cases a1 : z1 < x1
              · have e1 : decide (z1 < x1) = true := by simpa using a1
                have HP2 : Hid (k + 1 ≤ posG ltE l (x0, x1, x2)) := Lib.hid (posG_step HP.out HZ.out (ltE_iff.2 (by
                  simp only
                  omega)))
                go_wp2_with fail
                go_quiet (fail)
                go_wp2_with fail
                go_meet
                exact ⟨_, rfl, Lib.hid (KU.out.drewN _), Lib.hid (fun _ => ⟨hkn, HP2.out⟩), Lib.hid (fun h => by first | (cases h; done) | (simp at h; omega))⟩
              · have e1 : decide (z1 < x1) = false := by simpa using a1
                by_cases b1 : z1 = x1
                · have f1 : (z1 == x1) = true := by simpa using b1
                  by_cases a2 : z2 < x2
                  · have e2 : decide (z2 < x2) = true := by simpa using a2
                    have HP2 : Hid (k + 1 ≤ posG ltE l (x0, x1, x2)) := Lib.hid (posG_step HP.out HZ.out (ltE_iff.2 (by
                      simp only
                      omega)))
                    go_wp2_with fail
                    go_quiet (fail)
                    go_wp2_with fail
                    go_meet
                    exact ⟨_, rfl, Lib.hid (KU.out.drewN _), Lib.hid (fun _ => ⟨hkn, HP2.out⟩), Lib.hid (fun h => by first | (cases h; done) | (simp at h; omega))⟩
                  · have e2 : decide (z2 < x2) = false := by simpa using a2
                    have HE : Hid (k = posG ltE l (x0, x1, x2)) := Lib.hid (posG_stop HP.out HZ.out (by
                      cases hlt : ltE (z0, z1, z2) (x0, x1, x2) with
                      | false => rfl
                      | true => have := ltE_iff.1 hlt; simp only at this; omega))
                    go_wp2_with fail
                    go_quiet (fail)
                    go_wp2_with fail
                    go_meet
                    exact ⟨_, rfl, Lib.hid (KU.out.drewN _), Lib.hid (fun h => by first | (cases h; done) | (simp at h; omega)), Lib.hid (fun _ => HE.out)⟩
                · have b1' : (z1 == x1) = false := by simpa using b1
                  have HE : Hid (k = posG ltE l (x0, x1, x2)) := Lib.hid (posG_stop HP.out HZ.out (by
                    cases hlt : ltE (z0, z1, z2) (x0, x1, x2) with
                    | false => rfl
                    | true => have := ltE_iff.1 hlt; simp only at this; omega))
                  go_wp2_with fail
                  go_quiet (fail)
                  go_wp2_with fail
                  go_meet
                  exact ⟨_, rfl, Lib.hid (KU.out.drewN _), Lib.hid (fun h => by first | (cases h; done) | (simp at h; omega)), Lib.hid (fun _ => HE.out)⟩
            · have b0' : (z0 == x0) = false := by simpa using b0
              have HE : Hid (k = posG ltE l (x0, x1, x2)) := Lib.hid (posG_stop HP.out HZ.out (by
                cases hlt : ltE (z0, z1, z2) (x0, x1, x2) with
                | false => rfl
                | true => have := ltE_iff.1 hlt; simp only at this; omega))
              go_wp2_with fail
              go_quiet (fail)
              go_wp2_with fail
              go_meet
              exact ⟨_, rfl, Lib.hid (KU.out.drewN _), Lib.hid (fun h => by first | (cases h; done) | (simp at h; omega)), Lib.hid (fun _ => HE.out)⟩
        · have : k = n := by omega
          subst this
          have HE : Hid (k = posG ltE l (x0, x1, x2)) := Lib.hid (by
            have h1 := posG_le (lt := ltE) l (x0, x1, x2)
            have h2 := HP.out
            rw [HN.out] at h1
            omega)
          go_wp2_with fail
          go_quiet (fail)
          go_wp2_with fail
          go_meet
          exact ⟨false, rfl, Lib.hid (KU.out.drewN _), Lib.hid (fun h => by cases h), Lib.hid (fun _ => HE.out)⟩
      case rest =>
        obtain ⟨bt, rfl, UA, HT, HF⟩ := hcut
        rename World => wa
        cases bt with
        | true =>
          obtain ⟨hkn, hp2⟩ := HT.out rfl
          have HP2 := Lib.hid hp2
          clear hp2
          go_wp2_with fail
          go_roundw
          case rel => exact ⟨k + 1, by go_num, by omega, UA, HP2⟩
          case measure => simp [intOf]; omega
        | false =>
          have HE := Lib.hid (HF.out rfl)
          clear HT HF
          go_upto_region 6 with fail
          go_cut [79] from 68 to 79 (fun t wx => ∃ bt, t = .bool bt ∧ Hid (Upd [] w1 wx) ∧ Hid (bt = true → l[k]? = some (x0, x1, x2)) ∧ Hid (bt = false → ¬ l[k]? = some (x0, x1, x2)))
          case first =>
            have XR := Lib.hid (X0.out.upd UA.out (by simp))
            have c0 : wa.cell? ⟨w.heap.size, 0, none⟩ = some (.int .i64 x0) := XR.out.cell 0
            have c1 : wa.cell? ⟨w.heap.size, 1, none⟩ = some (.int .i64 x1) := XR.out.cell 1
            have c2 : wa.cell? ⟨w.heap.size, 2, none⟩ = some (.int .i64 x2) := XR.out.cell 2
            by_cases hkn : k < n
            · obtain ⟨⟨z0, z1, z2⟩, hz⟩ : ∃ z, l[k]? = some z := ⟨_, List.getElem?_eq_getElem (by rw [HN.out]; omega)⟩
              have HZ := Lib.hid hz
              obtain ⟨g, cg, cur, e1, -⟩ := own_form HO.out (by rw [HN.out]; omega)
              injection e1 with e1 e2 e1'
              subst e1 e1'
              have CZ : Hid (∀ W, Upd [] wa.drew W → (W.cell? ⟨g, k * 3, none⟩ = some (.int .i64 z0) ∧ W.cell? ⟨g, k * 3 + 1, none⟩ = some (.int .i64 z1) ∧ W.cell? ⟨g, k * 3 + 2, none⟩ = some (.int .i64 z2)) ∧ (W.cell? ⟨w.heap.size, 0, none⟩ = some (.int .i64 x0) ∧ W.cell? ⟨w.heap.size, 1, none⟩ = some (.int .i64 x1) ∧ W.cell? ⟨w.heap.size, 2, none⟩ = some (.int .i64 x2))) := Lib.hid (fun W hW => by
                have hu : Upd [] wa W := (Upd.refl [] wa).drew.trans hW
                have HR := (HO.out.upd0 ((U1.out.trans UA.out).trans hu)).at_ hz
                have HX := XR.out.upd hu (by simp)
                exact ⟨⟨HR 0 _ rfl, HR 1 _ rfl, HR 2 _ rfl⟩, HX.cell 0, HX.cell 1, HX.cell 2⟩)
              have q2 : (k : Int) < (n : Int) := by omega
              clear hz e2 c0 c1 c2
              by_cases b0 : z0 = x0
              · by_cases b1 : z1 = x1
                · by_cases b2 : z2 = x2
                  · skip
                    go_wp2_with fail
                    refine wp_invN [] [] (by kernel_rfl) (by kernel_rfl) (by kernel_rfl) trivial ?_
                    with_reducible apply wpV_light
                    · simp only [lightOp]
                    · intro W hU hF
                      have f0 := CZ.out W hU
                      clear hU hF
                      go_simp
                      exact rfl
                    simp only [Act.put, List.setIfInBounds_toArray, List.set_cons_zero, List.set_cons_succ]
                    with_reducible apply wpV_light
                    · simp only [lightOp]
                    · intro W hU hF
                      have f0 := CZ.out W hU
                      clear hU hF
                      go_simp
                      exact rfl
                    simp only [Act.put, List.setIfInBounds_toArray, List.set_cons_zero, List.set_cons_succ]
                    with_reducible apply wpV_light
                    · simp only [lightOp]
                    · intro W hU hF
                      have f0 := CZ.out W hU
                      clear hU hF
                      go_simp
                      exact rfl
                    simp only [Act.put, List.setIfInBounds_toArray, List.set_cons_zero, List.set_cons_succ]
                    with_reducible apply wpV_light
                    · simp only [lightOp]
                    · intro W hU hF
                      have f0 := CZ.out W hU
                      clear hU hF
                      go_simp
                      exact rfl
                    simp only [Act.put, List.setIfInBounds_toArray, List.set_cons_zero, List.set_cons_succ]
                    with_reducible apply wpV_light
                    · simp only [lightOp]
                    · intro W hU hF
                      have f0 := CZ.out W hU
                      clear hU hF
                      go_simp
                      exact rfl
                    simp only [Act.put, List.setIfInBounds_toArray, List.set_cons_zero, List.set_cons_succ]
                    with_reducible apply wpV_light
                    · simp only [lightOp]
                    · intro W hU hF
                      have f0 := CZ.out W hU
                      clear hU hF
                      go_simp
                      exact rfl
                    simp only [Act.put, List.setIfInBounds_toArray, List.set_cons_zero, List.set_cons_succ]
                    with_reducible apply wpV_light
                    · simp only [lightOp]
                    · intro W hU hF
                      have f0 := CZ.out W hU
                      clear hU hF
                      go_simp
                      exact rfl
                    simp only [Act.put, List.setIfInBounds_toArray, List.set_cons_zero, List.set_cons_succ]
                    with_reducible apply wpV_light
                    · simp only [lightOp]
                    · intro W hU hF
                      have f0 := CZ.out W hU
                      clear hU hF
                      go_simp
                      exact rfl
                    simp only [Act.put, List.setIfInBounds_toArray, List.set_cons_zero, List.set_cons_succ]
                    with_reducible apply wpV_light
                    · simp only [lightOp]
                    · intro W hU hF
                      have f0 := CZ.out W hU
                      clear hU hF
                      go_simp
                      exact rfl
                    simp only [Act.put, List.setIfInBounds_toArray, List.set_cons_zero, List.set_cons_succ]
                    with_reducible apply wpV_light
                    · simp only [lightOp]
                    · intro W hU hF
                      have f0 := CZ.out W hU
                      clear hU hF
                      go_simp
                      exact rfl
                    simp only [Act.put, List.setIfInBounds_toArray, List.set_cons_zero, List.set_cons_succ]
                    with_reducible apply wpV_light
                    · simp only [lightOp]
                    · intro W hU hF
                      have f0 := CZ.out W hU
                      clear hU hF
                      go_simp
                      exact rfl
                    simp only [Act.put, List.setIfInBounds_toArray, List.set_cons_zero, List.set_cons_succ]
                    with_reducible apply wpV_light
                    · simp only [lightOp]
                    · intro W hU hF
                      have f0 := CZ.out W hU
                      clear hU hF
                      go_simp
                      exact rfl
                    simp only [Act.put, List.setIfInBounds_toArray, List.set_cons_zero, List.set_cons_succ]
                    refine wpV_end (fun W hU _ _ => ?_)
                    have U2 : Hid (Upd [] w1 W) := Lib.hid (UA.out.drew.trans hU)
                    clear hU
                    refine wpT_end ?_
                    go_wp2_with fail
                    go_meet
                    refine ⟨_, rfl, U2, Lib.hid (fun h => ?_), Lib.hid (fun h => ?_)⟩
                    · rw [HZ.out]
                      simp at h
                      try simp [b0, b1, b2]
                    · rw [HZ.out]
                      simp at h
                      try simp [b0, b1, b2]
                  · skip
                    go_wp2_with fail
                    refine wp_invN [] [] (by kernel_rfl) (by kernel_rfl) (by kernel_rfl) trivial ?_
                    with_reducible apply wpV_light
                    · simp only [lightOp]
                    · intro W hU hF
                      have f0 := CZ.out W hU
                      clear hU hF
                      go_simp
                      exact rfl
                    simp only [Act.put, List.setIfInBounds_toArray, List.set_cons_zero, List.set_cons_succ]
                    with_reducible apply wpV_light
                    · simp only [lightOp]
                    · intro W hU hF
                      have f0 := CZ.out W hU
                      clear hU hF
                      go_simp
                      exact rfl
                    simp only [Act.put, List.setIfInBounds_toArray, List.set_cons_zero, List.set_cons_succ]
                    with_reducible apply wpV_light
                    · simp only [lightOp]
                    · intro W hU hF
                      have f0 := CZ.out W hU
                      clear hU hF
                      go_simp
                      exact rfl
                    simp only [Act.put, List.setIfInBounds_toArray, List.set_cons_zero, List.set_cons_succ]
                    with_reducible apply wpV_light
                    · simp only [lightOp]
                    · intro W hU hF
                      have f0 := CZ.out W hU
                      clear hU hF
                      go_simp
                      exact rfl
                    simp only [Act.put, List.setIfInBounds_toArray, List.set_cons_zero, List.set_cons_succ]
                    with_reducible apply wpV_light
                    · simp only [lightOp]
                    · intro W hU hF
                      have f0 := CZ.out W hU
                      clear hU hF
                      go_simp
                      exact rfl
                    simp only [Act.put, List.setIfInBounds_toArray, List.set_cons_zero, List.set_cons_succ]
                    with_reducible apply wpV_light
                    · simp only [lightOp]
                    · intro W hU hF
                      have f0 := CZ.out W hU
                      clear hU hF
                      go_simp
                      exact rfl
                    simp only [Act.put, List.setIfInBounds_toArray, List.set_cons_zero, List.set_cons_succ]
                    with_reducible apply wpV_light
                    · simp only [lightOp]
                    · intro W hU hF
                      have f0 := CZ.out W hU
                      clear hU hF
                      go_simp
                      exact rfl
                    simp only [Act.put, List.setIfInBounds_toArray, List.set_cons_zero, List.set_cons_succ]
                    with_reducible apply wpV_light
                    · simp only [lightOp]
                    · intro W hU hF
                      have f0 := CZ.out W hU
                      clear hU hF
                      go_simp
                      exact rfl
                    simp only [Act.put, List.setIfInBounds_toArray, List.set_cons_zero, List.set_cons_succ]
                    with_reducible apply wpV_light
                    · simp only [lightOp]
                    · intro W hU hF
                      have f0 := CZ.out W hU
                      clear hU hF
                      go_simp
                      exact rfl
                    simp only [Act.put, List.setIfInBounds_toArray, List.set_cons_zero, List.set_cons_succ]
                    with_reducible apply wpV_light
                    · simp only [lightOp]
                    · intro W hU hF
                      have f0 := CZ.out W hU
                      clear hU hF
                      go_simp
                      exact rfl
                    simp only [Act.put, List.setIfInBounds_toArray, List.set_cons_zero, List.set_cons_succ]
                    with_reducible apply wpV_light
                    · simp only [lightOp]
                    · intro W hU hF
                      have f0 := CZ.out W hU
                      clear hU hF
                      go_simp
                      exact rfl
                    simp only [Act.put, List.setIfInBounds_toArray, List.set_cons_zero, List.set_cons_succ]
                    with_reducible apply wpV_light
                    · simp only [lightOp]
                    · intro W hU hF
                      have f0 := CZ.out W hU
                      clear hU hF
                      go_simp
                      exact rfl
                    simp only [Act.put, List.setIfInBounds_toArray, List.set_cons_zero, List.set_cons_succ]
                    refine wpV_end (fun W hU _ _ => ?_)
                    have U2 : Hid (Upd [] w1 W) := Lib.hid (UA.out.drew.trans hU)
                    clear hU
                    refine wpT_end ?_
                    go_wp2_with fail
                    go_meet
                    refine ⟨_, rfl, U2, Lib.hid (fun h => ?_), Lib.hid (fun h => ?_)⟩
                    · rw [HZ.out]
                      simp at h
                      try simp [b2]
                    · rw [HZ.out]
                      simp at h
                      try simp [b2]
                · skip
                  go_wp2_with fail
                  refine wp_invN [] [] (by kernel_rfl) (by kernel_rfl) (by kernel_rfl) trivial ?_
                  with_reducible apply wpV_light
                  · simp only [lightOp]
                  · intro W hU hF
                    have f0 := CZ.out W hU
                    clear hU hF
                    go_simp
                    exact rfl
                  simp only [Act.put, List.setIfInBounds_toArray, List.set_cons_zero, List.set_cons_succ]
                  with_reducible apply wpV_light
                  · simp only [lightOp]
                  · intro W hU hF
                    have f0 := CZ.out W hU
                    clear hU hF
                    go_simp
                    exact rfl
                  simp only [Act.put, List.setIfInBounds_toArray, List.set_cons_zero, List.set_cons_succ]
                  with_reducible apply wpV_light
                  · simp only [lightOp]
                  · intro W hU hF
                    have f0 := CZ.out W hU
                    clear hU hF
                    go_simp
                    exact rfl
                  simp only [Act.put, List.setIfInBounds_toArray, List.set_cons_zero, List.set_cons_succ]
                  with_reducible apply wpV_light
                  · simp only [lightOp]
                  · intro W hU hF
                    have f0 := CZ.out W hU
                    clear hU hF
                    go_simp
                    exact rfl
                  simp only [Act.put, List.setIfInBounds_toArray, List.set_cons_zero, List.set_cons_succ]
                  with_reducible apply wpV_light
                  · simp only [lightOp]
                  · intro W hU hF
                    have f0 := CZ.out W hU
                    clear hU hF
                    go_simp
                    exact rfl
                  simp only [Act.put, List.setIfInBounds_toArray, List.set_cons_zero, List.set_cons_succ]
                  with_reducible apply wpV_light
                  · simp only [lightOp]
                  · intro W hU hF
                    have f0 := CZ.out W hU
                    clear hU hF
                    go_simp
                    exact rfl
                  simp only [Act.put, List.setIfInBounds_toArray, List.set_cons_zero, List.set_cons_succ]
                  with_reducible apply wpV_light
                  · simp only [lightOp]
                  · intro W hU hF
                    have f0 := CZ.out W hU
                    clear hU hF
                    go_simp
                    exact rfl
                  simp only [Act.put, List.setIfInBounds_toArray, List.set_cons_zero, List.set_cons_succ]
                  with_reducible apply wpV_light
                  · simp only [lightOp]
                  · intro W hU hF
                    have f0 := CZ.out W hU
                    clear hU hF
                    go_simp
                    exact rfl
                  simp only [Act.put, List.setIfInBounds_toArray, List.set_cons_zero, List.set_cons_succ]
                  with_reducible apply wpV_light
                  · simp only [lightOp]
                  · intro W hU hF
                    have f0 := CZ.out W hU
                    clear hU hF
                    go_simp
                    exact rfl
                  simp only [Act.put, List.setIfInBounds_toArray, List.set_cons_zero, List.set_cons_succ]
                  with_reducible apply wpV_light
                  · simp only [lightOp]
                  · intro W hU hF
                    have f0 := CZ.out W hU
                    clear hU hF
                    go_simp
                    exact rfl
                  simp only [Act.put, List.setIfInBounds_toArray, List.set_cons_zero, List.set_cons_succ]
                  with_reducible apply wpV_light
                  · simp only [lightOp]
                  · intro W hU hF
                    have f0 := CZ.out W hU
                    clear hU hF
                    go_simp
                    exact rfl
                  simp only [Act.put, List.setIfInBounds_toArray, List.set_cons_zero, List.set_cons_succ]
                  with_reducible apply wpV_light
                  · simp only [lightOp]
                  · intro W hU hF
                    have f0 := CZ.out W hU
                    clear hU hF
                    go_simp
                    exact rfl
                  simp only [Act.put, List.setIfInBounds_toArray, List.set_cons_zero, List.set_cons_succ]
                  refine wpV_end (fun W hU _ _ => ?_)
                  have U2 : Hid (Upd [] w1 W) := Lib.hid (UA.out.drew.trans hU)
                  clear hU
                  refine wpT_end ?_
                  go_wp2_with fail
                  go_meet
                  refine ⟨_, rfl, U2, Lib.hid (fun h => ?_), Lib.hid (fun h => ?_)⟩
                  · rw [HZ.out]
                    simp at h
                    try simp [b1]
                  · rw [HZ.out]
                    simp at h
                    try simp [b1]
              · skip
                go_wp2_with fail
                refine wp_invN [] [] (by kernel_rfl) (by kernel_rfl) (by kernel_rfl) trivial ?_
                with_reducible apply wpV_light
                · simp only [lightOp]
                · intro W hU hF
                  have f0 := CZ.out W hU
                  clear hU hF
                  go_simp
                  exact rfl
                simp only [Act.put, List.setIfInBounds_toArray, List.set_cons_zero, List.set_cons_succ]
                with_reducible apply wpV_light
                · simp only [lightOp]
                · intro W hU hF
                  have f0 := CZ.out W hU
                  clear hU hF
                  go_simp
                  exact rfl
                simp only [Act.put, List.setIfInBounds_toArray, List.set_cons_zero, List.set_cons_succ]
                with_reducible apply wpV_light
                · simp only [lightOp]
                · intro W hU hF
                  have f0 := CZ.out W hU
                  clear hU hF
                  go_simp
                  exact rfl
                simp only [Act.put, List.setIfInBounds_toArray, List.set_cons_zero, List.set_cons_succ]
                with_reducible apply wpV_light
                · simp only [lightOp]
                · intro W hU hF
                  have f0 := CZ.out W hU
                  clear hU hF
                  go_simp
                  exact rfl
                simp only [Act.put, List.setIfInBounds_toArray, List.set_cons_zero, List.set_cons_succ]
                with_reducible apply wpV_light
                · simp only [lightOp]
                · intro W hU hF
                  have f0 := CZ.out W hU
                  clear hU hF
                  go_simp
                  exact rfl
                simp only [Act.put, List.setIfInBounds_toArray, List.set_cons_zero, List.set_cons_succ]
                with_reducible apply wpV_light
                · simp only [lightOp]
                · intro W hU hF
                  have f0 := CZ.out W hU
                  clear hU hF
                  go_simp
                  exact rfl
                simp only [Act.put, List.setIfInBounds_toArray, List.set_cons_zero, List.set_cons_succ]
                with_reducible apply wpV_light
                · simp only [lightOp]
                · intro W hU hF
                  have f0 := CZ.out W hU
                  clear hU hF
                  go_simp
                  exact rfl
                simp only [Act.put, List.setIfInBounds_toArray, List.set_cons_zero, List.set_cons_succ]
                with_reducible apply wpV_light
                · simp only [lightOp]
                · intro W hU hF
                  have f0 := CZ.out W hU
                  clear hU hF
                  go_simp
                  exact rfl
                simp only [Act.put, List.setIfInBounds_toArray, List.set_cons_zero, List.set_cons_succ]
                with_reducible apply wpV_light
                · simp only [lightOp]
                · intro W hU hF
                  have f0 := CZ.out W hU
                  clear hU hF
                  go_simp
                  exact rfl
                simp only [Act.put, List.setIfInBounds_toArray, List.set_cons_zero, List.set_cons_succ]
                with_reducible apply wpV_light
                · simp only [lightOp]
                · intro W hU hF
                  have f0 := CZ.out W hU
                  clear hU hF
                  go_simp
                  exact rfl
                simp only [Act.put, List.setIfInBounds_toArray, List.set_cons_zero, List.set_cons_succ]
                with_reducible apply wpV_light
                · simp only [lightOp]
                · intro W hU hF
                  have f0 := CZ.out W hU
                  clear hU hF
                  go_simp
                  exact rfl
                simp only [Act.put, List.setIfInBounds_toArray, List.set_cons_zero, List.set_cons_succ]
                with_reducible apply wpV_light
                · simp only [lightOp]
                · intro W hU hF
                  have f0 := CZ.out W hU
                  clear hU hF
                  go_simp
                  exact rfl
                simp only [Act.put, List.setIfInBounds_toArray, List.set_cons_zero, List.set_cons_succ]
                refine wpV_end (fun W hU _ _ => ?_)
                have U2 : Hid (Upd [] w1 W) := Lib.hid (UA.out.drew.trans hU)
                clear hU
                refine wpT_end ?_
                go_wp2_with fail
                go_meet
                refine ⟨_, rfl, U2, Lib.hid (fun h => ?_), Lib.hid (fun h => ?_)⟩
                · rw [HZ.out]
                  simp at h
                  try simp [b0]
                · rw [HZ.out]
                  simp at h
                  try simp [b0]
            · have : k = n := by omega
              subst this
              go_wp2_with fail
              go_quiet (fail)
              go_wp2_with fail
              go_meet
              exact ⟨false, rfl, Lib.hid (UA.out.drewN _), Lib.hid (fun h => by cases h), Lib.hid (fun _ => by rw [List.getElem?_eq_none (by rw [HN.out]; omega)]; simp)⟩
          case rest =>
            obtain ⟨bt, rfl, U2, HT, HF⟩ := hcut
            rename World => w2
            cases bt with
            | true =>
              have HQ := Lib.hid (HT.out rfl)
              go_wp2_with fail
              go_ret
              refine ⟨_, rfl, ?_, U1.out.trans U2.out⟩
              rw [HPE.out, show insG ltE l (x0, x1, x2) = l from by unfold insG; rw [← HE.out, if_pos HQ.out]]
              exact HO.out.upd0 (U1.out.trans U2.out)
            | false =>
              have HNE := Lib.hid (HF.out rfl)
              clear HT HF
              have W2 : Hid (Upd [] w w2) := Lib.hid (U1.out.trans U2.out)
              have CS : Hid (∀ W, Upd [] w2.drew W → W.cell? ⟨w.heap.size, 0, none⟩ = some (.int .i64 x0) ∧ W.cell? ⟨w.heap.size, 1, none⟩ = some (.int .i64 x1) ∧ W.cell? ⟨w.heap.size, 2, none⟩ = some (.int .i64 x2)) := Lib.hid (fun W hW => by
                have hu : Upd [] w2 W := (Upd.refl [] w2).drew.trans hW
                have hy := X0.out.upd (U2.out.trans hu) (by simp)
                exact ⟨hy.cell 0, hy.cell 1, hy.cell 2⟩)
              have F1 : Hid (∀ W, Upd [] w2.drew W → Src W 3 (.slice A k c) k (flat encE (l.take k))) := Lib.hid (fun W hW => by
                have hu : Upd [] w2 W := (Upd.refl [] w2).drew.trans hW
                have := (HO.out.upd0 (W2.out.trans hu)).rd.take k (by rw [HN.out]; exact hk) c
                unfold Rd at this
                rwa [List.length_take, HN.out, Nat.min_eq_left hk] at this)
              have F2 : Hid (∀ W, Upd [] w2.drew W → Src W 3 (.slice (if c = k then A else Option.map (fun x => x.add (k * 3)) A) (n - k) (c - k)) (n - k) (flat encE (l.drop k))) := Lib.hid (fun W hW => by
                have hu : Upd [] w2 W := (Upd.refl [] w2).drew.trans hW
                have := (HO.out.upd0 (W2.out.trans hu)).rd.drop k (by rw [HN.out]; exact hk) hnc (c - k)
                unfold Rd at this
                rwa [List.length_drop, HN.out] at this)
              have SZ : Hid (w.heap.size ≤ w2.heap.size) := Lib.hid W2.out.size
              have EQ : Hid (flat encE (l.take k) ++ ([Value.int .i64 x0, Value.int .i64 x1, Value.int .i64 x2] ++ flat encE (l.drop k)) = flat encE (putE l (x0, x1, x2)) ∧ (putE l (x0, x1, x2)).length = n + 1) := Lib.hid (by
                have hput : putE l (x0, x1, x2) = l.take k ++ ((x0, x1, x2) :: l.drop k) := by
                  rw [HPE.out]
                  unfold insG
                  rw [← HE.out, if_neg HNE.out]
                rw [hput]
                refine ⟨?_, ?_⟩
                · rw [flat_append, flat_cons]; rfl
                · simp [HN.out]; omega)
              go_wp2_with fail
              refine wp_invN [(0, .own w.heap.size 49 3 0 []), (4, .own w.heap.size 49 3 k (flat encE (l.take k))), (6, .lit 49 #[.int .i64 x0, .int .i64 x1, .int .i64 x2] 1), (7, .own w.heap.size 49 3 (k + 1) (flat encE (l.take k) ++ [.int .i64 x0, .int .i64 x1, .int .i64 x2])), (11, .own w.heap.size 49 3 (n + 1) (flat encE (l.take k) ++ [.int .i64 x0, .int .i64 x1, .int .i64 x2] ++ flat encE (l.drop k)))] [(4, [0]), (7, [4]), (11, [7])] (by kernel_rfl) (by kernel_rfl) (by kernel_rfl) ⟨lasts_own _ _ _ _ _ (by simp [maxLen]), lasts_own _ _ _ _ _ (by unfold maxLen; omega), lasts_lit _ _ _, lasts_own _ _ _ _ _ (by unfold maxLen; omega), lasts_own _ _ _ _ _ (by unfold maxLen; omega), trivial⟩ ?_
              refine wpV_heavy (by simp only [lightOp]) (by rfl) (fun W hU hk hF K hK => ?_) ?_
              · go_wp2_with fail
                exact wpV_made hK rfl rfl rfl rfl (Nat.le_trans SZ.out hU.size)
              rintro _ ⟨A1, c1', rfl, _, _⟩
              simp only [Act.put, List.setIfInBounds_toArray, List.set_cons_zero, List.set_cons_succ]
              with_reducible apply wpV_light
              · simp only [lightOp]
              · intro W hU hF
                have f0 := CS.out W hU
                clear hU hF
                go_simp
                exact rfl
              simp only [Act.put, List.setIfInBounds_toArray, List.set_cons_zero, List.set_cons_succ]
              with_reducible apply wpV_light
              · simp only [lightOp]
              · intro W hU hF
                have f0 := CS.out W hU
                clear hU hF
                go_simp
                exact rfl
              simp only [Act.put, List.setIfInBounds_toArray, List.set_cons_zero, List.set_cons_succ]
              with_reducible apply wpV_light
              · simp only [lightOp]
              · intro W hU hF
                have f0 := CS.out W hU
                clear hU hF
                go_simp
                exact rfl
              simp only [Act.put, List.setIfInBounds_toArray, List.set_cons_zero, List.set_cons_succ]
              refine wpV_heavy (by simp only [lightOp]) (by rfl) (fun W hU hk hF K hK => ?_) ?_
              · exact wpV_app hK (.tmp 81) (.tmp 84) _ (by rfl) edge_elem _ _ (by rfl) (by rfl) rfl rfl (by simp [usedV, mkI, conOf, specOf, Spec.own]) (hF.out.1 (by kernel_rfl)) (F1.out W hU) (by omega) (by simp) flat_cells (by unfold maxLen; omega) (by omega) (Nat.le_trans SZ.out hU.size)
              rintro _ ⟨A2, c2', rfl, _, _⟩
              simp only [Act.put, List.setIfInBounds_toArray, List.set_cons_zero, List.set_cons_succ]
              with_reducible apply wpV_light
              · simp only [lightOp]
              · intro W hU hF
                have f0 := CS.out W hU
                clear hU hF
                go_simp
                exact rfl
              simp only [Act.put, List.setIfInBounds_toArray, List.set_cons_zero, List.set_cons_succ]
              refine wpV_heavy (by simp only [lightOp]) (by rfl) (fun W hU hk hF K hK => ?_) ?_
              · go_wp2_with fail
                exact wpV_lit hK rfl rfl rfl
              rintro _ ⟨g3, rfl⟩
              simp only [Act.put, List.setIfInBounds_toArray, List.set_cons_zero, List.set_cons_succ]
              refine wpV_heavy (by simp only [lightOp]) (by rfl) (fun W hU hk hF K hK => ?_) ?_
              · obtain ⟨g', he, hbl⟩ := hF.out.2.2.1 (by kernel_rfl)
                injection he with he _ _
                injection he with he
                injection he with he
                subst he
                exact wpV_app hK (.tmp 85) (.tmp 87) _ (by rfl) edge_elem _ _ (by rfl) (by rfl) rfl rfl (by simp [usedV, mkI, conOf, specOf, Spec.own]) (hF.out.2.1 (by kernel_rfl)) (.of_blk hbl (m := 1) 1 rfl) (by omega) (by simp) (by intro u hu; simp at hu; rcases hu with rfl | rfl | rfl <;> rfl) (by unfold maxLen; omega) (by omega) (Nat.le_trans SZ.out hU.size)
              rintro _ ⟨A4, c4, rfl, _, _⟩
              simp only [Act.put, List.setIfInBounds_toArray, List.set_cons_zero, List.set_cons_succ]
              with_reducible apply wpV_light
              · simp only [lightOp]
              · intro W hU hF
                have f0 := CS.out W hU
                clear hU hF
                go_simp
                exact rfl
              simp only [Act.put, List.setIfInBounds_toArray, List.set_cons_zero, List.set_cons_succ]
              with_reducible apply wpV_light
              · simp only [lightOp]
              · intro W hU hF
                have f0 := CS.out W hU
                clear hU hF
                go_simp
                exact rfl
              simp only [Act.put, List.setIfInBounds_toArray, List.set_cons_zero, List.set_cons_succ]
              with_reducible apply wpV_light
              · simp only [lightOp]
              · intro W hU hF
                have f0 := CS.out W hU
                clear hU hF
                go_simp
                exact rfl
              simp only [Act.put, List.setIfInBounds_toArray, List.set_cons_zero, List.set_cons_succ]
              refine wpV_heavy (by simp only [lightOp]) (by rfl) (fun W hU hk hF K hK => ?_) ?_
              · exact wpV_app hK (.tmp 88) (.tmp 91) _ (by rfl) edge_elem _ _ (by rfl) (by rfl) rfl rfl (by simp [usedV, mkI, conOf, specOf, Spec.own]) (hF.out.2.2.2.1 (by kernel_rfl)) (F2.out W hU) (by omega) (by simp) flat_cells (by unfold maxLen; omega) (by omega) (Nat.le_trans SZ.out hU.size)
              rintro _ ⟨A5, c5, rfl, _, _⟩
              simp only [Act.put, List.setIfInBounds_toArray, List.set_cons_zero, List.set_cons_succ]
              with_reducible apply wpV_light
              · simp only [lightOp]
              · intro W hU hF
                have f0 := CS.out W hU
                clear hU hF
                go_simp
                exact rfl
              simp only [Act.put, List.setIfInBounds_toArray, List.set_cons_zero, List.set_cons_succ]
              refine wpV_end (fun W hU _ hF => ?_)
              have U3 : Hid (Upd [] w W) := Lib.hid (W2.out.drew.trans hU)
              have O3 : Hid (Ow encE 49 W w.heap.size (.slice A5 (n + 1) c5) (putE l (x0, x1, x2))) := Lib.hid (by
                have := hF.out.2.2.2.2.1 (by kernel_rfl)
                unfold Ow
                rw [EQ.out.2, ← EQ.out.1, ← List.append_assoc]
                exact this)
              clear hU hF
              refine wpT_end ?_
              go_wp2_with fail
              all_goals
                go_ret
                exact ⟨_, rfl, own_base O3.out HB.out, U3.out⟩
end Go.Proofs.YteddiknlcdbhjaaGreat

namespace Go.Proofs.YteddiknlcdbhjaaGreat
open Go.RowKit TrP
attribute [local go_sem] litStep_value

theorem putE_len (l : List Ed) (x : Ed) : (putE l x).length ≤ l.length + 1 := by
  unfold putE insG
  split
  · omega
  · split
    · omega
    · simp; omega
theorem stepG_len (l : List Ev) (out : List Ed) (x : Ev) : (TrP.stepG l out x).length ≤ out.length + 2 := by
  have ha : (addW l out x).length ≤ out.length + 1 := by
    unfold addW
    split
    · exact putE_len _ _
    · omega
  unfold TrP.stepG
  split
  · split
    · have := putE_len out (x.txn, nextR l x.cell x.ver, 2); omega
    · omega
  · split
    · have := putE_len (addW l out x) (x.txn, nextR l x.cell x.ver, 3); omega
    · omega
theorem foldG_len (l : List Ev) : ∀ (r : List Ev) (out : List Ed), (r.foldl (TrP.stepG l) out).length ≤ out.length + 2 * r.length
  | [], out => by simp
  | x :: r, out => by
    rw [List.foldl_cons]
    have h1 := foldG_len l r (TrP.stepG l out x)
    have h2 := stepG_len l out x
    simp only [List.length_cons]
    omega
theorem foldG_snoc {l : List Ev} {j : Nat} {x : Ev} (hx : l[j]? = some x) : (l.take (j + 1)).foldl (TrP.stepG l) [] = TrP.stepG l ((l.take j).foldl (TrP.stepG l) []) x := by
  rw [List.take_add_one, hx, List.foldl_append]
  rfl
def GraphPost (l : List Ev) (w : World) (e : Ending) (w' : World) : Prop := ∃ u, e = .returned u ∧ Ow encE 49 w' w.heap.size u (graphR l) ∧ Upd [] w w'
set_option maxRecDepth 100000 in
set_option maxHeartbeats 4000000 in
theorem r_graph (A : Option Addr) (n k : Nat) (l : List Ev) (w : World) (h : Rd encEv w (.slice A n k) l) (hn : l.length = n) (hl : n ≤ 60) :
    Calls Tryz.prog 30 #[.slice A n k] w fun e w' => GraphPost l w e w' := by
  have H := Lib.hid h
  have HN := Lib.hid hn
  clear h hn
  go_enter Tryz.func30, Tryz.ntmps30
  go_wp2_with fail
  go_loopw [3, 4] (fun r u wr => ∃ (A' : Option Addr) (m c j : Nat), r = .slice A' m c ∧ u = .int .i64 j ∧ j ≤ n ∧ m ≤ 2 * j ∧ Hid (((l.take j).foldl (TrP.stepG l) []).length = m) ∧ Hid (Ow encE 49 wr w.heap.size (.slice A' m c) ((l.take j).foldl (TrP.stepG l) [])) ∧ Hid (Upd [] w wr)) (fun r u _ => n - (intOf u).toNat)
  case atStart => exact ⟨none, 0, 0, 0, rfl, rfl, by omega, by omega, Lib.hid rfl, Lib.hid (Ow.nil ..), Lib.hid (.refl _ _)⟩
  case round =>
    obtain ⟨A', m, c, j, rfl, rfl, hj, hm, HM, HO, U1⟩ := hrel
    by_cases hjn : j < n
    · obtain ⟨⟨xt, xc, xv, xw⟩, hx⟩ : ∃ x, l[j]? = some x := ⟨_, List.getElem?_eq_getElem (by rw [HN.out]; omega)⟩
      have H1 := Lib.hid (H.out.upd0 U1.out)
      have FS := Lib.hid (foldG_snoc hx)
      obtain ⟨L, hL⟩ : ∃ L, (l.take j).foldl (TrP.stepG l) [] = L := ⟨_, rfl⟩
      rw [hL] at FS HM HO
      obtain ⟨ad, rfl, hb, hc⟩ := H1.out.at_ hx
      have f0 : wr.cell? (ad.add (j * 4)) = some (.int .i64 xt) := hc 0 _ rfl
      have f1 : wr.cell? ⟨(ad.add (j * 4)).block, (ad.add (j * 4)).off + 1, none⟩ = some (.int .u64 xc) := by rw [← add_more]; exact hc 1 _ rfl
      have f2 : wr.cell? ⟨(ad.add (j * 4)).block, (ad.add (j * 4)).off + 2, none⟩ = some (.int .i64 xv) := by rw [← add_more]; exact hc 2 _ rfl
      have f3 : wr.cell? ⟨(ad.add (j * 4)).block, (ad.add (j * 4)).off + 3, none⟩ = some (.bool xw) := by rw [← add_more]; exact hc 3 _ rfl
      have HX := Lib.hid hx
      have q3 : (0 : Int) ≤ (j : Int) := by omega
      have q4 : (j : Int) < (n : Int) := by omega
      have WS : Hid (w.heap.size ≤ wr.heap.size) := Lib.hid U1.out.size
      clear hx hc hL
      have X1 : Hid (Blk (wr.alloc (.cells #[.int .i64 xt, .int .u64 xc, .int .i64 xv, .bool xw] 47)) wr.heap.size 47 #[.int .i64 xt, .int .u64 xc, .int .i64 xv, .bool xw]) := Lib.hid (Blk.new wr _ _)
      have V1 : Hid (Upd [] wr (wr.alloc (.cells #[.int .i64 xt, .int .u64 xc, .int .i64 xv, .bool xw] 47))) := Lib.hid ((Upd.refl [] wr).alloc _)
      go_wp2_with fail
      generalize (wr.alloc (.cells #[.int .i64 xt, .int .u64 xc, .int .i64 xv, .bool xw] 47)) = w1 at *
      refine (r_next (some ad) n k l xc xv w1 (H1.out.upd0 V1.out) HN.out (by omega)).mono ?_; rintro e w2 ⟨rfl, u2⟩
      have V2 := Lib.hid (V1.out.trans u2)
      have X2 := Lib.hid (X1.out.upd u2 (by simp))
      obtain ⟨N, hN⟩ : ∃ N, nextR l xc xv = N := ⟨_, rfl⟩
      have SG : Hid (TrP.stepG l L ⟨xt, xc, xv, xw⟩ = if xw = true then (if 0 ≤ N then putE L (xt, N, 2) else L) else if 0 ≤ N then putE (addW l L ⟨xt, xc, xv, xw⟩) (xt, N, 3) else addW l L ⟨xt, xc, xv, xw⟩) := Lib.hid (by rw [← hN]; rfl)
      rw [hN]
      have e0 : w2.cell? ⟨wr.heap.size, 0, none⟩ = some (.int .i64 xt) := X2.out.cell 0
      have e1 : w2.cell? ⟨wr.heap.size, 1, none⟩ = some (.int .u64 xc) := X2.out.cell 1
      have e2 : w2.cell? ⟨wr.heap.size, 2, none⟩ = some (.int .i64 xv) := X2.out.cell 2
      have e3 : w2.cell? ⟨wr.heap.size, 3, none⟩ = some (.bool xw) := X2.out.cell 3
      clear u2 V1 X1 f0 f1 f2 f3 hN
      cases xw with
      | true =>
        rw [if_pos rfl] at SG
        by_cases h0 : 0 ≤ N
        · have d0 : decide (0 ≤ N) = true := by simpa using h0
          rw [if_pos h0] at SG
          go_wp2_with fail
          refine (r_putE w.heap.size A' m c L (xt, N, 2) w2 (HO.out.upd0 V2.out) HM.out (by omega) (Nat.le_trans WS.out V2.out.size)).mono ?_; rintro e w3 ⟨u, rfl, o3, u3⟩
          obtain ⟨A3, c3, rfl, _, _⟩ := own_slice o3
          obtain ⟨m3, hm3⟩ : ∃ m3, (putE L (xt, N, 2)).length = m3 := ⟨_, rfl⟩
          have HM3 := Lib.hid hm3
          have O3 : Hid (Ow encE 49 w3 w.heap.size (.slice A3 m3 c3) (putE L (xt, N, 2))) := Lib.hid (by rw [← hm3]; exact o3)
          have L3 : m3 ≤ m + 1 := by rw [← hm3, ← HM.out]; exact putE_len _ _
          have V3 := Lib.hid (U1.out.trans (V2.out.trans u3))
          rw [hm3]
          clear o3 u3 hm3 e0 e1 e2 e3
          go_wp2_with fail
          go_roundw
          case rel => exact ⟨A3, m3, c3, j + 1, rfl, by go_num, by omega, by omega, Lib.hid (by rw [FS.out, SG.out]; exact HM3.out), Lib.hid (by rw [FS.out, SG.out]; exact O3.out), V3⟩
          case measure => simp [intOf]; omega
        · have d0 : decide (0 ≤ N) = false := by simpa using h0
          rw [if_neg h0] at SG
          go_wp2_with fail
          go_roundw
          case rel => exact ⟨A', m, c, j + 1, rfl, by go_num, by omega, by omega, Lib.hid (by rw [FS.out, SG.out]; exact HM.out), Lib.hid (by rw [FS.out, SG.out]; exact HO.out.upd0 V2.out), Lib.hid (U1.out.trans V2.out)⟩
          case measure => simp [intOf]; omega
      | false =>
        rw [if_neg (by simp)] at SG
        go_wp2_with fail
        refine (r_writer (some ad) n k l xc xv w2 (H1.out.upd0 V2.out) HN.out (by omega)).mono ?_; rintro e w3 ⟨r, rfl, hr, rfl⟩
        rcases hr with ⟨i, y, rfl, hy, hwr⟩ | ⟨rfl, hwr⟩
        · obtain ⟨yt, yc, yv, yw⟩ := y
          have HLa0 : Hid (addW l L ⟨xt, xc, xv, false⟩ = putE L (yt, xt, 1)) := Lib.hid (by unfold addW; rw [show wroteOf l xc xv = some yt from hwr])
          obtain ⟨La, hLa⟩ : ∃ La, putE L (yt, xt, 1) = La := ⟨_, rfl⟩
          have HLa : Hid (addW l L ⟨xt, xc, xv, false⟩ = La) := Lib.hid (by rw [HLa0.out, hLa])
          have hil : i < n := by have := (List.getElem?_eq_some_iff.1 hy).1; rw [HN.out] at this; exact this
          have r1 : (0 : Int) ≤ (i : Int) := by omega
          have r2 : (i : Int) < (n : Int) := by omega
          have HY := Lib.hid hy
          have KP : Hid (∀ W, Upd [] w2 W → W.cell? (ad.add (i * 4)) = some (.int .i64 yt) ∧ W.cell? ⟨wr.heap.size, 0, none⟩ = some (.int .i64 xt)) := Lib.hid (fun W hW => by
            obtain ⟨ad', ea, _, hc'⟩ := (H1.out.upd0 (V2.out.trans hW)).at_ HY.out
            injection ea with ea
            subst ea
            exact ⟨hc' 0 _ rfl, (X2.out.upd hW (by simp)).cell 0⟩)
          have v0 : Upd [] w2 w2.drew := (Upd.refl [] _).drew
          clear hwr hy e0 e1 e2 e3
          go_wp2_with fail
          go_region_held3 (fun W => W.cell? (ad.add (i * 4)) = some (.int .i64 yt) ∧ W.cell? ⟨wr.heap.size, 0, none⟩ = some (.int .i64 xt)) (first | exact KP.out _ v0 | exact KP.out _ (v0.trans u3))
            (first | (go_at_call 45; refine (r_putE w.heap.size A' m c L (yt, xt, 1) _ (HO.out.upd0 (V2.out.trans v0)) HM.out (by omega) (Nat.le_trans WS.out (V2.out.trans v0).size)).mono ?_; rintro e w3 ⟨u, rfl, o3, u3⟩))
          obtain ⟨A4, c4, rfl, _, _⟩ := own_slice o3
          rw [hLa] at o3
          rename World => wq
          obtain ⟨m4, hm4⟩ : ∃ m4, La.length = m4 := ⟨_, rfl⟩
          have HM4 := Lib.hid hm4
          have OA : Hid (Ow encE 49 wq w.heap.size (.slice A4 m4 c4) La) := Lib.hid (by rw [← hm4]; exact o3)
          have L4 : m4 ≤ m + 1 := by rw [← hm4, ← hLa, ← HM.out]; exact putE_len _ _
          have VQ := Lib.hid (V2.out.trans (v0.trans u3))
          have XQ := Lib.hid (X2.out.upd (v0.trans u3) (by simp))
          have e0 : wq.cell? ⟨wr.heap.size, 0, none⟩ = some (.int .i64 xt) := XQ.out.cell 0
          rw [hLa, hm4]
          clear o3 u3 hm4 v0 hLa
          -- La: what there is by now; at wq, of the world w2
          by_cases h0 : 0 ≤ N
          · have d0 : decide (0 ≤ N) = true := by simpa using h0
            rw [if_pos h0] at SG
            go_wp2_with fail
            refine (r_putE w.heap.size A4 m4 c4 La (xt, N, 3) wq OA.out HM4.out (by omega) (Nat.le_trans WS.out VQ.out.size)).mono ?_; rintro e w3 ⟨u, rfl, o3, u3⟩
            obtain ⟨A3, c3, rfl, _, _⟩ := own_slice o3
            obtain ⟨m3, hm3⟩ : ∃ m3, (putE La (xt, N, 3)).length = m3 := ⟨_, rfl⟩
            have HM3 := Lib.hid hm3
            have O3 : Hid (Ow encE 49 w3 w.heap.size (.slice A3 m3 c3) (putE La (xt, N, 3))) := Lib.hid (by rw [← hm3]; exact o3)
            have L3 : m3 ≤ m4 + 1 := by rw [← hm3, ← HM4.out]; exact putE_len _ _
            have V3 := Lib.hid (U1.out.trans (VQ.out.trans u3))
            rw [hm3]
            clear o3 u3 hm3 e0
            go_wp2_with fail
            go_roundw
            case rel => exact ⟨A3, m3, c3, j + 1, rfl, by go_num, by omega, by omega, Lib.hid (by rw [FS.out, SG.out, HLa.out]; exact HM3.out), Lib.hid (by rw [FS.out, SG.out, HLa.out]; exact O3.out), V3⟩
            case measure => simp [intOf]; omega
          · have d0 : decide (0 ≤ N) = false := by simpa using h0
            rw [if_neg h0] at SG
            go_wp2_with fail
            go_roundw
            case rel => exact ⟨A4, m4, c4, j + 1, rfl, by go_num, by omega, by omega, Lib.hid (by rw [FS.out, SG.out, HLa.out]; exact HM4.out), Lib.hid (by rw [FS.out, SG.out, HLa.out]; exact OA.out), Lib.hid (U1.out.trans VQ.out)⟩
            case measure => simp [intOf]; omega
        · have HLa : Hid (addW l L ⟨xt, xc, xv, false⟩ = L) := Lib.hid (by unfold addW; rw [show wroteOf l xc xv = none from hwr])
          clear hwr
          obtain ⟨La, hLa⟩ : ∃ La, La = L := ⟨_, rfl⟩
          obtain ⟨wq, hwq⟩ : ∃ wq, wq = w2 := ⟨_, rfl⟩
          obtain ⟨A4, hA4⟩ : ∃ A4, A4 = A' := ⟨_, rfl⟩
          obtain ⟨m4, hm4⟩ : ∃ m4, m4 = m := ⟨_, rfl⟩
          obtain ⟨c4, hc4⟩ : ∃ c4, c4 = c := ⟨_, rfl⟩
          subst hLa hwq hA4 hm4 hc4
          have HM4 := HM
          have OA := Lib.hid (HO.out.upd0 V2.out)
          have VQ := V2
          have L4 : m4 ≤ m4 + 1 := by omega
          clear e1 e2 e3
          -- La: what there is by now; at wq, of the world w2
          by_cases h0 : 0 ≤ N
          · have d0 : decide (0 ≤ N) = true := by simpa using h0
            rw [if_pos h0] at SG
            go_wp2_with fail
            refine (r_putE w.heap.size A4 m4 c4 La (xt, N, 3) wq OA.out HM4.out (by omega) (Nat.le_trans WS.out VQ.out.size)).mono ?_; rintro e w3 ⟨u, rfl, o3, u3⟩
            obtain ⟨A3, c3, rfl, _, _⟩ := own_slice o3
            obtain ⟨m3, hm3⟩ : ∃ m3, (putE La (xt, N, 3)).length = m3 := ⟨_, rfl⟩
            have HM3 := Lib.hid hm3
            have O3 : Hid (Ow encE 49 w3 w.heap.size (.slice A3 m3 c3) (putE La (xt, N, 3))) := Lib.hid (by rw [← hm3]; exact o3)
            have L3 : m3 ≤ m4 + 1 := by rw [← hm3, ← HM4.out]; exact putE_len _ _
            have V3 := Lib.hid (U1.out.trans (VQ.out.trans u3))
            rw [hm3]
            clear o3 u3 hm3 e0
            go_wp2_with fail
            go_roundw
            case rel => exact ⟨A3, m3, c3, j + 1, rfl, by go_num, by omega, by omega, Lib.hid (by rw [FS.out, SG.out, HLa.out]; exact HM3.out), Lib.hid (by rw [FS.out, SG.out, HLa.out]; exact O3.out), V3⟩
            case measure => simp [intOf]; omega
          · have d0 : decide (0 ≤ N) = false := by simpa using h0
            rw [if_neg h0] at SG
            go_wp2_with fail
            go_roundw
            case rel => exact ⟨A4, m4, c4, j + 1, rfl, by go_num, by omega, by omega, Lib.hid (by rw [FS.out, SG.out, HLa.out]; exact HM4.out), Lib.hid (by rw [FS.out, SG.out, HLa.out]; exact OA.out), Lib.hid (U1.out.trans VQ.out)⟩
            case measure => simp [intOf]; omega
    · have : j = n := by omega
      subst this
      go_wp2_with fail
      go_ret
      refine ⟨_, rfl, ?_, U1.out⟩
      have h1 := HO.out
      rw [List.take_of_length_le (by rw [HN.out]; exact Nat.le_refl _)] at h1
      exact h1
end Go.Proofs.YteddiknlcdbhjaaGreat

namespace Go.Proofs.YteddiknlcdbhjaaGreat
open Go Go.RowKit Go.Shelf TrP

def GraphT (l : List Ev) (w : World) (e : Ending) (w' : World) : Prop := ∃ g v, e = .returned (.tuple #[g, v]) ∧ ErrV w' v (wrongE l).1 (wrongE l).2 ∧ Upd [] w w' ∧ ((wrongE l).1 ≠ 0 → g = .slice none 0 0) ∧ ((wrongE l).1 = 0 → v = .nilIface ∧ Ow encE 49 w' w.heap.size g (graphR l))
theorem graphR_short (l : List Ev) (h : l.length ≤ 60) : (graphR l).length ≤ 120 := by
  have := foldG_len l l []
  show (l.foldl (TrP.stepG l) []).length ≤ 120
  simp at this
  omega
set_option maxRecDepth 100000 in
set_option maxHeartbeats 1000000 in
theorem t_graph (A : Option Addr) (n k : Nat) (l : List Ev) (w : World) (h : Rd encEv w (.slice A n k) l) (hn : l.length = n) (hl : n ≤ 60) (hev : ∀ x ∈ l, EvIn x) :
    Calls Tryz.prog 15 #[.slice A n k] w fun e w' => GraphT l w e w' := by
  have HT := Lib.hid (t_trace A n k l w h hn hl hev)
  have HS := Lib.hid (graphR_short l (by omega))
  clear h hn hev
  go_enter Tryz.func15, Tryz.ntmps15
  go_wp2_with fail
  refine HT.out.mono ?_; rintro e w1 ⟨t, v, rfl, he, u1, hbad, hok⟩
  have HE := Lib.hid he
  have U1 := Lib.hid u1
  have HOK := Lib.hid hok
  have HBAD := Lib.hid hbad
  clear u1 hok hbad
  rcases he with ⟨rfl, h0, _⟩ | ⟨rfl, ⟨h1, h2⟩, _⟩ | ⟨g, rfl, hb, h1, h2⟩
  · obtain ⟨_, ρ, tb, b, S, cn, ht, _, hst, hS⟩ := HOK.out h0
    subst ht
    have H0 := Lib.hid h0
    have HST := Lib.hid hst
    have HG : Hid (∀ x, x ∈ S ↔ x ∈ graphR l) := Lib.hid (fun x => by rw [hS, graphR_iff (wrongE_iff.1.1 h0).noted])
    clear h0 hst hS
    go_wp2_with fail
    refine (t_all ρ w.heap.size tb b _ _ _ w1 HST.out (fun L hL hm => ?_)).mono ?_
    · have hp : L.Perm (graphR l) := (List.perm_ext_iff_of_nodup hL ((graphR_rise l).1.imp (fun h e => by subst e; rw [ltE_irr] at h; cases h))).2 (fun x => (hm x).trans (HG.out x))
      have := hp.length_eq
      have := HS.out
      omega
    rintro e w2 ⟨gv, G, rfl, hr, hm, ho, u2⟩
    have hG : G = graphR l := riseE_uniq hr (graphR_rise l).1 (fun x => (hm x).trans (HG.out x))
    subst hG
    have HO := Lib.hid (show Ow encE 49 w2 w.heap.size gv (graphR l) from own_base ho U1.out.size)
    have U2 := Lib.hid (U1.out.trans u2)
    have H2 := Lib.hid (HE.out.upd u2)
    clear hr hm ho u2
    go_wp2_with fail
    go_ret2
    unfold GraphT
    exact ⟨_, _, rfl, H2.out, U2.out, fun h => absurd H0.out h, fun _ => ⟨rfl, HO.out⟩⟩
  · have H1 : Hid ((wrongE l).1 ≠ 0) := Lib.hid (by omega)
    have ht := HBAD.out H1.out
    subst ht
    clear h1 h2
    go_wp2_with fail
    go_ret2
    unfold GraphT
    exact ⟨_, _, rfl, HE.out, U1.out, fun _ => rfl, fun h => absurd h H1.out⟩
  · have H1 : Hid ((wrongE l).1 ≠ 0) := Lib.hid (by omega)
    have ht := HBAD.out H1.out
    subst ht
    clear h1 h2 hb
    go_wp2_with fail
    go_ret2
    unfold GraphT
    exact ⟨_, _, rfl, HE.out, U1.out, fun _ => rfl, fun h => absurd h H1.out⟩
end Go.Proofs.YteddiknlcdbhjaaGreat

namespace Go.Proofs.YteddiknlcdbhjaaGreat
open Go Go.RowKit TrP HeapPlain Assoc
open Vk (cntOf cntQ t_pairs rd_ints rows_at flat_intK)
attribute [local go_sem] litStep_value

def lenOfS : Value → Nat
  | .slice _ n _ => n
  | _ => 0
def SerialT (l : List Ev) (w : World) (e : Ending) (w' : World) : Prop := ∃ s v, e = .returned (.tuple #[s, v]) ∧ Upd [] w w' ∧
  ((wrongE l).1 ≠ 0 → s = .slice none 0 0 ∧ ErrV w' v (wrongE l).1 (wrongE l).2) ∧
  ((wrongE l).1 = 0 → (∀ o, serialL (graphR l) (txnsR l) = some o → Ow encK 3 w' w.heap.size s o ∧ v = .nilIface) ∧ (serialL (graphR l) (txnsR l) = none → s = .slice none 0 0 ∧ v = .iface 69 (.int .i64 12)))
theorem cntQ_cntR {l : List Ev} (hg : GOk (graphR l) (txnsR l)) : cntQ l (graphR l) = cntR (graphR l) (txnsR l) [] := by
  funext t
  unfold cntQ cntR
  rw [cnt_remain hg (graphR_rise l).1]
  have : t ∈ l.map (·.txn) ↔ t ∈ txnsR l := by rw [(txnsR_rise l).2]; simp
  by_cases h : t ∈ txnsR l
  · rw [if_pos h, if_pos (this.2 h)]
  · rw [if_neg h, if_neg (fun e => h (this.1 e))]
theorem ldP_succ {l : List Ev} (hg : GOk (graphR l) (txnsR l)) : ldP (pairsL (graphR l)) = succL (graphR l) (txnsR l) := funext fun a => ld_succ hg (graphR_rise l).1 a
/-- What trace.trace and pairs leave, if nothing is wrong. -/
def PairedSt (l : List Ev) (B : Nat) (sv : Value) (tb : Nat) (w : World) : Prop := ∃ ρ b cn S, TrSt w ρ B tb b .nilIface sv (tcOf (cntR (graphR l) (txnsR l) []) cn l S (succL (graphR l) (txnsR l))) ∧ cn ≤ 60
theorem t_paired {l : List Ev} {ρ : Rho} {B tb : Nat} {b : TB} {sv : Value} {cn : Nat} {S : List Ed} {w : World} (h : TrSt w ρ B tb b .nilIface sv (tcOf (cntOf l) cn l S (fun _ => []))) (hS : ∀ y, y ∈ S ↔ EdgeP l y) (h0 : (wrongE l).1 = 0) (hl : l.length ≤ 60) (hcn : cn ≤ 60) :
    Calls Tryz.prog 22 #[.pointer (some ⟨tb, 0, none⟩)] w fun e w' => e = .returned (.tuple #[]) ∧ PairedSt l B sv tb w' ∧ (B ≤ w.heap.size → ∀ w0, B = w0.heap.size → Upd [] w0 w → Upd [] w0 w') := by
  have hok := wrongE_iff.1.1 h0
  have hg := gok hok
  have ht := h.trim
  have hlen := graphR_short l hl
  refine (t_pairs (trimR w ρ) B tb b .nilIface sv l cn S w ht (fun x => by rw [hS, graphR_iff hok.noted]) (by omega) (fun e he => ?_) (fun x hx => by unfold trimR; rw [if_neg (by omega)])).mono ?_
  · have := hg.to e he
    rw [(txnsR_rise l).2] at this
    obtain ⟨x, hx, e⟩ := this
    exact List.mem_map.2 ⟨x, hx, e⟩
  · rintro e w' ⟨rfl, ρ', tw, hs⟩
    rw [cntQ_cntR hg, ldP_succ hg] at hs
    exact ⟨rfl, ⟨ρ', b, cn, S, hs, hcn⟩, fun _ w0 hB hu => tw.rest hu (fun x hx => by rw [← hB]; exact ht.hi x hx)⟩
theorem key_uniq {L : List IEnt} (h : (L.map (·.1)).Nodup) {x y : IEnt} (hx : x ∈ L) (hy : y ∈ L) (e : x.1 = y.1) : x = y := by
  obtain ⟨i, hi, rfl⟩ := List.getElem_of_mem hx
  obtain ⟨j, hj, rfl⟩ := List.getElem_of_mem hy
  have hp := List.pairwise_iff_getElem.1 h
  rcases Nat.lt_trichotomy i j with g | rfl | g
  · exact absurd (by rw [List.getElem_map, List.getElem_map]; exact e) (hp i j (by simpa using hi) (by simpa using hj) g)
  · rfl
  · exact absurd (by rw [List.getElem_map, List.getElem_map]; exact e.symm) (hp j i (by simpa using hj) (by simpa using hi) g)
theorem SerSt.itr {bt Rb rb cn : Nat} {wR : World} {f : Int → Option Int} {wq w' : World} {out xs : List Int} (h : SerSt bt Rb rb cn wR f wq (.slice none 0 0) out xs) {q : IntKind} {R0 : Nat} (hR : Rb < R0) (hbt : bt < Rb) {L rest : List IEnt} (hi : IIter wq q bt R0 L rest) (hu : Upd [R0] wq w') : SerSt bt Rb rb cn wR f w' (.slice none 0 0) out xs := by
  have hn := h.rd.not_iter hi
  have hk := h.rd.keep (O := fun x => x = R0) (.of_upd hu (by simp)) (fun k hk e => hn.2 (e ▸ hk))
  exact ⟨h.fr.trans (UpdP.of_upd (O := fun x => x = bt ∨ Rb ≤ x) hu (by intro x hx; simp at hx; exact .inl (.inr (by omega)))) (fun x hx => .inl hx), h.tx.upd hu (by simp; omega), hk.1, h.hp, h.ow.upd hu (fun b hb => by cases hb), fun y hy => by cases hy⟩
set_option maxRecDepth 100000 in
set_option maxHeartbeats 8000000 in
theorem t_serial (A : Option Addr) (n k : Nat) (l : List Ev) (w : World) (h : Rd encEv w (.slice A n k) l) (hn : l.length = n) (hl : n ≤ 60) (hev : ∀ x ∈ l, EvIn x) :
    Calls Tryz.prog 9 #[.slice A n k] w fun e w' => SerialT l w e w' := by
  have HT := Lib.hid (t_trace A n k l w h hn hl hev)
  have hl60 : l.length ≤ 60 := by omega
  clear h hn hev
  go_enter Tryz.func9, Tryz.ntmps9
  go_wp2_with fail
  refine HT.out.mono ?_; rintro e w1 ⟨t, v, rfl, he, u1, hbad, hok⟩
  have HE := Lib.hid he
  have U1 := Lib.hid u1
  have HOK := Lib.hid hok
  have HBAD := Lib.hid hbad
  clear u1 hok hbad
  rcases he with ⟨rfl, h0, _⟩ | ⟨rfl, ⟨h1, h2⟩, _⟩ | ⟨g, rfl, hb, h1, h2⟩
  · obtain ⟨_, ρ0, tb, b0, S0, cn0, ht, hcn0, hst0, hS0⟩ := HOK.out h0
    subst ht
    have H0 := Lib.hid h0
    have HPA := Lib.hid (t_paired hst0 hS0 h0 hl60 hcn0)
    have HB1 : Hid (w.heap.size ≤ w1.heap.size) := Lib.hid U1.out.size
    clear h0 hst0 hS0 hcn0
    go_wp2_with fail
    refine HPA.out.mono ?_; rintro e w2 ⟨rfl, ⟨ρ1, b, cn, S, hst, hcn⟩, hup⟩
    have U2 := Lib.hid (hup HB1.out w rfl U1.out)
    obtain ⟨g, hg⟩ : ∃ g, graphR l = g := ⟨_, rfl⟩
    obtain ⟨all, hall⟩ : ∃ all, txnsR l = all := ⟨_, rfl⟩
    have hgk := gok (wrongE_iff.1.1 H0.out)
    rw [hg, hall] at hst hgk
    have HG := Lib.hid hgk
    have HGG := Lib.hid hg
    have HALL := Lib.hid hall
    have hcl := imap_len hgk.rise hst.tx.2
    subst hcl
    have ST := Lib.hid hst.trim
    obtain ⟨Rb, hRb⟩ : ∃ Rb, w2.heap.size = Rb := ⟨_, rfl⟩
    have HRB := Lib.hid hRb
    have HBT : Hid (b.bt < Rb) := Lib.hid (by rw [← hRb]; exact hst.tx.2.lt)
    have KEEP : Hid (∀ y, y < w2.heap.size → y ≠ b.bt → ¬ (y = b.bt ∨ Rb ≤ y)) := Lib.hid (fun y h1 h2 h3 => h3.elim h2 (fun h => by omega))
    clear hup hst HPA HOK HBAD HE HT hg hall hgk hRb
    have V3 : Hid (Upd [] w2 (w2.alloc (.cells #[.slice none 0 0] 58))) := Lib.hid ((Upd.refl [] w2).alloc _)
    have B3 : Hid (Blk (w2.alloc (.cells #[.slice none 0 0] 58)) Rb 58 #[.slice none 0 0]) := Lib.hid (by rw [← HRB.out]; exact Blk.new w2 _ _)
    have k1 : (w2.alloc (.cells #[.slice none 0 0] 58)).cell? ⟨tb, 0, none⟩ = some (.map (some b.bt)) := (ST.out.tr.upd V3.out (by simp)).cell 0
    obtain ⟨L, w5, hr1, it, hfi, hke, _, u5, _⟩ := run_range_int (P := Tryz.prog) (mt := 59) Tryz.underlying59 (ST.out.tx.2.upd V3.out (by simp))
    have HFI : Hid (∀ k, (cntR g all [] k).map (Value.int .i64) = findI L k) := Lib.hid hfi
    have HKE := Lib.hid hke
    have IT := Lib.hid it
    have U5 : Hid (Upd [] w2 w5) := Lib.hid (V3.out.trans u5)
    have B5 := Lib.hid (B3.out.upd u5 (by simp))
    have SE5 : Hid (SerSt b.bt Rb Rb all.length w2 (cntR g all []) w5 (.slice none 0 0) [] []) := Lib.hid {
      fr := UpdP.of_upd (V3.out.trans u5) (by simp)
      tx := ST.out.tx.2.upd (V3.out.trans u5) (by simp)
      rd := ⟨⟨_, B5.out, own_nil _ _ _ _⟩, by simp, Nat.le_refl _⟩
      hp := fun k h0 hk => by simp at hk
      ow := Ow.nil _ _ _ _
      ap := fun y hy => by cases hy }
    clear it u5 hfi hke B3 B5
    go_wp2_with fail
    rw [HRB.out]
    clear k1 hr1
    rw [show (w2.alloc (.cells #[.slice none 0 0] 58)).heap.size = Rb + 1 from by simp [HRB.out]] at IT
    obtain ⟨R0, hR0⟩ : ∃ R0, Rb + 1 = R0 := ⟨_, rfl⟩
    have HR0 : Hid (Rb < R0) := Lib.hid (by omega)
    rw [hR0] at IT ⊢
    clear hR0 V3
    go_loopw [7] (fun _ wq => Hid (∃ rest xs, IIter wq .i64 b.bt R0 L rest ∧ SerSt b.bt Rb Rb all.length w2 (cntR g all []) wq (.slice none 0 0) [] xs ∧ xs.Nodup ∧ (∀ y, y ∈ xs ↔ ∃ x, x ∈ L ∧ x ∉ rest ∧ x.1 = y ∧ remain g all [] y = 0))) (fun _ wq => itLeft b.bt R0 wq)
    case atStart => exact Lib.hid ⟨L, [], IT.out, SE5.out, by simp, fun y => ⟨fun h => (by cases h), fun ⟨x, h1, h2, _⟩ => absurd h1 h2⟩⟩
    case round =>
      obtain ⟨rest, xs, hit, hse, hnd, hM⟩ := hrel.out
      rename World => wq
      have SE := Lib.hid hse
      have HNX := Lib.hid hnd
      have HM := Lib.hid hM
      have HLF := Lib.hid hit.left
      have HND := Lib.hid hit.nodup
      clear hrel hse hnd hM
      rcases run_next_int (P := Tryz.prog) hit 0 with ⟨h0, r2⟩ | ⟨⟨xk, xv, xst⟩, rest', w7, hp, r2, it2, u2, r3⟩
      · subst h0
        clear hit
        go_wp2_with fail
        clear r2
        have HPX : Hid (xs.Perm (readyL g all [])) := Lib.hid ((List.perm_ext_iff_of_nodup HNX.out (readyL_nodup HG.out [])).2 (fun y => by
          rw [HM.out, TrP.mem_ready]
          constructor
          · rintro ⟨x, h1, _, rfl, h2⟩
            have := findI_mem HKE.out h1
            rw [← HFI.out] at this
            unfold cntR at this
            by_cases e : x.1 ∈ all
            · exact ⟨e, h2⟩
            · rw [if_neg e] at this; cases this
          · rintro ⟨h1, h2⟩
            have : (findI L y).isSome = true := by rw [← HFI.out]; unfold cntR; rw [if_pos h1]; rfl
            obtain ⟨x, hx, e⟩ := List.mem_map.1 (findI_some.1 this)
            exact ⟨x, hx, by simp, e, h2⟩))
        clear HFI HKE IT HLF HND HM HNX SE5 U5
        obtain ⟨sb, hsb⟩ : ∃ sb, serialL g all = sb := ⟨_, rfl⟩
        have HSB := Lib.hid hsb
        go_loopw [9] (fun vo wq => Hid (∃ out xs, SerSt b.bt Rb Rb all.length w2 (cntR g all out) wq vo out xs ∧ xs.Perm (readyL g all out) ∧ Ser g all out ∧ serialL g all = serialGo g all (all.length - out.length) out)) (fun vo _ => 61 - lenOfS vo)
        case atStart => exact Lib.hid ⟨[], xs, SE.out, HPX.out, Ser.nil, rfl⟩
        case round =>
          obtain ⟨out, xs, se, px, sr, hv⟩ := hrel.out
          rename World => wz
          have SE := Lib.hid se
          have PX := Lib.hid px
          have SR := Lib.hid sr
          have HV := Lib.hid hv
          obtain ⟨Ao, co, rfl, _, _⟩ := se.ow.form
          obtain ⟨no, hno⟩ : ∃ no, out.length = no := ⟨_, rfl⟩
          rw [hno] at SE hv ⊢
          have HNO := Lib.hid hno
          have hno60 : no ≤ 60 := by
            have := len_sub sr.nodup sr.sub
            omega
          clear hrel se px sr hv hsb hno
          go_wp2_with fail
          refine (rdy_len Rb Rb xs wz SE.out.rd).mono ?_; rintro e wa ⟨rfl, rda, fa⟩
          have SEA := Lib.hid (SE.out.heap HBT.out rda SE.out.hp fa)
          clear rda fa
          have TRA : Hid (Blk wa tb 65 #[.map (some b.bt), .map (some b.bw), .map (some b.br), .map (some b.be), .map (some b.bl), .nilIface, .slice A n k]) := Lib.hid (ST.out.tr.updP SEA.out.fr (KEEP.out tb ST.out.tr.lt (fun e => by have h1 := ST.out.rt; rw [e, ST.out.tx.1] at h1; cases h1)))
          cases hxs : xs with
          | nil =>
            subst hxs
            have k1 : wa.cell? ⟨tb, 0, none⟩ = some (.map (some b.bt)) := TRA.out.cell 0
            have ln : (Builtin.len_ #[59] 3 #[.map (some b.bt)]).run Tryz.prog wa = .ok (.int .i64 all.length) wa := run_len_int Tryz.underlying59 SEA.out.tx _
            have hend := go_end HV.out (List.Perm.eq_nil PX.out.symm)
            have hU : Hid (Upd [] w wa) := Lib.hid (U2.out.trans' (S := []) (T := []) (Upd.refl [] w2) (by simp) |> fun h => SEA.out.fr.to_upd h (fun x hx => by
              have h1 := h.size
              have h2 := HRB.out
              rcases hx with rfl | hx
              · exact ST.out.hi _ (by rw [ST.out.tx.1]; simp)
              · omega))
            by_cases hlt : no < all.length
            · have d : decide ((no : Int) < (all.length : Int)) = true := by simp; omega
              have d2 : decide (no < all.length) = true := by simp; omega
              have HEND : Hid (serialL g all = none) := Lib.hid (by rw [hend, if_pos (by rw [HNO.out]; exact hlt)])
              clear hend hlt
              go_wp2_with fail
              go_ret2
              unfold SerialT
              rw [HGG.out, HALL.out, HEND.out]
              exact ⟨_, _, rfl, hU.out, fun h => absurd H0.out h, fun _ => ⟨fun o h => (by cases h), fun _ => ⟨rfl, rfl⟩⟩⟩
            · have d : decide ((no : Int) < (all.length : Int)) = false := by simp; omega
              have d2 : decide (no < all.length) = false := by simp; omega
              have HEND : Hid (serialL g all = some out) := Lib.hid (by rw [hend, if_neg (by rw [HNO.out]; exact hlt)])
              clear hend hlt
              go_wp2_with fail
              go_ret2
              unfold SerialT
              rw [HGG.out, HALL.out, HEND.out]
              refine ⟨_, _, rfl, hU.out, fun h => absurd H0.out h, fun _ => ⟨fun o h => ?_, fun h => (by cases h)⟩⟩
              cases h
              exact ⟨own_base SEA.out.ow (by have h1 := U2.out.size; have h2 := HRB.out; omega), rfl⟩
          | cons x xt =>
            have hxl : xs.length = xt.length + 1 := by rw [hxs]; rfl
            have HXL := Lib.hid hxl
            have hx0 : xs.getD 0 default = x := by rw [hxs]; rfl
            have HX0 := Lib.hid hx0
            have hxr : x ∈ readyL g all out := PX.out.mem_iff.1 (by rw [hxs]; simp)
            have hmn : ∀ y ∈ readyL g all out, x ≤ y := fun y hy => by rw [← hx0]; exact least_head hxl SEA.out.hp y (PX.out.mem_iff.2 hy)
            obtain ⟨g1, g2, g3, g4, g5, g6⟩ := go_step HG.out SR.out HV.out hxr hmn
            have SR1 := Lib.hid g1
            have HV1 := Lib.hid g2
            have HXA := Lib.hid g3
            have HXO := Lib.hid g4
            have HXP := Lib.hid g5
            have hnoc : no + 1 ≤ 60 := by have := HNO.out; omega
            obtain ⟨rv, rb1, ro1⟩ := SEA.out.rd.obj
            obtain ⟨rg, rc, rcur, rfl, _, rbg, rnc, rcm, _, _⟩ := own_form ro1 (by rw [hxl]; omega)
            have k0 : wa.cell? ⟨Rb, 0, none⟩ = some (.slice (some ⟨rg, 0, none⟩) xs.length rc) := rb1.cell 0
            have k1 : wa.cell? ⟨rg, 0, none⟩ = some (.int .i64 x) := own_cell ro1 0 _ (by rw [hxs]; rfl)
            have hpos : decide ((0 : Int) < ((xt.length : Int) + 1)) = true := decide_eq_true (by omega)
            have hpos2 : (0 : Int) < (xt.length : Int) + 1 := by omega
            rw [hxl] at k0
            obtain ⟨xm, hxm⟩ : ∃ xm, xt.length = xm := ⟨_, rfl⟩
            rw [hxm] at k0 hpos hpos2 hxl
            have HXM : Hid (xs.length = xm + 1) := Lib.hid hxl
            clear g1 g2 g3 g4 g5 g6 rb1 ro1 rbg hxl hx0 hxr hmn
            rw [show (((x :: xt).length : Nat) : Int) = ((xm : Int) + 1) from by simp [hxm]]
            clear hxs hxm
            go_wp2_with fail
            clear k0 k1 hpos hpos2
            refine (hp_pop Rb Rb xs xm wa SEA.out.rd HXM.out SEA.out.hp).mono ?_; rintro e wb ⟨rfl, ys, rdb, pb, hb, fb⟩
            rw [HX0.out] at pb
            have SEB := Lib.hid ((SEA.out.heap HBT.out rdb hb fb).upd0 ((Upd.refl [] wb).alloc (.cells #[.int .i64 x] 3)))
            have PB : Hid ((x :: ys).Perm (readyL g all out)) := Lib.hid (pb.trans PX.out)
            have OWB : Hid ((wb.alloc (.cells #[.int .i64 x] 3)).ownsRow Rb 3 1 (.slice Ao no co) no (flat encK out)) := Lib.hid (by have := SEB.out.ow; unfold Ow at this; rw [HNO.out] at this; exact this)
            have HRW : Hid (Rb ≤ (wb.alloc (.cells #[.int .i64 x] 3)).heap.size) := Lib.hid (by have h1 := SEB.out.fr.size; have h2 := HRB.out; omega)
            clear rdb pb hb fb SEA TRA SE PX
            go_wp2_with (at_builtin; refine stoppedR ?_)
            refine Lib.hid ?_
            refine wpList_app _ (by rfl) (.tmp 54) (.tmp 56) _ (by rfl) int_elem (.slice Ao no co) _ (by rfl) (by rfl) OWB.out (.of_blk (Blk.new wb 3 #[.int .i64 x]) (m := 1) 1 rfl) (by intro u hu; simp at hu; subst hu; rfl) (by simp only [maxLen]; omega) (by omega) HRW.out ?_
            intro v5 W5 o5 u5 b5
            have SE5 : Hid (SerSt b.bt Rb Rb all.length w2 (cntR g all out) W5 v5 (out ++ [x]) ys) := Lib.hid (SEB.out.app HBT.out u5 (by
              unfold Ow
              rw [flat_append, List.length_append, HNO.out]
              exact o5) (b5.imp id (fun e => ⟨_, e, Nat.le_refl _⟩)))
            obtain ⟨A5, c5, rfl, _, _⟩ := own_slice o5
            clear o5 u5 b5 SEB OWB HRW
            have TR5 : Hid (Blk W5 tb 65 #[.map (some b.bt), .map (some b.bw), .map (some b.br), .map (some b.be), .map (some b.bl), .nilIface, .slice A n k]) := Lib.hid (ST.out.tr.updP SE5.out.fr (KEEP.out tb ST.out.tr.lt (fun e => by have h1 := ST.out.rt; rw [e, ST.out.tx.1] at h1; cases h1)))
            obtain ⟨lg, lm, vv, ig, hvv, hown, hro, _⟩ := rows_at ST.out.ld.2 x
            have ho2 : w2.ownsRow w.heap.size 3 1 vv (succL g all x).length ((succL g all x).map (.int .i64)) := hown
            obtain ⟨ls, hls⟩ : ∃ ls, succL g all x = ls := ⟨_, rfl⟩
            rw [hls] at ho2
            have HLS := Lib.hid hls
            obtain ⟨A1, c1, rfl, hnc1, hcm1⟩ := own_slice ho2
            obtain ⟨n1, hn1⟩ : ∃ n1, ls.length = n1 := ⟨_, rfl⟩
            have hn160 : n1 ≤ 60 := by
              have : (succL g all x).length ≤ all.length := List.length_filter_le _ _
              rw [hls] at this
              omega
            rw [hn1] at ho2 hnc1 hvv hro
            have HN1 := Lib.hid hn1
            have OW := Lib.hid ho2
            have HRO := Lib.hid hro
            have hbl : ¬ (b.bl = b.bt ∨ Rb ≤ b.bl) := KEEP.out b.bl ST.out.ld.2.lt (fun e => by have h1 := ST.out.ld.1; rw [e, ST.out.tx.1] at h1; cases h1)
            have k4 : W5.cell? ⟨tb, 4, none⟩ = some (.map (some b.bl)) := TR5.out.cell 4
            have r4 : (Instr.lookup 63 (.map (some b.bl)) (.int .i64 x) false).run Tryz.prog W5 = .ok (.slice A1 n1 c1) W5 := by
              rw [run_lookup_int' Tryz.underlying63 Tryz.underlying3 (Tryz.zeroValue26 W5) (ig.updP SE5.out.fr hbl) x, hvv]
            clear hown hro hls hn1 ho2 ig hvv hbl hnc1 hcm1
            go_wp2_with fail
            clear k4 r4
            go_loopw [65] (fun u wx => ∃ j : Nat, u = .int .i64 j ∧ j ≤ n1 ∧ Hid (∃ zs, SerSt b.bt Rb Rb all.length w2 (cntI g all out x j) wx (.slice A5 (no + 1) c5) (out ++ [x]) zs ∧ zs.Perm (rdyI g all out x ys j))) (fun u _ => n1 - (intOf u).toNat)
            case atStart => exact ⟨0, rfl, by omega, Lib.hid ⟨ys, by rw [← cntI_start HG.out HXA.out HXO.out]; exact SE5.out, by simp [rdyI]⟩⟩
            case round =>
              obtain ⟨j, rfl, hj, HRELJ⟩ := hrel
              rename World => wx
              obtain ⟨zs, sz, pz⟩ := HRELJ.out
              have SZ := Lib.hid sz
              have PZ := Lib.hid pz
              clear sz pz
              by_cases hjn : j < n1
              · obtain ⟨y, hy⟩ : ∃ y, ls[j]? = some y := ⟨_, List.getElem?_eq_getElem (by rw [HN1.out]; exact hjn)⟩
                have HY : Hid ((succL g all x)[j]? = some y) := Lib.hid (by rw [HLS.out]; exact hy)
                have ow : wx.ownsRow w.heap.size 3 1 (.slice A1 n1 c1) n1 (ls.map (.int .i64)) := own_updP OW.out SZ.out.fr (fun q hq => KEEP.out q (own_lt OW.out hq).2 (fun e => by have h1 := HRO.out q hq; rw [e, ST.out.tx.1] at h1; cases h1))
                obtain ⟨lb, lc, lcur, e, _, _, _, _, _, _⟩ := own_form ow (by omega)
                injection e with e1 e2 e3
                subst e1 e3
                clear e2
                have f0 : wx.cell? ⟨lb, j, none⟩ = some (.int .i64 y) := own_cell ow j _ (by rw [List.getElem?_map, hy]; rfl)
                have tr := ST.out.tr.updP SZ.out.fr (KEEP.out tb ST.out.tr.lt (fun e => by have h1 := ST.out.rt; rw [e, ST.out.tx.1] at h1; cases h1))
                have f1 : wx.cell? ⟨tb, 0, none⟩ = some (.map (some b.bt)) := tr.cell 0
                obtain ⟨r, hr⟩ : ∃ r, remain g all (out ++ [x]) y = r := ⟨_, rfl⟩
                have HRR := Lib.hid hr
                have hr60 : r ≤ 60 := by rw [← hr]; exact Nat.le_trans (remain_len _) hcn
                have hat : cntI g all out x j y = some ((r : Int) + 1) := by rw [← hr]; exact cntI_at HY.out
                obtain ⟨z, hz⟩ : ∃ z : Int, (r : Int) + 1 = z := ⟨_, rfl⟩
                rw [hz] at hat
                have hz1 : 1 ≤ z := by omega
                have hz2 : z ≤ 61 := by omega
                have f2 : (Instr.lookup 59 (.map (some b.bt)) (.int .i64 y) false).run Tryz.prog wx = .ok (.int .i64 z) wx := by
                  rw [run_lookup_int' Tryz.underlying59 Tryz.underlying3 (Tryz.zeroValue3 wx) SZ.out.tx y, hat]
                  rfl
                obtain ⟨wy, f3, im, hu3⟩ := run_mapUpdate_int (P := Tryz.prog) Tryz.underlying59 Tryz.underlying3 SZ.out.tx y (.int .i64 (z - 1))
                have hnx : ∀ t, putI (fun k => (cntI g all out x j k).map (Value.int .i64)) y (.int .i64 (z - 1)) t = (cntI g all out x (j + 1) t).map (Value.int .i64) := fun t => by
                  rw [cntI_next HG.out HY.out t]
                  unfold putI
                  by_cases e : t = y
                  · rw [if_pos e, if_pos e, hr]
                    show _ = some (Value.int .i64 (r : Int))
                    rw [show z - 1 = (r : Int) by omega]
                  · rw [if_neg e, if_neg e]
                have im2 : IMap wy .i64 b.bt (fun k => (cntI g all out x (j + 1) k).map (Value.int .i64)) all.length := by
                  have h1 := im.congr hnx
                  rw [hat] at h1
                  exact h1
                have SY := Lib.hid (SZ.out.setTx HBT.out hu3 im2)
                have f4 : wy.cell? ⟨tb, 0, none⟩ = some (.map (some b.bt)) := (ST.out.tr.updP SY.out.fr (KEEP.out tb ST.out.tr.lt (fun e => by have h1 := ST.out.rt; rw [e, ST.out.tx.1] at h1; cases h1))).cell 0
                have f5 : (Instr.lookup 59 (.map (some b.bt)) (.int .i64 y) false).run Tryz.prog wy = .ok (.int .i64 (z - 1)) wy := by
                  rw [run_lookup_int' Tryz.underlying59 Tryz.underlying3 (Tryz.zeroValue3 wy) SY.out.tx y, ← hnx y]
                  unfold putI
                  rw [if_pos rfl]
                  rfl
                have q3 : (0 : Int) ≤ (j : Int) := by omega
                have q4 : (j : Int) < (n1 : Int) := by omega
                have HZR : Hid (z - 1 = (r : Int)) := Lib.hid (by omega)
                clear hat hr hz im im2 hu3 hnx tr ow hy HRELJ
                by_cases h0 : r = 0
                · have d : ((z - 1 : Int) == 0) = true := by have := HZR.out; simp; omega
                  have HZ0 := Lib.hid h0
                  have hzl : zs.length < 1000 := by
                    have h1 := PZ.out.length_eq
                    have h2 := rdyI_len (g := g) (all := all) (out := out) (n := x) (H := ys) (i := j)
                    have h3 := PB.out.length_eq
                    rw [List.length_cons] at h3
                    have h4 := readyL_len (g := g) (all := all) (out := out)
                    omega
                  clear h0
                  go_wp2_with fail
                  refine (hp_push Rb Rb zs y wy SY.out.rd SY.out.hp hzl).mono ?_; rintro e wv ⟨rfl, us, rdv, pv, hv, fv⟩
                  have SV := Lib.hid (SY.out.heap HBT.out rdv hv fv)
                  have PV : Hid (us.Perm (rdyI g all out x ys (j + 1))) := Lib.hid (by
                    rw [rdyI_next HY.out, HRR.out, if_pos HZ0.out]
                    exact pv.trans ((List.Perm.cons y PZ.out).trans (List.perm_append_comm (l₁ := [y])))) 
                  clear rdv pv hv fv f0 f1 f2 f3 f4 f5
                  go_wp2_with fail
                  go_roundw
                  case rel => exact ⟨j + 1, by go_num, by omega, Lib.hid ⟨us, SV.out, PV.out⟩⟩
                  case measure => simp [intOf]; omega
                · have d : ((z - 1 : Int) == 0) = false := by have := HZR.out; simp; omega
                  have HZ0 := Lib.hid h0
                  clear h0
                  go_wp2_with fail
                  go_roundw
                  case rel => exact ⟨j + 1, by go_num, by omega, Lib.hid ⟨zs, SY.out, by rw [rdyI_next HY.out, HRR.out, if_neg HZ0.out, List.append_nil]; exact PZ.out⟩⟩
                  case measure => simp [intOf]; omega
              · have : j = n1 := by omega
                subst this
                have hle : (succL g all x).length ≤ j := by rw [HLS.out, HN1.out]; exact Nat.le_refl _
                have HREL : Hid (∃ out xs, SerSt b.bt Rb Rb all.length w2 (cntR g all out) wx (.slice A5 (no + 1) c5) out xs ∧ xs.Perm (readyL g all out) ∧ Ser g all out ∧ serialL g all = serialGo g all (all.length - out.length) out) := Lib.hid ⟨out ++ [x], zs, by rw [← cntI_end hle]; exact SZ.out, by
                  refine PZ.out.trans ?_
                  unfold rdyI
                  rw [List.take_of_length_le hle]
                  exact ready_next HG.out SR.out HXA.out HXP.out PB.out, SR1.out, HV1.out⟩
                clear hle
                go_wp2_with fail
                go_roundw
                case rel => exact HREL
                case measure => simp [lenOfS]; omega
      · have hxL : (xk, xv, xst) ∈ L := (HND.out.2 _ (hp.mem_iff.1 (List.mem_cons_self ..)))
        have hfx : (cntR g all [] xk).map (Value.int .i64) = some xv := by rw [HFI.out, findI_mem HKE.out hxL]
        obtain ⟨hxa, rfl⟩ : xk ∈ all ∧ xv = .int .i64 (remain g all [] xk : Int) := by
          unfold cntR at hfx
          by_cases e : xk ∈ all
          · rw [if_pos e] at hfx; cases hfx; exact ⟨e, rfl⟩
          · rw [if_neg e] at hfx; cases hfx
        obtain ⟨rm, hrm⟩ : ∃ rm, remain g all [] xk = rm := ⟨_, rfl⟩
        have SE7 : Hid (SerSt b.bt Rb Rb all.length w2 (cntR g all []) w7 (.slice none 0 0) [] xs) := Lib.hid (SE.out.itr HR0.out HBT.out hit u2)
        have HGO : Hid (∀ z : IEnt, z ∉ rest' ↔ z ∉ rest ∨ z = (xk, .int .i64 (remain g all [] xk : Int), xst)) := Lib.hid (gone_step hp HND.out.1)
        have IT2 := Lib.hid it2
        have HP := Lib.hid hp.length_eq
        have HXL := Lib.hid hxL
        have HXA := Lib.hid hxa
        have HXN : Hid (xk ∉ xs) := Lib.hid (fun hm => by
          obtain ⟨z, z1, z2, z3, _⟩ := (HM.out xk).1 hm
          have : z = (xk, .int .i64 (remain g all [] xk : Int), xst) := key_uniq HKE.out z1 hxL z3
          rw [this] at z2
          exact z2 (hp.mem_iff.1 (List.mem_cons_self ..)))
        clear hit hp it2 u2 hxL hxa hfx
        rw [hrm] at r2 r3 HGO HXL
        have HRM := Lib.hid hrm
        clear hrm
        have hrm0 : rm ≤ 60 := by rw [← HRM.out]; exact Nat.le_trans (remain_len _) hcn
        by_cases h0 : rm = 0
        · have HZ := Lib.hid h0
          have d : ((rm : Int) == 0) = true := by simp [h0]
          have hxl : xs.length < 1000 := by
            have := len_sub HNX.out (m := all) (fun y hy => by
              obtain ⟨z, z1, _, rfl, _⟩ := (HM.out y).1 hy
              have := findI_mem HKE.out z1
              rw [← HFI.out] at this
              unfold cntR at this
              by_cases e : z.1 ∈ all
              · exact e
              · rw [if_neg e] at this; cases this)
            omega
          clear h0
          go_wp2_with fail
          refine (hp_push Rb Rb xs xk w7 SE7.out.rd SE7.out.hp hxl).mono ?_; rintro e w8 ⟨rfl, ys, rd8, p8, h8, f8⟩
          have SE8 := Lib.hid (SE7.out.heap HBT.out rd8 h8 f8)
          have IT8 := Lib.hid (IT2.out.updP f8.1 (fun hx => (SE7.out.rd.not_iter IT2.out).1 hx) (fun hx => (SE7.out.rd.not_iter IT2.out).2 hx))
          have P8 := Lib.hid p8
          clear rd8 p8 h8 f8
          have HLL : Hid (itLeft b.bt R0 w8 < itLeft b.bt R0 wq) := Lib.hid (by rw [IT8.out.left, HLF.out, ← HP.out]; simp)
          have HREL : Hid (∃ rest xs, IIter w8 .i64 b.bt R0 L rest ∧ SerSt b.bt Rb Rb all.length w2 (cntR g all []) w8 (.slice none 0 0) [] xs ∧ xs.Nodup ∧ (∀ y, y ∈ xs ↔ ∃ x, x ∈ L ∧ x ∉ rest ∧ x.1 = y ∧ remain g all [] y = 0)) := Lib.hid ⟨rest', ys, IT8.out, SE8.out, P8.out.symm.nodup_iff.1 (List.nodup_cons.2 ⟨HXN.out, HNX.out⟩), fun y => by
            rw [P8.out.mem_iff, List.mem_cons, HM.out]
            constructor
            · rintro (rfl | ⟨x, h1, h2, h3⟩)
              · exact ⟨_, HXL.out, (HGO.out _).2 (.inr rfl), rfl, by rw [HRM.out]; exact HZ.out⟩
              · exact ⟨x, h1, (HGO.out x).2 (.inl h2), h3⟩
            · rintro ⟨x, h1, h2, h3, h4⟩
              rcases (HGO.out x).1 h2 with h5 | rfl
              · exact .inr ⟨x, h1, h5, h3, h4⟩
              · exact .inl h3.symm⟩
          go_wp2_with fail
          go_roundw
          case rel => exact HREL
          case measure => exact HLL.out
        · have HZ : Hid (rm ≠ 0) := Lib.hid h0
          have d : ((rm : Int) == 0) = false := by simp [h0]
          have HLL : Hid (itLeft b.bt R0 w7 < itLeft b.bt R0 wq) := Lib.hid (by rw [IT2.out.left, HLF.out, ← HP.out]; simp)
          have HREL : Hid (∃ rest xs, IIter w7 .i64 b.bt R0 L rest ∧ SerSt b.bt Rb Rb all.length w2 (cntR g all []) w7 (.slice none 0 0) [] xs ∧ xs.Nodup ∧ (∀ y, y ∈ xs ↔ ∃ x, x ∈ L ∧ x ∉ rest ∧ x.1 = y ∧ remain g all [] y = 0)) := Lib.hid ⟨rest', xs, IT2.out, SE7.out, HNX.out, fun y => by
            rw [HM.out]
            constructor
            · rintro ⟨x, h1, h2, h3⟩
              exact ⟨x, h1, (HGO.out x).2 (.inl h2), h3⟩
            · rintro ⟨x, h1, h2, h3, h4⟩
              rcases (HGO.out x).1 h2 with h5 | rfl
              · exact ⟨x, h1, h5, h3, h4⟩
              · subst h3
                exact absurd (HRM.out.symm.trans h4) HZ.out⟩
          clear h0
          go_wp2_with fail
          go_roundw
          case rel => exact HREL
          case measure => exact HLL.out
  · have H1 : Hid ((wrongE l).1 ≠ 0) := Lib.hid (by omega)
    have ht := HBAD.out H1.out
    subst ht
    clear h1 h2
    go_wp2_with fail
    go_ret2
    unfold SerialT
    exact ⟨_, _, rfl, U1.out, fun _ => ⟨rfl, HE.out⟩, fun h => absurd h H1.out⟩
  · have H1 : Hid ((wrongE l).1 ≠ 0) := Lib.hid (by omega)
    have ht := HBAD.out H1.out
    subst ht
    clear h1 h2 hb
    go_wp2_with fail
    go_ret2
    unfold SerialT
    exact ⟨_, _, rfl, U1.out, fun _ => ⟨rfl, HE.out⟩, fun h => absurd h H1.out⟩
end Go.Proofs.YteddiknlcdbhjaaGreat

namespace Go.Proofs.YteddiknlcdbhjaaGreat
open Go Go.RowKit TrP
open Vk (flat_intK)
attribute [local go_sem] litStep_value

/-- The first i and the last i have changed places. -/
def RevI (xs L : List Int) (i : Nat) : Prop := L.length = xs.length ∧ ∀ k, k < xs.length → L.getD k 0 = if k < i ∨ xs.length - i ≤ k then xs.getD (xs.length - 1 - k) 0 else xs.getD k 0
theorem RevI.start (xs : List Int) : RevI xs xs 0 := ⟨rfl, fun k hk => by rw [if_neg (by omega)]⟩
theorem getD_setL {L : List Int} {i k : Nat} {x : Int} (hi : i < L.length) : (L.set i x).getD k 0 = if k = i then x else L.getD k 0 := by
  rw [List.getD_eq_getElem?_getD, List.getElem?_set]
  by_cases e : k = i
  · subst e; simp [hi]
  · rw [if_neg (fun h => e h.symm), if_neg e, List.getD_eq_getElem?_getD]
theorem RevI.step {xs L : List Int} {i : Nat} (h : RevI xs L i) (hi : i < xs.length - 1 - i) : RevI xs ((L.set i (L.getD (xs.length - 1 - i) 0)).set (xs.length - 1 - i) (L.getD i 0)) (i + 1) := by
  obtain ⟨h1, h2⟩ := h
  refine ⟨by simp [h1], fun k hk => ?_⟩
  rw [getD_setL (by simp; omega), getD_setL (by omega)]
  have e1 := h2 i (by omega)
  have e2 := h2 (xs.length - 1 - i) (by omega)
  have e3 := h2 k hk
  rw [if_neg (by omega)] at e1 e2
  by_cases k1 : k = xs.length - 1 - i
  · rw [if_pos k1, if_pos (by omega), e1]
    congr 1
    omega
  · rw [if_neg k1]
    by_cases k2 : k = i
    · rw [if_pos k2, if_pos (by omega), e2, k2]
    · rw [if_neg k2, e3]
      by_cases k3 : k < i ∨ xs.length - i ≤ k
      · rw [if_pos k3, if_pos (by omega)]
      · rw [if_neg k3, if_neg (by omega)]
theorem RevI.done {xs L : List Int} {i : Nat} (h : RevI xs L i) (hi : ¬ (i + i + 1 < xs.length)) : L = xs.reverse := by
  obtain ⟨h1, h2⟩ := h
  refine List.ext_getElem (by simp [h1]) (fun k hk hk' => ?_)
  rw [List.length_reverse] at hk'
  have e := h2 k hk'
  rw [List.getElem_reverse]
  rw [List.getD_eq_getElem?_getD, List.getElem?_eq_getElem hk] at e
  by_cases k3 : k < i ∨ xs.length - i ≤ k
  · rw [if_pos k3, List.getD_eq_getElem?_getD, List.getElem?_eq_getElem (by omega)] at e
    simpa using e
  · have : k = xs.length - 1 - k := by omega
    rw [if_neg k3, List.getD_eq_getElem?_getD, List.getElem?_eq_getElem hk'] at e
    simp at e
    rw [e]
    congr 1
def RevPost (B : Nat) (g n c : Nat) (xs : List Int) (w : World) (e : Ending) (w' : World) : Prop := e = .returned (.tuple #[]) ∧ w'.ownsRow B 3 1 (.slice (some ⟨g, 0, none⟩) n c) n (xs.reverse.map (.int .i64)) ∧ Upd [g] w w'
set_option maxRecDepth 100000 in
set_option maxHeartbeats 2000000 in
theorem reverse_ok (B g n c : Nat) (xs : List Int) (w : World) (h : w.ownsRow B 3 1 (.slice (some ⟨g, 0, none⟩) n c) n (xs.map (.int .i64))) (hn : xs.length = n) (hl : n ≤ 1000) :
    Calls Tryz.prog 55 #[.slice (some ⟨g, 0, none⟩) n c] w fun e w' => RevPost B g n c xs w e w' := by
  have H := Lib.hid h
  have HN := Lib.hid hn
  clear h hn
  go_enter Tryz.func55, Tryz.ntmps55
  go_wp2_with fail
  go_loopw [2, 3] (fun u v wq => ∃ i : Nat, u = .int .i64 i ∧ v = .int .i64 ((n : Int) - 1 - i) ∧ i ≤ n ∧ Hid (∃ L, RevI xs L i ∧ wq.ownsRow B 3 1 (.slice (some ⟨g, 0, none⟩) n c) n (L.map (.int .i64)) ∧ Upd [g] w wq)) (fun u _ _ => n - (intOf u).toNat)
  case atStart => exact ⟨0, rfl, by simp, by omega, Lib.hid ⟨xs, RevI.start xs, H.out, .refl _ _⟩⟩
  case round =>
    obtain ⟨i, rfl, rfl, hi, HREL⟩ := hrel
    rename World => wq
    obtain ⟨L, hr, ho, hu⟩ := HREL.out
    have HR := Lib.hid hr
    have HO := Lib.hid ho
    have HU := Lib.hid hu
    have HLL : Hid (L.length = n) := Lib.hid (hr.1.trans HN.out)
    clear hr hu HREL
    by_cases hlt : i + i + 1 < n
    · obtain ⟨j, hj⟩ : ∃ j, n - 1 - i = j := ⟨_, rfl⟩
      have hji : (n : Int) - 1 - (i : Int) = (j : Int) := by omega
      obtain ⟨x, hx⟩ : ∃ x, L[i]? = some x := ⟨_, List.getElem?_eq_getElem (by rw [HLL.out]; omega)⟩
      obtain ⟨y, hy⟩ : ∃ y, L[j]? = some y := ⟨_, List.getElem?_eq_getElem (by rw [HLL.out]; omega)⟩
      have HST : Hid (RevI xs ((L.set i y).set j x) (i + 1)) := Lib.hid (by
        have h1 := HR.out.step (by rw [HN.out]; omega)
        rw [HN.out, hj] at h1
        have e1 : L.getD i 0 = x := by rw [List.getD_eq_getElem?_getD, hx]; rfl
        have e2 : L.getD j 0 = y := by rw [List.getD_eq_getElem?_getD, hy]; rfl
        rw [e1, e2] at h1
        exact h1)
      rw [hji]
      have CS : Hid (∀ W, Upd [] wq.drew W → W.cell? ⟨g, i, none⟩ = some (.int .i64 x) ∧ W.cell? ⟨g, j, none⟩ = some (.int .i64 y)) := Lib.hid (fun W hW => by
        have hu : Upd [] wq W := (Upd.refl [] wq).drew.trans hW
        have ho' := own_upd0 ho hu
        exact ⟨own_cell ho' _ _ (map_int_get hx), own_cell ho' _ _ (map_int_get hy)⟩)
      have q1 : (0 : Int) ≤ (i : Int) := by omega
      have q2 : (i : Int) < (n : Int) := by omega
      have q3 : (0 : Int) ≤ (j : Int) := by omega
      have q4 : (j : Int) < (n : Int) := by omega
      have q5 : (i : Int) < (j : Int) := by omega
      have q6 : i < j := by omega
      have HJ : Hid ((n : Int) - 1 - ((i + 1 : Nat) : Int) = (j : Int) - 1) := Lib.hid (by omega)
      clear ho hx hy hji hj
      go_wp2_with fail
      refine wp_invNT 12 [] [] (by kernel_rfl) (by simp) (by kernel_rfl) (by kernel_rfl) trivial ?_
      simp only [List.take_succ_cons, List.take_zero, List.drop_succ_cons, List.drop_zero]
      with_reducible apply wpV_light
      · simp only [lightOp]
      · intro W hU hF
        have f0 := CS.out W hU
        clear hU hF
        go_simp
        exact rfl
      simp only [Act.put, List.setIfInBounds_toArray, List.set_cons_zero, List.set_cons_succ]
      with_reducible apply wpV_light
      · simp only [lightOp]
      · intro W hU hF
        have f0 := CS.out W hU
        clear hU hF
        go_simp
        exact rfl
      simp only [Act.put, List.setIfInBounds_toArray, List.set_cons_zero, List.set_cons_succ]
      with_reducible apply wpV_light
      · simp only [lightOp]
      · intro W hU hF
        have f0 := CS.out W hU
        clear hU hF
        go_simp
        exact rfl
      simp only [Act.put, List.setIfInBounds_toArray, List.set_cons_zero, List.set_cons_succ]
      with_reducible apply wpV_light
      · simp only [lightOp]
      · intro W hU hF
        have f0 := CS.out W hU
        clear hU hF
        go_simp
        exact rfl
      simp only [Act.put, List.setIfInBounds_toArray, List.set_cons_zero, List.set_cons_succ]
      with_reducible apply wpV_light
      · simp only [lightOp]
      · intro W hU hF
        have f0 := CS.out W hU
        clear hU hF
        go_simp
        exact rfl
      simp only [Act.put, List.setIfInBounds_toArray, List.set_cons_zero, List.set_cons_succ]
      with_reducible apply wpV_light
      · simp only [lightOp]
      · intro W hU hF
        have f0 := CS.out W hU
        clear hU hF
        go_simp
        exact rfl
      simp only [Act.put, List.setIfInBounds_toArray, List.set_cons_zero, List.set_cons_succ]
      with_reducible apply wpV_light
      · simp only [lightOp]
      · intro W hU hF
        have f0 := CS.out W hU
        clear hU hF
        go_simp
        exact rfl
      simp only [Act.put, List.setIfInBounds_toArray, List.set_cons_zero, List.set_cons_succ]
      with_reducible apply wpV_light
      · simp only [lightOp]
      · intro W hU hF
        have f0 := CS.out W hU
        clear hU hF
        go_simp
        exact rfl
      simp only [Act.put, List.setIfInBounds_toArray, List.set_cons_zero, List.set_cons_succ]
      with_reducible apply wpV_light
      · simp only [lightOp]
      · intro W hU hF
        have f0 := CS.out W hU
        clear hU hF
        go_simp
        exact rfl
      simp only [Act.put, List.setIfInBounds_toArray, List.set_cons_zero, List.set_cons_succ]
      with_reducible apply wpV_light
      · simp only [lightOp]
      · intro W hU hF
        have f0 := CS.out W hU
        clear hU hF
        go_simp
        exact rfl
      simp only [Act.put, List.setIfInBounds_toArray, List.set_cons_zero, List.set_cons_succ]
      with_reducible apply wpV_light
      · simp only [lightOp]
      · intro W hU hF
        have f0 := CS.out W hU
        clear hU hF
        go_simp
        exact rfl
      simp only [Act.put, List.setIfInBounds_toArray, List.set_cons_zero, List.set_cons_succ]
      with_reducible apply wpV_light
      · simp only [lightOp]
      · intro W hU hF
        have f0 := CS.out W hU
        clear hU hF
        go_simp
        exact rfl
      simp only [Act.put, List.setIfInBounds_toArray, List.set_cons_zero, List.set_cons_succ]
      refine wpV_end (fun W hU _ _ => ?_)
      have U2 : Hid (Upd [] wq W) := Lib.hid ((Upd.refl [] wq).drew.trans hU)
      clear hU
      have O2 : Hid (W.ownsRow B 3 1 (.slice (some ⟨g, 0, none⟩) n c) n (L.map (.int .i64))) := Lib.hid (own_upd0 HO.out U2.out)
      have fz : ∀ k, W.frozen? ⟨g, k, none⟩ = false := own_frozen O2.out
      have fl : g < W.heap.size := by obtain ⟨_, _, hb, _⟩ := own_open O2.out; exact hb.lt
      obtain ⟨f1, f2⟩ := CS.out W ((Upd.refl [] wq.drew).trans (by
        have := U2.out
        exact ⟨this.os, this.tape, this.output, this.size, this.keep⟩))
      refine wpT_op (by rfl) (fun K hK => ?_)
      go_wp2_with fail
      refine hK.out _ _ ?_
      clear hK K
      try simp only [Act.put, List.setIfInBounds_toArray, List.set_cons_zero, List.set_cons_succ]
      refine wpT_op (by rfl) (fun K hK => ?_)
      go_wp2_with fail
      refine hK.out _ _ ?_
      clear hK K
      try simp only [Act.put, List.setIfInBounds_toArray, List.set_cons_zero, List.set_cons_succ]
      have O3 : Hid ((W.setCell ⟨g, i, none⟩ (.int .i64 y)).ownsRow B 3 1 (.slice (some ⟨g, 0, none⟩) n c) n ((L.set i y).map (.int .i64))) := Lib.hid (by rw [List.map_set]; exact own_set O2.out _ _)
      have U3 : Hid (Upd [g] wq (W.setCell ⟨g, i, none⟩ (.int .i64 y))) := Lib.hid ((U2.out.mono (by simp)).setCell (.inl (by simp)) _)
      generalize (W.setCell ⟨g, i, none⟩ (.int .i64 y)) = W3 at *
      clear f1 f2 fz fl O2 U2
      obtain ⟨z, hz⟩ : ∃ z, (L.set i y)[j]? = some z := ⟨_, List.getElem?_eq_getElem (by rw [List.length_set, HLL.out]; omega)⟩
      have f1 := own_cell O3.out _ _ (map_int_get hz)
      clear hz
      have fz : ∀ k, W3.frozen? ⟨g, k, none⟩ = false := own_frozen O3.out
      have fl : g < W3.heap.size := by obtain ⟨_, _, hb, _⟩ := own_open O3.out; exact hb.lt
      refine wpT_op (by rfl) (fun K hK => ?_)
      go_wp2_with fail
      refine hK.out _ _ ?_
      clear hK K
      try simp only [Act.put, List.setIfInBounds_toArray, List.set_cons_zero, List.set_cons_succ]
      refine wpT_op (by rfl) (fun K hK => ?_)
      go_wp2_with fail
      refine hK.out _ _ ?_
      clear hK K
      try simp only [Act.put, List.setIfInBounds_toArray, List.set_cons_zero, List.set_cons_succ]
      have O4 : Hid ((W3.setCell ⟨g, j, none⟩ (.int .i64 x)).ownsRow B 3 1 (.slice (some ⟨g, 0, none⟩) n c) n (((L.set i y).set j x).map (.int .i64))) := Lib.hid (by rw [List.map_set]; exact own_set O3.out _ _)
      have U4 : Hid (Upd [g] wq (W3.setCell ⟨g, j, none⟩ (.int .i64 x))) := Lib.hid (U3.out.setCell (.inl (by simp)) _)
      generalize (W3.setCell ⟨g, j, none⟩ (.int .i64 x)) = W4 at *
      clear f1 fz fl O3 U3
      refine wpT_end ?_
      go_wp2_with fail
      go_roundw
      case rel => exact ⟨i + 1, by go_num, by rw [HJ.out], by omega, Lib.hid ⟨_, HST.out, O4.out, HU.out.trans U4.out⟩⟩
      case measure => simp [intOf]; omega
    · have d : decide ((i : Int) < (n : Int) - 1 - (i : Int)) = false := by simp; omega
      go_wp2_with fail
      go_end0
      refine ⟨rfl, ?_, HU.out⟩
      rw [← HR.out.done (by rw [HN.out]; exact hlt)]
      exact HO.out
end Go.Proofs.YteddiknlcdbhjaaGreat

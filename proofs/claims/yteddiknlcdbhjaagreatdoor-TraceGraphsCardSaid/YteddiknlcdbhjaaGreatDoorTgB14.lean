/-
  tracer.pairs.
  Counting who is ahead, step by step: no Go in sight.
  What trace.Serial keeps while it orders.
  trace.trace.
  concordref28: put.
-/
import Derived.Test.YteddiknlcdbhjaaGreatDoorTgB8
import Derived.Test.YteddiknlcdbhjaaGreatDoorTgB13
import Derived.BigRegion
import Derived.Test.YteddiknlcdbhjaaGreatDoorTgB6
import Derived.Test.YteddiknlcdbhjaaGreatDoorTgB11
import Derived.BigQuiet
import Derived.Deep.QuietTactic
import Derived.Test.YteddiknlcdbhjaaGreatDoorTgB10
import Derived.Deep.Cut
import Derived.Deep.CutRange
set_option linter.unusedVariables false
namespace Go.Proofs.YteddiknlcdbhjaaGreatDoor.Vk
open Go Go.RowKit TrP
attribute [local go_sem] litStep_value run_makeMap_plain

def metF (es : List Ed) (p : Int × Int) : Option Value := if metN es p = 0 then none else some (.int .i64 (metN es p))
def cntQ (l : List Ev) (es : List Ed) : Int → Option Int := fun t => if t ∈ l.map (·.txn) then some (cntP (pairsL es) t : Int) else none
/-- Who stands behind whom has turned. -/
theorem _root_.Go.Proofs.YteddiknlcdbhjaaGreatDoor.TrSt.setLd {w W : World} {ρ ρ' : Rho} {B tb : Nat} {b : TB} {fv sv : Value} {T : TC} {O : Nat → Prop} (h : TrSt w ρ B tb b fv sv T) (hu : UpdP O w W) (ha : Agr w ρ ρ') (hhi : ∀ x, ρ' x ≠ .other → B ≤ x) (ho : ∀ x, O x → ρ x = .leads ∨ ∃ k, ρ x = .lead k) {g : Int → List Int} (im : RowsM W ρ' B 3 b.bl .lead g) : TrSt W ρ' B tb b fv sv { T with ld := g } := by
  have ho' : ∀ (r : Ro), r ≠ .leads → (∀ k, r ≠ .lead k) → ∀ x, O x → ρ x ≠ r := fun r h1 h2 x hx e => by
    rcases ho x hx with g | ⟨k, g⟩
    · exact h1 (e.symm.trans g)
    · exact h2 k (e.symm.trans g)
  exact { tr := h.tr.updP hu (fun e => ho' .tr (by simp) (by simp) _ e h.rt), rt := (ha _ h.tr.lt).trans h.rt, tx := h.tx.fr hu ha (ho' _ (by simp) (by simp)), wr := h.wr.fr hu ha (fun x hx => ⟨ho' _ (by simp) (by simp) x hx, fun c => ho' _ (by simp) (by simp) x hx⟩), rd := h.rd.fr hu ha (fun x hx => ⟨ho' _ (by simp) (by simp) x hx, fun c => ho' _ (by simp) (by simp) x hx, fun c k => ho' _ (by simp) (by simp) x hx⟩), ed := h.ed.fr hu ha (ho' _ (by simp) (by simp)), ld := ⟨(ha _ h.ld.2.lt).trans h.ld.1, im⟩, hi := hhi }
theorem cntQ_next {l : List Ev} {es : List Ed} {a b c : Int} (h : (a, b) ∉ pairsL es) (hb : b ∈ l.map (·.txn)) (k : Int) : putI (fun k => (cntQ l es k).map (Value.int .i64)) b (.int .i64 ((cntP (pairsL es) b : Nat) + 1 : Int)) k = (cntQ l (es ++ [(a, b, c)]) k).map (Value.int .i64) := by
  unfold putI cntQ
  rw [pairsL_snoc, cntP_add h]
  by_cases e : k = b
  · subst e; rw [if_pos rfl, if_pos hb, if_pos rfl]; simp
  · rw [if_neg e, if_neg e]
def PairsPost (ρ : Rho) (B tb : Nat) (b : TB) (fv sv : Value) (l : List Ev) (cn : Nat) (S : List Ed) (w : World) (e : Ending) (w' : World) : Prop := e = .returned (.tuple #[]) ∧ ∃ ρ', Tw ρ ρ' w w' ∧ TrSt w' ρ' B tb b fv sv (tcOf (cntQ l (graphR l)) cn l S (ldP (pairsL (graphR l))))
set_option maxRecDepth 100000 in
set_option maxHeartbeats 4000000 in
theorem t_pairs (ρ : Rho) (B tb : Nat) (b : TB) (fv sv : Value) (l : List Ev) (cn : Nat) (S : List Ed) (w : World) (h : TrSt w ρ B tb b fv sv (tcOf (cntOf l) cn l S (fun _ => []))) (hS : ∀ x, x ∈ S ↔ x ∈ graphR l) (hl : (graphR l).length ≤ 1000) (hto : ∀ e ∈ graphR l, e.2.1 ∈ l.map (·.txn)) (hnew : ∀ x, w.heap.size ≤ x → ρ x = .other) :
    Calls Tryz.prog 22 #[.pointer (some ⟨tb, 0, none⟩)] w fun e w' => PairsPost ρ B tb b fv sv l cn S w e w' := by
  obtain ⟨g, hg⟩ : ∃ g, graphR l = g := ⟨_, rfl⟩
  have HG := Lib.hid hg
  have hrise : RiseE g := by rw [← hg]; exact (graphR_rise l).1
  rw [hg] at hl hto hS
  have HR := Lib.hid hrise
  have HTO := Lib.hid hto
  have HS := Lib.hid hS
  have HNEW := Lib.hid hnew
  have hBw : B ≤ w.heap.size := Nat.le_trans (h.hi tb (by rw [h.rt]; simp)) (Nat.le_of_lt h.tr.lt)
  have HB := Lib.hid hBw
  obtain ⟨mb, hmb⟩ : ∃ mb, w.heap.size = mb := ⟨_, rfl⟩
  have HMB := Lib.hid hmb
  obtain ⟨ρ1, hρ1⟩ : ∃ ρ1, setR ρ mb .aux = ρ1 := ⟨_, rfl⟩
  have H1 : Hid (TrSt (w.alloc (.map #[] 0)) ρ1 B tb b fv sv (tcOf (cntOf l) cn l S (fun _ => []))) := Lib.hid (h.fr (O := fun _ => False) (UpdP.of_upd ((Upd.refl [] w).alloc _) (by simp)) (by rw [← hρ1, ← hmb]; exact Agr.set (Nat.le_refl _) _) (fun x hx => by
    rw [← hρ1] at hx
    unfold setR at hx
    by_cases e : x = mb
    · omega
    · rw [if_neg e] at hx; exact h.hi x hx) (fun _ h => h.elim))
  have HA1 : Hid (ρ1 mb = .aux) := Lib.hid (by rw [← hρ1]; exact setR_at _ _ _)
  have HNE1 : Hid (∀ x, ρ1 x ≠ .other → ρ x ≠ .other ∨ w.heap.size ≤ x) := Lib.hid (fun x hx => by
    rw [← hρ1] at hx
    unfold setR at hx
    by_cases e : x = mb
    · exact .inr (by omega)
    · rw [if_neg e] at hx; exact .inl hx)
  have HAG1 : Hid (Agr w ρ ρ1) := Lib.hid (by rw [← hρ1, ← hmb]; exact Agr.set (Nat.le_refl _) _)
  have HNEW1 : Hid (∀ x, mb < x → ρ1 x = .other) := Lib.hid (fun x hx => by
    rw [← hρ1]
    unfold setR
    rw [if_neg (by omega)]
    exact hnew x (by omega))
  have M1 : Hid (KMap (w.alloc (.map #[] 0)) kP mb (fun _ => none) 0) := Lib.hid (by rw [← hmb]; exact KMap.new w kP)
  have U1 : Hid (Upd [] w (w.alloc (.map #[] 0))) := Lib.hid ((Upd.refl [] w).alloc _)
  clear h hS hto hnew hrise hρ1 hBw hg
  go_enter Tryz.func22, Tryz.ntmps22
  go_wp2_with fail
  clear hmb
  generalize w.alloc (.map #[] 0) = w1 at *
  refine (t_all ρ1 B tb b fv sv _ w1 H1.out (fun L hL hm => ?_)).mono ?_
  · have hp : L.Perm g := (List.perm_ext_iff_of_nodup hL (HR.out.imp (fun h e => by subst e; rw [ltE_irr] at h; cases h))).2 (fun x => (hm x).trans (HS.out x))
    rw [hp.length_eq]
    exact hl
  rintro e w2 ⟨gv, G, rfl, hr, hm, ho, u2⟩
  have hG : G = g := riseE_uniq hr HR.out (fun x => (hm x).trans (HS.out x))
  subst hG
  obtain ⟨A, k, rfl, hgn, hgk⟩ := ho.form
  obtain ⟨n, hn⟩ : ∃ n, G.length = n := ⟨_, rfl⟩
  rw [hn] at ho hgn hl ⊢
  have HN := Lib.hid hn
  have HO := Lib.hid ho
  have S2 := Lib.hid (H1.out.upd0 u2)
  have M2 := Lib.hid (M1.out.upd u2 (by simp))
  have U2 := Lib.hid (U1.out.trans u2)
  have SZ1 : Hid (mb < w1.heap.size) := Lib.hid M1.out.lt
  clear hr hm ho u2 M1 H1 hn U1
  go_wp2_with fail
  go_loopw [10] (fun u wq => ∃ j : Nat, u = .int .i64 j ∧ j ≤ n ∧ Hid (∃ ρx nm, Tw ρ1 ρx w2 wq ∧ TrSt wq ρx B tb b fv sv (tcOf (cntQ l (G.take j)) cn l S (ldP (pairsL (G.take j)))) ∧ KMap wq kP mb (metF (G.take j)) nm ∧ ρx mb = .aux)) (fun u _ => n - (intOf u).toNat)
  case atStart => exact ⟨0, rfl, by omega, Lib.hid ⟨ρ1, 0, Tw.refl _ _, (by rw [List.take_zero]; exact S2.out), M2.out.congr (fun k => by simp [metF, metN]), HA1.out⟩⟩
  case round =>
    obtain ⟨j, rfl, hj, HREL⟩ := hrel
    rename World => wq
    by_cases hjn : j < n
    · obtain ⟨⟨x0, x1, x2⟩, hx⟩ : ∃ x, G[j]? = some x := ⟨_, List.getElem?_eq_getElem (by rw [HN.out]; omega)⟩
      obtain ⟨ρx, nm, tw, sx, mx, ax⟩ := HREL.out
      have TW := Lib.hid tw
      have SX := Lib.hid sx
      have MX := Lib.hid mx
      have AX := Lib.hid ax
      have TK : Hid (G.take (j + 1) = G.take j ++ [(x0, x1, x2)]) := Lib.hid (by rw [List.take_add_one, hx]; rfl)
      have HX1 : Hid (x1 ∈ l.map (·.txn)) := Lib.hid (HTO.out _ (List.mem_of_getElem? hx))
      have hjl : (G.take j).length ≤ 1000 := by rw [List.length_take]; omega
      obtain ⟨es, hes⟩ : ∃ es, G.take j = es := ⟨_, rfl⟩
      rw [hes] at SX MX TK hjl
      have HES := Lib.hid hes
      obtain ⟨gb, c, cur, e, _, _, _, _, _, _⟩ := own_form HO.out (by rw [HN.out]; omega)
      injection e with e1 e2 e3
      subst e1 e3
      clear e2
      have hown : Ow encE 40 wq w1.heap.size (.slice (some ⟨gb, 0, none⟩) n k) G := own_updP HO.out TW.out.upd (fun y hy hO => hO (by have := (own_lt HO.out hy).1; have := SZ1.out; exact HNEW1.out y (by omega)))
      have f0 : wq.cell? ⟨gb, j * 3, none⟩ = some (.int .i64 x0) := hown.at_ hx 0 _ rfl
      have f1 : wq.cell? ⟨gb, j * 3 + 1, none⟩ = some (.int .i64 x1) := hown.at_ hx 1 _ rfl
      have f2 : wq.cell? ⟨gb, j * 3 + 2, none⟩ = some (.int .i64 x2) := hown.at_ hx 2 _ rfl
      have q3 : (0 : Int) ≤ (j : Int) := by omega
      have q4 : (j : Int) < (n : Int) := by omega
      clear hx tw sx mx ax hes hown HREL
      go_wp2_with fail
      clear f0 f1 f2 q3 q4
      have X3 : Hid (Blk ((wq.alloc (.cells #[.int .i64 x0, .int .i64 x1, .int .i64 x2] 40)).alloc (.cells #[.int .i64 x0, .int .i64 x1] 99)) wq.heap.size 40 #[.int .i64 x0, .int .i64 x1, .int .i64 x2]) := Lib.hid ((Blk.new wq _ _).alloc _)
      have K3 : Hid (Blk ((wq.alloc (.cells #[.int .i64 x0, .int .i64 x1, .int .i64 x2] 40)).alloc (.cells #[.int .i64 x0, .int .i64 x1] 99)) (wq.heap.size + 1) 99 #[.int .i64 x0, .int .i64 x1]) := Lib.hid (Blk.newAt _ _ (by simp))
      have U3 : Hid (Upd [] wq ((wq.alloc (.cells #[.int .i64 x0, .int .i64 x1, .int .i64 x2] 40)).alloc (.cells #[.int .i64 x0, .int .i64 x1] 99))) := Lib.hid (((Upd.refl [] wq).alloc _).alloc _)
      generalize ((wq.alloc (.cells #[.int .i64 x0, .int .i64 x1, .int .i64 x2] 40)).alloc (.cells #[.int .i64 x0, .int .i64 x1] 99)) = w3 at *
      have M3 := Lib.hid (MX.out.upd U3.out (by simp))
      have k0 : w3.cell? ⟨wq.heap.size + 1, 0, none⟩ = some (.int .i64 x0) := K3.out.cell 0
      have k1 : w3.cell? ⟨wq.heap.size + 1, 1, none⟩ = some (.int .i64 x1) := K3.out.cell 1
      obtain ⟨c, hc⟩ : ∃ c, metN es (x0, x1) = c := ⟨_, rfl⟩
      have hc2 : c ≤ 1000 := by have := metN_le es (x0, x1); omega
      have hmf : (metF es (x0, x1)).getD (.int .i64 0) = .int .i64 (c : Nat) := by
        unfold metF
        rw [hc]
        by_cases e : c = 0
        · subst e; rfl
        · rw [if_neg e]; rfl
      have r1 : (Instr.lookup 98 (.map (some mb)) (.agg #[.int .i64 x0, .int .i64 x1]) false).run Tryz.prog w3.drew = .ok (.int .i64 (c : Nat)) w3.drew := by
        rw [← hmf]
        exact run_lookup_k' Tryz.underlying98 klaw_pair (Tryz.zeroValue3 _) M3.out.drew (x0, x1)
      obtain ⟨w5, s5, r2, ⟨L5, c5, kr5, ⟨v5, hv5⟩, kf5, _⟩, u5⟩ := run_mapEntry_k (P := Tryz.prog) Tryz.underlying98 klaw_pair (fun w => Tryz.zeroValue3 w) M3.out.drew (x0, x1)
      rw [hmf] at r2 kf5
      have M5 : KMap w5 kP mb (findK L5) L5.length := ⟨L5, c5, kr5, fun _ => rfl, rfl⟩
      have r3 : (Instr.lookup 98 (.map (some mb)) (.agg #[.int .i64 x0, .int .i64 x1]) false).run Tryz.prog w5 = .ok (.int .i64 (c : Nat)) w5 := by
        have := run_lookup_k' (P := Tryz.prog) Tryz.underlying98 klaw_pair (Tryz.zeroValue3 _) M5 (x0, x1)
        rw [kf5, if_pos rfl] at this
        exact this
      obtain ⟨w6, r4, m6, u6⟩ := run_entryStore_k (P := Tryz.prog) (mt := 98) kr5 hv5 (.int .i64 ((c : Nat) + 1 : Int))
      have r2' : (Instr.mapEntry 98 (.map (some mb)) (.agg #[.int .i64 x0, .int .i64 x1])).run Tryz.prog w3.drew = .ok (.tuple #[.int .i64 (c : Nat), .int .i64 s5]) w5 := r2
      have r4' : (Instr.entryStore 98 (.map (some mb)) (.int .i64 s5) (.int .i64 ((c : Nat) + 1 : Int))).run Tryz.prog w5 = .ok () w6 := r4
      have M6 : Hid (KMap w6 kP mb (metF (es ++ [(x0, x1, x2)])) L5.length) := Lib.hid (m6.congr (fun p => by
        rw [kf5]
        unfold metF
        rw [metN_snoc]
        by_cases e : p = (x0, x1)
        · subst e; rw [if_pos rfl, if_pos rfl, hc]; simp
        · rw [if_neg e, if_neg e, if_neg e]))
      have hmbl := M3.out.lt
      have U6 : Hid (Upd [mb] wq w6) := Lib.hid (((U3.out.drew.mono (by simp)).trans u5).trans u6)
      have X6 : Hid (Blk w6 wq.heap.size 40 #[.int .i64 x0, .int .i64 x1, .int .i64 x2]) := Lib.hid ((((X3.out.drew).upd u5 (by simp; have := MX.out.lt; omega))).upd u6 (by simp; have := MX.out.lt; omega))
      have K6 : Hid (Blk w6 (wq.heap.size + 1) 99 #[.int .i64 x0, .int .i64 x1]) := Lib.hid ((((K3.out.drew).upd u5 (by simp; have := MX.out.lt; omega))).upd u6 (by simp; have := MX.out.lt; omega))
      have HC := Lib.hid hc
      have KX : k0 = k0 := rfl
      clear hc hmf u5 u6 kr5 hv5 kf5 M5 m6 r2 r4 KX
      go_region
      clear r1 r2' r3 r4' k0 k1 hmbl hc2
      have hmne : Hid (∀ y, ρx y ≠ .aux → y ≠ mb) := Lib.hid (fun y hy e => hy (by rw [e]; exact AX.out))
      have S6 : Hid (TrSt w6 ρx B tb b fv sv (tcOf (cntQ l es) cn l S (ldP (pairsL es)))) := Lib.hid (SX.out.fr (O := fun y => y = mb) (UpdP.of_upd U6.out (by intro y hy; simp at hy; exact .inl hy)) (Agr.refl _ _) SX.out.hi (fun y hy => .inr (by rw [hy]; exact AX.out)))
      have TW6 : Hid (Tw ρ1 ρx w2 w6) := Lib.hid (TW.out.trans (Tw.of_upd U6.out (by intro y hy; simp at hy; subst hy; rw [AX.out]; simp)))
      have k0 : w6.cell? ⟨wq.heap.size + 1, 0, none⟩ = some (.int .i64 x0) := K6.out.cell 0
      have k1 : w6.cell? ⟨wq.heap.size + 1, 1, none⟩ = some (.int .i64 x1) := K6.out.cell 1
      have r6 : (Instr.lookup 98 (.map (some mb)) (.agg #[.int .i64 x0, .int .i64 x1]) false).run Tryz.prog w6 = .ok (.int .i64 ((c : Nat) + 1 : Int)) w6 := by
        have := run_lookup_k' (P := Tryz.prog) Tryz.underlying98 klaw_pair (Tryz.zeroValue3 _) M6.out (x0, x1)
        rw [show metF (es ++ [(x0, x1, x2)]) (x0, x1) = some (.int .i64 ((c : Nat) + 1 : Int)) from by unfold metF; rw [metN_snoc, if_pos rfl, HC.out]; simp] at this
        exact this
      clear TW SX U3 X3 K3 M3 MX
      by_cases h0 : c = 0
      · subst h0
        have HP : Hid ((x0, x1) ∉ pairsL es) := Lib.hid (metN_zero.1 HC.out)
        go_wp2_with fail
        clear k0 k1 r6
        have hB6 : Hid (B ≤ w6.heap.size) := Lib.hid (Nat.le_trans (S6.out.hi tb (by rw [S6.out.rt]; simp)) (Nat.le_of_lt S6.out.tr.lt))
        obtain ⟨lg, lm, vv, ig, hvv, hown, hro, hall⟩ := rows_at S6.out.ld.2 x0
        have ho2 : w6.ownsRow B 3 1 vv (ldP (pairsL es) x0).length ((ldP (pairsL es) x0).map (.int .i64)) := hown
        obtain ⟨ls, hls⟩ : ∃ ls, ldP (pairsL es) x0 = ls := ⟨_, rfl⟩
        rw [hls] at ho2
        have HLS := Lib.hid hls
        have hlsl : ls.length ≤ 1000 := by rw [← hls]; have h1 := ldP_len (pairsL es) x0; have h2 := pairsL_len es; omega
        obtain ⟨A1, c1, rfl, hnc1, hcm1⟩ := own_slice ho2
        obtain ⟨n1, hn1⟩ : ∃ n1, ls.length = n1 := ⟨_, rfl⟩
        rw [hn1] at ho2 hnc1 hlsl hown hvv hro
        have HN1 := Lib.hid hn1
        have OW := Lib.hid ho2
        have IG := Lib.hid ig
        have HRO := Lib.hid hro
        have HALL := Lib.hid hall
        have HVV := Lib.hid hvv
        clear ho2 hls hn1 ig hro hall hown hvv
        have hob : ∀ y, (Value.slice A1 n1 c1).ownBlock = some y → y < w6.heap.size := fun y hy => (own_lt OW.out hy).2
        have hrowS : ∀ y ∈ (Value.slice A1 n1 c1).ownBlock.toList, ρx y = .lead x0 := fun y hy => HRO.out y (by simpa using hy)
        have htb : tb ∉ (Value.slice A1 n1 c1).ownBlock.toList := fun hm => by have := hrowS _ hm; rw [S6.out.rt] at this; cases this
        have hxb : wq.heap.size ∉ (Value.slice A1 n1 c1).ownBlock.toList := fun hm => by
          have h1 := X6.out
          have := own_type OW.out h1 (by decide)
          exact this (by simpa using hm)
        have hbl : b.bl ∉ (Value.slice A1 n1 c1).ownBlock.toList := fun hm => by have := hrowS _ hm; rw [S6.out.ld.1] at this; cases this
        have hmbn : Hid (mb ∉ (Value.slice A1 n1 c1).ownBlock.toList) := Lib.hid (fun hm => by have := hrowS _ hm; rw [AX.out] at this; cases this)
        have CF : Hid (∀ W, Upd (Value.slice A1 n1 c1).ownBlock.toList w6.drew W → (W.cell? ⟨tb, 4, none⟩ = some (.map (some b.bl)) ∧ W.cell? ⟨wq.heap.size, 0, none⟩ = some (.int .i64 x0) ∧ W.cell? ⟨wq.heap.size, 1, none⟩ = some (.int .i64 x1)) ∧ (Instr.lookup 65 (.map (some b.bl)) (.int .i64 x0) false).run Tryz.prog W = .ok (.slice A1 n1 c1) W) := Lib.hid (fun W hW => by
          have hu : Upd (Value.slice A1 n1 c1).ownBlock.toList w6 W := (Upd.refl _ w6).drew.trans hW
          have hx := X6.out.upd hu hxb
          refine ⟨⟨(S6.out.tr.upd hu htb).cell 4, hx.cell 0, hx.cell 1⟩, ?_⟩
          rw [run_lookup_int' Tryz.underlying65 Tryz.underlying3 (Tryz.zeroValue36 W) (IG.out.upd hu hbl) x0, HVV.out])
        refine wp_invT 17 (Value.slice A1 n1 c1).ownBlock.toList (fun u s W' => KApp w6.heap.size (.slice A1 n1 c1) B 3 1 n1 (ls.map (.int .i64)) (n1 + 1) (ls.map (.int .i64) ++ [.int .i64 x1]) 16 u s W') [(16, [16])] [(15, .lit 3 #[.int .i64 x1] 1), (16, appNew w6.heap.size B 3 1 (n1 + 1) (ls.map (.int .i64) ++ [.int .i64 x1]))] [] [16] (by kernel_rfl) (by simp) (by kernel_rfl) (by kernel_rfl) (by kernel_rfl) (fun y hy => hob y (by simpa using hy)) ⟨lasts_lit _ _ _, lasts_appNew _ _ _ _ _ _ _ _, trivial⟩ ?_ ?_ ?_ ?_
        · intro s u u' w1' hag hk
          exact kapp_congr (fun hs => hag 16 (by simp) rfl (by rw [show ((List.range 16).filter (fun j => [16].contains j)).length = 0 from by decide]; omega) 16 (by simp [conOf])) hk
        · intro u s w1' w' T hk hu hT
          exact kapp_lasts hu hT hob s hk
        · intro u
          exact own_upd0 OW.out ((Upd.refl [] w6).drew)
        simp only [List.take_succ_cons, List.take_zero, List.drop_succ_cons, List.drop_zero]
        with_reducible apply wpV_light
        · simp only [lightOp]
        · intro W hU hF
          have f0 := CF.out W hU
          clear hU hF
          go_simp
          exact rfl
        simp only [Act.put, List.setIfInBounds_toArray, List.set_cons_zero, List.set_cons_succ]
        with_reducible apply wpV_light
        · simp only [lightOp]
        · intro W hU hF
          have f0 := CF.out W hU
          clear hU hF
          go_simp
          exact rfl
        simp only [Act.put, List.setIfInBounds_toArray, List.set_cons_zero, List.set_cons_succ]
        with_reducible apply wpV_light
        · simp only [lightOp]
        · intro W hU hF
          have f0 := CF.out W hU
          clear hU hF
          go_simp
          exact rfl
        simp only [Act.put, List.setIfInBounds_toArray, List.set_cons_zero, List.set_cons_succ]
        with_reducible apply wpV_light
        · simp only [lightOp]
        · intro W hU hF
          have f0 := CF.out W hU
          clear hU hF
          go_simp
          exact rfl
        simp only [Act.put, List.setIfInBounds_toArray, List.set_cons_zero, List.set_cons_succ]
        with_reducible apply wpV_light
        · simp only [lightOp]
        · intro W hU hF
          have f0 := CF.out W hU
          clear hU hF
          go_simp
          exact rfl
        simp only [Act.put, List.setIfInBounds_toArray, List.set_cons_zero, List.set_cons_succ]
        with_reducible apply wpV_light
        · simp only [lightOp]
        · intro W hU hF
          have f0 := CF.out W hU
          clear hU hF
          go_simp
          exact rfl
        simp only [Act.put, List.setIfInBounds_toArray, List.set_cons_zero, List.set_cons_succ]
        with_reducible apply wpV_light
        · simp only [lightOp]
        · intro W hU hF
          have f0 := CF.out W hU
          clear hU hF
          go_simp
          exact rfl
        simp only [Act.put, List.setIfInBounds_toArray, List.set_cons_zero, List.set_cons_succ]
        with_reducible apply wpV_light
        · simp only [lightOp]
        · intro W hU hF
          have f0 := CF.out W hU
          clear hU hF
          go_simp
          exact rfl
        simp only [Act.put, List.setIfInBounds_toArray, List.set_cons_zero, List.set_cons_succ]
        with_reducible apply wpV_light
        · simp only [lightOp]
        · intro W hU hF
          have f0 := CF.out W hU
          clear hU hF
          go_simp
          exact rfl
        simp only [Act.put, List.setIfInBounds_toArray, List.set_cons_zero, List.set_cons_succ]
        with_reducible apply wpV_light
        · simp only [lightOp]
        · intro W hU hF
          have f0 := CF.out W hU
          clear hU hF
          go_simp
          exact rfl
        simp only [Act.put, List.setIfInBounds_toArray, List.set_cons_zero, List.set_cons_succ]
        with_reducible apply wpV_light
        · simp only [lightOp]
        · intro W hU hF
          have f0 := CF.out W hU
          clear hU hF
          go_simp
          exact rfl
        simp only [Act.put, List.setIfInBounds_toArray, List.set_cons_zero, List.set_cons_succ]
        with_reducible apply wpV_light
        · simp only [lightOp]
        · intro W hU hF
          have f0 := CF.out W hU
          clear hU hF
          go_simp
          exact rfl
        simp only [Act.put, List.setIfInBounds_toArray, List.set_cons_zero, List.set_cons_succ]
        with_reducible apply wpV_light
        · simp only [lightOp]
        · intro W hU hF
          have f0 := CF.out W hU
          clear hU hF
          go_simp
          exact rfl
        simp only [Act.put, List.setIfInBounds_toArray, List.set_cons_zero, List.set_cons_succ]
        with_reducible apply wpV_light
        · simp only [lightOp]
        · intro W hU hF
          have f0 := CF.out W hU
          clear hU hF
          go_simp
          exact rfl
        simp only [Act.put, List.setIfInBounds_toArray, List.set_cons_zero, List.set_cons_succ]
        with_reducible apply wpV_light
        · simp only [lightOp]
        · intro W hU hF
          have f0 := CF.out W hU
          clear hU hF
          go_simp
          exact rfl
        simp only [Act.put, List.setIfInBounds_toArray, List.set_cons_zero, List.set_cons_succ]
        refine wpV_heavy (by simp only [lightOp]) (by rfl) (fun W hU hk hF K hK => ?_) ?_
        · go_wp2_with fail
          exact wpV_lit hK rfl rfl rfl
        rintro _ ⟨g6, rfl⟩
        simp only [Act.put, List.setIfInBounds_toArray, List.set_cons_zero, List.set_cons_succ]
        refine wpV_heavy (by simp only [lightOp]) (by rfl) (fun W hU hk hF K hK => ?_) ?_
        · have hk0 := hk rfl
          obtain ⟨g', he, hbl⟩ := hF.out.1 (by kernel_rfl)
          injection he with he _ _
          injection he with he
          injection he with he
          subst he
          have hBW : B ≤ W.heap.size := Nat.le_trans hB6.out hU.size
          refine wp_app W (.tmp 41) (.tmp 44) _ (by rfl) int_elem (.slice A1 n1 c1) _ (by rfl) (by rfl) hk0 (.of_blk hbl (m := 1) 1 rfl) (by intro u hu; simp at hu; subst hu; rfl) (by simp only [maxLen]; omega) (by omega) hBW ?_
          intro v' w' o' u' b'
          exact hK.out _ _ (outV_appK hU.size hob rfl rfl (by simp) o' u' b')
        rintro v16 -
        simp only [Act.put, List.setIfInBounds_toArray, List.set_cons_zero, List.set_cons_succ]
        refine wpV_end (fun W hU hk hF _ => ?_)
        obtain ⟨ho, hold⟩ := app_end (n0 := n1) (xs0 := ls.map (.int .i64)) (hF.out.2.1 (by kernel_rfl)) hk rfl
        have U7 : Hid (Upd (Value.slice A1 n1 c1).ownBlock.toList w6 W) := Lib.hid ((Upd.refl _ w6).drew.trans hU)
        have HO7 := Lib.hid ho
        have HOLD := Lib.hid hold
        clear hU hk hF ho hold CF
        obtain ⟨w8, hrun, im, hu8⟩ := run_mapUpdate_int (P := Tryz.prog) Tryz.underlying65 Tryz.underlying3 (IG.out.upd U7.out hbl) x0 v16
        refine wpT_op (by rfl) (fun K hK => ?_)
        go_wp2_with fail
        refine hK.out _ _ ?_
        clear hK K hrun
        refine wpT_end ?_
        obtain ⟨ρ2, g1, g2, g3, g4⟩ := rows_put (w := w6) (rd := ldP (pairsL es)) (k := x0) (x := x1) HALL.out (r := .lead) (fun a b h => by injection h) (fun a => by rw [S6.out.ld.1]; simp) S6.out.ld.2.lt HRO.out U7.out (by rw [HLS.out, HN1.out]; exact HO7.out) HOLD.out im hu8
        have hhi2 : ∀ y, ρ2 y ≠ .other → B ≤ y := fun y hy => (g2 y hy).elim (S6.out.hi y) (fun h => Nat.le_trans hB6.out h)
        have S8 := Lib.hid (S6.out.setLd g4 g1 hhi2 (fun y hy => hy.elim (fun e => .inl (by rw [e]; exact S6.out.ld.1)) (fun e => .inr ⟨x0, e⟩)) g3)
        have TW8 : Hid (Tw ρ1 ρ2 w2 w8) := Lib.hid (TW6.out.trans ⟨g4.mono (fun y hy => .inl (hy.elim (fun e => by rw [e, S6.out.ld.1]; simp) (fun e => by rw [e]; simp))), g1⟩)
        have hblx : wq.heap.size ≠ b.bl := fun e => by
          have h1 := X6.out
          rw [e] at h1
          exact blk_map h1 IG.out rfl
        have X8 := Lib.hid ((X6.out.upd U7.out hxb).upd hu8 (by simp; exact hblx))
        have hmbl : mb ≠ b.bl := fun e => by have := S6.out.ld.1; rw [← e, AX.out] at this; cases this
        have M8 := Lib.hid ((M6.out.upd U7.out hmbn.out).upd hu8 (by simp; exact hmbl))
        have AX8 : Hid (ρ2 mb = .aux) := Lib.hid ((g1 mb M6.out.lt).trans AX.out)
        clear g1 g2 g3 g4 hhi2 hu8 im hblx hmbl hob hrowS htb hxb hbl U7 HO7 HOLD S6 X6 M6 TW6 AX IG HALL HRO HVV HLS HN1 OW
        obtain ⟨cb, hcb⟩ : ∃ cb, cntP (pairsL es) x1 = cb := ⟨_, rfl⟩
        have hcbl : cb ≤ 1000 := by have h1 := cntP_len (pairsL es) x1; have h2 := pairsL_len es; omega
        have HCB := Lib.hid hcb
        clear hcb
        have CF : Hid (∀ W, Upd [] w8.drew W → (W.cell? ⟨tb, 0, none⟩ = some (.map (some b.bt)) ∧ W.cell? ⟨wq.heap.size, 1, none⟩ = some (.int .i64 x1)) ∧ (Instr.lookup 61 (.map (some b.bt)) (.int .i64 x1) false).run Tryz.prog W = .ok (.int .i64 (cb : Nat)) W) := Lib.hid (fun W hW => by
          have hu : Upd [] w8 W := (Upd.refl [] w8).drew.trans hW
          refine ⟨⟨(S8.out.tr.upd hu (by simp)).cell 0, (X8.out.upd hu (by simp)).cell 1⟩, ?_⟩
          rw [run_lookup_int' Tryz.underlying61 Tryz.underlying3 (Tryz.zeroValue3 W) (S8.out.tx.2.upd hu (by simp)) x1]
          show Result.ok (((cntQ l es x1).map (Value.int .i64)).getD _) W = _
          unfold cntQ
          rw [if_pos HX1.out, HCB.out]
          rfl)
        go_wp2_with fail
        refine wp_invNT 8 [] [] (by kernel_rfl) (by simp) (by kernel_rfl) (by kernel_rfl) trivial ?_
        simp only [List.take_succ_cons, List.take_zero, List.drop_succ_cons, List.drop_zero]
        with_reducible apply wpV_light
        · simp only [lightOp]
        · intro W hU hF
          have f0 := CF.out W hU
          clear hU hF
          go_simp
          exact rfl
        simp only [Act.put, List.setIfInBounds_toArray, List.set_cons_zero, List.set_cons_succ]
        with_reducible apply wpV_light
        · simp only [lightOp]
        · intro W hU hF
          have f0 := CF.out W hU
          clear hU hF
          go_simp
          exact rfl
        simp only [Act.put, List.setIfInBounds_toArray, List.set_cons_zero, List.set_cons_succ]
        with_reducible apply wpV_light
        · simp only [lightOp]
        · intro W hU hF
          have f0 := CF.out W hU
          clear hU hF
          go_simp
          exact rfl
        simp only [Act.put, List.setIfInBounds_toArray, List.set_cons_zero, List.set_cons_succ]
        with_reducible apply wpV_light
        · simp only [lightOp]
        · intro W hU hF
          have f0 := CF.out W hU
          clear hU hF
          go_simp
          exact rfl
        simp only [Act.put, List.setIfInBounds_toArray, List.set_cons_zero, List.set_cons_succ]
        with_reducible apply wpV_light
        · simp only [lightOp]
        · intro W hU hF
          have f0 := CF.out W hU
          clear hU hF
          go_simp
          exact rfl
        simp only [Act.put, List.setIfInBounds_toArray, List.set_cons_zero, List.set_cons_succ]
        with_reducible apply wpV_light
        · simp only [lightOp]
        · intro W hU hF
          have f0 := CF.out W hU
          clear hU hF
          go_simp
          exact rfl
        simp only [Act.put, List.setIfInBounds_toArray, List.set_cons_zero, List.set_cons_succ]
        with_reducible apply wpV_light
        · simp only [lightOp]
        · intro W hU hF
          have f0 := CF.out W hU
          clear hU hF
          go_simp
          exact rfl
        simp only [Act.put, List.setIfInBounds_toArray, List.set_cons_zero, List.set_cons_succ]
        with_reducible apply wpV_light
        · simp only [lightOp]
        · intro W hU hF
          have f0 := CF.out W hU
          clear hU hF
          go_simp
          exact rfl
        simp only [Act.put, List.setIfInBounds_toArray, List.set_cons_zero, List.set_cons_succ]
        refine wpV_end (fun W hU _ _ _ => ?_)
        have U9 : Hid (Upd [] w8 W) := Lib.hid ((Upd.refl [] w8).drew.trans hU)
        clear hU CF
        obtain ⟨wa, hrun, im, hua⟩ := run_mapUpdate_int (P := Tryz.prog) Tryz.underlying61 Tryz.underlying3 (S8.out.tx.2.upd U9.out (by simp)) x1 (.int .i64 ((cb : Nat) + 1 : Int))
        refine wpT_op (by rfl) (fun K hK => ?_)
        go_wp2_with fail
        refine hK.out _ _ ?_
        clear hK K hrun
        refine wpT_end ?_
        have hcn : (if ((fun k => (cntQ l es k).map (Value.int .i64)) x1).isSome then cn else cn + 1) = cn := by
          rw [if_pos]
          show ((cntQ l es x1).map (Value.int .i64)).isSome = true
          unfold cntQ
          simp [HX1.out]
        have SA := (S8.out.upd0 U9.out).setTx hua (f := cntQ l (es ++ [(x0, x1, x2)])) (n := cn) (by
          have h1 : IMap wa .i64 b.bt (fun k => (cntQ l (es ++ [(x0, x1, x2)]) k).map (Value.int .i64)) _ := im.congr (fun k => by
            rw [← cntQ_next (c := x2) HP.out HX1.out k, HCB.out])
          rw [show (if ((fun k => Option.map (Value.int .i64) ((tcOf (cntQ l es) cn l S (ldP (pairsL es))).cnt k)) x1).isSome = true then (tcOf (cntQ l es) cn l S (ldP (pairsL es))).cn else (tcOf (cntQ l es) cn l S (ldP (pairsL es))).cn + 1) = cn from hcn] at h1
          exact h1)
        have hmbt : mb ≠ b.bt := fun e => by have := S8.out.tx.1; rw [← e, AX8.out] at this; cases this
        have HREL : Hid (∃ ρx nm, Tw ρ1 ρx w2 wa ∧ TrSt wa ρx B tb b fv sv (tcOf (cntQ l (es ++ [(x0, x1, x2)])) cn l S (ldP (pairsL (es ++ [(x0, x1, x2)])))) ∧ KMap wa kP mb (metF (es ++ [(x0, x1, x2)])) nm ∧ ρx mb = .aux) := Lib.hid ⟨ρ2, _, (TW8.out.trans (Tw.of0 U9.out)).trans (Tw.of_upd hua (by intro y hy; simp at hy; subst hy; rw [S8.out.tx.1]; simp)), by
          have e : ldP (pairsL (es ++ [(x0, x1, x2)])) = fun k' => if k' = x0 then ldP (pairsL es) x0 ++ [x1] else ldP (pairsL es) k' := by
            funext k'
            rw [pairsL_snoc, ldP_add HP.out]
            by_cases e : k' = x0
            · rw [if_pos e, if_pos e, e]
            · rw [if_neg e, if_neg e]
          rw [e]
          exact SA, (M8.out.upd U9.out (by simp)).upd hua (by simp; exact hmbt), AX8.out⟩
        clear SA hua im hcn hmbt
        go_wp2_with fail
        go_roundw
        case rel => exact ⟨j + 1, by go_num, by omega, by rw [TK.out]; exact HREL⟩
        case measure => simp [intOf]; omega
      · have HP : Hid ((x0, x1) ∈ pairsL es) := Lib.hid (Classical.byContradiction fun e => h0 (by rw [← HC.out]; exact metN_zero.2 e))
        have d : decide ((1 : Int) < (c : Int) + 1) = true := by simp; omega
        go_wp2_with fail
        go_roundw
        case rel => exact ⟨j + 1, by go_num, by omega, Lib.hid ⟨ρx, _, TW6.out, by
          rw [TK.out]
          have e : pairsL (es ++ [(x0, x1, x2)]) = pairsL es := by rw [pairsL_snoc]; unfold addP; rw [if_pos HP.out]
          unfold cntQ
          rw [e]
          exact S6.out, by rw [TK.out]; exact M6.out, AX.out⟩⟩
        case measure => simp [intOf]; omega
    · have : j = n := by omega
      subst this
      go_wp2_with fail
      go_end0
      obtain ⟨ρx, nm, tw, sx, mx, ax⟩ := HREL.out
      rw [List.take_of_length_le (by rw [HN.out]; exact Nat.le_refl _)] at sx
      unfold PairsPost
      rw [HG.out]
      refine ⟨rfl, ρx, ⟨(UpdP.of_upd U2.out (by simp)).trans tw.upd HNE1.out, HAG1.out.trans U2.out.size tw.agr⟩, sx⟩
end Go.Proofs.YteddiknlcdbhjaaGreatDoor.Vk

namespace Go.Proofs.YteddiknlcdbhjaaGreatDoor.TrP

/-- How many stand ahead of each that are not out. -/
def cntR (g : List Ed) (all out : List Int) : Int → Option Int := fun t => if t ∈ all then some (remain g all out t : Int) else none
/-- The same while those behind n are told one by one. -/
def cntI (g : List Ed) (all out : List Int) (n : Int) (i : Nat) : Int → Option Int := fun t => if t ∈ all then some ((remain g all (out ++ [n]) t : Int) + (if t ∈ (succL g all n).drop i then 1 else 0)) else none
def rdyI (g : List Ed) (all out : List Int) (n : Int) (H : List Int) (i : Nat) : List Int := H ++ ((succL g all n).take i).filter (fun b => decide (remain g all (out ++ [n]) b = 0))
section
variable {g : List Ed} {all out : List Int} {n : Int}
theorem cntI_start (hg : GOk g all) (hn : n ∈ all) (ho : n ∉ out) : cntR g all out = cntI g all out n 0 := by
  funext t
  unfold cntR cntI
  by_cases ht : t ∈ all
  · rw [if_pos ht, if_pos ht, remain_snoc hg hn ho t, List.drop_zero]
    by_cases hl : leadsB g n t = true
    · rw [if_pos hl, if_pos (mem_succL.2 ⟨ht, hl⟩)]; simp
    · rw [if_neg hl, if_neg (fun h => hl (mem_succL.1 h).2)]; simp
  · rw [if_neg ht, if_neg ht]
theorem cntI_end {i : Nat} (h : (succL g all n).length ≤ i) : cntI g all out n i = cntR g all (out ++ [n]) := by
  funext t
  unfold cntI cntR
  rw [List.drop_eq_nil_of_le h]
  simp
theorem drop_cons {i : Nat} {b : Int} (h : (succL g all n)[i]? = some b) : (succL g all n).drop i = b :: (succL g all n).drop (i + 1) := by
  obtain ⟨hi, e⟩ := List.getElem?_eq_some_iff.1 h
  rw [← e]
  exact List.drop_eq_getElem_cons hi
theorem succ_mem {i : Nat} {b : Int} (h : (succL g all n)[i]? = some b) : b ∈ all := (mem_succL.1 (List.mem_of_getElem? h)).1
theorem cntI_at {i : Nat} {b : Int} (h : (succL g all n)[i]? = some b) : cntI g all out n i b = some ((remain g all (out ++ [n]) b : Int) + 1) := by
  unfold cntI
  rw [if_pos (succ_mem h), drop_cons h, if_pos (by simp)]
theorem cntI_next (hg : GOk g all) {i : Nat} {b : Int} (h : (succL g all n)[i]? = some b) (t : Int) : cntI g all out n (i + 1) t = if t = b then some (remain g all (out ++ [n]) b : Int) else cntI g all out n i t := by
  have hd := drop_cons h
  have hnd : ((succL g all n).drop i).Nodup := (succL_nodup hg n).sublist (List.drop_sublist _ _)
  rw [hd, List.nodup_cons] at hnd
  unfold cntI
  by_cases e : t = b
  · subst e
    rw [if_pos rfl, if_pos (succ_mem h), if_neg hnd.1]
    simp
  · rw [if_neg e, hd]
    simp [e]
theorem rdyI_next {H : List Int} {i : Nat} {b : Int} (h : (succL g all n)[i]? = some b) : rdyI g all out n H (i + 1) = rdyI g all out n H i ++ (if remain g all (out ++ [n]) b = 0 then [b] else []) := by
  unfold rdyI
  rw [List.take_add_one, h, List.filter_append, List.append_assoc]
  congr 2
  by_cases e : remain g all (out ++ [n]) b = 0 <;> simp [e]
theorem rdyI_len {H : List Int} {i : Nat} : (rdyI g all out n H i).length ≤ H.length + all.length := by
  unfold rdyI
  rw [List.length_append]
  have h1 := List.length_filter_le (fun b => decide (remain g all (out ++ [n]) b = 0)) ((succL g all n).take i)
  have h2 : ((succL g all n).take i).length ≤ (succL g all n).length := by rw [List.length_take]; omega
  have h3 : (succL g all n).length ≤ all.length := List.length_filter_le _ _
  omega
theorem readyL_len : (readyL g all out).length ≤ all.length := List.length_filter_le _ _
theorem remain_len (b : Int) : remain g all out b ≤ all.length := List.length_filter_le _ _
theorem mem_ready {b : Int} : b ∈ readyL g all [] ↔ b ∈ all ∧ remain g all [] b = 0 := by
  unfold readyL
  rw [List.mem_filter, pick_remain]
  simp
/-- The least of those that are ready. -/
theorem go_step (hg : GOk g all) (hs : Ser g all out) (hinv : serialL g all = serialGo g all (all.length - out.length) out) (hn : n ∈ readyL g all out) (hm : ∀ b ∈ readyL g all out, n ≤ b) :
    Ser g all (out ++ [n]) ∧ serialL g all = serialGo g all (all.length - (out ++ [n]).length) (out ++ [n]) ∧ n ∈ all ∧ n ∉ out ∧ pickB g all out n = true ∧ out.length < all.length := by
  obtain ⟨h1, h2⟩ := List.mem_filter.1 hn
  have h3 := (pickB_iff.1 h2).1
  have hl := hs.lt hg h1 h3
  refine ⟨hs.snoc h1 h2, ?_, h1, h3, h2, hl⟩
  rw [hinv, List.length_append, List.length_singleton, show all.length - out.length = (all.length - (out.length + 1)) + 1 by omega]
  exact serialGo_next (next_least hg hn hm) hl
theorem go_end (hinv : serialL g all = serialGo g all (all.length - out.length) out) (hr : readyL g all out = []) : serialL g all = if out.length < all.length then none else some out := by
  rw [hinv]
  exact serialGo_end hr
end
end Go.Proofs.YteddiknlcdbhjaaGreatDoor.TrP

namespace Go.Proofs.YteddiknlcdbhjaaGreatDoor
open Go Go.RowKit TrP HeapPlain Assoc

theorem RdSt.blk {B p : Nat} {w : World} {xs : List Int} (h : RdSt B p w xs) {k : Nat} (hk : ownR p w k) : ∃ t cs, Blk w k t cs := by
  obtain ⟨v, hb, ho⟩ := h.obj
  rcases hk with rfl | ⟨v', h1, h2⟩
  · exact ⟨_, _, hb⟩
  · rw [hb.cell] at h1
    cases h1
    rcases ho.2 with ⟨e, _⟩ | ⟨g, cap, cur, rfl, _, hg, _⟩
    · rw [e] at h2; cases h2
    · cases h2; exact ⟨_, _, hg⟩
theorem IIter.updP {O : Nat → Prop} {w w' : World} {q : IntKind} {b r : Nat} {L rest : List IEnt} (h : IIter w q b r L rest) (hu : UpdP O w w') (hb : ¬ O b) (hr : ¬ O r) : IIter w' q b r L rest := by
  have hu' : ∀ x, x < w.heap.size → (x = b ∨ x = r) → w'.heap[x]? = w.heap[x]? := fun x hx e => hu.keep x hx (by
    rcases e with rfl | rfl
    · exact hb
    · exact hr)
  obtain ⟨c, s, seen, c0, h1, h2, h3⟩ := h.all
  exact ⟨c, s, seen, c0, ⟨(hu' b h1.lt' (.inl rfl)).trans h1.blk, h1.keys, h1.stamps, h1.lt⟩, (hu' r h.lt (.inr rfl)).trans h2, h3⟩
theorem RdSt.not_iter {B p : Nat} {w : World} {xs : List Int} {q : IntKind} {b r : Nat} {L rest : List IEnt} (h : RdSt B p w xs) (hi : IIter w q b r L rest) : ¬ ownR p w b ∧ ¬ ownR p w r := by
  obtain ⟨c, s, seen, c0, h1, h2, h3⟩ := hi.all
  refine ⟨fun hk => ?_, fun hk => ?_⟩
  · obtain ⟨t, cs, hb⟩ := h.blk hk
    have := h1.blk
    rw [show w.heap[b]? = _ from hb] at this
    cases this
  · obtain ⟨t, cs, hb⟩ := h.blk hk
    rw [show w.heap[r]? = _ from hb] at h2
    cases h2
/-- A tracer's counts, a heap, and those that are out. -/
structure SerSt (bt Rb rb cn : Nat) (wR : World) (f : Int → Option Int) (wq : World) (vo : Value) (out xs : List Int) : Prop where
  fr : UpdP (fun x => x = bt ∨ Rb ≤ x) wR wq
  tx : IMap wq .i64 bt (fun k => (f k).map (.int .i64)) cn
  rd : RdSt Rb rb wq xs
  hp : Hp ltN xs.length xs
  ow : Ow encK 3 wq Rb vo out
  ap : ∀ y, vo.ownBlock = some y → ¬ ownR rb wq y
section
variable {bt Rb rb cn : Nat} {wR : World} {f : Int → Option Int} {wq w' : World} {vo : Value} {out xs : List Int}
theorem SerSt.upd0 (h : SerSt bt Rb rb cn wR f wq vo out xs) (hu : Upd [] wq w') : SerSt bt Rb rb cn wR f w' vo out xs := by
  have hk := h.rd.keep (O := fun _ => False) (.of_upd hu (by simp)) (fun _ _ h => h)
  exact ⟨h.fr.trans (UpdP.of_upd (O := fun x => x = bt ∨ Rb ≤ x) hu (by simp)) (fun x hx => .inl hx), h.tx.upd hu (by simp), hk.1, h.hp, h.ow.upd0 hu, fun y hy hc => h.ap y hy ((hk.2 y).1 hc)⟩
theorem SerSt.heap (h : SerSt bt Rb rb cn wR f wq vo out xs) (hbt : bt < Rb) {ys : List Int} (hr : RdSt Rb rb w' ys) (hh : Hp ltN ys.length ys) (hf : FrR rb wq w') : SerSt bt Rb rb cn wR f w' vo out ys where
  fr := h.fr.trans (hf.1.mono (O' := fun x => x = bt ∨ Rb ≤ x) (fun x hx => .inl (.inr (h.rd.own_lt hx).1))) (fun x hx => .inl hx)
  tx := h.tx.updP hf.1 (fun hx => by have := (h.rd.own_lt hx).1; omega)
  rd := hr
  hp := hh
  ow := own_updP h.ow hf.1 (fun x hx hO => h.ap x hx hO)
  ap := fun y hy hc => (hf.2 y hc).elim (h.ap y hy) (fun g => by have := (own_lt h.ow hy).2; omega)
theorem SerSt.setTx (h : SerSt bt Rb rb cn wR f wq vo out xs) (hbt : bt < Rb) (hu : Upd [bt] wq w') {f' : Int → Option Int} (im : IMap w' .i64 bt (fun k => (f' k).map (.int .i64)) cn) : SerSt bt Rb rb cn wR f' w' vo out xs := by
  have hk := h.rd.keep (O := fun x => x = bt) (.of_upd hu (by simp)) (fun k hk e => by have := (h.rd.own_lt hk).1; omega)
  exact ⟨h.fr.trans (UpdP.of_upd (O := fun x => x = bt ∨ Rb ≤ x) hu (by intro x hx; simp at hx; exact .inl (.inl hx))) (fun x hx => .inl hx), im, hk.1, h.hp, h.ow.upd hu (fun b hb hm => by simp at hm; have := (own_lt h.ow hb).1; omega), fun y hy hc => h.ap y hy ((hk.2 y).1 hc)⟩
theorem SerSt.app (h : SerSt bt Rb rb cn wR f wq vo out xs) (hbt : bt < Rb) {vo' : Value} {out' : List Int} (hu : Upd vo.ownBlock.toList wq w') (ho : Ow encK 3 w' Rb vo' out') (hb : vo'.ownBlock = vo.ownBlock ∨ ∃ b, vo'.ownBlock = some b ∧ wq.heap.size ≤ b) : SerSt bt Rb rb cn wR f w' vo' out' xs := by
  have hk := h.rd.keep (O := fun x => vo.ownBlock = some x) (.of_upd hu (fun x hx => .inl (by simpa using hx))) (fun k hk e => h.ap k e hk)
  refine ⟨h.fr.trans (UpdP.of_upd (O := fun x => x = bt ∨ Rb ≤ x) hu (fun x hx => .inl (.inr (own_lt h.ow (by simpa using hx)).1))) (fun x hx => .inl hx), h.tx.upd hu (fun hm => by have := (own_lt h.ow (b := bt) (by simpa using hm)).1; omega), hk.1, h.hp, ho, fun y hy hc => ?_⟩
  have hc' := (hk.2 y).1 hc
  rcases hb with e | ⟨b, e, hlt⟩
  · exact h.ap y (e ▸ hy) hc'
  · rw [e] at hy
    cases hy
    have := (h.rd.own_lt hc').2
    omega
end
theorem least_head {xs : List Int} {n : Nat} (hl : xs.length = n + 1) (hh : Hp ltN xs.length xs) : ∀ b ∈ xs, xs.getD 0 default ≤ b := by
  intro b hb
  obtain ⟨k, hk, rfl⟩ := List.getElem_of_mem hb
  have := Hp.least ltN_ord (fun a => by simp [ltN]) hh k hk
  rw [List.getD_eq_getElem?_getD (i := k), List.getElem?_eq_getElem hk] at this
  simp [ltN] at this
  exact this
theorem imap_len {w : World} {b cn : Nat} {g : List Ed} {all out : List Int} (hr : RiseI all) (h : IMap w .i64 b (fun k => (cntR g all out k).map (.int .i64)) cn) : cn = all.length := by
  obtain ⟨al, h1, h2, _, h4⟩ := al_of h
  have hp : (al.map (·.1)).Perm all := (List.perm_ext_iff_of_nodup (List.pairwise_map.2 (h1.imp (fun h => by omega))) hr.nodup).2 (fun k => by
    rw [get_keys h1, h4]
    unfold cntR
    by_cases e : k ∈ all <;> simp [e])
  rw [← h2, ← hp.length_eq, List.length_map]
end Go.Proofs.YteddiknlcdbhjaaGreatDoor

namespace Go.Proofs.YteddiknlcdbhjaaGreatDoor
open Go Go.RowKit TrP
open Vk (cellIn cntOf NotedSt)
attribute [local go_sem] litStep_value

def trimR (w : World) (ρ : Rho) : Rho := fun x => if x < w.heap.size then ρ x else .other
theorem TrSt.trim {w : World} {ρ : Rho} {B tb : Nat} {b : TB} {fv sv : Value} {T : TC} (h : TrSt w ρ B tb b fv sv T) : TrSt w (trimR w ρ) B tb b fv sv T :=
  h.fr (O := fun _ => False) (UpdP.refl _ _) (fun x hx => by unfold trimR; rw [if_pos hx]) (fun x hx => by
    unfold trimR at hx
    by_cases e : x < w.heap.size
    · rw [if_pos e] at hx; exact h.hi x hx
    · rw [if_neg e] at hx; exact absurd rfl hx) (fun _ h => h.elim)
theorem notesE_no : ∀ (r pre : List Ev), (notesE pre r).1 = 0 ∨ (notesE pre r).1 = 2 ∨ (notesE pre r).1 = 7
  | [], _ => .inl rfl
  | x :: r, pre => by
    unfold notesE
    split
    · exact noteE_le pre x
    · exact notesE_no r _
def TracePost (l : List Ev) (sv : Value) (w : World) (e : Ending) (w' : World) : Prop := ∃ t v, e = .returned (.tuple #[t, v]) ∧ ErrV w' v (wrongE l).1 (wrongE l).2 ∧ Upd [] w w' ∧ ((wrongE l).1 ≠ 0 → t = .pointer none) ∧
  ((wrongE l).1 = 0 → v = .nilIface ∧ ∃ ρ tb b S cn, t = .pointer (some ⟨tb, 0, none⟩) ∧ cn ≤ 60 ∧ TrSt w' ρ w.heap.size tb b .nilIface sv (tcOf (cntOf l) cn l S (fun _ => [])) ∧ ∀ y, y ∈ S ↔ EdgeP l y)
set_option maxRecDepth 100000 in
set_option maxHeartbeats 4000000 in
theorem t_trace (A : Option Addr) (n k : Nat) (l : List Ev) (w : World) (h : Rd encEv w (.slice A n k) l) (hn : l.length = n) (hl : n ≤ 60) (hev : ∀ x ∈ l, EvIn x) :
    Calls Tryz.prog 15 #[.slice A n k] w fun e w' => TracePost l (.slice A n k) w e w' := by
  have H := Lib.hid h
  have HN := Lib.hid hn
  have HEV := Lib.hid hev
  clear h hn hev
  go_enter Tryz.func15, Tryz.ntmps15
  have q0 : ¬ (500 : Int) < (n : Int) := by omega
  have q0' : decide ((500 : Int) < (n : Int)) = false := by simp; omega
  go_wp2_with fail
  clear q0 q0'
  refine (t_new A n k l w H.out HN.out hl).mono ?_; rintro e w1 ⟨ρ, tb, b, rfl, u1, hok, hbad⟩
  have U1 := Lib.hid u1
  clear u1
  by_cases h0 : (notesE [] l).1 = 0
  · obtain ⟨cn, hcn, hs⟩ := hok h0
    have HNo : Hid (Noted l) := Lib.hid ((notesE_ok Noted.nil rfl).1.1 h0)
    have HW : Hid (wrongE l = lostE l 0 l) := Lib.hid (by unfold wrongE; rw [h0, if_neg (by simp)])
    have HS := Lib.hid hs
    have c5 : w1.cell? ⟨tb, 5, none⟩ = some .nilIface := hs.tr.cell 5
    clear hok hbad hs h0
    go_wp2_with fail
    refine (t_lost A n k ρ w.heap.size tb b .nilIface l _ w1 HS.out rfl rfl (H.out.upd0 U1.out) HN.out hl).mono ?_; rintro e w2 ⟨v, rfl, ev, u2⟩
    have U2 := Lib.hid (U1.out.trans u2)
    have S2 := Lib.hid (HS.out.upd0 u2)
    clear c5 u2
    rw [← HW.out] at ev
    rcases ev with ⟨rfl, hz, hz2⟩ | ⟨rfl, hz, hz2⟩ | ⟨g, rfl, hg⟩
    · have HZ : Hid ((wrongE l).1 = 0 ∧ (wrongE l).2 = 0) := Lib.hid ⟨hz, hz2⟩
      clear hz hz2
      have S3 := Lib.hid S2.out.trim
      obtain ⟨ρ2, hρ2⟩ : ∃ ρ2, trimR w2 ρ = ρ2 := ⟨_, rfl⟩
      have HNEW : Hid (∀ x, w2.heap.size ≤ x → ρ2 x = .other) := Lib.hid (fun x hx => by rw [← hρ2]; unfold trimR; rw [if_neg (by omega)])
      rw [hρ2] at S3
      clear hρ2 S2 HS
      obtain ⟨rw0, fw, nw, iw, dw, ew⟩ := S3.out.wr
      have HBE : Hid (ρ2 b.be = .edges) := Lib.hid S3.out.ed.1
      have HBL : Hid (b.be < w2.heap.size) := Lib.hid (by obtain ⟨_, n, hm⟩ := S3.out.ed; exact hm.lt)
      have HRW : Hid (b.bw ∉ [b.be]) := Lib.hid (by
        intro hm
        simp at hm
        rw [hm, HBE.out] at rw0
        cases rw0)
      obtain ⟨L, w5, hr1, it, hfi, hke, _, u5, _⟩ := run_range_int (P := Tryz.prog) (mt := 62) Tryz.underlying62 iw
      have hcell : ∀ x ∈ L, cellIn l x.1 := fun x hx => Classical.byContradiction fun hc => by
        have := (dw x.1).2 hc
        rw [hfi, findI_mem hke hx] at this
        cases this
      have hall : ∀ c, cellIn l c → ∃ x ∈ L, x.1 = c := fun c hc => by
        have : (findI L c).isSome = true := by
          rw [← hfi]
          cases e : fw c with
          | none => exact absurd hc ((dw c).1 e)
          | some _ => rfl
        exact List.mem_map.1 (findI_some.1 this)
      have HCELL := Lib.hid hcell
      have HALL := Lib.hid hall
      have k1 : w2.cell? ⟨tb, 1, none⟩ = some (.map (some b.bw)) := S3.out.tr.cell 1
      have IT := Lib.hid it
      have U5 := Lib.hid u5
      have S5 := Lib.hid (S3.out.upd0 u5)
      clear hcell hall it u5 hfi hke iw dw ew rw0
      go_wp2_with fail
      clear k1 hr1
      obtain ⟨R0, hR0⟩ : ∃ R0, w2.heap.size = R0 := ⟨_, rfl⟩
      rw [hR0] at IT HBL HNEW ⊢
      have HR0 := Lib.hid hR0
      clear hR0
      go_loopw [6] (fun _ wq => Hid (∃ rest S, IIter wq .u64 b.bw R0 L rest ∧ TrSt wq ρ2 w.heap.size tb b .nilIface (.slice A n k) (tcOf (cntOf l) cn l S (fun _ => [])) ∧ (∀ y, y ∈ S ↔ ∃ x, x ∈ L ∧ x ∉ rest ∧ EdgeAt l x.1 y) ∧ Upd [b.be] w2 wq)) (fun _ wq => itLeft b.bw R0 wq)
      case atStart => exact Lib.hid ⟨L, [], IT.out, S5.out, fun y => ⟨fun h => (by cases h), fun ⟨x, h1, h2, _⟩ => absurd h1 h2⟩, U5.out.mono (by simp)⟩
      case round =>
        obtain ⟨rest, S, hit, hT, hM, hU⟩ := hrel.out
        rename World => wq
        have HT := Lib.hid hT
        have HM := Lib.hid hM
        have U6 := Lib.hid hU
        have HLF := Lib.hid hit.left
        have HND := Lib.hid hit.nodup
        clear hrel hT hM hU
        rcases run_next_int (P := Tryz.prog) hit 0 with ⟨h0, r2⟩ | ⟨⟨xk, xv, xs⟩, rest', w7, hp, r2, it2, u2, r3⟩
        · subst h0
          clear hit
          have hrest : Upd [] w wq := U2.out.trans' U6.out (by
            intro y hy
            simp at hy
            subst hy
            exact .inr (S3.out.hi _ (by rw [HBE.out]; simp)))
          have HREST := Lib.hid hrest
          clear hrest
          go_wp2_with fail
          go_ret2
          refine ⟨_, _, rfl, by rw [HZ.out.1, HZ.out.2]; exact ErrV.nil _, HREST.out, fun h => absurd HZ.out.1 h, fun _ => ⟨rfl, ρ2, tb, b, S, cn, rfl, by have := HN.out; omega, HT.out, fun y => ?_⟩⟩
          rw [HM.out, edgeP_at]
          constructor
          · rintro ⟨x, _, _, h⟩
            exact ⟨x.1, h⟩
          · rintro ⟨c, h⟩
            obtain ⟨x, hx, rfl⟩ := HALL.out c (by obtain ⟨x, hx, e⟩ := edgeAt_cell h; exact List.mem_map.2 ⟨x, hx, e⟩)
            exact ⟨x, hx, by simp, h⟩
        · have hxL : (xk, xv, xs) ∈ L := (HND.out.2 _ (hp.mem_iff.1 (List.mem_cons_self ..)))
          have hsz : w2.heap.size ≤ w7.heap.size := Nat.le_trans U6.out.size u2.size
          have U7 : Hid (Upd [b.be] w2 w7) := Lib.hid (U6.out.trans' u2 (by intro y hy; simp at hy; subst hy; exact .inr (by rw [HR0.out]; exact Nat.le_refl _)))
          have T7 : Hid (TrSt w7 ρ2 w.heap.size tb b .nilIface (.slice A n k) (tcOf (cntOf l) cn l S (fun _ => []))) := Lib.hid (HT.out.fr (UpdP.of_upd (O := fun y => y = R0) u2 (by intro y hy; simp at hy; exact .inl hy)) (Agr.refl _ _) HT.out.hi (fun y hy => .inl (by rw [hy]; exact HNEW.out _ (Nat.le_refl _))))
          have IT2 := Lib.hid it2
          have HP := Lib.hid hp
          have HXL := Lib.hid hxL
          clear hit hp it2 u2 hxL
          go_wp2_with fail
          refine (t_cell ρ2 w.heap.size tb b .nilIface (.slice A n k) (cntOf l) cn l S (fun _ => []) xk w7 T7.out (HCELL.out _ HXL.out) HEV.out (by rw [HN.out]; exact hl) HNo.out (fun x hx => HNEW.out x (by have := HR0.out; omega))).mono ?_; rintro e w8 ⟨rfl, S', t8, m8, u8⟩
          have HGO : Hid (∀ z : IEnt, z ∉ rest' ↔ z ∉ rest ∨ z = (xk, xv, xs)) := Lib.hid (gone_step HP.out HND.out.1)
          have IT8 := Lib.hid (IT2.out.upd u8 HRW.out (fun hm => by simp at hm; have := HBL.out; omega))
          have HLL : Hid (itLeft b.bw R0 w8 < itLeft b.bw R0 wq) := Lib.hid (by rw [IT8.out.left, HLF.out, ← HP.out.length_eq]; simp)
          have HREL : Hid (∃ rest S, IIter w8 .u64 b.bw R0 L rest ∧ TrSt w8 ρ2 w.heap.size tb b .nilIface (.slice A n k) (tcOf (cntOf l) cn l S (fun _ => [])) ∧ (∀ y, y ∈ S ↔ ∃ x, x ∈ L ∧ x ∉ rest ∧ EdgeAt l x.1 y) ∧ Upd [b.be] w2 w8) := Lib.hid ⟨rest', S', IT8.out, t8, fun y => by
            rw [m8, HM.out]
            constructor
            · rintro (⟨x, h1, h2, h3⟩ | h)
              · exact ⟨x, h1, (HGO.out x).2 (.inl h2), h3⟩
              · exact ⟨_, HXL.out, (HGO.out _).2 (.inr rfl), h⟩
            · rintro ⟨x, h1, h2, h3⟩
              rcases (HGO.out x).1 h2 with h4 | rfl
              · exact .inl ⟨x, h1, h4, h3⟩
              · exact .inr h3, U7.out.trans u8⟩
          clear t8 m8 u8
          go_wp2_with fail
          go_roundw
          case rel => exact HREL
          case measure => exact HLL.out
    · have HZ := Lib.hid hz
      have HZ2 := Lib.hid hz2
      clear hz hz2
      go_wp2_with fail
      go_ret2
      exact ⟨.pointer none, _, rfl, .inr (.inl ⟨rfl, HZ.out, HZ2.out⟩), U2.out, fun _ => rfl, fun h => absurd h (by have := HZ.out; omega)⟩
    · have HG := Lib.hid hg
      clear hg
      go_wp2_with fail
      go_ret2
      exact ⟨.pointer none, _, rfl, .inr (.inr ⟨g, rfl, HG.out⟩), U2.out, fun _ => rfl, fun h => absurd h (by have := HG.out; omega)⟩
  · have HW : Hid (wrongE l = notesE [] l) := Lib.hid (by unfold wrongE; rw [if_pos h0])
    obtain ⟨fb, x0, x1, x2, x3, x4, hb1, hb2⟩ := hbad h0
    have HB2 := Lib.hid hb2
    have H0 := Lib.hid h0
    have c5 : w1.cell? ⟨tb, 5, none⟩ = some (.iface 52 (.pointer (some ⟨fb, 0, none⟩))) := hb1.cell 5
    clear hok hbad hb1 hb2 h0
    go_wp2_with fail
    go_quiet (fail)
    go_wp2_with fail
    go_ret2
    refine ⟨.pointer none, _, rfl, ?_, U1.out.drewN _, fun _ => rfl, fun h => absurd (by rw [← HW.out]; exact h) H0.out⟩
    rw [HW.out]
    have hno := notesE_no l []
    have := H0.out
    exact ErrV.fault (HB2.out.drewN _) (by omega) (by omega)
end Go.Proofs.YteddiknlcdbhjaaGreatDoor

namespace Go.Proofs.YteddiknlcdbhjaaGreatDoor
open Go.RowKit TrP
attribute [local go_sem] litStep_value

def PutEPost (B : Nat) (l : List Ed) (x : Ed) (w : World) (e : Ending) (w' : World) : Prop := ∃ u, e = .returned u ∧ Ow encE 40 w' B u (putE l x) ∧ Upd [] w w'
def vE (x : Ed) : Value := .agg #[.int .i64 x.1, .int .i64 x.2.1, .int .i64 x.2.2]
set_option maxRecDepth 100000 in
set_option maxHeartbeats 4000000 in
theorem r_putE (B : Nat) (A : Option Addr) (n c : Nat) (l : List Ed) (x : Ed) (w : World) (h : Ow encE 40 w B (.slice A n c) l) (hn : l.length = n) (hl : n ≤ 1000) (hB : B ≤ w.heap.size) :
    Calls Tryz.prog 21 #[.slice A n c, .agg #[.int .i64 x.1, .int .i64 x.2.1, .int .i64 x.2.2]] w fun e w' => PutEPost B l x w e w' := by
  obtain ⟨x0, x1, x2⟩ := x
  have HO := Lib.hid h
  have HN := Lib.hid hn
  have HB := Lib.hid hB
  obtain ⟨A', c', e, hnc, hcm⟩ := own_slice h
  injection e with e1 e2 e3
  subst e1 e3
  rw [hn] at hnc
  unfold maxLen at hcm
  clear h hn e2 hB
  go_enter Tryz.func21, Tryz.ntmps21
  have X0 : Hid (Blk (w.alloc (.cells #[.int .i64 x0, .int .i64 x1, .int .i64 x2] 40)) w.heap.size 40 #[.int .i64 x0, .int .i64 x1, .int .i64 x2]) := Lib.hid (Blk.new w _ _)
  have U1 : Hid (Upd [] w (w.alloc (.cells #[.int .i64 x0, .int .i64 x1, .int .i64 x2] 40))) := Lib.hid ((Upd.refl [] w).alloc _)
  by_cases h01 : x0 = x1
  · subst h01
    go_wp2_with fail
    go_ret
    refine ⟨_, rfl, ?_, U1.out⟩
    rw [show putE l (x0, x0, x2) = l from by simp [putE]]
    exact HO.out.upd0 U1.out
  · have h01' : (x0 == x1) = false := by simpa using h01
    have HPE : Hid (putE l (x0, x1, x2) = insG ltE l (x0, x1, x2)) := Lib.hid (by unfold putE; rw [if_neg h01])
    go_wp2_with fail
    generalize (w.alloc (.cells #[.int .i64 x0, .int .i64 x1, .int .i64 x2] 40)) = w1 at *
    clear h01 h01'
    go_loopw [5] (fun v wr => ∃ k : Nat, v = .int .i64 k ∧ k ≤ n ∧ Hid (Upd [] w1 wr) ∧ Hid (k ≤ posG ltE l (x0, x1, x2))) (fun v _ => n - (intOf v).toNat)
    case atStart => exact ⟨0, rfl, by omega, Lib.hid (.refl _ _), Lib.hid (Nat.zero_le _)⟩
    case round =>
      obtain ⟨k, rfl, hk, KU, HP⟩ := hrel
      have q1 : (0 : Int) ≤ (k : Int) := by omega
      have q3 : (k : Int) ≤ (c : Int) := by omega
      have q4 : (n : Int) ≤ (c : Int) := by omega
      have q5 : (k : Int) ≤ (n : Int) := by omega
      go_upto_region 4 with fail
      go_cut [65] from 12 to 65 (fun t wx => ∃ bt, t = .bool bt ∧ Hid (Upd [] w1 wx) ∧ Hid (bt = true → k < n ∧ k + 1 ≤ posG ltE l (x0, x1, x2)) ∧ Hid (bt = false → k = posG ltE l (x0, x1, x2)))
      case first =>
        have XR := Lib.hid (X0.out.upd KU.out (by simp))
        have c0 : wr.cell? ⟨w.heap.size, 0, none⟩ = some (.int .i64 x0) := XR.out.cell 0
        have c1 : wr.cell? ⟨w.heap.size, 1, none⟩ = some (.int .i64 x1) := XR.out.cell 1
        have c2 : wr.cell? ⟨w.heap.size, 2, none⟩ = some (.int .i64 x2) := XR.out.cell 2
        by_cases hkn : k < n
        · obtain ⟨⟨z0, z1, z2⟩, hz⟩ : ∃ z, l[k]? = some z := ⟨_, List.getElem?_eq_getElem (by rw [HN.out]; omega)⟩
          have HZ := Lib.hid hz
          obtain ⟨g, cg, cur, e1, -⟩ := own_form HO.out (by rw [HN.out]; omega)
          injection e1 with e1 e2 e1'
          subst e1 e1'
          have HR := Lib.hid ((HO.out.upd0 (U1.out.trans KU.out)).at_ hz)
          have z0' : wr.cell? ⟨g, k * 3, none⟩ = some (.int .i64 z0) := HR.out 0 _ rfl
          have z1' : wr.cell? ⟨g, k * 3 + 1, none⟩ = some (.int .i64 z1) := HR.out 1 _ rfl
          have z2' : wr.cell? ⟨g, k * 3 + 2, none⟩ = some (.int .i64 z2) := HR.out 2 _ rfl
          have q2 : (k : Int) < (n : Int) := by omega
          clear hz e2
          by_cases a0 : z0 < x0
          · have e0 : decide (z0 < x0) = true := by simpa using a0
            have HP2 : Hid (k + 1 ≤ posG ltE l (x0, x1, x2)) := Lib.hid (posG_step HP.out HZ.out (ltE_iff.2 (by
              simp only
              omega)))
            go_wp2_with fail
            go_quiet (fail)
            go_wp2_with fail
            go_meet
            exact ⟨_, rfl, Lib.hid (KU.out.drewN _), Lib.hid (fun _ => ⟨hkn, HP2.out⟩), Lib.hid (fun h => by first | (cases h; done) | (simp at h; omega))⟩
          · have e0 : decide (z0 < x0) = false := by simpa using a0
            by_cases b0 : z0 = x0
            · have f0 : (z0 == x0) = true := by simpa using b0
              by_cases a1 : z1 < x1
              · have e1 : decide (z1 < x1) = true := by simpa using a1
                have HP2 : Hid (k + 1 ≤ posG ltE l (x0, x1, x2)) := Lib.hid (posG_step HP.out HZ.out (ltE_iff.2 (by
                  simp only
                  omega)))
                go_wp2_with fail
                go_quiet (fail)
                go_wp2_with fail
                go_meet
                exact ⟨_, rfl, Lib.hid (KU.out.drewN _), Lib.hid (fun _ => ⟨hkn, HP2.out⟩), Lib.hid (fun h => by first | (cases h; done) | (simp at h; omega))⟩
              · have e1 : decide (z1 < x1) = false := by simpa using a1
                by_cases b1 : z1 = x1
                · have f1 : (z1 == x1) = true := by simpa using b1
                  by_cases a2 : z2 < x2
                  · have e2 : decide (z2 < x2) = true := by simpa using a2
                    have HP2 : Hid (k + 1 ≤ posG ltE l (x0, x1, x2)) := Lib.hid (posG_step HP.out HZ.out (ltE_iff.2 (by
                      simp only
                      omega)))
                    go_wp2_with fail
                    go_quiet (fail)
                    go_wp2_with fail
                    go_meet
                    exact ⟨_, rfl, Lib.hid (KU.out.drewN _), Lib.hid (fun _ => ⟨hkn, HP2.out⟩), Lib.hid (fun h => by first | (cases h; done) | (simp at h; omega))⟩
                  · have e2 : decide (z2 < x2) = false := by simpa using a2
                    have HE : Hid (k = posG ltE l (x0, x1, x2)) := Lib.hid (posG_stop HP.out HZ.out (by
                      cases hlt : ltE (z0, z1, z2) (x0, x1, x2) with
                      | false => rfl
                      | true => have := ltE_iff.1 hlt; simp only at this; omega))
                    go_wp2_with fail
                    go_quiet (fail)
                    go_wp2_with fail
                    go_meet
                    exact ⟨_, rfl, Lib.hid (KU.out.drewN _), Lib.hid (fun h => by first | (cases h; done) | (simp at h; omega)), Lib.hid (fun _ => HE.out)⟩
                · have b1' : (z1 == x1) = false := by simpa using b1
                  have HE : Hid (k = posG ltE l (x0, x1, x2)) := Lib.hid (posG_stop HP.out HZ.out (by
                    cases hlt : ltE (z0, z1, z2) (x0, x1, x2) with
                    | false => rfl
                    | true => have := ltE_iff.1 hlt; simp only at this; omega))
                  go_wp2_with fail
                  go_quiet (fail)
                  go_wp2_with fail
                  go_meet
                  exact ⟨_, rfl, Lib.hid (KU.out.drewN _), Lib.hid (fun h => by first | (cases h; done) | (simp at h; omega)), Lib.hid (fun _ => HE.out)⟩
            · have b0' : (z0 == x0) = false := by simpa using b0
              have HE : Hid (k = posG ltE l (x0, x1, x2)) := Lib.hid (posG_stop HP.out HZ.out (by
                cases hlt : ltE (z0, z1, z2) (x0, x1, x2) with
                | false => rfl
                | true => have := ltE_iff.1 hlt; simp only at this; omega))
              go_wp2_with fail
              go_quiet (fail)
              go_wp2_with fail
              go_meet
              exact ⟨_, rfl, Lib.hid (KU.out.drewN _), Lib.hid (fun h => by first | (cases h; done) | (simp at h; omega)), Lib.hid (fun _ => HE.out)⟩
        · have : k = n := by omega
          subst this
          have HE : Hid (k = posG ltE l (x0, x1, x2)) := Lib.hid (by
            have h1 := posG_le (lt := ltE) l (x0, x1, x2)
            have h2 := HP.out
            rw [HN.out] at h1
            omega)
          go_wp2_with fail
          go_quiet (fail)
          go_wp2_with fail
          go_meet
          exact ⟨false, rfl, Lib.hid (KU.out.drewN _), Lib.hid (fun h => by cases h), Lib.hid (fun _ => HE.out)⟩
      case rest =>
        obtain ⟨bt, rfl, UA, HT, HF⟩ := hcut
        rename World => wa
        cases bt with
        | true =>
          obtain ⟨hkn, hp2⟩ := HT.out rfl
          have HP2 := Lib.hid hp2
          clear hp2
          go_wp2_with fail
          go_roundw
          case rel => exact ⟨k + 1, by go_num, by omega, UA, HP2⟩
          case measure => simp [intOf]; omega
        | false =>
          have HE := Lib.hid (HF.out rfl)
          clear HT HF
          go_upto_region 6 with fail
          go_cut [79] from 68 to 79 (fun t wx => ∃ bt, t = .bool bt ∧ Hid (Upd [] w1 wx) ∧ Hid (bt = true → l[k]? = some (x0, x1, x2)) ∧ Hid (bt = false → ¬ l[k]? = some (x0, x1, x2)))
          case first =>
            have XR := Lib.hid (X0.out.upd UA.out (by simp))
            have c0 : wa.cell? ⟨w.heap.size, 0, none⟩ = some (.int .i64 x0) := XR.out.cell 0
            have c1 : wa.cell? ⟨w.heap.size, 1, none⟩ = some (.int .i64 x1) := XR.out.cell 1
            have c2 : wa.cell? ⟨w.heap.size, 2, none⟩ = some (.int .i64 x2) := XR.out.cell 2
            by_cases hkn : k < n
            · obtain ⟨⟨z0, z1, z2⟩, hz⟩ : ∃ z, l[k]? = some z := ⟨_, List.getElem?_eq_getElem (by rw [HN.out]; omega)⟩
              have HZ := Lib.hid hz
              obtain ⟨g, cg, cur, e1, -⟩ := own_form HO.out (by rw [HN.out]; omega)
              injection e1 with e1 e2 e1'
              subst e1 e1'
              have CZ : Hid (∀ W, Upd [] wa.drew W → (W.cell? ⟨g, k * 3, none⟩ = some (.int .i64 z0) ∧ W.cell? ⟨g, k * 3 + 1, none⟩ = some (.int .i64 z1) ∧ W.cell? ⟨g, k * 3 + 2, none⟩ = some (.int .i64 z2)) ∧ (W.cell? ⟨w.heap.size, 0, none⟩ = some (.int .i64 x0) ∧ W.cell? ⟨w.heap.size, 1, none⟩ = some (.int .i64 x1) ∧ W.cell? ⟨w.heap.size, 2, none⟩ = some (.int .i64 x2))) := Lib.hid (fun W hW => by
                have hu : Upd [] wa W := (Upd.refl [] wa).drew.trans hW
                have HR := (HO.out.upd0 ((U1.out.trans UA.out).trans hu)).at_ hz
                have HX := XR.out.upd hu (by simp)
                exact ⟨⟨HR 0 _ rfl, HR 1 _ rfl, HR 2 _ rfl⟩, HX.cell 0, HX.cell 1, HX.cell 2⟩)
              have q2 : (k : Int) < (n : Int) := by omega
              clear hz e2 c0 c1 c2
              by_cases b0 : z0 = x0
              · by_cases b1 : z1 = x1
                · by_cases b2 : z2 = x2
                  · skip
                    go_wp2_with fail
                    refine wp_invN [] [] (by kernel_rfl) (by kernel_rfl) (by kernel_rfl) trivial ?_
                    with_reducible apply wpV_light
                    · simp only [lightOp]
                    · intro W hU hF
                      have f0 := CZ.out W hU
                      clear hU hF
                      go_simp
                      exact rfl
                    simp only [Act.put, List.setIfInBounds_toArray, List.set_cons_zero, List.set_cons_succ]
                    with_reducible apply wpV_light
                    · simp only [lightOp]
                    · intro W hU hF
                      have f0 := CZ.out W hU
                      clear hU hF
                      go_simp
                      exact rfl
                    simp only [Act.put, List.setIfInBounds_toArray, List.set_cons_zero, List.set_cons_succ]
                    with_reducible apply wpV_light
                    · simp only [lightOp]
                    · intro W hU hF
                      have f0 := CZ.out W hU
                      clear hU hF
                      go_simp
                      exact rfl
                    simp only [Act.put, List.setIfInBounds_toArray, List.set_cons_zero, List.set_cons_succ]
                    with_reducible apply wpV_light
                    · simp only [lightOp]
                    · intro W hU hF
                      have f0 := CZ.out W hU
                      clear hU hF
                      go_simp
                      exact rfl
                    simp only [Act.put, List.setIfInBounds_toArray, List.set_cons_zero, List.set_cons_succ]
                    with_reducible apply wpV_light
                    · simp only [lightOp]
                    · intro W hU hF
                      have f0 := CZ.out W hU
                      clear hU hF
                      go_simp
                      exact rfl
                    simp only [Act.put, List.setIfInBounds_toArray, List.set_cons_zero, List.set_cons_succ]
                    with_reducible apply wpV_light
                    · simp only [lightOp]
                    · intro W hU hF
                      have f0 := CZ.out W hU
                      clear hU hF
                      go_simp
                      exact rfl
                    simp only [Act.put, List.setIfInBounds_toArray, List.set_cons_zero, List.set_cons_succ]
                    with_reducible apply wpV_light
                    · simp only [lightOp]
                    · intro W hU hF
                      have f0 := CZ.out W hU
                      clear hU hF
                      go_simp
                      exact rfl
                    simp only [Act.put, List.setIfInBounds_toArray, List.set_cons_zero, List.set_cons_succ]
                    with_reducible apply wpV_light
                    · simp only [lightOp]
                    · intro W hU hF
                      have f0 := CZ.out W hU
                      clear hU hF
                      go_simp
                      exact rfl
                    simp only [Act.put, List.setIfInBounds_toArray, List.set_cons_zero, List.set_cons_succ]
                    with_reducible apply wpV_light
                    · simp only [lightOp]
                    · intro W hU hF
                      have f0 := CZ.out W hU
                      clear hU hF
                      go_simp
                      exact rfl
                    simp only [Act.put, List.setIfInBounds_toArray, List.set_cons_zero, List.set_cons_succ]
                    with_reducible apply wpV_light
                    · simp only [lightOp]
                    · intro W hU hF
                      have f0 := CZ.out W hU
                      clear hU hF
                      go_simp
                      exact rfl
                    simp only [Act.put, List.setIfInBounds_toArray, List.set_cons_zero, List.set_cons_succ]
                    with_reducible apply wpV_light
                    · simp only [lightOp]
                    · intro W hU hF
                      have f0 := CZ.out W hU
                      clear hU hF
                      go_simp
                      exact rfl
                    simp only [Act.put, List.setIfInBounds_toArray, List.set_cons_zero, List.set_cons_succ]
                    with_reducible apply wpV_light
                    · simp only [lightOp]
                    · intro W hU hF
                      have f0 := CZ.out W hU
                      clear hU hF
                      go_simp
                      exact rfl
                    simp only [Act.put, List.setIfInBounds_toArray, List.set_cons_zero, List.set_cons_succ]
                    refine wpV_end (fun W hU _ _ => ?_)
                    have U2 : Hid (Upd [] w1 W) := Lib.hid (UA.out.drew.trans hU)
                    clear hU
                    refine wpT_end ?_
                    go_wp2_with fail
                    go_meet
                    refine ⟨_, rfl, U2, Lib.hid (fun h => ?_), Lib.hid (fun h => ?_)⟩
                    · rw [HZ.out]
                      simp at h
                      try simp [b0, b1, b2]
                    · rw [HZ.out]
                      simp at h
                      try simp [b0, b1, b2]
                  · skip
                    go_wp2_with fail
                    refine wp_invN [] [] (by kernel_rfl) (by kernel_rfl) (by kernel_rfl) trivial ?_
                    with_reducible apply wpV_light
                    · simp only [lightOp]
                    · intro W hU hF
                      have f0 := CZ.out W hU
                      clear hU hF
                      go_simp
                      exact rfl
                    simp only [Act.put, List.setIfInBounds_toArray, List.set_cons_zero, List.set_cons_succ]
                    with_reducible apply wpV_light
                    · simp only [lightOp]
                    · intro W hU hF
                      have f0 := CZ.out W hU
                      clear hU hF
                      go_simp
                      exact rfl
                    simp only [Act.put, List.setIfInBounds_toArray, List.set_cons_zero, List.set_cons_succ]
                    with_reducible apply wpV_light
                    · simp only [lightOp]
                    · intro W hU hF
                      have f0 := CZ.out W hU
                      clear hU hF
                      go_simp
                      exact rfl
                    simp only [Act.put, List.setIfInBounds_toArray, List.set_cons_zero, List.set_cons_succ]
                    with_reducible apply wpV_light
                    · simp only [lightOp]
                    · intro W hU hF
                      have f0 := CZ.out W hU
                      clear hU hF
                      go_simp
                      exact rfl
                    simp only [Act.put, List.setIfInBounds_toArray, List.set_cons_zero, List.set_cons_succ]
                    with_reducible apply wpV_light
                    · simp only [lightOp]
                    · intro W hU hF
                      have f0 := CZ.out W hU
                      clear hU hF
                      go_simp
                      exact rfl
                    simp only [Act.put, List.setIfInBounds_toArray, List.set_cons_zero, List.set_cons_succ]
                    with_reducible apply wpV_light
                    · simp only [lightOp]
                    · intro W hU hF
                      have f0 := CZ.out W hU
                      clear hU hF
                      go_simp
                      exact rfl
                    simp only [Act.put, List.setIfInBounds_toArray, List.set_cons_zero, List.set_cons_succ]
                    with_reducible apply wpV_light
                    · simp only [lightOp]
                    · intro W hU hF
                      have f0 := CZ.out W hU
                      clear hU hF
                      go_simp
                      exact rfl
                    simp only [Act.put, List.setIfInBounds_toArray, List.set_cons_zero, List.set_cons_succ]
                    with_reducible apply wpV_light
                    · simp only [lightOp]
                    · intro W hU hF
                      have f0 := CZ.out W hU
                      clear hU hF
                      go_simp
                      exact rfl
                    simp only [Act.put, List.setIfInBounds_toArray, List.set_cons_zero, List.set_cons_succ]
                    with_reducible apply wpV_light
                    · simp only [lightOp]
                    · intro W hU hF
                      have f0 := CZ.out W hU
                      clear hU hF
                      go_simp
                      exact rfl
                    simp only [Act.put, List.setIfInBounds_toArray, List.set_cons_zero, List.set_cons_succ]
                    with_reducible apply wpV_light
                    · simp only [lightOp]
                    · intro W hU hF
                      have f0 := CZ.out W hU
                      clear hU hF
                      go_simp
                      exact rfl
                    simp only [Act.put, List.setIfInBounds_toArray, List.set_cons_zero, List.set_cons_succ]
                    with_reducible apply wpV_light
                    · simp only [lightOp]
                    · intro W hU hF
                      have f0 := CZ.out W hU
                      clear hU hF
                      go_simp
                      exact rfl
                    simp only [Act.put, List.setIfInBounds_toArray, List.set_cons_zero, List.set_cons_succ]
                    with_reducible apply wpV_light
                    · simp only [lightOp]
                    · intro W hU hF
                      have f0 := CZ.out W hU
                      clear hU hF
                      go_simp
                      exact rfl
                    simp only [Act.put, List.setIfInBounds_toArray, List.set_cons_zero, List.set_cons_succ]
                    refine wpV_end (fun W hU _ _ => ?_)
                    have U2 : Hid (Upd [] w1 W) := Lib.hid (UA.out.drew.trans hU)
                    clear hU
                    refine wpT_end ?_
                    go_wp2_with fail
                    go_meet
                    refine ⟨_, rfl, U2, Lib.hid (fun h => ?_), Lib.hid (fun h => ?_)⟩
                    · rw [HZ.out]
                      simp at h
                      try simp [b2]
                    · rw [HZ.out]
                      simp at h
                      try simp [b2]
                · skip
                  go_wp2_with fail
                  refine wp_invN [] [] (by kernel_rfl) (by kernel_rfl) (by kernel_rfl) trivial ?_
                  with_reducible apply wpV_light
                  · simp only [lightOp]
                  · intro W hU hF
                    have f0 := CZ.out W hU
                    clear hU hF
                    go_simp
                    exact rfl
                  simp only [Act.put, List.setIfInBounds_toArray, List.set_cons_zero, List.set_cons_succ]
                  with_reducible apply wpV_light
                  · simp only [lightOp]
                  · intro W hU hF
                    have f0 := CZ.out W hU
                    clear hU hF
                    go_simp
                    exact rfl
                  simp only [Act.put, List.setIfInBounds_toArray, List.set_cons_zero, List.set_cons_succ]
                  with_reducible apply wpV_light
                  · simp only [lightOp]
                  · intro W hU hF
                    have f0 := CZ.out W hU
                    clear hU hF
                    go_simp
                    exact rfl
                  simp only [Act.put, List.setIfInBounds_toArray, List.set_cons_zero, List.set_cons_succ]
                  with_reducible apply wpV_light
                  · simp only [lightOp]
                  · intro W hU hF
                    have f0 := CZ.out W hU
                    clear hU hF
                    go_simp
                    exact rfl
                  simp only [Act.put, List.setIfInBounds_toArray, List.set_cons_zero, List.set_cons_succ]
                  with_reducible apply wpV_light
                  · simp only [lightOp]
                  · intro W hU hF
                    have f0 := CZ.out W hU
                    clear hU hF
                    go_simp
                    exact rfl
                  simp only [Act.put, List.setIfInBounds_toArray, List.set_cons_zero, List.set_cons_succ]
                  with_reducible apply wpV_light
                  · simp only [lightOp]
                  · intro W hU hF
                    have f0 := CZ.out W hU
                    clear hU hF
                    go_simp
                    exact rfl
                  simp only [Act.put, List.setIfInBounds_toArray, List.set_cons_zero, List.set_cons_succ]
                  with_reducible apply wpV_light
                  · simp only [lightOp]
                  · intro W hU hF
                    have f0 := CZ.out W hU
                    clear hU hF
                    go_simp
                    exact rfl
                  simp only [Act.put, List.setIfInBounds_toArray, List.set_cons_zero, List.set_cons_succ]
                  with_reducible apply wpV_light
                  · simp only [lightOp]
                  · intro W hU hF
                    have f0 := CZ.out W hU
                    clear hU hF
                    go_simp
                    exact rfl
                  simp only [Act.put, List.setIfInBounds_toArray, List.set_cons_zero, List.set_cons_succ]
                  with_reducible apply wpV_light
                  · simp only [lightOp]
                  · intro W hU hF
                    have f0 := CZ.out W hU
                    clear hU hF
                    go_simp
                    exact rfl
                  simp only [Act.put, List.setIfInBounds_toArray, List.set_cons_zero, List.set_cons_succ]
                  with_reducible apply wpV_light
                  · simp only [lightOp]
                  · intro W hU hF
                    have f0 := CZ.out W hU
                    clear hU hF
                    go_simp
                    exact rfl
                  simp only [Act.put, List.setIfInBounds_toArray, List.set_cons_zero, List.set_cons_succ]
                  with_reducible apply wpV_light
                  · simp only [lightOp]
                  · intro W hU hF
                    have f0 := CZ.out W hU
                    clear hU hF
                    go_simp
                    exact rfl
                  simp only [Act.put, List.setIfInBounds_toArray, List.set_cons_zero, List.set_cons_succ]
                  with_reducible apply wpV_light
                  · simp only [lightOp]
                  · intro W hU hF
                    have f0 := CZ.out W hU
                    clear hU hF
                    go_simp
                    exact rfl
                  simp only [Act.put, List.setIfInBounds_toArray, List.set_cons_zero, List.set_cons_succ]
                  refine wpV_end (fun W hU _ _ => ?_)
                  have U2 : Hid (Upd [] w1 W) := Lib.hid (UA.out.drew.trans hU)
                  clear hU
                  refine wpT_end ?_
                  go_wp2_with fail
                  go_meet
                  refine ⟨_, rfl, U2, Lib.hid (fun h => ?_), Lib.hid (fun h => ?_)⟩
                  · rw [HZ.out]
                    simp at h
                    try simp [b1]
                  · rw [HZ.out]
                    simp at h
                    try simp [b1]
              · skip
                go_wp2_with fail
                refine wp_invN [] [] (by kernel_rfl) (by kernel_rfl) (by kernel_rfl) trivial ?_
                with_reducible apply wpV_light
                · simp only [lightOp]
                · intro W hU hF
                  have f0 := CZ.out W hU
                  clear hU hF
                  go_simp
                  exact rfl
                simp only [Act.put, List.setIfInBounds_toArray, List.set_cons_zero, List.set_cons_succ]
                with_reducible apply wpV_light
                · simp only [lightOp]
                · intro W hU hF
                  have f0 := CZ.out W hU
                  clear hU hF
                  go_simp
                  exact rfl
                simp only [Act.put, List.setIfInBounds_toArray, List.set_cons_zero, List.set_cons_succ]
                with_reducible apply wpV_light
                · simp only [lightOp]
                · intro W hU hF
                  have f0 := CZ.out W hU
                  clear hU hF
                  go_simp
                  exact rfl
                simp only [Act.put, List.setIfInBounds_toArray, List.set_cons_zero, List.set_cons_succ]
                with_reducible apply wpV_light
                · simp only [lightOp]
                · intro W hU hF
                  have f0 := CZ.out W hU
                  clear hU hF
                  go_simp
                  exact rfl
                simp only [Act.put, List.setIfInBounds_toArray, List.set_cons_zero, List.set_cons_succ]
                with_reducible apply wpV_light
                · simp only [lightOp]
                · intro W hU hF
                  have f0 := CZ.out W hU
                  clear hU hF
                  go_simp
                  exact rfl
                simp only [Act.put, List.setIfInBounds_toArray, List.set_cons_zero, List.set_cons_succ]
                with_reducible apply wpV_light
                · simp only [lightOp]
                · intro W hU hF
                  have f0 := CZ.out W hU
                  clear hU hF
                  go_simp
                  exact rfl
                simp only [Act.put, List.setIfInBounds_toArray, List.set_cons_zero, List.set_cons_succ]
                with_reducible apply wpV_light
                · simp only [lightOp]
                · intro W hU hF
                  have f0 := CZ.out W hU
                  clear hU hF
                  go_simp
                  exact rfl
                simp only [Act.put, List.setIfInBounds_toArray, List.set_cons_zero, List.set_cons_succ]
                with_reducible apply wpV_light
                · simp only [lightOp]
                · intro W hU hF
                  have f0 := CZ.out W hU
                  clear hU hF
                  go_simp
                  exact rfl
                simp only [Act.put, List.setIfInBounds_toArray, List.set_cons_zero, List.set_cons_succ]
                with_reducible apply wpV_light
                · simp only [lightOp]
                · intro W hU hF
                  have f0 := CZ.out W hU
                  clear hU hF
                  go_simp
                  exact rfl
                simp only [Act.put, List.setIfInBounds_toArray, List.set_cons_zero, List.set_cons_succ]
                with_reducible apply wpV_light
                · simp only [lightOp]
                · intro W hU hF
                  have f0 := CZ.out W hU
                  clear hU hF
                  go_simp
                  exact rfl
                simp only [Act.put, List.setIfInBounds_toArray, List.set_cons_zero, List.set_cons_succ]
                with_reducible apply wpV_light
                · simp only [lightOp]
                · intro W hU hF
                  have f0 := CZ.out W hU
                  clear hU hF
                  go_simp
                  exact rfl
                simp only [Act.put, List.setIfInBounds_toArray, List.set_cons_zero, List.set_cons_succ]
                with_reducible apply wpV_light
                · simp only [lightOp]
                · intro W hU hF
                  have f0 := CZ.out W hU
                  clear hU hF
                  go_simp
                  exact rfl
                simp only [Act.put, List.setIfInBounds_toArray, List.set_cons_zero, List.set_cons_succ]
                refine wpV_end (fun W hU _ _ => ?_)
                have U2 : Hid (Upd [] w1 W) := Lib.hid (UA.out.drew.trans hU)
                clear hU
                refine wpT_end ?_
                go_wp2_with fail
                go_meet
                refine ⟨_, rfl, U2, Lib.hid (fun h => ?_), Lib.hid (fun h => ?_)⟩
                · rw [HZ.out]
                  simp at h
                  try simp [b0]
                · rw [HZ.out]
                  simp at h
                  try simp [b0]
            · have : k = n := by omega
              subst this
              go_wp2_with fail
              go_quiet (fail)
              go_wp2_with fail
              go_meet
              exact ⟨false, rfl, Lib.hid (UA.out.drewN _), Lib.hid (fun h => by cases h), Lib.hid (fun _ => by rw [List.getElem?_eq_none (by rw [HN.out]; omega)]; simp)⟩
          case rest =>
            obtain ⟨bt, rfl, U2, HT, HF⟩ := hcut
            rename World => w2
            cases bt with
            | true =>
              have HQ := Lib.hid (HT.out rfl)
              go_wp2_with fail
              go_ret
              refine ⟨_, rfl, ?_, U1.out.trans U2.out⟩
              rw [HPE.out, show insG ltE l (x0, x1, x2) = l from by unfold insG; rw [← HE.out, if_pos HQ.out]]
              exact HO.out.upd0 (U1.out.trans U2.out)
            | false =>
              have HNE := Lib.hid (HF.out rfl)
              clear HT HF
              have W2 : Hid (Upd [] w w2) := Lib.hid (U1.out.trans U2.out)
              have CS : Hid (∀ W, Upd [] w2.drew W → W.cell? ⟨w.heap.size, 0, none⟩ = some (.int .i64 x0) ∧ W.cell? ⟨w.heap.size, 1, none⟩ = some (.int .i64 x1) ∧ W.cell? ⟨w.heap.size, 2, none⟩ = some (.int .i64 x2)) := Lib.hid (fun W hW => by
                have hu : Upd [] w2 W := (Upd.refl [] w2).drew.trans hW
                have hy := X0.out.upd (U2.out.trans hu) (by simp)
                exact ⟨hy.cell 0, hy.cell 1, hy.cell 2⟩)
              have F1 : Hid (∀ W, Upd [] w2.drew W → Src W 3 (.slice A k c) k (flat encE (l.take k))) := Lib.hid (fun W hW => by
                have hu : Upd [] w2 W := (Upd.refl [] w2).drew.trans hW
                have := (HO.out.upd0 (W2.out.trans hu)).rd.take k (by rw [HN.out]; exact hk) c
                unfold Rd at this
                rwa [List.length_take, HN.out, Nat.min_eq_left hk] at this)
              have F2 : Hid (∀ W, Upd [] w2.drew W → Src W 3 (.slice (if c = k then A else Option.map (fun x => x.add (k * 3)) A) (n - k) (c - k)) (n - k) (flat encE (l.drop k))) := Lib.hid (fun W hW => by
                have hu : Upd [] w2 W := (Upd.refl [] w2).drew.trans hW
                have := (HO.out.upd0 (W2.out.trans hu)).rd.drop k (by rw [HN.out]; exact hk) hnc (c - k)
                unfold Rd at this
                rwa [List.length_drop, HN.out] at this)
              have SZ : Hid (w.heap.size ≤ w2.heap.size) := Lib.hid W2.out.size
              have EQ : Hid (flat encE (l.take k) ++ ([Value.int .i64 x0, Value.int .i64 x1, Value.int .i64 x2] ++ flat encE (l.drop k)) = flat encE (putE l (x0, x1, x2)) ∧ (putE l (x0, x1, x2)).length = n + 1) := Lib.hid (by
                have hput : putE l (x0, x1, x2) = l.take k ++ ((x0, x1, x2) :: l.drop k) := by
                  rw [HPE.out]
                  unfold insG
                  rw [← HE.out, if_neg HNE.out]
                rw [hput]
                refine ⟨?_, ?_⟩
                · rw [flat_append, flat_cons]; rfl
                · simp [HN.out]; omega)
              go_wp2_with fail
              refine wp_invN [(0, .own w.heap.size 40 3 0 []), (4, .own w.heap.size 40 3 k (flat encE (l.take k))), (6, .lit 40 #[.int .i64 x0, .int .i64 x1, .int .i64 x2] 1), (7, .own w.heap.size 40 3 (k + 1) (flat encE (l.take k) ++ [.int .i64 x0, .int .i64 x1, .int .i64 x2])), (11, .own w.heap.size 40 3 (n + 1) (flat encE (l.take k) ++ [.int .i64 x0, .int .i64 x1, .int .i64 x2] ++ flat encE (l.drop k)))] [(4, [0]), (7, [4]), (11, [7])] (by kernel_rfl) (by kernel_rfl) (by kernel_rfl) ⟨lasts_own _ _ _ _ _ (by simp [maxLen]), lasts_own _ _ _ _ _ (by unfold maxLen; omega), lasts_lit _ _ _, lasts_own _ _ _ _ _ (by unfold maxLen; omega), lasts_own _ _ _ _ _ (by unfold maxLen; omega), trivial⟩ ?_
              refine wpV_heavy (by simp only [lightOp]) (by rfl) (fun W hU hk hF K hK => ?_) ?_
              · go_wp2_with fail
                exact wpV_made hK rfl rfl rfl rfl (Nat.le_trans SZ.out hU.size)
              rintro _ ⟨A1, c1', rfl, _, _⟩
              simp only [Act.put, List.setIfInBounds_toArray, List.set_cons_zero, List.set_cons_succ]
              with_reducible apply wpV_light
              · simp only [lightOp]
              · intro W hU hF
                have f0 := CS.out W hU
                clear hU hF
                go_simp
                exact rfl
              simp only [Act.put, List.setIfInBounds_toArray, List.set_cons_zero, List.set_cons_succ]
              with_reducible apply wpV_light
              · simp only [lightOp]
              · intro W hU hF
                have f0 := CS.out W hU
                clear hU hF
                go_simp
                exact rfl
              simp only [Act.put, List.setIfInBounds_toArray, List.set_cons_zero, List.set_cons_succ]
              with_reducible apply wpV_light
              · simp only [lightOp]
              · intro W hU hF
                have f0 := CS.out W hU
                clear hU hF
                go_simp
                exact rfl
              simp only [Act.put, List.setIfInBounds_toArray, List.set_cons_zero, List.set_cons_succ]
              refine wpV_heavy (by simp only [lightOp]) (by rfl) (fun W hU hk hF K hK => ?_) ?_
              · exact wpV_app hK (.tmp 81) (.tmp 84) _ (by rfl) edge_elem _ _ (by rfl) (by rfl) rfl rfl (by simp [usedV, mkI, conOf, specOf, Spec.own]) (hF.out.1 (by kernel_rfl)) (F1.out W hU) (by omega) (by simp) flat_cells (by unfold maxLen; omega) (by omega) (Nat.le_trans SZ.out hU.size)
              rintro _ ⟨A2, c2', rfl, _, _⟩
              simp only [Act.put, List.setIfInBounds_toArray, List.set_cons_zero, List.set_cons_succ]
              with_reducible apply wpV_light
              · simp only [lightOp]
              · intro W hU hF
                have f0 := CS.out W hU
                clear hU hF
                go_simp
                exact rfl
              simp only [Act.put, List.setIfInBounds_toArray, List.set_cons_zero, List.set_cons_succ]
              refine wpV_heavy (by simp only [lightOp]) (by rfl) (fun W hU hk hF K hK => ?_) ?_
              · go_wp2_with fail
                exact wpV_lit hK rfl rfl rfl
              rintro _ ⟨g3, rfl⟩
              simp only [Act.put, List.setIfInBounds_toArray, List.set_cons_zero, List.set_cons_succ]
              refine wpV_heavy (by simp only [lightOp]) (by rfl) (fun W hU hk hF K hK => ?_) ?_
              · obtain ⟨g', he, hbl⟩ := hF.out.2.2.1 (by kernel_rfl)
                injection he with he _ _
                injection he with he
                injection he with he
                subst he
                exact wpV_app hK (.tmp 85) (.tmp 87) _ (by rfl) edge_elem _ _ (by rfl) (by rfl) rfl rfl (by simp [usedV, mkI, conOf, specOf, Spec.own]) (hF.out.2.1 (by kernel_rfl)) (.of_blk hbl (m := 1) 1 rfl) (by omega) (by simp) (by intro u hu; simp at hu; rcases hu with rfl | rfl | rfl <;> rfl) (by unfold maxLen; omega) (by omega) (Nat.le_trans SZ.out hU.size)
              rintro _ ⟨A4, c4, rfl, _, _⟩
              simp only [Act.put, List.setIfInBounds_toArray, List.set_cons_zero, List.set_cons_succ]
              with_reducible apply wpV_light
              · simp only [lightOp]
              · intro W hU hF
                have f0 := CS.out W hU
                clear hU hF
                go_simp
                exact rfl
              simp only [Act.put, List.setIfInBounds_toArray, List.set_cons_zero, List.set_cons_succ]
              with_reducible apply wpV_light
              · simp only [lightOp]
              · intro W hU hF
                have f0 := CS.out W hU
                clear hU hF
                go_simp
                exact rfl
              simp only [Act.put, List.setIfInBounds_toArray, List.set_cons_zero, List.set_cons_succ]
              with_reducible apply wpV_light
              · simp only [lightOp]
              · intro W hU hF
                have f0 := CS.out W hU
                clear hU hF
                go_simp
                exact rfl
              simp only [Act.put, List.setIfInBounds_toArray, List.set_cons_zero, List.set_cons_succ]
              refine wpV_heavy (by simp only [lightOp]) (by rfl) (fun W hU hk hF K hK => ?_) ?_
              · exact wpV_app hK (.tmp 88) (.tmp 91) _ (by rfl) edge_elem _ _ (by rfl) (by rfl) rfl rfl (by simp [usedV, mkI, conOf, specOf, Spec.own]) (hF.out.2.2.2.1 (by kernel_rfl)) (F2.out W hU) (by omega) (by simp) flat_cells (by unfold maxLen; omega) (by omega) (Nat.le_trans SZ.out hU.size)
              rintro _ ⟨A5, c5, rfl, _, _⟩
              simp only [Act.put, List.setIfInBounds_toArray, List.set_cons_zero, List.set_cons_succ]
              with_reducible apply wpV_light
              · simp only [lightOp]
              · intro W hU hF
                have f0 := CS.out W hU
                clear hU hF
                go_simp
                exact rfl
              simp only [Act.put, List.setIfInBounds_toArray, List.set_cons_zero, List.set_cons_succ]
              refine wpV_end (fun W hU _ hF => ?_)
              have U3 : Hid (Upd [] w W) := Lib.hid (W2.out.drew.trans hU)
              have O3 : Hid (Ow encE 40 W w.heap.size (.slice A5 (n + 1) c5) (putE l (x0, x1, x2))) := Lib.hid (by
                have := hF.out.2.2.2.2.1 (by kernel_rfl)
                unfold Ow
                rw [EQ.out.2, ← EQ.out.1, ← List.append_assoc]
                exact this)
              clear hU hF
              refine wpT_end ?_
              go_wp2_with fail
              all_goals
                go_ret
                exact ⟨_, rfl, own_base O3.out HB.out, U3.out⟩
end Go.Proofs.YteddiknlcdbhjaaGreatDoor

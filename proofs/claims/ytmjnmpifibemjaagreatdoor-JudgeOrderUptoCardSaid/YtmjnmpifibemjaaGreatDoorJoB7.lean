/-
 concordlaw09.weight, Few: how many statements there are.
 concordlaw09.Few.
 append, and slice literals, as operations of a drawn region. No program in sight.
 A plan, and transactions that ended, in memory.
 judge.txn: a transaction of a plan.
 Maps whose keys are integers: what they hold, what a look-up, a store, a delete, an assignment's two halves make of them. No program in sight.
 model.State: what it keeps; coll, Get, Size, Kinds.
 model.State: Get, Size, Put, Del.
-/
import Derived.Test.YtmjnmpifibemjaaGreatDoorJoB4
import Derived.IntWalk
import Derived.Test.YtmjnmpifibemjaaGreatDoorJoB3
import Derived.Test.YtmjnmpifibemjaaGreatDoorJoB6
import Derived.BigQuiet
import Derived.Deep.QuietTactic
import Derived.Test.YtmjnmpifibemjaaGreatDoorJoB0
import Derived.MapKept
import Derived.Maps.Own
import Derived.Test.YtmjnmpifibemjaaGreatDoorJoB2
import Derived.OwnWalk
set_option linter.unusedVariables false
namespace Go.Proofs.YtmjnmpifibemjaaGreatDoor
open Go.RowKit
attribute [local go_sem] litStep_value

/-- What weight counts on; and of all. -/
def wtG (r : Nat → List Stm → Nat) (d : Nat) : List Stm → Nat → Nat
 | [], n => n
 | .mk _ _ _ _ _ _ _ b e :: l, n => if n < 1000 then wtG r d l (n + 1 + r (d + 1) b + r (d + 1) e) else n
def wtF : Nat → Nat → List Stm → Nat
 | 0, _, _ => 0
 | m + 1, d, l => if 30 < d then 1000 else min (wtG (wtF m) d l 0) 1000
theorem wtF_le : ∀ m d l, wtF m d l ≤ 1000
 | 0, _, _ => by simp [wtF]
 | m + 1, d, l => by unfold wtF; split <;> omega
theorem wtG_done (r : Nat → List Stm → Nat) (d : Nat) (l : List Stm) (n : Nat) (h : ¬ n < 1000) : wtG r d l n = n := by
 cases l with
 | nil => rfl
 | cons s l => cases s; unfold wtG; rw [if_neg h]
/-- Where it is below 1000 it is how many there are. -/
theorem wtG_cons (r : Nat → List Stm → Nat) (d : Nat) (a1 a2 a3 a4 a5 a6 a7 : Int) (b e l : List Stm) (n : Nat) : wtG r d (.mk a1 a2 a3 a4 a5 a6 a7 b e :: l) n = if n < 1000 then wtG r d l (n + 1 + r (d + 1) b + r (d + 1) e) else n := rfl
set_option maxRecDepth 100000 in
set_option maxHeartbeats 4000000 in
theorem weight_ok {B : Nat} : ∀ (m : Nat) (d : Nat) (l : List Stm) (v : Value) (w : World), 31 < m + d → d ≤ 31 → Stms w B v l → B ≤ w.heap.size →
 Calls Tryz.prog 74 #[v, .int .i64 d] w fun e w' => e = .returned (.int .i64 (wtF m d l)) ∧ Upd [] w w' := by
 intro m
 induction m with
 | zero => intro d l v w h1 h2; omega
 | succ m ih =>
   intro d l v w hm hd hv hB
   by_cases h30 : 30 < d
   ·have h30' : decide ((30 : Int) < d) = true := by simp; omega
    have HR : Hid (wtF (m + 1) d l = 1000) := Lib.hid (by unfold wtF; rw [if_pos h30])
    go_enter Tryz.func74, Tryz.ntmps74
    go_wp2_with fail
    go_ret
    rw [HR.out]
    exact ⟨rfl, .refl _ _⟩
   ·have h30' : decide ((30 : Int) < d) = false := by simp; omega
    have HR : Hid (wtF (m + 1) d l = min (wtG (wtF m) d (l.drop 0) 0) 1000) := Lib.hid (by unfold wtF; rw [if_neg h30]; rfl)
    obtain ⟨tot, htot⟩ : ∃ t, wtF (m + 1) d l = t := ⟨_, rfl⟩
    rw [htot] at HR ⊢
    have IH := Lib.hid ih
    have HLI := Lib.hid hv
    have HLE : Hid (∀ d l, wtF m d l ≤ 1000) := Lib.hid (wtF_le m)
    clear htot ih
    cases hv with
    | mk A nn c l vb ve hln hc hcm hcell hbb hee =>
    have hnn : nn ≤ 9223372036854775807 := by omega
    have HLN := Lib.hid hln
    have HCE := Lib.hid hcell
    have HBB := Lib.hid hbb
    have HEE := Lib.hid hee
    clear hln hcell hbb hee
    go_enter Tryz.func74, Tryz.ntmps74
    go_wp2_with fail
    go_loopw [5, 6] (fun u i wr => ∃ (k n : Nat), u = .int .i64 n ∧ n ≤ 3000 ∧ i = .int .i64 k ∧ k ≤ nn ∧ Hid (tot = min (wtG (wtF m) d (l.drop k) n) 1000) ∧ Hid (Upd [] w wr)) (fun _ i _ => nn - (intOf i).toNat)
    case atStart => exact ⟨0, 0, rfl, by omega, rfl, by omega, HR, Lib.hid (.refl _ _)⟩
    case round =>
     obtain ⟨k, n, rfl, hn, rfl, hk, KR, KU⟩ := hrel
     by_cases hkn : k < nn
     ·have hkn' : decide ((k : Int) < nn) = true := by simp; omega
      by_cases hn1 : n < 1000
      ·have hn1' : decide ((n : Int) < 1000) = true := by simp; omega
       obtain ⟨x, hx⟩ : ∃ x, l[k]? = some x := ⟨_, List.getElem?_eq_getElem (by rw [HLN.out]; exact hkn)⟩
       obtain ⟨a1, a2, a3, a4, a5, a6, a7, bo, el⟩ := x
       have HZ : Hid (tot = min (wtG (wtF m) d (l.drop (k + 1)) (n + 1 + wtF m (d + 1) bo + wtF m (d + 1) el)) 1000) := Lib.hid (by
        rw [KR.out]
        obtain ⟨hl, he⟩ := List.getElem?_eq_some_iff.1 hx
        rw [List.drop_eq_getElem_cons hl, he, wtG_cons, if_pos hn1])
       obtain ⟨ad, rfl, hlt, hcc⟩ := HCE.out k a1 a2 a3 a4 a5 a6 a7 bo el hx
       have hsb := HBB.out k a1 a2 a3 a4 a5 a6 a7 bo el hx
       have hse := HEE.out k a1 a2 a3 a4 a5 a6 a7 bo el hx
       obtain ⟨Ab, nb, cb, hvb⟩ := hsb.slice
       obtain ⟨Ae, ne, ce, hve⟩ := hse.slice
       rw [hvb, hve] at hcc
       rw [hvb] at hsb
       rw [hve] at hse
       have HSB := Lib.hid hsb
       have HSE := Lib.hid hse
       have CS : Hid (∀ W, Upd [] wr.drew W → W.cell? ⟨(ad.add (k * 9)).block, (ad.add (k * 9)).off + (6 + 1), none⟩ = some (.slice Ab nb cb) ∧ W.cell? ⟨(ad.add (k * 9)).block, (ad.add (k * 9)).off + (7 + 1), none⟩ = some (.slice Ae ne ce)) := Lib.hid (fun W hW => by
        have hb : Below B w W := (KU.out.drew.trans hW).below hB (by simp)
        constructor
        ·rw [← add_more]; exact (hb.cell (by rw [block_add]; exact hlt)).trans (hcc 7 _ rfl)
        ·rw [← add_more]; exact (hb.cell (by rw [block_add]; exact hlt)).trans (hcc 8 _ rfl))
       have hr1 := HLE.out (d + 1) bo
       have hr2 := HLE.out (d + 1) el
       obtain ⟨r1, hr1e⟩ : ∃ r, wtF m (d + 1) bo = r := ⟨_, rfl⟩
       obtain ⟨r2, hr2e⟩ : ∃ r, wtF m (d + 1) el = r := ⟨_, rfl⟩
       rw [hr1e, hr2e] at HZ
       rw [hr1e] at hr1
       rw [hr2e] at hr2
       have HE1 := Lib.hid hr1e
       have HE2 := Lib.hid hr2e
       clear hvb hve hsb hse hcc hx hr1e hr2e
       have e1 : IntKind.i64.wrap ((n : Int) + 1) = (n : Int) + 1 := IntWalk.i64_in _ (by omega)
       have e2 : IntKind.i64.wrap ((n : Int) + 1 + r1) = (n : Int) + 1 + r1 := IntWalk.i64_in _ (by omega)
       have e3 : IntKind.i64.wrap ((n : Int) + 1 + r1 + r2) = (n : Int) + 1 + r1 + r2 := IntWalk.i64_in _ (by omega)
       have e4 : IntKind.i64.wrap ((d : Int) + 1) = (d : Int) + 1 := IntWalk.i64_in _ (by omega)
       have q1 : (0 : Int) ≤ (k : Int) := by omega
       have q2 : (k : Int) < (nn : Int) := by omega
       go_wp2_with fail
       refine wp_invN [(9, .det (.int .i64 r1)), (18, .det (.int .i64 r2))] [] (by kernel_rfl) (by kernel_rfl) (by kernel_rfl) ⟨lasts_det _, lasts_det _, trivial⟩ ?_
       iterate 9 (
        with_reducible apply wpV_light
        ·simp only [lightOp]
        ·intro W hU hF
         have f0 := CS.out W hU
         clear hU hF
         go_simp
         exact rfl
        simp only [Act.put, List.setIfInBounds_toArray, List.set_cons_zero, List.set_cons_succ])
       refine wpV_heavy (by simp only [lightOp]) (by rfl) (fun W hU hk hF K hK => ?_) ?_
       ·go_wp2_with fail
        have hc := IH.out (d + 1) bo (.slice Ab nb cb) W (by omega) (by omega) (HSB.out.belowW ((KU.out.drew.trans hU).below hB (by simp))) (Nat.le_trans hB (KU.out.drew.trans hU).size)
        rw [show ((d + 1 : Nat) : Int) = (d : Int) + 1 by omega, HE1.out] at hc
        refine hc.mono ?_; rintro e w2 ⟨rfl, u2⟩
        go_wp2_with fail
        exact hK.out _ _ (outV_new rfl rfl (by intro b hb; cases hb) u2)
       rintro _ rfl
       simp only [Act.put, List.setIfInBounds_toArray, List.set_cons_zero, List.set_cons_succ]
       iterate 8 (
        with_reducible apply wpV_light
        ·simp only [lightOp]
        ·intro W hU hF
         have f0 := CS.out W hU
         clear hU hF
         go_simp
         exact rfl
        simp only [Act.put, List.setIfInBounds_toArray, List.set_cons_zero, List.set_cons_succ])
       refine wpV_heavy (by simp only [lightOp]) (by rfl) (fun W hU hk hF K hK => ?_) ?_
       ·go_wp2_with fail
        have hc := IH.out (d + 1) el (.slice Ae ne ce) W (by omega) (by omega) (HSE.out.belowW ((KU.out.drew.trans hU).below hB (by simp))) (Nat.le_trans hB (KU.out.drew.trans hU).size)
        rw [show ((d + 1 : Nat) : Int) = (d : Int) + 1 by omega, HE2.out] at hc
        refine hc.mono ?_; rintro e w2 ⟨rfl, u2⟩
        go_wp2_with fail
        exact hK.out _ _ (outV_new rfl rfl (by intro b hb; cases hb) u2)
       rintro _ rfl
       simp only [Act.put, List.setIfInBounds_toArray, List.set_cons_zero, List.set_cons_succ]
       iterate 2 (
        with_reducible apply wpV_light
        ·simp only [lightOp]
        ·intro W hU hF
         have f0 := CS.out W hU
         clear hU hF
         go_simp
         exact rfl
        simp only [Act.put, List.setIfInBounds_toArray, List.set_cons_zero, List.set_cons_succ])
       refine wpV_end (fun W hU _ _ => ?_)
       have KU2 : Hid (Upd [] w W) := Lib.hid (KU.out.drew.trans hU)
       clear hU e1 e2 e3 e4 q1 q2
       refine wpT_end ?_
       go_wp2_with fail
       go_roundw
       case rel => exact ⟨k + 1, n + 1 + r1 + r2, by go_num, by omega, by go_num, by omega, HZ, KU2⟩
       case measure => simp [intOf]; omega
      ·have hn1' : decide ((n : Int) < 1000) = false := by simp; omega
       have HZ : Hid (tot = 1000) := Lib.hid (by rw [KR.out, wtG_done _ _ _ _ hn1]; omega)
       go_wp2_with fail
       all_goals
        go_ret
        refine ⟨congrArg (fun x => Ending.returned (.int .i64 x)) ?_, KU.out⟩
        rw [HZ.out]
        omega
     ·obtain rfl : nn = k := by omega
      have HZ : Hid (tot = min n 1000) := Lib.hid (by rw [KR.out, List.drop_eq_nil_of_le (by rw [HLN.out]; exact Nat.le_refl _)]; rfl)
      go_wp2_with fail
      all_goals
       go_ret
       refine ⟨congrArg (fun x => Ending.returned (.int .i64 x)) ?_, KU.out⟩
       rw [HZ.out]
       omega
end Go.Proofs.YtmjnmpifibemjaaGreatDoor

namespace Go.Proofs.YtmjnmpifibemjaaGreatDoor
open Go.RowKit

/-- Is a transaction gone through? -/
def fewB (l : List Stm) : Bool := decide (wtF 32 0 l ≤ 250)
theorem few_ok (l : List Stm) (v : Value) (w : World) (hv : Stms w w.heap.size v l) : Calls Tryz.prog 44 #[v] w fun e w' => e = .returned (.bool (fewB l)) ∧ Upd [] w w' := by
 have hc := weight_ok 32 0 l v w (by omega) (by omega) hv (Nat.le_refl _)
 rw [show ((0 : Nat) : Int) = 0 from rfl] at hc
 have HC := Lib.hid hc
 have HF : Hid (fewB l = decide ((wtF 32 0 l : Int) ≤ 250)) := Lib.hid (by unfold fewB; rw [Bool.eq_iff_iff]; simp; omega)
 clear hc hv
 go_enter Tryz.func44, Tryz.ntmps44
 go_wp2_with fail
 refine HC.out.mono ?_; rintro e w1 ⟨rfl, u1⟩
 have U1 := Lib.hid u1
 clear u1
 go_wp2_with fail
 go_ret
 rw [HF.out]
 exact ⟨rfl, U1.out⟩

theorem stms_one {w : World} {g : Nat} {t : TypeId} {a1 a2 a3 a4 a5 a6 a7 : Int} {vb ve : Value} {bo el : List Stm} (h : Blk w g t (stmCells a1 a2 a3 a4 a5 a6 a7 vb ve).toArray) (B : Nat) (hg : g < B) (c : Nat) (hc : 1 ≤ c) (hm : c ≤ 9223372036854775807) (hb : Stms w B vb bo) (he : Stms w B ve el) :
 Stms w B (.slice (some ⟨g, 0, none⟩) 1 c) [.mk a1 a2 a3 a4 a5 a6 a7 bo el] := by
 have one : ∀ {k : Nat} {s : Stm}, [Stm.mk a1 a2 a3 a4 a5 a6 a7 bo el][k]? = some s → k = 0 ∧ s = .mk a1 a2 a3 a4 a5 a6 a7 bo el := fun {k s} h => by
  cases k with
  | zero => simp at h; exact ⟨rfl, h.symm⟩
  | succ k => simp at h
 refine .mk _ 1 c _ (fun _ => vb) (fun _ => ve) rfl hc hm (fun k b1 b2 b3 b4 b5 b6 b7 b e hk => ?_) (fun k b1 b2 b3 b4 b5 b6 b7 b e hk => ?_) (fun k b1 b2 b3 b4 b5 b6 b7 b e hk => ?_)
 ·obtain ⟨rfl, hs⟩ := one hk
  cases hs
  refine ⟨_, rfl, hg, fun j u hu => ?_⟩
  rw [add_head, h.cell, ← Array.getElem?_toList, Nat.zero_mul, Nat.zero_add]
  exact hu
 ·obtain ⟨rfl, hs⟩ := one hk
  cases hs
  exact hb
 ·obtain ⟨rfl, hs⟩ := one hk
  cases hs
  exact he
theorem stms_nil (w : World) (B : Nat) : Stms w B (.slice none 0 0) [] := .mk none 0 0 [] (fun _ => .nilIface) (fun _ => .nilIface) rfl (Nat.le_refl _) (by omega) (by simp) (by simp) (by simp)
end Go.Proofs.YtmjnmpifibemjaaGreatDoor

namespace Go.Proofs.YtmjnmpifibemjaaGreatDoor
open Go Go.RowKit

section
variable {P : Program} {ops : Array Oper} {Q : Exit → Act → World → Prop} {o : Oper} {l : List Oper} {j s : Nat} {A : Act} {G : List (Nat × Value)}
variable {S : List Nat} {w0 : World} {Kx : Nat → World → Prop} {L : List (Nat × Spec)} {C : List (Nat × List Nat)} {CH : List Nat} {nb : Nat} {tl : List Oper}
end
end Go.Proofs.YtmjnmpifibemjaaGreatDoor

namespace Go.Proofs.YtmjnmpifibemjaaGreatDoor
open Go.RowKit St Jd

structure PlanV (w : World) (p : Pn) (kv tv : Value) : Prop where
 ks : Src w 1 kv p.ks.length (p.ks.map (Value.int .i64))
 ths : ∃ vs, Src w 1 tv p.ths.length vs ∧ ∀ (i : Nat) v ts, vs[i]? = some v → p.ths[i]? = some ts → ∃ us, Src w 1 v ts.length us ∧ ∀ (j : Nat) u l, us[j]? = some u → ts[j]? = some l → Stms w w.heap.size u l
abbrev planC (p : Pn) (kv tv : Value) : Value := .agg #[.int .i64 p.words, .int .i64 p.pat, kv, tv]
theorem Stms.upd0 {w w' : World} {v : Value} {l : List Stm} (h : Stms w w.heap.size v l) (hu : Upd [] w w') : Stms w' w'.heap.size v l := (h.belowW (hu.below (Nat.le_refl _) (by simp))).more hu.size
theorem PlanV.upd0 {w w' : World} {p : Pn} {kv tv : Value} (h : PlanV w p kv tv) (hu : Upd [] w w') : PlanV w' p kv tv := by
 obtain ⟨h1, vs, h2, h3⟩ := h
 refine ⟨h1.upd0 hu, vs, h2.upd0 hu, fun i v ts hv ht => ?_⟩
 obtain ⟨us, h4, h5⟩ := h3 i v ts hv ht
 exact ⟨us, h4.upd0 hu, fun j u l hj hl => (h5 j u l hj hl).upd0 hu⟩
/-- What a transaction was told, as it lies in memory. -/
def tlW (w : World) (m : En) : List Int := (List.range m.tn).map fun i => match m.ta with | some a => intOf ((w.cell? (a.add i)).getD undef) | none => 0
def attE (m : En) : Att := ⟨m.th, m.ix, m.st, m.wr, m.be, m.en⟩
def edW (w : World) (m : En) : Ed := ⟨attE m, m.kd, tlW w m, m.er⟩
def edsW (w : World) (M : List En) : List Ed := M.map (edW w)
theorem tlW_len (w : World) (m : En) : (tlW w m).length = m.tn := by simp [tlW]
theorem tlW_eq {w : World} {m : En} {l : List Int} (h : Src w 1 (.slice m.ta m.tn m.tc) m.tn (l.map (Value.int .i64))) : tlW w m = l := by
 obtain ⟨h1, A, c, e, h2⟩ := h
 injection e with e1 e2 e3
 have hl : l.length = m.tn := by simpa using h1
 apply List.ext_getElem?
 intro i
 by_cases hi : i < m.tn
 ·have hli : l[i]? = some l[i] := List.getElem?_eq_getElem (by omega)
  obtain ⟨ad, hA, _, hc⟩ := h2 i (.int .i64 l[i]) (by rw [List.getElem?_map, hli]; rfl)
  unfold tlW
  rw [List.getElem?_map, List.getElem?_range hi, hli]
  simp only [Option.map_some]
  rw [e1, hA]
  simp only [hc, Option.getD_some, intOf]
 ·rw [List.getElem?_eq_none (by rw [tlW_len]; omega), List.getElem?_eq_none (by omega)]
/-- What they were told can be read. -/
def EnOk (w : World) (m : En) : Prop := Src w 1 (.slice m.ta m.tn m.tc) m.tn ((tlW w m).map (Value.int .i64))
theorem EnOk.upd0 {w w' : World} {m : En} (h : EnOk w m) (hu : Upd [] w w') : EnOk w' m ∧ tlW w' m = tlW w m := by
 have h1 : Src w' 1 (.slice m.ta m.tn m.tc) m.tn ((tlW w m).map (Value.int .i64)) := Src.upd0 h hu
 have e := tlW_eq h1
 exact ⟨by unfold EnOk; rw [e]; exact h1, e⟩
/-- Attempts, as things of six cells. -/
def encA : Enc Att := ⟨fun x => [.int .i64 x.th, .int .i64 x.ix, .int .i64 x.st, .bool x.wr, .int .i64 x.be, .int .i64 x.en], 6, fun _ => rfl, by intro a u hu; simp at hu; rcases hu with rfl | rfl | rfl | rfl | rfl | rfl <;> rfl, by omega⟩
theorem atts_rd {w : World} {A : Option Addr} {n c : Nat} {L : List Att} (h : Rd encA w (.slice A n c) L) : Atts w A L := by
 intro k v hk
 obtain ⟨ad, hA, hl, hc⟩ := h.at_ hk
 have e : ∀ j, ad.add (k * 6 + (j + 1)) = ⟨(ad.add (k * 6)).block, (ad.add (k * 6)).off + (j + 1), none⟩ := fun j => add_more ad (k * 6) j
 refine ⟨ad, hA, hc 0 _ rfl, ?_, ?_, ?_, ?_, ?_, by rw [block_add]; exact hl⟩
 ·rw [← e 0]; exact hc 1 _ rfl
 ·rw [← e 1]; exact hc 2 _ rfl
 ·rw [← e 2]; exact hc 3 _ rfl
 ·rw [← e 3]; exact hc 4 _ rfl
 ·rw [← e 4]; exact hc 5 _ rfl
theorem att_elem : Elem Tryz.prog 84 39 6 48 := .mk' (z := ((Tryz.prog.info? 39).bind (·.zero)).getD undef) Tryz.underlying84 (by kernel_rfl) (by kernel_rfl) (by omega)
theorem ended_elem : Elem Tryz.prog 31 42 9 88 := .mk' (z := ((Tryz.prog.info? 42).bind (·.zero)).getD undef) Tryz.underlying31 (by kernel_rfl) (by kernel_rfl) (by omega)
theorem stoppedJ {p : Prop} (h : Hid p) : p := h.out
theorem jwrong_ok (at_ no : Int) (h1 : 1 ≤ no) (h2 : no ≤ 17) (w : World) : Calls Tryz.prog 25 #[.int .i64 at_, .int .i64 no] w fun e w' => ∃ v, e = .returned v ∧ ErrV w' v no at_ ∧ Upd [] w w' := by
 go_enter Tryz.func25, Tryz.ntmps25
 go_wp2_with fail
 go_ret
 exact ⟨_, rfl, .fault (Blk.new _ _ _) h1 h2, (Upd.refl _ _).alloc _⟩
set_option maxRecDepth 100000 in
set_option maxHeartbeats 2000000 in
theorem attempts_ok (A : Option Addr) (n c : Nat) (M : List En) (w : World) (h : Rd encE w (.slice A n c) M) (hn : M.length = n) (hm : n ≤ 100) :
 Calls Tryz.prog 28 #[.slice A n c] w fun e w' => ∃ v, e = .returned v ∧ Ow encA 39 w' w.heap.size v (M.map attE) ∧ Upd [] w w' := by
 have HR := Lib.hid h
 have HN := Lib.hid hn
 have HM := Lib.hid hm
 have hn3 : (n : Int) ≤ 100 := by omega
 clear h hn hm
 go_enter Tryz.func28, Tryz.ntmps28
 go_wp2_with fail
 go_loopw [3, 5, 8] (fun u3 u5 u8 wr => ∃ k : Nat, u8 = .int .i64 k ∧ k ≤ n ∧ Hid (Upd [] w wr ∧ Ow encA 39 wr w.heap.size u3 ((M.take k).map attE))) (fun _ _ u _ => n - (intOf u).toNat)
 case atStart => exact ⟨0, rfl, by omega, Lib.hid ⟨.refl _ _, Ow.nil _ _ _ _⟩⟩
 case round =>
  obtain ⟨k, rfl, hk, KX⟩ := hrel
  by_cases hlt : k < n
  ·have hki : (k : Int) < n := by omega
   obtain ⟨m, hmm⟩ : ∃ m, M[k]? = some m := ⟨_, List.getElem?_eq_getElem (by rw [HN.out]; exact hlt)⟩
   obtain ⟨ad, hA, hl, hc⟩ := (HR.out.upd0 KX.out.1).at_ hmm
   have e : ∀ j, ad.add (k * 9 + (j + 1)) = ⟨(ad.add (k * 9)).block, (ad.add (k * 9)).off + (j + 1), none⟩ := fun j => add_more ad (k * 9) j
   have c0 : wr.cell? (ad.add (k * 9)) = some (.int .i64 m.th) := hc 0 _ rfl
   have c1 : wr.cell? ⟨(ad.add (k * 9)).block, (ad.add (k * 9)).off + 1, none⟩ = some (.int .i64 m.ix) := by rw [← e 0]; exact hc 1 _ rfl
   have c2 : wr.cell? ⟨(ad.add (k * 9)).block, (ad.add (k * 9)).off + 2, none⟩ = some (.int .i64 m.st) := by rw [← e 1]; exact hc 2 _ rfl
   have c3 : wr.cell? ⟨(ad.add (k * 9)).block, (ad.add (k * 9)).off + 3, none⟩ = some (.bool m.wr) := by rw [← e 2]; exact hc 3 _ rfl
   have c4 : wr.cell? ⟨(ad.add (k * 9)).block, (ad.add (k * 9)).off + 4, none⟩ = some (.int .i64 m.be) := by rw [← e 3]; exact hc 4 _ rfl
   have c5 : wr.cell? ⟨(ad.add (k * 9)).block, (ad.add (k * 9)).off + 5, none⟩ = some (.int .i64 m.en) := by rw [← e 4]; exact hc 5 _ rfl
   have c6 : wr.cell? ⟨(ad.add (k * 9)).block, (ad.add (k * 9)).off + 6, none⟩ = some (.int .i64 m.kd) := by rw [← e 5]; exact hc 6 _ rfl
   have c7 : wr.cell? ⟨(ad.add (k * 9)).block, (ad.add (k * 9)).off + 7, none⟩ = some (.slice m.ta m.tn m.tc) := by rw [← e 6]; exact hc 7 _ rfl
   have c8 : wr.cell? ⟨(ad.add (k * 9)).block, (ad.add (k * 9)).off + 8, none⟩ = some (.int .i64 m.er) := by rw [← e 7]; exact hc 8 _ rfl
   have hb : (ad.add (k * 9)).block < wr.heap.size := by rw [block_add]; exact hl
   have HMM : Hid (M[k]? = some m ∧ k < n) := Lib.hid ⟨hmm, hlt⟩
   clear hmm hc e hl hk hlt
   subst hA
   go_wp2_with (at_builtin; refine stoppedJ ?_)
   refine Lib.hid ?_
   refine wpList_app _ (by rfl) (.tmp 12) (.tmp 15) _ (by rfl) att_elem u3 _ (by rfl) (by rfl) (own_upd0 KX.out.2 (((Upd.refl [] wr).alloc _).alloc _)) (.of_blk (Blk.newAt _ _ (by simp)) (m := 1) 1 rfl) (by intro u hu; simp at hu; rcases hu with rfl | rfl | rfl | rfl | rfl | rfl <;> rfl) (by have := HM.out; have := HMM.out.2; simp only [maxLen, List.length_map, List.length_take]; omega) (by have := HM.out; have := HMM.out.2; simp only [List.length_map, List.length_take]; omega) (by have := KX.out.1.size; simp; omega) ?_
   intro v5 w5 o5 u5 b5
   have X5 : Hid (Upd [] w w5 ∧ Ow encA 39 w5 w.heap.size v5 ((M.take (k + 1)).map attE)) := Lib.hid (by
    refine ⟨((KX.out.1.alloc _).alloc _).trans' u5 (fun y hy => .inr (own_lt KX.out.2 (b := y) (by simpa using hy)).1), ?_⟩
    unfold Ow
    rw [List.take_add_one, HMM.out.1]
    simp only [Option.toList_some, List.map_append, List.map_cons, List.map_nil]
    rw [flat_append, List.length_append]
    exact o5)
   clear o5 u5 b5
   go_wp2_with fail
   go_round
   case rel => exact ⟨k + 1, by simp, by have := HMM.out.2; omega, X5⟩
   case measure => have := HMM.out.2; simp [intOf]; omega
  ·have hki : ¬ ((k : Int) < n) := by omega
   have KX2 : Hid (Upd [] w wr ∧ Ow encA 39 wr w.heap.size u3 (M.map attE)) := Lib.hid (by
    have h := KX.out
    rwa [List.take_of_length_le (by rw [HN.out]; omega)] at h)
   go_wp2_with fail
   go_ret
   exact ⟨_, rfl, KX2.out.2, KX2.out.1⟩
/-- A thing of nine cells that lies somewhere. -/
theorem en_cells {w : World} {ad : Addr} {k : Nat} {m : En} (hc : ∀ j u, (encE.c m)[j]? = some u → w.cell? (ad.add (k * 9 + j)) = some u) :
 w.cell? (ad.add (k * 9)) = some (.int .i64 m.th) ∧ w.cell? ⟨(ad.add (k * 9)).block, (ad.add (k * 9)).off + 1, none⟩ = some (.int .i64 m.ix) ∧ w.cell? ⟨(ad.add (k * 9)).block, (ad.add (k * 9)).off + 2, none⟩ = some (.int .i64 m.st) ∧
  w.cell? ⟨(ad.add (k * 9)).block, (ad.add (k * 9)).off + 3, none⟩ = some (.bool m.wr) ∧ w.cell? ⟨(ad.add (k * 9)).block, (ad.add (k * 9)).off + 4, none⟩ = some (.int .i64 m.be) ∧ w.cell? ⟨(ad.add (k * 9)).block, (ad.add (k * 9)).off + 5, none⟩ = some (.int .i64 m.en) ∧
  w.cell? ⟨(ad.add (k * 9)).block, (ad.add (k * 9)).off + 6, none⟩ = some (.int .i64 m.kd) ∧ w.cell? ⟨(ad.add (k * 9)).block, (ad.add (k * 9)).off + 7, none⟩ = some (.slice m.ta m.tn m.tc) ∧ w.cell? ⟨(ad.add (k * 9)).block, (ad.add (k * 9)).off + 8, none⟩ = some (.int .i64 m.er) := by
 have e : ∀ j, ad.add (k * 9 + (j + 1)) = ⟨(ad.add (k * 9)).block, (ad.add (k * 9)).off + (j + 1), none⟩ := fun j => add_more ad (k * 9) j
 refine ⟨hc 0 _ rfl, ?_, ?_, ?_, ?_, ?_, ?_, ?_, ?_⟩
 ·rw [← e 0]; exact hc 1 _ rfl
 ·rw [← e 1]; exact hc 2 _ rfl
 ·rw [← e 2]; exact hc 3 _ rfl
 ·rw [← e 3]; exact hc 4 _ rfl
 ·rw [← e 4]; exact hc 5 _ rfl
 ·rw [← e 5]; exact hc 6 _ rfl
 ·rw [← e 6]; exact hc 7 _ rfl
 ·rw [← e 7]; exact hc 8 _ rfl
def dnE (m : En) : Bool := m.kd == 1
def SplitPost (M : List En) (w : World) (v1 v2 : Value) (w' : World) : Prop := Upd [] w w' ∧ Ow encE 42 w' w.heap.size v1 (M.filter dnE) ∧ Ow encE 42 w' w.heap.size v2 (M.filter fun m => !dnE m) ∧ ∀ b, v1.ownBlock = some b → v2.ownBlock ≠ some b
theorem split_put {M : List En} {k : Nat} {m : En} {w wr w5 : World} {v1 v2 v5 : Value} {o : Obj} {o' : Obj} (hm : M[k]? = some m) (h : SplitPost (M.take k) w v1 v2 wr) :
 (dnE m = true → w5.ownsRow w.heap.size 42 9 v5 (((M.take k).filter dnE).length + 1) (flat encE ((M.take k).filter dnE) ++ encE.c m) → Upd v1.ownBlock.toList ((wr.alloc o).alloc o') w5 → (v5.ownBlock = v1.ownBlock ∨ v5.ownBlock = some ((wr.alloc o).alloc o').heap.size) → SplitPost (M.take (k + 1)) w v5 v2 w5) ∧
 (dnE m = false → w5.ownsRow w.heap.size 42 9 v5 (((M.take k).filter fun m => !dnE m).length + 1) (flat encE ((M.take k).filter fun m => !dnE m) ++ encE.c m) → Upd v2.ownBlock.toList ((wr.alloc o).alloc o') w5 → (v5.ownBlock = v2.ownBlock ∨ v5.ownBlock = some ((wr.alloc o).alloc o').heap.size) → SplitPost (M.take (k + 1)) w v1 v5 w5) := by
 obtain ⟨h1, h2, h3, h4⟩ := h
 have hu : Upd [] wr ((wr.alloc o).alloc o') := ((Upd.refl _ _).alloc _).alloc _
 have et : M.take (k + 1) = M.take k ++ [m] := by rw [List.take_add_one, hm]; rfl
 refine ⟨fun hd o5 u5 b5 => ?_, fun hd o5 u5 b5 => ?_⟩
 ·have e1 : (M.take (k + 1)).filter dnE = (M.take k).filter dnE ++ [m] := by rw [et, List.filter_append]; simp [hd]
  have e2 : ((M.take (k + 1)).filter fun m => !dnE m) = (M.take k).filter fun m => !dnE m := by rw [et, List.filter_append]; simp [hd]
  refine ⟨(h1.trans hu).trans' u5 (fun y hy => .inr (own_lt h2 (b := y) (by simpa using hy)).1), ?_, ?_, fun b hb hb2 => ?_⟩
  ·rw [e1]; unfold Ow; rw [flat_append, flat_one_, List.length_append]; exact o5
  ·rw [e2]; exact (h3.upd0 hu).upd u5 (fun b hb hm => h4 b (by simpa using hm) hb)
  ·rcases b5 with b5 | b5
   ·exact h4 b (b5 ▸ hb) hb2
   ·rw [b5] at hb; injection hb with hb; have := (own_lt h3 hb2).2; simp at hb; omega
 ·have e1 : (M.take (k + 1)).filter dnE = (M.take k).filter dnE := by rw [et, List.filter_append]; simp [hd]
  have e2 : ((M.take (k + 1)).filter fun m => !dnE m) = ((M.take k).filter fun m => !dnE m) ++ [m] := by rw [et, List.filter_append]; simp [hd]
  refine ⟨(h1.trans hu).trans' u5 (fun y hy => .inr (own_lt h3 (b := y) (by simpa using hy)).1), ?_, ?_, fun b hb hb2 => ?_⟩
  ·rw [e1]; exact (h2.upd0 hu).upd u5 (fun b hb hm => h4 b hb (by simpa using hm))
  ·rw [e2]; unfold Ow; rw [flat_append, flat_one_, List.length_append]; exact o5
  ·rcases b5 with b5 | b5
   ·exact h4 b hb (b5 ▸ hb2)
   ·rw [b5] at hb2; injection hb2 with hb2; have := (own_lt h2 hb).2; simp at hb2; omega
set_option maxRecDepth 100000 in
set_option maxHeartbeats 2000000 in
theorem split_ok (A : Option Addr) (n c : Nat) (M : List En) (w : World) (h : Rd encE w (.slice A n c) M) (hn : M.length = n) (hm : n ≤ 100) :
 Calls Tryz.prog 26 #[.slice A n c] w fun e w' => ∃ v1 v2, e = .returned (.tuple #[v1, v2]) ∧ SplitPost M w v1 v2 w' := by
 have HR := Lib.hid h
 have HN := Lib.hid hn
 have HM := Lib.hid hm
 have hn3 : (n : Int) ≤ 100 := by omega
 clear h hn hm
 go_enter Tryz.func26, Tryz.ntmps26
 go_wp2_with fail
 go_loopw [4, 5, 7, 10] (fun u4 u5 u7 u10 wr => ∃ k : Nat, u10 = .int .i64 k ∧ k ≤ n ∧ Hid (SplitPost (M.take k) w u4 u5 wr)) (fun _ _ _ u _ => n - (intOf u).toNat)
 case atStart => exact ⟨0, rfl, by omega, Lib.hid ⟨.refl _ _, Ow.nil _ _ _ _, Ow.nil _ _ _ _, by simp [Value.ownBlock]⟩⟩
 case round =>
  obtain ⟨k, rfl, hk, KX⟩ := hrel
  by_cases hlt : k < n
  ·have hki : (k : Int) < n := by omega
   obtain ⟨m, hmm⟩ : ∃ m, M[k]? = some m := ⟨_, List.getElem?_eq_getElem (by rw [HN.out]; exact hlt)⟩
   obtain ⟨ad, hA, hl, hc⟩ := (HR.out.upd0 KX.out.1).at_ hmm
   obtain ⟨c0, c1, c2, c3, c4, c5, c6, c7, c8⟩ := en_cells hc
   have hb : (ad.add (k * 9)).block < wr.heap.size := by rw [block_add]; exact hl
   have HMM : Hid (M[k]? = some m ∧ k < n) := Lib.hid ⟨hmm, hlt⟩
   have LEN : Hid (((M.take k).filter dnE).length ≤ k ∧ ((M.take k).filter fun m => !dnE m).length ≤ k) := Lib.hid (by
    have h1 := List.length_filter_le dnE (M.take k)
    have h2 := List.length_filter_le (fun m => !dnE m) (M.take k)
    simp only [List.length_take] at h1 h2
    omega)
   clear hmm hc hl hk hlt
   subst hA
   by_cases hd : m.kd = 1
   ·have HD : Hid (dnE m = true) := Lib.hid (by simp [dnE, hd])
    have hd2 : (m.kd == 1) = true := by simp [hd]
    clear hd
    go_wp2_with (at_builtin; refine stoppedJ ?_)
    refine Lib.hid ?_
    refine wpList_app _ (by rfl) (.tmp 22) (.tmp 24) _ (by rfl) ended_elem u4 _ (by rfl) (by rfl) (own_upd0 KX.out.2.1 (((Upd.refl [] wr).alloc _).alloc _)) (.of_blk (Blk.newAt _ _ (by simp)) (m := 1) 1 rfl) (by intro u hu; simp at hu; rcases hu with rfl | rfl | rfl | rfl | rfl | rfl | rfl | rfl | rfl <;> rfl) (by have := HM.out; have := HMM.out.2; have := LEN.out; simp only [maxLen]; omega) (by have := HM.out; have := HMM.out.2; have := LEN.out; omega) (by have := KX.out.1.size; simp; omega) ?_
    intro v5 w5 o5 u5 b5
    have X5 := Lib.hid ((split_put HMM.out.1 KX.out).1 HD.out o5 u5 b5)
    clear o5 u5 b5
    go_wp2_with fail
    go_round
    case rel => exact ⟨k + 1, by simp, by have := HMM.out.2; omega, X5⟩
    case measure => have := HMM.out.2; simp [intOf]; omega
   ·have HD : Hid (dnE m = false) := Lib.hid (by simp [dnE, hd])
    have hd2 : (m.kd == 1) = false := by simp [hd]
    clear hd
    go_wp2_with (at_builtin; refine stoppedJ ?_)
    refine Lib.hid ?_
    refine wpList_app _ (by rfl) (.tmp 14) (.tmp 16) _ (by rfl) ended_elem u5 _ (by rfl) (by rfl) (own_upd0 KX.out.2.2.1 (((Upd.refl [] wr).alloc _).alloc _)) (.of_blk (Blk.newAt _ _ (by simp)) (m := 1) 1 rfl) (by intro u hu; simp at hu; rcases hu with rfl | rfl | rfl | rfl | rfl | rfl | rfl | rfl | rfl <;> rfl) (by have := HM.out; have := HMM.out.2; have := LEN.out; simp only [maxLen]; omega) (by have := HM.out; have := HMM.out.2; have := LEN.out; omega) (by have := KX.out.1.size; simp; omega) ?_
    intro v5 w5 o5 u5' b5
    have X5 := Lib.hid ((split_put HMM.out.1 KX.out).2 HD.out o5 u5' b5)
    clear o5 u5' b5
    go_wp2_with fail
    go_round
    case rel => exact ⟨k + 1, by simp, by have := HMM.out.2; omega, X5⟩
    case measure => have := HMM.out.2; simp [intOf]; omega
  ·have hki : ¬ ((k : Int) < n) := by omega
   have KX2 : Hid (SplitPost M w u4 u5 wr) := Lib.hid (by
    have h := KX.out
    rwa [List.take_of_length_le (by rw [HN.out]; omega)] at h)
   go_wp2_with fail
   go_ret2
   exact ⟨_, _, rfl, KX2.out⟩
end Go.Proofs.YtmjnmpifibemjaaGreatDoor

namespace Go.Proofs.YtmjnmpifibemjaaGreatDoor
open Go.RowKit St Jd

def TxnP (p : Pn) (a : Att) (w : World) (e : Ending) (w' : World) : Prop := ∃ v, e = .returned (.tuple #[v, .bool (txnR p a).isSome]) ∧ (∀ l, txnR p a = some l → Stms w' w'.heap.size v l) ∧ Upd [] w w'
theorem txn_none {p : Pn} {a : Att} {w w' : World} (h : txnR p a = none) (hu : Upd [] w w') : TxnP p a w (.returned (.tuple #[.slice none 0 0, .bool false])) w' := by
 refine ⟨_, by rw [h]; rfl, fun l hl => ?_, hu⟩
 rw [h] at hl; cases hl
theorem txn_some {p : Pn} {a : Att} {w w' : World} {l : List Stm} {v : Value} (h : txnR p a = some l) (hs : Stms w w.heap.size v l) (hu : Upd [] w w') : TxnP p a w (.returned (.tuple #[v, .bool true])) w' := by
 refine ⟨_, by rw [h]; rfl, fun l' hl => ?_, hu⟩
 rw [h] at hl
 injection hl with hl
 subst hl
 exact hs.upd0 hu
set_option maxRecDepth 100000 in
set_option maxHeartbeats 4000000 in
theorem txn_ok (p : Pn) (kv tv : Value) (m : En) (w : World) (h : PlanV w p kv tv) (h100 : p.ths.length ≤ 100 ∧ ∀ t ∈ p.ths, t.length ≤ 100) :
 Calls Tryz.prog 24 #[planC p kv tv, .agg (enCells m).toArray] w (TxnP p (attE m) w) := by
 obtain ⟨th, ix, st, wr, be, en, kd, er, ta, tn, tc⟩ := m
 obtain ⟨hks, vs, hts, hrow⟩ := h
 obtain ⟨nk, hnk⟩ : ∃ n, n = p.ks.length := ⟨_, rfl⟩
 obtain ⟨_, Ak, ck, rfl, _⟩ := hks
 have hvl : vs.length = p.ths.length := by simpa using hts.1
 obtain ⟨hts1, At, ct, rfl, hts2⟩ := hts
 obtain ⟨nt, hnt⟩ : ∃ n, n = p.ths.length := ⟨_, rfl⟩
 have HNT : Hid (nt = p.ths.length ∧ nt ≤ 100) := Lib.hid ⟨hnt, by rw [hnt]; exact h100.1⟩
 have H100 := Lib.hid h100.2
 have HTS := Lib.hid hts2
 have HROW := Lib.hid hrow
 have HVL := Lib.hid hvl
 rw [← hnk, ← hnt]
 have hn1 : (nt : Int) ≤ 100 := by have := HNT.out.2; omega
 clear hts2 hrow hvl hnt hnk hts1 h100
 simp only [enCells]
 go_enter Tryz.func24, Tryz.ntmps24
 have U1 : ∀ (o1 o2 : Obj), Upd [] w ((w.alloc o1).alloc o2) := fun o1 o2 => ((Upd.refl _ _).alloc _).alloc _
 by_cases h0 : th < 0
 ·have e0 : decide (th < 0) = true := by simpa using h0
  have HX : Hid (txnR p ⟨th, ix, st, wr, be, en⟩ = none) := Lib.hid (by unfold txnR; rw [if_neg (by simp only; omega)])
  go_wp2_with fail
  go_quiet (fail)
  go_wp2_with fail
  go_ret2
  exact txn_none HX.out ((U1 _ _).drewN _)
 ·have e0 : decide (th < 0) = false := by simpa using h0
  obtain ⟨i, rfl⟩ := Int.eq_ofNat_of_zero_le (Int.not_lt.1 h0)
  by_cases h1 : nt ≤ i
  ·have e1 : decide ((nt : Int) ≤ (i : Int)) = true := by simpa using h1
   have HX : Hid (txnR p ⟨i, ix, st, wr, be, en⟩ = none) := Lib.hid (by
    unfold txnR
    split
    ·simp only [Int.toNat_natCast]
     rw [List.getElem?_eq_none (by rw [← HNT.out.1]; exact h1)]; rfl
    ·rfl)
   go_wp2_with fail
   go_quiet (fail)
   go_wp2_with fail
   go_ret2
   exact txn_none HX.out ((U1 _ _).drewN _)
  ·have e1 : decide ((nt : Int) ≤ (i : Int)) = false := by simpa using h1
   by_cases h2 : ix < 0
   ·have e2 : decide (ix < 0) = true := by simpa using h2
    have HX : Hid (txnR p ⟨i, ix, st, wr, be, en⟩ = none) := Lib.hid (by unfold txnR; rw [if_neg (by simp only; omega)])
    go_wp2_with fail
    go_quiet (fail)
    go_wp2_with fail
    go_ret2
    exact txn_none HX.out ((U1 _ _).drewN _)
   ·have e2 : decide (ix < 0) = false := by simpa using h2
    obtain ⟨j, rfl⟩ := Int.eq_ofNat_of_zero_le (Int.not_lt.1 h2)
    have hil : i < p.ths.length := by rw [← HNT.out.1]; omega
    obtain ⟨v, hv⟩ : ∃ v, vs[i]? = some v := ⟨_, List.getElem?_eq_getElem (by rw [HVL.out]; exact hil)⟩
    obtain ⟨ts, hts⟩ : ∃ ts, p.ths[i]? = some ts := ⟨_, List.getElem?_eq_getElem hil⟩
    obtain ⟨us, hus, hst⟩ := HROW.out i v ts hv hts
    obtain ⟨ad, rfl, hadl, hadc⟩ := HTS.out i v hv
    obtain ⟨hul, Aj, cj, rfl, hus2⟩ := hus
    obtain ⟨nj, hnj⟩ : ∃ n, n = ts.length := ⟨_, rfl⟩
    have HNJ : Hid (nj = ts.length ∧ nj ≤ 100) := Lib.hid ⟨hnj, by rw [hnj]; exact H100.out _ (List.mem_of_getElem? hts)⟩
    rw [← hnj] at hadc
    have HT : Hid (p.ths[i]? = some ts) := Lib.hid hts
    have hii : (i : Int) < nt := by omega
    have hb1 : (ad.add i).block < w.heap.size := by rw [block_add]; exact hadl
    have hb2 : (ad.add i).block < w.heap.size + 1 := by omega
    have hj1 : (nj : Int) ≤ 100 := by have := HNJ.out.2; omega
    by_cases h3 : nj ≤ j
    ·have e3 : decide ((nj : Int) ≤ (j : Int)) = true := by simpa using h3
     have HX : Hid (txnR p ⟨i, j, st, wr, be, en⟩ = none) := Lib.hid (by
      unfold txnR
      rw [if_pos (by simp only; omega)]
      simp only [Int.toNat_natCast]
      rw [HT.out]
      simp only [Option.bind_some]
      exact List.getElem?_eq_none (by rw [← HNJ.out.1]; exact h3))
     clear hus2 hst hv hts hul hnj
     go_wp2_with fail
     go_quiet (fail)
     go_wp2_with fail
     go_ret2
     exact txn_none HX.out ((U1 _ _).drewN _)
    ·have e3 : decide ((nj : Int) ≤ (j : Int)) = false := by simpa using h3
     have hjl : j < ts.length := by rw [← HNJ.out.1]; omega
     obtain ⟨u, hu⟩ : ∃ u, us[j]? = some u := ⟨_, List.getElem?_eq_getElem (by omega)⟩
     obtain ⟨l, hl⟩ : ∃ l, ts[j]? = some l := ⟨_, List.getElem?_eq_getElem hjl⟩
     have HS := Lib.hid (hst j u l hu hl)
     obtain ⟨ad2, rfl, had2l, had2c⟩ := hus2 j u hu
     have HX : Hid (txnR p ⟨i, j, st, wr, be, en⟩ = some l) := Lib.hid (by
      unfold txnR
      rw [if_pos (by simp only; omega)]
      simp only [Int.toNat_natCast]
      rw [HT.out]
      simp only [Option.bind_some]
      exact hl)
     have hjj : (j : Int) < nj := by omega
     have hb3 : (ad2.add j).block < w.heap.size := by rw [block_add]; exact had2l
     have hb4 : (ad2.add j).block < w.heap.size + 1 := by omega
     clear hus2 hst hv hts hul hnj hu hl hjl
     go_wp2_with fail
     go_quiet (fail)
     go_wp2_with fail
     go_quiet (fail)
     go_wp2_with fail
     go_ret2
     exact txn_some HX.out HS.out (((U1 _ _).drewN _).drewN _)
end Go.Proofs.YtmjnmpifibemjaaGreatDoor

namespace Go.Proofs.YtmjnmpifibemjaaGreatDoor
open Go Go.RowKit Go.MapKept

abbrev IEnt := Int × Value × Nat
def ent (q : IntKind) (p : IEnt) : MapEntry := { key := .int q p.1, val := p.2.1, born := p.2.2 }
structure IRaw (w : World) (q : IntKind) (b : Nat) (L : List IEnt) (c : Nat) : Prop where
 blk : w.heap[b]? = some (.map (L.map (ent q)).toArray c)
 keys : (L.map (·.1)).Nodup
 stamps : (L.map (·.2.2)).Nodup
 lt : ∀ p ∈ L, p.2.2 < c
def findI (L : List IEnt) (k : Int) : Option Value := (L.find? (fun p => p.1 == k)).map (·.2.1)
/-- Block b is a map with these values, n in all. -/
def IMap (w : World) (q : IntKind) (b : Nat) (f : Int → Option Value) (n : Nat) : Prop := ∃ L c, IRaw w q b L c ∧ (∀ k, f k = findI L k) ∧ L.length = n

section
variable {P : Program} {w w' : World} {q : IntKind} {b : Nat} {L : List IEnt} {c : Nat} {f : Int → Option Value} {n : Nat}
theorem IRaw.lt' (h : IRaw w q b L c) : b < w.heap.size := by
 rcases Nat.lt_or_ge b w.heap.size with hl | hg
 ·exact hl
 ·have := h.blk
  rw [Array.getElem?_eq_none hg] at this
  cases this
theorem IMap.lt (h : IMap w q b f n) : b < w.heap.size := by
 obtain ⟨L, c, h, _⟩ := h
 exact h.lt'
theorem IMap.upd {S : List Nat} (h : IMap w q b f n) (hu : Upd S w w') (hb : b ∉ S) : IMap w' q b f n := by
 obtain ⟨L, c, h, h1, h2⟩ := h
 exact ⟨L, c, ⟨(hu.keep b h.lt' hb).trans h.blk, h.keys, h.stamps, h.lt⟩, h1, h2⟩
theorem IMap.drew (h : IMap w q b f n) : IMap w.drew q b f n := by
 obtain ⟨L, c, h, h1, h2⟩ := h
 exact ⟨L, c, ⟨h.blk, h.keys, h.stamps, h.lt⟩, h1, h2⟩
theorem IMap.new (w : World) (q : IntKind) : IMap (w.alloc (.map #[] 0)) q w.heap.size (fun _ => none) 0 :=
 ⟨[], 0, ⟨by simpa using heap_alloc_new w (.map #[] 0), by simp, by simp, by simp⟩, fun _ => rfl, rfl⟩
theorem IMap.congr {g : Int → Option Value} (h : IMap w q b f n) (hg : ∀ k, f k = g k) : IMap w q b g n := by
 obtain ⟨L, c, h, h1, h2⟩ := h
 exact ⟨L, c, h, fun k => (hg k).symm.trans (h1 k), h2⟩

theorem findNow_ent (k : Int) : ∀ (L : List IEnt) (i : Nat), Instr.findNow (.int q) (.int q k) (L.map (ent q)) i = some ((L.findIdx? (fun p => p.1 == k)).map (fun j => (i + j, (L.getD j (0, undef, 0)).2.1)))
 | [], i => rfl
 | p :: L, i => by
   rw [List.map_cons]
   unfold Instr.findNow
   have e : Instr.sameNow (.int q) (.int q k) (ent q p).key = some (k == p.1) := by simp [Instr.sameNow, ent]
   rw [e]
   by_cases h : p.1 = k
   ·subst h
    simp [ent, List.findIdx?_cons]
   ·have h1 : (k == p.1) = false := by simpa using fun e => h e.symm
    have h2 : (p.1 == k) = false := by simpa using h
    rw [h1]
    simp only
    rw [findNow_ent k L (i + 1), List.findIdx?_cons, h2]
    cases L.findIdx? (fun p => p.1 == k) with
    | none => rfl
    | some j => simp; omega
theorem findI_idx {k : Int} : findI L k = (L.findIdx? (fun p => p.1 == k)).map (fun j => (L.getD j (0, undef, 0)).2.1) := by
 induction L with
 | nil => rfl
 | cons p L ih =>
   unfold findI at ih ⊢
   rw [List.find?_cons, List.findIdx?_cons]
   cases h : p.1 == k with
   | true => simp
   | false =>
     simp only [Bool.false_eq_true, if_false]
     rw [ih]
     cases L.findIdx? (fun p => p.1 == k) <;> simp
theorem run_findKey_int {kt : TypeId} (hk : P.underlying kt = some (.int q)) (k : Int) (L : List IEnt) (W : World) : (Instr.findKey kt (.int q k) (L.map (ent q))).run P W = .ok ((L.findIdx? (fun p => p.1 == k)).map (fun j => (j, (L.getD j (0, undef, 0)).2.1))) W := by
 unfold Instr.findKey
 simp only [Sem.run_bind, run_underlying hk, Result.andThen]
 rw [findNow_ent]
 simp
theorem run_getObj_blk {b : Nat} {es : Array MapEntry} {c : Nat} (h : w.heap[b]? = some (.map es c)) : (getObj b).run P w = .ok (.map es c) w := by
 simp [getObj, Sem.run, h]
theorem run_lookup_int {mt kt et : TypeId} {z : Value} (hm : P.underlying mt = some (.map kt et)) (hk : P.underlying kt = some (.int q)) (hz : (zeroValue et).run P w = .ok z w) (h : IMap w q b f n) (k : Int) :
 (Instr.lookup mt (.map (some b)) (.int q k) true).run P w = .ok (.tuple #[(f k).getD z, .bool (f k).isSome]) w := by
 obtain ⟨L, c, h, hf, _⟩ := h
 rw [hf, findI_idx]
 unfold Instr.lookup
 simp only [Sem.run_bind, run_underlying hm, Result.andThen, run_getObj_blk h.blk, Sem.run_pure, run_checkKey hk (show IsKey (.int q) (.int q k) by simp [IsKey])]
 have e : (Instr.findKey kt (.int q k) (L.map (ent q)).toArray.toList).run P w = _ := run_findKey_int hk k L w
 rw [e]
 simp only
 cases L.findIdx? (fun p => p.1 == k) with
 | none => simp [Sem.run_bind, hz, Result.andThen]
 | some j => simp [Result.andThen]
theorem run_lookup_int' {mt kt et : TypeId} {z : Value} (hm : P.underlying mt = some (.map kt et)) (hk : P.underlying kt = some (.int q)) (hz : (zeroValue et).run P w = .ok z w) (h : IMap w q b f n) (k : Int) :
 (Instr.lookup mt (.map (some b)) (.int q k) false).run P w = .ok ((f k).getD z) w := by
 obtain ⟨L, c, h, hf, _⟩ := h
 rw [hf, findI_idx]
 unfold Instr.lookup
 simp only [Sem.run_bind, run_underlying hm, Result.andThen, run_getObj_blk h.blk, Sem.run_pure, run_checkKey hk (show IsKey (.int q) (.int q k) by simp [IsKey])]
 have e : (Instr.findKey kt (.int q k) (L.map (ent q)).toArray.toList).run P w = _ := run_findKey_int hk k L w
 rw [e]
 simp only
 cases L.findIdx? (fun p => p.1 == k) with
 | none => simp [Sem.run_bind, hz, Result.andThen]
 | some j => simp [Result.andThen]

def putI (f : Int → Option Value) (k : Int) (v : Value) : Int → Option Value := fun x => if x = k then some v else f x
def delI (f : Int → Option Value) (k : Int) : Int → Option Value := fun x => if x = k then none else f x
theorem upd_setBlk {b : Nat} (o : Obj) (hb : b < w.heap.size) : Upd [b] w { w with heap := w.heap.setIfInBounds b o } :=
 ⟨rfl, rfl, rfl, by simp, fun k hk hn => by
   have : b ≠ k := fun e => hn (by simp [e])
   simp [this]⟩
theorem find_some_mem {k : Int} {j : Nat} (h : L.findIdx? (fun p => p.1 == k) = some j) : ∃ hj : j < L.length, L[j].1 = k := by
 rw [List.findIdx?_eq_some_iff_getElem] at h
 obtain ⟨hj, h1, _⟩ := h
 exact ⟨hj, by simpa using h1⟩
theorem find_none {k : Int} (h : L.findIdx? (fun p => p.1 == k) = none) : ∀ p ∈ L, p.1 ≠ k := by
 rw [List.findIdx?_eq_none_iff] at h
 intro p hp
 simpa using h p hp
theorem findI_none {k : Int} (h : ∀ p ∈ L, p.1 ≠ k) : findI L k = none := by
 unfold findI
 rw [List.find?_eq_none.2 (fun p hp => by simpa using h p hp)]
 rfl
theorem findI_append {M : List IEnt} (k : Int) : findI (L ++ M) k = (findI L k).or (findI M k) := by
 unfold findI
 rw [List.find?_append]
 cases L.find? (fun p => p.1 == k) <;> simp
theorem findI_set {j : Nat} {k : Int} (hn : (L.map (·.1)).Nodup) (hj : j < L.length) (hk : L[j].1 = k) (v : Value) (s : Nat) (x : Int) : findI (L.set j (k, v, s)) x = if x = k then some v else findI L x := by
 induction L generalizing j with
 | nil => simp at hj
 | cons a L ih =>
   rw [List.map_cons, List.nodup_cons] at hn
   cases j with
   | zero =>
     simp only [List.getElem_cons_zero] at hk
     rw [List.set_cons_zero]
     unfold findI
     rw [List.find?_cons, List.find?_cons, hk]
     by_cases h : x = k
     ·subst h; simp
     ·have : (k == x) = false := by simpa using fun e => h e.symm
      simp only [this]
      rw [if_neg h]
   | succ j =>
     rw [List.set_cons_succ]
     unfold findI at ih ⊢
     rw [List.find?_cons, List.find?_cons]
     by_cases h : a.1 = x
     ·subst h
      have : a.1 ≠ k := fun e => hn.1 (by
       have hj' : j < L.length := by simpa using hj
       refine List.mem_map.2 ⟨L[j], List.getElem_mem hj', ?_⟩
       simpa [e] using hk)
      simp [this]
     ·have : (a.1 == x) = false := by simpa using h
      rw [this]
      simp only
      exact ih hn.2 (by simpa using hj) (by simpa using hk)
theorem set_same {α : Type} {l : List α} {j : Nat} {x : α} (hj : j < l.length) (h : l[j] = x) : l.set j x = l := by
 subst h
 exact List.set_getElem_self hj
theorem IRaw.set {j : Nat} {k : Int} (h : IRaw w q b L c) (hj : j < L.length) (hk : L[j].1 = k) (v : Value) : IRaw { w with heap := w.heap.setIfInBounds b (.map ((L.set j (k, v, L[j].2.2)).map (ent q)).toArray c) } q b (L.set j (k, v, L[j].2.2)) c := by
 refine ⟨(heap_set h.blk).1, ?_, ?_, ?_⟩
 ·rw [List.map_set, set_same (by simpa using hj) (by simpa using hk)]
  exact h.keys
 ·rw [List.map_set, set_same (by simpa using hj) (by simp)]
  exact h.stamps
 ·intro p hp
  rcases List.mem_or_eq_of_mem_set hp with hp | rfl
  ·exact h.lt p hp
  ·exact h.lt L[j] (List.getElem_mem hj)
theorem IRaw.push {k : Int} (h : IRaw w q b L c) (hk : ∀ p ∈ L, p.1 ≠ k) (v : Value) : IRaw { w with heap := w.heap.setIfInBounds b (.map ((L ++ [(k, v, c)]).map (ent q)).toArray (c + 1)) } q b (L ++ [(k, v, c)]) (c + 1) := by
 refine ⟨(heap_set h.blk).1, ?_, ?_, ?_⟩
 ·rw [List.map_append, List.nodup_append]
  refine ⟨h.keys, by simp, ?_⟩
  intro a ha x hx
  simp at hx
  subst hx
  obtain ⟨p, hp, rfl⟩ := List.mem_map.1 ha
  exact hk p hp
 ·rw [List.map_append, List.nodup_append]
  refine ⟨h.stamps, by simp, ?_⟩
  intro a ha x hx
  simp at hx
  subst hx
  obtain ⟨p, hp, rfl⟩ := List.mem_map.1 ha
  have := h.lt p hp
  omega
 ·intro p hp
  rcases List.mem_append.1 hp with hp | hp
  ·have := h.lt p hp; omega
  ·simp at hp; subst hp; simp
theorem modify_ent {j : Nat} {k : Int} (hj : j < L.length) (hk : L[j].1 = k) (g : MapEntry → MapEntry) (v : Value) (hg : g (ent q L[j]) = ent q (k, v, L[j].2.2)) : (L.map (ent q)).toArray.modify j g = ((L.set j (k, v, L[j].2.2)).map (ent q)).toArray := by
 apply Array.ext_getElem?
 intro i
 rw [Array.getElem?_modify]
 simp only [List.getElem?_toArray, List.getElem?_map, List.getElem?_set]
 by_cases h : j = i
 ·subst h
  simp [hj, hg]
 ·simp [h]
theorem run_keyStays (k : Int) (W : World) : (Instr.keyThatStays (.int q k) (.int q k)).run P W = .ok (.int q k) W := by
 unfold Instr.keyThatStays
 have : Instr.sameBits 10000 (.int q k) (.int q k) = true := by simp [Instr.sameBits]
 rw [if_pos this]
 simp
theorem run_mapUpdate_int {mt kt et : TypeId} (hm : P.underlying mt = some (.map kt et)) (hk : P.underlying kt = some (.int q)) (h : IMap w q b f n) (k : Int) (v : Value) :
 ∃ w', (Instr.mapUpdate mt (.map (some b)) (.int q k) v).run P w = .ok () w' ∧ IMap w' q b (putI f k v) (if (f k).isSome then n else n + 1) ∧ Upd [b] w w' := by
 obtain ⟨L, c, h, hf, hn⟩ := h
 have hfk := hf k
 rw [findI_idx] at hfk
 unfold Instr.mapUpdate
 simp only [Sem.run_bind, run_underlying hm, Result.andThen, run_getObj_blk h.blk, run_checkKey hk (show IsKey (.int q) (.int q k) by simp [IsKey])]
 have e : (Instr.findKey kt (.int q k) (L.map (ent q)).toArray.toList).run P w = _ := run_findKey_int hk k L w
 rw [e]
 simp only
 cases hi : L.findIdx? (fun p => p.1 == k) with
 | none =>
   have hno := find_none hi
   rw [hi] at hfk
   rw [hfk]
   refine ⟨_, by simp only [Option.map_none]; exact run_setObj_map _ h.blk, ⟨L ++ [(k, v, c)], c + 1, ?_, fun x => ?_, by simp [hn]⟩, upd_setBlk _ h.lt'⟩
   ·have := h.push hno v
    rw [List.map_append] at this
    rw [List.push_toArray]
    exact this
   ·unfold putI
    rw [findI_append, hf]
    by_cases hx : x = k
    ·subst hx
     rw [if_pos rfl, findI_none hno]
     simp [findI]
    ·rw [if_neg hx]
     have : findI [(k, v, c)] x = none := findI_none (by simp; exact fun e => hx e.symm)
     rw [this]
     simp
 | some j =>
   obtain ⟨hj, hjk⟩ := find_some_mem hi
   rw [hi] at hfk
   have hke : (((L.map (ent q)).toArray[j]?).map (·.key)).getD (.int q k) = .int q k := by
    simp [hj, ent, hjk]
   refine ⟨_, ?_, ⟨L.set j (k, v, L[j].2.2), c, h.set hj hjk v, fun x => ?_, by rw [hfk]; simp [hn]⟩, upd_setBlk _ h.lt'⟩
   ·simp only [Option.map_some, Sem.run_bind, Result.andThen, hke, run_keyStays]
    rw [modify_ent hj hjk _ v (by simp [ent])]
    exact run_setObj_map _ h.blk
   ·unfold putI
    rw [findI_set h.keys hj hjk, hf]
theorem run_delete_int {mt kt et ty : TypeId} {ats : Array TypeId} (ha : ats[0]? = some mt) (hm : P.underlying mt = some (.map kt et)) (hk : P.underlying kt = some (.int q)) (h : IMap w q b f n) (k : Int) :
 ∃ w', (Builtin.delete_ ats ty #[.map (some b), .int q k]).run P w = .ok (.tuple #[]) w' ∧ IMap w' q b (delI f k) (if (f k).isSome then n - 1 else n) ∧ Upd [b] w w' := by
 obtain ⟨L, c, h, hf, hn⟩ := h
 have hfk := hf k
 rw [findI_idx] at hfk
 unfold Builtin.delete_
 rw [ha]
 simp only [List.getElem?_toArray, List.getElem?_cons_zero, List.getElem?_cons_succ, Sem.run_bind, run_underlying hm, Result.andThen, run_getObj_blk h.blk, run_checkKey hk (show IsKey (.int q) (.int q k) by simp [IsKey])]
 have e : (Instr.findKey kt (.int q k) (L.map (ent q)).toArray.toList).run P w = _ := run_findKey_int hk k L w
 rw [e]
 simp only
 cases hi : L.findIdx? (fun p => p.1 == k) with
 | none =>
   have hno := find_none hi
   rw [hi] at hfk
   rw [hfk]
   refine ⟨_, by simp only [Option.map_none, Sem.run_bind, run_setObj_map _ h.blk, Result.andThen, Sem.run_pure], ⟨L, c, ⟨(heap_set h.blk).1, h.keys, h.stamps, h.lt⟩, fun x => ?_, by simp [hn]⟩, upd_setBlk _ h.lt'⟩
   unfold delI
   by_cases hx : x = k
   ·subst hx; rw [if_pos rfl, findI_none hno]
   ·rw [if_neg hx, hf]
 | some j =>
   obtain ⟨hj, hjk⟩ := find_some_mem hi
   rw [hi] at hfk
   have e1 : (L.map (ent q)).toArray.eraseIdxIfInBounds j = ((L.eraseIdx j).map (ent q)).toArray := by
    have : (L.map (ent q)).eraseIdx j = (L.eraseIdx j).map (ent q) := by
     rw [List.eraseIdx_eq_take_drop_succ, List.eraseIdx_eq_take_drop_succ, List.map_append, List.map_take, List.map_drop]
    simp [Array.eraseIdxIfInBounds, hj, List.eraseIdx_toArray, this]
   refine ⟨{ w with heap := w.heap.setIfInBounds b (.map ((L.eraseIdx j).map (ent q)).toArray c) }, by simp only [Option.map_some, Sem.run_bind, run_setObj_map _ h.blk, Result.andThen, Sem.run_pure]; rw [e1], ⟨L.eraseIdx j, c, ⟨(heap_set h.blk).1, ?_, ?_, fun p hp => h.lt p (List.mem_of_mem_eraseIdx hp)⟩, fun x => ?_, by rw [hfk, List.length_eraseIdx_of_lt hj, hn]; rfl⟩, upd_setBlk _ h.lt'⟩
   ·exact h.keys.sublist ((List.eraseIdx_sublist L j).map _)
   ·exact h.stamps.sublist ((List.eraseIdx_sublist L j).map _)
   ·unfold delI
    have hL : L = L.take j ++ L[j] :: L.drop (j + 1) := by rw [← List.drop_eq_getElem_cons hj, List.take_append_drop]
    have hE : L.eraseIdx j = L.take j ++ L.drop (j + 1) := List.eraseIdx_eq_take_drop_succ ..
    have hnd := h.keys
    rw [hL, List.map_append, List.map_cons, hjk] at hnd
    rw [List.nodup_append, List.nodup_cons] at hnd
    obtain ⟨_, ⟨n1, _⟩, n3⟩ := hnd
    rw [hf, hE]
    conv => lhs; rw [hL]
    rw [findI_append, findI_append]
    by_cases hx : x = k
    ·subst hx
     rw [if_pos rfl, findI_none (L := L.take j) (fun p hp e => n3 _ (List.mem_map.2 ⟨p, hp, rfl⟩) _ (List.mem_cons_self ..) e), findI_none (L := L.drop (j + 1)) (fun p hp e => n1 (List.mem_map.2 ⟨p, hp, e⟩))]
     rfl
    ·rw [if_neg hx]
     have : findI (L[j] :: L.drop (j + 1)) x = findI (L.drop (j + 1)) x := by
      unfold findI
      rw [List.find?_cons]
      have : (L[j].1 == x) = false := by rw [hjk]; simpa using fun e => hx e.symm
      rw [this]
     rw [this]
end
end Go.Proofs.YtmjnmpifibemjaaGreatDoor

namespace Go.Proofs.YtmjnmpifibemjaaGreatDoor
open Go.RowKit Assoc MP
attribute [local go_sem] litStep_value

theorem stopped {p : Prop} (h : Hid p) : p := h.out
theorem blk_map {w : World} {b : Nat} {t : TypeId} {cs : Array Value} {q : IntKind} {f : Int → Option Value} {n : Nat} (h : Blk w b t cs) {m : Nat} (hm : IMap w q m f n) : b ≠ m := by
 rintro rfl
 obtain ⟨L, c, hr, _⟩ := hm
 have := hr.blk
 unfold Blk at h
 rw [h] at this
 cases this
theorem own_map {w : World} {B s n m k : Nat} {e : TypeId} {v : Value} {xs : List Value} {q : IntKind} {f : Int → Option Value} (h : w.ownsRow B e s v n xs) (hm : IMap w q m f k) : v.ownBlock ≠ some m := by
 intro hb
 rcases h.2 with ⟨e, _⟩ | ⟨g, cap, cur, e, _, hg, _⟩
 ·rw [e] at hb; simp [Value.ownBlock] at hb
 ·rw [e] at hb
  simp only [Value.ownBlock, Option.some.injEq] at hb
  subst hb
  exact (blk_map hg hm) rfl
theorem run_len_int {P : Program} {w : World} {q : IntKind} {b n : Nat} {f : Int → Option Value} {mt kt et : TypeId} (hm : P.underlying mt = some (.map kt et)) (h : IMap w q b f n) (ty : TypeId) : (Builtin.len_ #[mt] ty #[.map (some b)]).run P w = .ok (.int .i64 n) w := by
 obtain ⟨L, c, h, _, hn⟩ := h
 simp [Builtin.len_, run_underlying hm, run_getObj_blk h.blk, goInt, Result.andThen, hn]
def mapI (l : AL) : Int → Option Value := fun c => (get l c).map (Value.int .i64)
theorem mapI_put {l : AL} (h : Srt l) (c v k : Int) : mapI (put l c v) k = putI (mapI l) c (.int .i64 v) k := by
 unfold mapI putI
 rw [get_put h]
 by_cases e : k = c <;> simp [e]
theorem mapI_del {l : AL} (c k : Int) : mapI (del l c) k = delI (mapI l) c k := by
 unfold mapI delI
 rw [get_del]
 by_cases e : k = c <;> simp [e]
theorem mapI_some (l : AL) (c : Int) : (mapI l c).isSome = (get l c).isSome := by unfold mapI; cases get l c <;> rfl
theorem imapI_put {w : World} {m : Nat} {l : AL} {c x : Int} (hs : Srt l) (h : IMap w .i64 m (putI (mapI l) c (.int .i64 x)) (if (mapI l c).isSome then l.length else l.length + 1)) : IMap w .i64 m (mapI (put l c x)) (put l c x).length := by
 rw [mapI_some] at h
 rw [len_put hs]
 exact h.congr (fun k => by rw [mapI_put hs])
theorem imapI_del {w : World} {m : Nat} {l : AL} {c : Int} (hs : Srt l) (h : IMap w .i64 m (delI (mapI l) c) (if (mapI l c).isSome then l.length - 1 else l.length)) : IMap w .i64 m (mapI (del l c)) (del l c).length := by
 rw [mapI_some] at h
 rw [len_del hs]
 exact h.congr (fun k => by rw [mapI_del])
abbrev encK : Enc Int := encI .i64
def mapsV (ms : List Nat) : List Value := ms.map (fun m => .map (some m))
/-- A state: the block, the kinds, the maps. -/
structure MdlSt (B sb : Nat) (vk : Value) (gc cc : Nat) (ms : List Nat) (w : World) (s : MS) : Prop where
 box : Blk w sb 148 #[vk, .slice (some ⟨gc, 0, none⟩) s.L.length cc]
 k : Ow encK 3 w B vk s.K
 c : w.ownsRow B 149 1 (.slice (some ⟨gc, 0, none⟩) s.L.length cc) s.L.length (mapsV ms)
 each : ∀ (i m : Nat) (l : AL), ms[i]? = some m → s.L[i]? = some l → IMap w .i64 m (mapI l) l.length
 nd : ms.Nodup
 bs : B ≤ sb
 bm : ∀ m ∈ ms, B ≤ m
def fpM (sb : Nat) (vk : Value) (gc : Nat) (ms : List Nat) : List Nat := sb :: gc :: (vk.ownBlock.toList ++ ms)
def Mdl (B sb : Nat) (F : List Nat) (w : World) (s : MS) : Prop := MP.Good s ∧ ∃ vk gc cc ms, F = fpM sb vk gc ms ∧ MdlSt B sb vk gc cc ms w s
section
variable {B sb gc cc : Nat} {vk : Value} {ms : List Nat} {w w' : World} {s : MS} {F T : List Nat}
theorem MdlSt.mlen (h : MdlSt B sb vk gc cc ms w s) : ms.length = s.L.length := by have := own_len h.c; simp [mapsV] at this; omega
theorem MdlSt.at_ (h : MdlSt B sb vk gc cc ms w s) {i : Nat} (hi : i < s.L.length) : ∃ m, ms[i]? = some m ∧ IMap w .i64 m (mapI (coll s i)) (coll s i).length := by
 have hm : i < ms.length := by rw [h.mlen]; exact hi
 exact ⟨ms[i], List.getElem?_eq_getElem hm, h.each i _ _ (List.getElem?_eq_getElem hm) (coll_get hi)⟩
theorem MdlSt.mem (h : MdlSt B sb vk gc cc ms w s) {m : Nat} (hm : m ∈ ms) : ∃ f n, IMap w .i64 m f n := by
 obtain ⟨i, hi, rfl⟩ := List.getElem_of_mem hm
 have hi' : i < s.L.length := by rw [← h.mlen]; exact hi
 exact ⟨_, _, h.each i _ _ (List.getElem?_eq_getElem hi) (coll_get hi')⟩
theorem MdlSt.upd (h : MdlSt B sb vk gc cc ms w s) (hu : Upd T w w') (hT : ∀ k ∈ fpM sb vk gc ms, k ∉ T) : MdlSt B sb vk gc cc ms w' s := by
 unfold fpM at hT
 simp only [List.mem_cons, List.mem_append, Option.mem_toList] at hT
 refine ⟨h.box.upd hu (hT _ (.inl rfl)), h.k.upd hu fun b hb => hT b (.inr (.inr (.inl hb))), own_upd h.c hu fun b hb => hT b (.inr (.inl (by simp [Value.ownBlock] at hb; exact hb.symm))), fun i m l hm hl => (h.each i m l hm hl).upd hu (hT m (.inr (.inr (.inr (List.mem_of_getElem? hm))))), h.nd, h.bs, h.bm⟩
theorem Mdl.upd (h : Mdl B sb F w s) (hu : Upd T w w') (hT : Disj F T) : Mdl B sb F w' s := by
 obtain ⟨g, vk, gc, cc, ms, rfl, h⟩ := h
 exact ⟨g, vk, gc, cc, ms, rfl, h.upd hu hT⟩
theorem Mdl.upd0 (h : Mdl B sb F w s) (hu : Upd [] w w') : Mdl B sb F w' s := h.upd hu (fun k _ => by simp)
theorem MdlSt.lt (h : MdlSt B sb vk gc cc ms w s) : ∀ k ∈ fpM sb vk gc ms, B ≤ k ∧ k < w.heap.size := by
 intro k hk
 unfold fpM at hk
 simp only [List.mem_cons, List.mem_append, Option.mem_toList] at hk
 rcases hk with rfl | rfl | hk | hk
 ·exact ⟨h.bs, h.box.lt⟩
 ·exact own_lt h.c rfl
 ·exact own_lt h.k hk
 ·obtain ⟨f, n, hm⟩ := h.mem hk
  exact ⟨h.bm k hk, hm.lt⟩
theorem Mdl.lt (h : Mdl B sb F w s) : ∀ k ∈ F, B ≤ k ∧ k < w.heap.size := by
 obtain ⟨g, vk, gc, cc, ms, rfl, h⟩ := h
 exact h.lt
/-- A map has turned. -/
theorem MdlSt.turn (h : MdlSt B sb vk gc cc ms w s) {i m : Nat} (hi : i < s.L.length) (hm : ms[i]? = some m) {l : AL} (hu : Upd [m] w w') (hl : IMap w' .i64 m (mapI l) l.length) : MdlSt B sb vk gc cc ms w' (setC s i l) := by
 obtain ⟨f, n, hmm⟩ := h.mem (List.mem_of_getElem? hm)
 have e : (setC s i l).L.length = s.L.length := by simp [setC]
 refine ⟨by rw [e]; exact h.box.upd hu (by simp; exact blk_map h.box hmm), h.k.upd hu fun b hb => by simp; rintro rfl; exact own_map h.k hmm hb, by rw [e]; exact own_upd h.c hu fun b hb => by simp; rintro rfl; exact own_map h.c hmm hb, fun j m' l' hj hl' => ?_, h.nd, h.bs, h.bm⟩
 have hl2 : (s.L.set i l)[j]? = some l' := hl'
 rw [List.getElem?_set] at hl2
 by_cases hij : i = j
 ·subst hij
  rw [if_pos rfl, if_pos hi] at hl2
  rw [hm] at hj
  injection hj with hj
  injection hl2 with hl2
  subst hj hl2
  exact hl
 ·rw [if_neg hij] at hl2
  refine (h.each j m' l' hj hl2).upd hu ?_
  simp
  rintro rfl
  have hd := h.nd
  have h1 := List.getElem?_eq_some_iff.1 hm
  have h2 := List.getElem?_eq_some_iff.1 hj
  obtain ⟨l1, e1⟩ := h1
  obtain ⟨l2, e2⟩ := h2
  rcases Nat.lt_or_ge i j with h3 | h3
  ·exact List.pairwise_iff_getElem.1 hd i j l1 l2 h3 (e1.trans e2.symm)
  ·exact List.pairwise_iff_getElem.1 hd j i l2 l1 (by omega) (e2.trans e1.symm)
end

def CollPost (s : MS) (ms : List Nat) (c : Int) (w : World) (e : Ending) (w' : World) : Prop :=
 (isC s c = true ∧ w = w' ∧ ∃ (i m : Nat), c = i ∧ i < s.L.length ∧ ms[i]? = some m ∧ e = .returned (.tuple #[.map (some m), .nilIface])) ∨
 (isC s c = false ∧ Upd [] w w' ∧ ∃ g, e = .returned (.tuple #[.map none, .iface 96 (.pointer (some ⟨g, 0, none⟩))]) ∧ Blk w' g 100 #[.int .i64 c, .int .i64 3])
set_option maxRecDepth 100000 in
set_option maxHeartbeats 1000000 in
theorem m_coll (B sb : Nat) (vk : Value) (gc cc : Nat) (ms : List Nat) (s : MS) (c : Int) (w : World) (h : MdlSt B sb vk gc cc ms w s) (hk8 : s.L.length ≤ 8) :
 Calls Tryz.prog 71 #[.pointer (some ⟨sb, 0, none⟩), .int .i64 c] w fun e w' => CollPost s ms c w e w' := by
 have eq0 := @Lib.run_eql_slice_nil Tryz.prog
 have HS := Lib.hid h
 obtain ⟨n, hn⟩ : ∃ n, s.L.length = n := ⟨_, rfl⟩
 have HN := Lib.hid hn
 have c1 : w.cell? ⟨sb, 1, none⟩ = some (.slice (some ⟨gc, 0, none⟩) n cc) := by rw [← hn]; exact h.box.cell 1
 rw [hn] at hk8
 clear h hn
 go_enter Tryz.func71, Tryz.ntmps71
 by_cases h1 : c < 0
 ·have HI : Hid (isC s c = false) := Lib.hid (by unfold isC; rw [decide_eq_false_iff_not]; omega)
  go_wp2_with fail
  go_ret2
  unfold CollPost
  exact .inr ⟨HI.out, (Upd.refl [] w).alloc _, w.heap.size, rfl, Blk.new w _ _⟩
 ·by_cases h2 : (n : Int) ≤ c
  ·have HI : Hid (isC s c = false) := Lib.hid (by unfold isC; rw [decide_eq_false_iff_not, HN.out]; omega)
   go_wp2_with fail
   go_ret2
   unfold CollPost
   exact .inr ⟨HI.out, (Upd.refl [] w).alloc _, w.heap.size, rfl, Blk.new w _ _⟩
  ·have HI : Hid (isC s c = true) := Lib.hid (by unfold isC; rw [decide_eq_true_iff, HN.out]; omega)
   obtain ⟨i, rfl, hi⟩ := isC_form HI.out
   obtain ⟨m, hm, _⟩ := HS.out.at_ hi
   have hin : i < n := by rw [← HN.out]; exact hi
   have HM := Lib.hid hm
   have HII := Lib.hid hi
   have e0 : w.cell? ⟨gc, i, none⟩ = some (.map (some m)) := own_cell HS.out.c i _ (by unfold mapsV; rw [List.getElem?_map, hm]; rfl)
   have q1 : (0 : Int) ≤ (i : Int) := by omega
   have q2 : (i : Int) < (n : Int) := by omega
   clear hm hi
   go_wp2_with fail
   go_ret2
   unfold CollPost
   exact .inl ⟨HI.out, rfl, i, m, rfl, HII.out, HM.out, rfl⟩
end Go.Proofs.YtmjnmpifibemjaaGreatDoor

namespace Go.Proofs.YtmjnmpifibemjaaGreatDoor
open Go.RowKit Assoc MP
attribute [local go_sem] litStep_value

def GetPost (s : MS) (c k : Int) (w : World) (e : Ending) (w' : World) : Prop := ∃ v, e = .returned (.tuple #[.int .i64 (if isC s c then (get (coll s c.toNat) k).getD 0 else 0), .bool (if isC s c then (get (coll s c.toNat) k).isSome else false), v]) ∧ ErrV w' v (if isC s c then 0 else 3) (if isC s c then 0 else c) ∧ Upd [] w w'
set_option maxRecDepth 100000 in
set_option maxHeartbeats 2000000 in
theorem m_get (B sb : Nat) (F : List Nat) (s : MS) (c k : Int) (w : World) (h : Mdl B sb F w s) :
 Calls Tryz.prog 134 #[.pointer (some ⟨sb, 0, none⟩), .int .i64 c, .int .i64 k] w fun e w' => GetPost s c k w e w' := by
 have H := Lib.hid h
 obtain ⟨g, vk, gc, cc, ms, hF, h⟩ := h
 have HF := Lib.hid hF
 have HS := Lib.hid h
 have HG := Lib.hid g
 have K8 := Lib.hid (show s.L.length ≤ 8 by have := g.k8; rw [g.kl] at this; exact this)
 clear g hF h
 go_enter Tryz.func134, Tryz.ntmps134
 go_wp2_with fail
 refine (m_coll B sb vk gc cc ms s c w HS.out K8.out).mono ?_
 rintro e w1 (⟨hc, rfl, i, m, rfl, hi, hm, rfl⟩ | ⟨hc, u1, gf, rfl, bf⟩)
 ·
  obtain ⟨m', hm', him⟩ := HS.out.at_ hi
  obtain rfl : m' = m := by rw [hm] at hm'; exact (Option.some.inj hm').symm
  obtain ⟨ov, hov⟩ : ∃ ov, (get (coll s i) k).getD 0 = ov := ⟨_, rfl⟩
  obtain ⟨is, his⟩ : ∃ is, (get (coll s i) k).isSome = is := ⟨_, rfl⟩
  have l0 : (Instr.lookup 149 (.map (some m')) (.int .i64 k) true).run Tryz.prog w = .ok (.tuple #[.int .i64 ov, .bool is]) w := by
   have hr := run_lookup_int (P := Tryz.prog) (z := .int .i64 0) (mt := 149) Tryz.underlying149 Tryz.underlying3 (w := w) (by kernel_rfl) him k
   rw [hr]
   unfold mapI
   rw [← hov, ← his]
   cases get (coll s i) k <;> rfl
  have HR : Hid ((get (coll s i) k).getD 0 = ov ∧ (get (coll s i) k).isSome = is) := Lib.hid ⟨hov, his⟩
  have HI := Lib.hid hc
  have HIM := Lib.hid him
  have HM := Lib.hid hm
  have HII := Lib.hid hi
  clear hov his hm hm' hi hc him
  go_wp2_with fail
  go_ret3
  unfold GetPost
  rw [HI.out, Int.toNat_natCast, HR.out.1, HR.out.2]
  exact ⟨_, rfl, ErrV.nil _, .refl _ _⟩
 ·have U1 := Lib.hid u1
  have BF := Lib.hid bf
  have HI := Lib.hid hc
  clear u1 bf hc
  go_wp2_with fail
  go_ret3
  unfold GetPost
  rw [HI.out]
  exact ⟨_, rfl, ErrV.fault (no := 3) (at_ := c) BF.out (by omega) (by omega), U1.out⟩
def SizePost (s : MS) (c : Int) (w : World) (e : Ending) (w' : World) : Prop := ∃ v, e = .returned (.tuple #[.int .i64 (if isC s c then ((coll s c.toNat).length : Int) else 0), v]) ∧ ErrV w' v (if isC s c then 0 else 3) (if isC s c then 0 else c) ∧ Upd [] w w'
set_option maxRecDepth 100000 in
set_option maxHeartbeats 2000000 in
theorem m_size (B sb : Nat) (F : List Nat) (s : MS) (c : Int) (w : World) (h : Mdl B sb F w s) :
 Calls Tryz.prog 42 #[.pointer (some ⟨sb, 0, none⟩), .int .i64 c] w fun e w' => SizePost s c w e w' := by
 have ln0 : ∀ W, (Builtin.len_ #[149] 3 #[.map none]).run Tryz.prog W = .ok (.int .i64 0) W := fun W => by kernel_rfl
 have H := Lib.hid h
 obtain ⟨g, vk, gc, cc, ms, hF, h⟩ := h
 have HF := Lib.hid hF
 have HS := Lib.hid h
 have HG := Lib.hid g
 have K8 := Lib.hid (show s.L.length ≤ 8 by have := g.k8; rw [g.kl] at this; exact this)
 clear g hF h
 go_enter Tryz.func42, Tryz.ntmps42
 go_wp2_with fail
 refine (m_coll B sb vk gc cc ms s c w HS.out K8.out).mono ?_
 rintro e w1 (⟨hc, rfl, i, m, rfl, hi, hm, rfl⟩ | ⟨hc, u1, gf, rfl, bf⟩)
 ·obtain ⟨m', hm', him⟩ := HS.out.at_ hi
  obtain rfl : m' = m := by rw [hm] at hm'; exact (Option.some.inj hm').symm
  obtain ⟨N, hN⟩ : ∃ N, (coll s i).length = N := ⟨_, rfl⟩
  have ln : (Builtin.len_ #[149] 3 #[.map (some m')]).run Tryz.prog w = .ok (.int .i64 N) w := hN ▸ run_len_int Tryz.underlying149 him _
  have HI := Lib.hid hc
  have HNN := Lib.hid hN
  clear hm hm' hi hc him hN
  go_wp2_with fail
  go_ret2
  unfold SizePost
  rw [HI.out, Int.toNat_natCast, HNN.out]
  exact ⟨_, rfl, ErrV.nil _, .refl _ _⟩
 ·have U1 := Lib.hid u1
  have BF := Lib.hid bf
  have HI := Lib.hid hc
  clear u1 bf hc
  go_wp2_with fail
  go_ret2
  unfold SizePost
  rw [HI.out]
  exact ⟨_, rfl, ErrV.fault (no := 3) (at_ := c) BF.out (by omega) (by omega), U1.out⟩
def MPutPost (B sb : Nat) (F : List Nat) (s : MS) (c k v : Int) (w : World) (e : Ending) (w' : World) : Prop := ∃ u, e = .returned u ∧ ErrV w' u (if isC s c then putE (coll s c.toNat) k else 3) (if isC s c then 0 else c) ∧ Mdl B sb F w' (if isC s c then mPut s c.toNat k v else s) ∧ Upd F w w'
set_option maxRecDepth 100000 in
set_option maxHeartbeats 4000000 in
theorem m_put (B sb : Nat) (F : List Nat) (s : MS) (c k v : Int) (w : World) (h : Mdl B sb F w s) (hkb : kB k) :
 Calls Tryz.prog 137 #[.pointer (some ⟨sb, 0, none⟩), .int .i64 c, .int .i64 k, .int .i64 v] w fun e w' => MPutPost B sb F s c k v w e w' := by
 have HKB := Lib.hid hkb
 clear hkb
 have H := Lib.hid h
 obtain ⟨g, vk, gc, cc, ms, hF, h⟩ := h
 have HF := Lib.hid hF
 have HS := Lib.hid h
 have HG := Lib.hid g
 have K8 := Lib.hid (show s.L.length ≤ 8 by have := g.k8; rw [g.kl] at this; exact this)
 clear g hF h
 go_enter Tryz.func137, Tryz.ntmps137
 go_wp2_with fail
 refine (m_coll B sb vk gc cc ms s c w HS.out K8.out).mono ?_
 rintro e w1 (⟨hc, rfl, i, m, rfl, hi, hm, rfl⟩ | ⟨hc, u1, gf, rfl, bf⟩)
 ·
  obtain ⟨m', hm', him⟩ := HS.out.at_ hi
  obtain rfl : m' = m := by rw [hm] at hm'; exact (Option.some.inj hm').symm
  obtain ⟨ov, hov⟩ : ∃ ov, (get (coll s i) k).getD 0 = ov := ⟨_, rfl⟩
  obtain ⟨is, his⟩ : ∃ is, (get (coll s i) k).isSome = is := ⟨_, rfl⟩
  have l0 : (Instr.lookup 149 (.map (some m')) (.int .i64 k) true).run Tryz.prog w = .ok (.tuple #[.int .i64 ov, .bool is]) w := by
   have hr := run_lookup_int (P := Tryz.prog) (z := .int .i64 0) (mt := 149) Tryz.underlying149 Tryz.underlying3 (w := w) (by kernel_rfl) him k
   rw [hr]
   unfold mapI
   rw [← hov, ← his]
   cases get (coll s i) k <;> rfl
  have HR : Hid ((get (coll s i) k).getD 0 = ov ∧ (get (coll s i) k).isSome = is) := Lib.hid ⟨hov, his⟩
  have HI := Lib.hid hc
  have HIM := Lib.hid him
  have HM := Lib.hid hm
  have HII := Lib.hid hi
  obtain ⟨N, hN⟩ : ∃ N, (coll s i).length = N := ⟨_, rfl⟩
  have ln : (Builtin.len_ #[149] 3 #[.map (some m')]).run Tryz.prog w = .ok (.int .i64 N) w := hN ▸ run_len_int Tryz.underlying149 him _
  have HE : Hid (putE (coll s i) k = if is = false ∧ 100 ≤ N then 8 else 0) := Lib.hid (by unfold putE; rw [his, hN])
  have SR : Hid (Srt (coll s i)) := Lib.hid (HG.out.srt _ (coll_mem hi))
  obtain ⟨Ak, ck, rfl, hnk, _⟩ := own_slice HS.out.k
  obtain ⟨NK, hNK⟩ : ∃ NK, s.K.length = NK := ⟨_, rfl⟩
  have hik : i < NK := by rw [← hNK, HG.out.kl]; exact hi
  have OK : Hid (w.ownsRow B 3 1 (.slice Ak NK ck) NK (flat encK s.K)) := Lib.hid (by have := HS.out.k; unfold Ow at this; rw [hNK] at this; exact this)
  obtain ⟨gk, cg, cur, e1, _⟩ := own_form OK.out (by omega)
  injection e1 with e1 _ e1'
  subst e1 e1'
  obtain ⟨y, hy⟩ : ∃ y, s.K[i]? = some y := ⟨_, List.getElem?_eq_getElem (by rw [hNK]; exact hik)⟩
  have e0 : w.cell? ⟨gk, i, none⟩ = some (.int .i64 y) := by
   have := own_cell OK.out _ _ ((flat_get (E := encK) hy (j := 0) (by decide)).trans rfl)
   rwa [show i * encK.s + 0 = i by simp [encI]] at this
  have c0 : w.cell? ⟨sb, 0, none⟩ = some (.slice (some ⟨gk, 0, none⟩) NK ck) := by rw [← hNK]; exact HS.out.box.cell 0
  have q1 : (0 : Int) ≤ (i : Int) := by omega
  have q2 : (i : Int) < (NK : Int) := by omega
  have HV : Hid (putV s i v = if y = 2 then 1 else v) := Lib.hid (by unfold putV; rw [List.getD_eq_getElem?_getD, hy]; rfl)
  clear hov his hm hm' hi hc him hN hNK hy
  cases is with
  | true =>
    have HE0 : Hid (putE (coll s i) k = 0) := Lib.hid (by rw [HE.out, if_neg (by simp; try omega)])
    by_cases hy2 : y = 2
    ·have d2 : (y == 2) = true := by simpa using hy2
     have HVV : Hid (putV s i v = 1) := Lib.hid (by rw [HV.out, if_pos hy2])
     clear hy2
     obtain ⟨W3, r3, m3, u3⟩ := run_mapUpdate_int (P := Tryz.prog) (mt := 149) Tryz.underlying149 Tryz.underlying3 HIM.out k (.int .i64 1)
     have M3 := Lib.hid (imapI_put SR.out m3)
     have U3 := Lib.hid u3
     clear m3 u3
     go_wp2_with fail
     go_ret
     unfold MPutPost
     rw [HI.out, Int.toNat_natCast, HE0.out]
     have GP := good_put HG.out HII.out k v HKB.out
     have EP : mPut s i k v = setC s i (put (coll s i) k 1) := by unfold mPut; rw [HE0.out, HVV.out]; rfl
     rw [EP] at GP ⊢
     refine ⟨_, rfl, ErrV.nil _, ⟨GP, _, gc, cc, ms, HF.out, HS.out.turn HII.out HM.out U3.out M3.out⟩, ?_⟩
     rw [HF.out]
     exact U3.out.mono (by intro y hy; simp at hy; subst hy; exact .inl (by unfold fpM; simp [List.mem_of_getElem? HM.out]))
    ·have d2 : (y == 2) = false := by simpa using hy2
     have HVV : Hid (putV s i v = v) := Lib.hid (by rw [HV.out, if_neg hy2])
     clear hy2
     obtain ⟨W3, r3, m3, u3⟩ := run_mapUpdate_int (P := Tryz.prog) (mt := 149) Tryz.underlying149 Tryz.underlying3 HIM.out k (.int .i64 v)
     have M3 := Lib.hid (imapI_put SR.out m3)
     have U3 := Lib.hid u3
     clear m3 u3
     go_wp2_with fail
     go_ret
     unfold MPutPost
     rw [HI.out, Int.toNat_natCast, HE0.out]
     have GP := good_put HG.out HII.out k v HKB.out
     have EP : mPut s i k v = setC s i (put (coll s i) k v) := by unfold mPut; rw [HE0.out, HVV.out]; rfl
     rw [EP] at GP ⊢
     refine ⟨_, rfl, ErrV.nil _, ⟨GP, _, gc, cc, ms, HF.out, HS.out.turn HII.out HM.out U3.out M3.out⟩, ?_⟩
     rw [HF.out]
     exact U3.out.mono (by intro y hy; simp at hy; subst hy; exact .inl (by unfold fpM; simp [List.mem_of_getElem? HM.out]))
  | false =>
    by_cases h5 : 100 ≤ N
    ·have d : decide ((100 : Int) ≤ (N : Int)) = true := by simp; omega
     have HE8 : Hid (putE (coll s i) k = 8) := Lib.hid (by rw [HE.out, if_pos ⟨rfl, h5⟩])
     go_wp2_with fail
     go_ret
     unfold MPutPost
     rw [HI.out, Int.toNat_natCast, HE8.out]
     refine ⟨_, rfl, ErrV.errno _ 8 (by omega) (by omega), ?_, .refl _ _⟩
     have EP : mPut s i k v = s := by unfold mPut; rw [HE8.out]; rfl
     rw [EP]
     exact H.out
    ·have d5 : decide ((100 : Int) ≤ (N : Int)) = false := by simp; omega
     have HE0 : Hid (putE (coll s i) k = 0) := Lib.hid (by rw [HE.out, if_neg (by simp; try omega)])
     by_cases hy2 : y = 2
     ·have d2 : (y == 2) = true := by simpa using hy2
      have HVV : Hid (putV s i v = 1) := Lib.hid (by rw [HV.out, if_pos hy2])
      clear hy2
      obtain ⟨W3, r3, m3, u3⟩ := run_mapUpdate_int (P := Tryz.prog) (mt := 149) Tryz.underlying149 Tryz.underlying3 HIM.out k (.int .i64 1)
      have M3 := Lib.hid (imapI_put SR.out m3)
      have U3 := Lib.hid u3
      clear m3 u3
      go_wp2_with fail
      go_ret
      unfold MPutPost
      rw [HI.out, Int.toNat_natCast, HE0.out]
      have GP := good_put HG.out HII.out k v HKB.out
      have EP : mPut s i k v = setC s i (put (coll s i) k 1) := by unfold mPut; rw [HE0.out, HVV.out]; rfl
      rw [EP] at GP ⊢
      refine ⟨_, rfl, ErrV.nil _, ⟨GP, _, gc, cc, ms, HF.out, HS.out.turn HII.out HM.out U3.out M3.out⟩, ?_⟩
      rw [HF.out]
      exact U3.out.mono (by intro y hy; simp at hy; subst hy; exact .inl (by unfold fpM; simp [List.mem_of_getElem? HM.out]))
     ·have d2 : (y == 2) = false := by simpa using hy2
      have HVV : Hid (putV s i v = v) := Lib.hid (by rw [HV.out, if_neg hy2])
      clear hy2
      obtain ⟨W3, r3, m3, u3⟩ := run_mapUpdate_int (P := Tryz.prog) (mt := 149) Tryz.underlying149 Tryz.underlying3 HIM.out k (.int .i64 v)
      have M3 := Lib.hid (imapI_put SR.out m3)
      have U3 := Lib.hid u3
      clear m3 u3
      go_wp2_with fail
      go_ret
      unfold MPutPost
      rw [HI.out, Int.toNat_natCast, HE0.out]
      have GP := good_put HG.out HII.out k v HKB.out
      have EP : mPut s i k v = setC s i (put (coll s i) k v) := by unfold mPut; rw [HE0.out, HVV.out]; rfl
      rw [EP] at GP ⊢
      refine ⟨_, rfl, ErrV.nil _, ⟨GP, _, gc, cc, ms, HF.out, HS.out.turn HII.out HM.out U3.out M3.out⟩, ?_⟩
      rw [HF.out]
      exact U3.out.mono (by intro y hy; simp at hy; subst hy; exact .inl (by unfold fpM; simp [List.mem_of_getElem? HM.out]))
 ·have U1 := Lib.hid u1
  have BF := Lib.hid bf
  have HI := Lib.hid hc
  clear u1 bf hc
  go_wp2_with fail
  go_ret
  unfold MPutPost
  rw [HI.out]
  exact ⟨_, rfl, ErrV.fault (no := 3) (at_ := c) BF.out (by omega) (by omega), H.out.upd0 U1.out, U1.out.mono (by simp)⟩
def MDelPost (B sb : Nat) (F : List Nat) (s : MS) (c k : Int) (w : World) (e : Ending) (w' : World) : Prop := ∃ u, e = .returned u ∧ ErrV w' u (if isC s c then 0 else 3) (if isC s c then 0 else c) ∧ Mdl B sb F w' (if isC s c then mDel s c.toNat k else s) ∧ Upd F w w'
set_option maxRecDepth 100000 in
set_option maxHeartbeats 4000000 in
theorem m_del (B sb : Nat) (F : List Nat) (s : MS) (c k : Int) (w : World) (h : Mdl B sb F w s) :
 Calls Tryz.prog 138 #[.pointer (some ⟨sb, 0, none⟩), .int .i64 c, .int .i64 k] w fun e w' => MDelPost B sb F s c k w e w' := by
 have H := Lib.hid h
 obtain ⟨g, vk, gc, cc, ms, hF, h⟩ := h
 have HF := Lib.hid hF
 have HS := Lib.hid h
 have HG := Lib.hid g
 have K8 := Lib.hid (show s.L.length ≤ 8 by have := g.k8; rw [g.kl] at this; exact this)
 clear g hF h
 go_enter Tryz.func138, Tryz.ntmps138
 go_wp2_with fail
 refine (m_coll B sb vk gc cc ms s c w HS.out K8.out).mono ?_
 rintro e w1 (⟨hc, rfl, i, m, rfl, hi, hm, rfl⟩ | ⟨hc, u1, gf, rfl, bf⟩)
 ·obtain ⟨m', hm', him⟩ := HS.out.at_ hi
  obtain rfl : m' = m := by rw [hm] at hm'; exact (Option.some.inj hm').symm
  obtain ⟨W3, r3, m3, u3⟩ := run_delete_int (P := Tryz.prog) (ats := #[149, 3]) (ty := 0) rfl Tryz.underlying149 Tryz.underlying3 him k
  have M3 := Lib.hid (imapI_del (HG.out.srt _ (coll_mem hi)) m3)
  have U3 := Lib.hid u3
  have HI := Lib.hid hc
  have HM := Lib.hid hm
  have HII := Lib.hid hi
  clear hm hm' hi hc him m3 u3
  go_wp2_with fail
  go_ret
  unfold MDelPost
  rw [HI.out, Int.toNat_natCast]
  refine ⟨_, rfl, ErrV.nil _, ⟨good_del HG.out HII.out k, vk, gc, cc, ms, HF.out, HS.out.turn HII.out HM.out U3.out M3.out⟩, ?_⟩
  rw [HF.out]
  exact U3.out.mono (by intro y hy; simp at hy; subst hy; exact .inl (by unfold fpM; simp [List.mem_of_getElem? HM.out]))
 ·have U1 := Lib.hid u1
  have BF := Lib.hid bf
  have HI := Lib.hid hc
  clear u1 bf hc
  go_wp2_with fail
  go_ret
  unfold MDelPost
  rw [HI.out]
  exact ⟨_, rfl, ErrV.fault (no := 3) (at_ := c) BF.out (by omega) (by omega), H.out.upd0 U1.out, U1.out.mono (by simp)⟩
end Go.Proofs.YtmjnmpifibemjaaGreatDoor

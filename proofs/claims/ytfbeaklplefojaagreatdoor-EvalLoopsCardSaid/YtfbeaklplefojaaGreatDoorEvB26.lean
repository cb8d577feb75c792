/-
  concordref11.Same: are two ends the same?
  eval.Run as the laws see it: the error's number, the end, what is told, what there is behind it.
  concordlaw09.weight, Few: how many statements there are.
  concordlaw09.Few.
  Statements as they lie one behind the other; two transactions behind one another in memory.
  concordlaw11.alive.
  The arguments of the model's laws: a slice of calls, a slice of ints.
  The arguments of eval's laws: a slice of ints, with its length's bound.
  Statements out of an argument.
  From the row's listed variable to what the walks ask of it; a world that meets it.
-/
import Derived.Test.YtfbeaklplefojaaGreatDoorEvB12
import Derived.Test.YtfbeaklplefojaaGreatDoorEvBsRunE
import Derived.Test.YtfbeaklplefojaaGreatDoorEvB9
import Derived.Test.YtfbeaklplefojaaGreatDoorEvBsRightWN
import Derived.IntWalk
import Derived.Test.YtfbeaklplefojaaGreatDoorEvB1
import Derived.Test.YtfbeaklplefojaaGreatDoorEvB13
import Derived.Test.YtfbeaklplefojaaGreatDoorEvB0
import Derived.Test.YtfbeaklplefojaaGreatDoorRows
import Derived.LaidMore
import Derived.LaidHandle
import Derived.Stop.Joined
set_option linter.unusedVariables false
namespace Go.Proofs.YtfbeaklplefojaaGreatDoor.Ev
open Go.RowKit
attribute [local go_sem] litStep_value

set_option maxRecDepth 100000 in
set_option maxHeartbeats 2000000 in
theorem esame_ok (B B' : Nat) (a b : Int) (L M : List Int) (v u : Value) (w : World) (hv : Ow encK 3 w B v L) (hu : Ow encK 3 w B' u M) (hL : L.length ≤ 1000000) (hM : M.length ≤ 1000000) :
    Calls Tryz.prog 11 #[.agg #[.int .i64 a, v], .agg #[.int .i64 b, u]] w fun e w' => e = .returned (.bool (decide (a = b ∧ L = M))) ∧ Upd [] w w' := by
  obtain ⟨A, c, rfl, hnc, hcm⟩ := own_slice hv
  obtain ⟨A', c', rfl, hnc', hcm'⟩ := own_slice hu
  obtain ⟨n, hn⟩ : ∃ n, L.length = n := ⟨_, rfl⟩
  obtain ⟨m, hm⟩ : ∃ m, M.length = m := ⟨_, rfl⟩
  have HV : Hid (Ow encK 3 w B (.slice A n c) L) := Lib.hid (by rw [hn] at hv; exact hv)
  have HU : Hid (Ow encK 3 w B' (.slice A' m c') M) := Lib.hid (by rw [hm] at hu; exact hu)
  have HL := Lib.hid hL
  have HM := Lib.hid hM
  rw [hn, hm]
  clear hn hm hv hu hL hM
  go_enter Tryz.func11, Tryz.ntmps11
  have UA : Hid (Upd [] w ((w.alloc (.cells #[.int .i64 a, .slice A n c] 32)).alloc (.cells #[.int .i64 b, .slice A' m c'] 32))) := Lib.hid (((Upd.refl [] w).alloc _).alloc _)
  by_cases hab : a = b
  · have d0 : (a == b) = true := by simpa using hab
    have HAB := Lib.hid hab
    obtain ⟨q, hq⟩ : ∃ q, decide (a = b ∧ L = M) = q := ⟨_, rfl⟩
    have HQ : Hid (decide (L = M) = q) := Lib.hid (by rw [← hq]; simp [hab])
    rw [hq]
    clear hq hab
    go_wp2_with fail
    refine (ints_ok B B' L M (.slice A n c) (.slice A' m c') _ (HV.out.upd0 UA.out) (HU.out.upd0 UA.out) HL.out HM.out).mono ?_
    rintro e w1 ⟨rfl, u1⟩
    have U1 := Lib.hid (UA.out.trans u1)
    rw [HQ.out]
    clear u1
    go_wp2_with fail
    go_ret
    exact ⟨rfl, U1.out⟩
  · have d0 : (a == b) = false := by simpa using hab
    obtain ⟨q, hq⟩ : ∃ q, decide (a = b ∧ L = M) = q := ⟨_, rfl⟩
    have HQ : Hid (false = q) := Lib.hid (by rw [← hq]; simp [hab])
    rw [hq]
    clear hq hab
    go_wp2_with fail
    go_ret
    rw [← HQ.out]
    exact ⟨rfl, UA.out⟩
end Go.Proofs.YtfbeaklplefojaaGreatDoor.Ev

namespace Go.Proofs.YtfbeaklplefojaaGreatDoor.Ev
open Go.RowKit Assoc MP

def RanPost (s : MS) (l : List Stm) (w : World) (e : Ending) (w' : World) : Prop :=
  ∃ (p : Option Addr) (v u : Value) (a : Int), e = .returned (.tuple #[.pointer p, .agg #[.int .i64 (endE s l), v], u]) ∧ Upd [] w w' ∧ ErrV w' u (errE s l) a ∧ Ow encK 3 w' w.heap.size v (toldE s l) ∧ (toldE s l).length ≤ 1000000 ∧
    (errE s l = 0 → ∃ sb F, p = some ⟨sb, 0, none⟩ ∧ Mdl w.heap.size sb F w' (finE s l))
theorem ran_ok (B sb : Nat) (F : List Nat) (s : MS) (l : List Stm) (v : Value) (w : World) (h : Mdl B sb F w s) (hv : Stms w w.heap.size v l) (hl : sizes l ≤ 900000) (hg : Typed w) :
    Calls Tryz.prog 9 #[.pointer (some ⟨sb, 0, none⟩), v] w (RanPost s l w) := by
  refine (run_ok B sb F s l v w h hv hl hg).mono ?_
  rintro e w' ⟨p, n, v, u, rfl, hu, h⟩
  rcases h with ⟨hr, rfl, rfl, rfl, he⟩ | ⟨hr, h5, rfl, rfl, rfl, rfl⟩ | ⟨hr, h5, rfl, rfl, hl, ho, sb', F', rfl, hm, hf⟩
  · have e1 : errE s l = (rightR s.K l).1 := by unfold errE; rw [if_pos hr]
    have e0 : ¬ errE s l = 0 := by rw [e1]; exact hr
    refine ⟨none, .slice none 0 0, u, (rightR s.K l).2, ?_, hu, by rw [e1]; exact he, ?_, ?_, fun h => absurd h e0⟩
    · unfold endE; rw [if_neg e0]
    · unfold toldE; rw [if_neg e0]; exact Ow.nil _ _ _ _
    · unfold toldE; rw [if_neg e0]; simp
  · have e1 : errE s l = 8 := by unfold errE; rw [if_neg (by simpa using hr), if_pos h5]
    have e0 : ¬ errE s l = 0 := by rw [e1]; decide
    refine ⟨none, .slice none 0 0, _, 0, ?_, hu, by rw [e1]; exact ErrV.errno _ 8 (by decide) (by decide), ?_, ?_, fun h => absurd h e0⟩
    · unfold endE; rw [if_neg e0]
    · unfold toldE; rw [if_neg e0]; exact Ow.nil _ _ _ _
    · unfold toldE; rw [if_neg e0]; simp
  · have e0 : errE s l = 0 := by unfold errE; rw [if_neg (by simpa using hr), if_neg h5]
    have e2 : toldE s l = (evL l (r0 s)).1.told := by unfold toldE; rw [if_pos e0]
    refine ⟨_, v, _, 0, ?_, hu, by rw [e0]; exact .nil _, ?_, by rw [e2]; omega, fun _ => ⟨sb', F', rfl, hm⟩⟩
    · unfold endE; rw [if_pos e0]
    · rw [e2]
      unfold Ow
      rw [flat_ints]
      exact ho
/-- What one Run answered, kept over what is made since. -/
structure Ran (s : MS) (l : List Stm) (w : World) (p : Option Addr) (v u : Value) : Prop where
  err : ∃ a, ErrV w u (errE s l) a
  told : ∃ B, Ow encK 3 w B v (toldE s l)
  len : (toldE s l).length ≤ 1000000
  mdl : errE s l = 0 → ∃ B sb F, p = some ⟨sb, 0, none⟩ ∧ Mdl B sb F w (finE s l)
theorem Ran.upd0 {s : MS} {l : List Stm} {w w' : World} {p : Option Addr} {v u : Value} (h : Ran s l w p v u) (hu : Upd [] w w') : Ran s l w' p v u := by
  obtain ⟨⟨a, h1⟩, ⟨B, h2⟩, h3, h4⟩ := h
  refine ⟨⟨a, h1.upd hu⟩, ⟨B, h2.upd0 hu⟩, h3, fun h0 => ?_⟩
  obtain ⟨B', sb, F, e, hm⟩ := h4 h0
  exact ⟨B', sb, F, e, hm.upd0 hu⟩
theorem ran_law (B sb : Nat) (F : List Nat) (s : MS) (l : List Stm) (v : Value) (w : World) (h : Mdl B sb F w s) (hv : Stms w w.heap.size v l) (hl : sizes l ≤ 900000) (hg : Typed w) :
    Calls Tryz.prog 9 #[.pointer (some ⟨sb, 0, none⟩), v] w fun e w' => ∃ (p : Option Addr) (A : Option Addr) (n c : Nat) (u : Value), e = .returned (.tuple #[.pointer p, .agg #[.int .i64 (endE s l), .slice A n c], u]) ∧ Ran s l w' p (.slice A n c) u ∧ Upd [] w w' := by
  refine (ran_ok B sb F s l v w h hv hl hg).mono ?_
  rintro e w' ⟨p, v, u, a, rfl, hu, he, ho, hl, hm⟩
  obtain ⟨A, c, rfl, _, _⟩ := own_slice ho
  exact ⟨p, A, _, c, u, rfl, ⟨⟨a, he⟩, ⟨_, ho⟩, hl, fun h0 => by obtain ⟨sb, F, e, h⟩ := hm h0; exact ⟨_, sb, F, e, h⟩⟩, hu⟩
theorem ran_no {s : MS} {l : List Stm} {w : World} {p : Option Addr} {v u : Value} (h : Ran s l w p v u) : Calls Tryz.prog 10 #[u] w fun e w' => e = .returned (.int .i64 (errE s l)) ∧ w = w' := by
  obtain ⟨a, h⟩ := h.err
  exact no_err h
/-- Are two ends the same? -/
theorem ran_same {s t : MS} {l m : List Stm} {w : World} {p q : Option Addr} {v u v' u' : Value} (a b : Int) (h : Ran s l w p v u) (h' : Ran t m w q v' u') :
    Calls Tryz.prog 11 #[.agg #[.int .i64 a, v], .agg #[.int .i64 b, v']] w fun e w' => e = .returned (.bool (decide (a = b ∧ toldE s l = toldE t m))) ∧ Upd [] w w' := by
  obtain ⟨B, h1⟩ := h.told
  obtain ⟨B', h2⟩ := h'.told
  exact esame_ok B B' a b _ _ v v' w h1 h2 h.len h'.len
/-- Do two have the same behind them? -/
theorem ran_msame {s t : MS} {l m : List Stm} {w : World} {p q : Option Addr} {v u v' u' : Value} (h : Ran s l w p v u) (h' : Ran t m w q v' u') (h0 : errE s l = 0) (h0' : errE t m = 0) :
    Calls Tryz.prog 12 #[.pointer p, .pointer q] w fun e w' => ∃ b, e = .returned (.bool b) ∧ (b = true ↔ finE s l = finE t m) ∧ Upd [] w w' := by
  obtain ⟨B, sb, F, rfl, h1⟩ := h.mdl h0
  obtain ⟨B', sb', F', rfl, h2⟩ := h'.mdl h0'
  exact m_same B B' sb sb' F F' _ _ w h1 h2
end Go.Proofs.YtfbeaklplefojaaGreatDoor.Ev

namespace Go.Proofs.YtfbeaklplefojaaGreatDoor
open Go.RowKit
attribute [local go_sem] litStep_value

/-- What weight counts on; and of all. -/
def wtG (r : Nat → List Stm → Nat) (d : Nat) : List Stm → Nat → Nat
  | [], n => n
  | .mk _ _ _ _ _ _ _ b e :: l, n => if n < 1000 then wtG r d l (n + 1 + r (d + 1) b + r (d + 1) e) else n
def wtF : Nat → Nat → List Stm → Nat
  | 0, _, _ => 0
  | m + 1, d, l => if 30 < d then 1000 else min (wtG (wtF m) d l 0) 1000
theorem wtF_le : ∀ m d l, wtF m d l ≤ 1000
  | 0, _, _ => by simp [wtF]
  | m + 1, d, l => by unfold wtF; split <;> omega
theorem wtG_done (r : Nat → List Stm → Nat) (d : Nat) (l : List Stm) (n : Nat) (h : ¬ n < 1000) : wtG r d l n = n := by
  cases l with
  | nil => rfl
  | cons s l => cases s; unfold wtG; rw [if_neg h]
theorem wtG_mono (r : Nat → List Stm → Nat) (d : Nat) : ∀ (l : List Stm) (n : Nat), n ≤ wtG r d l n
  | [], n => Nat.le_refl _
  | .mk _ _ _ _ _ _ _ b e :: l, n => by
    unfold wtG
    split
    · have := wtG_mono r d l (n + 1 + r (d + 1) b + r (d + 1) e)
      omega
    · exact Nat.le_refl _
/-- Where it is below 1000 it is how many there are. -/
theorem wtG_cons (r : Nat → List Stm → Nat) (d : Nat) (a1 a2 a3 a4 a5 a6 a7 : Int) (b e l : List Stm) (n : Nat) : wtG r d (.mk a1 a2 a3 a4 a5 a6 a7 b e :: l) n = if n < 1000 then wtG r d l (n + 1 + r (d + 1) b + r (d + 1) e) else n := rfl
theorem wtF_sizes : ∀ (m d : Nat) (l : List Stm), 31 < m + d → d ≤ 31 → wtF m d l < 1000 → wtF m d l = sizes l
  | 0, d, l, hm, h31, h => by omega
  | m + 1, d, l, hm, h31, h => by
    unfold wtF at h ⊢
    split at h
    · omega
    · rename_i hd
      rw [if_neg hd]
      have key : ∀ (l : List Stm) (n : Nat), wtG (wtF m) d l n < 1000 → wtG (wtF m) d l n = n + sizes l := by
        intro l
        induction l with
        | nil => intro n _; rfl
        | cons s l ih =>
          intro n h
          cases s with
          | mk a1 a2 a3 a4 a5 a6 a7 b e =>
            rw [wtG_cons] at h ⊢
            split at h
            · rename_i hn
              rw [if_pos hn]
              have h1 := wtG_mono (wtF m) d l (n + 1 + wtF m (d + 1) b + wtF m (d + 1) e)
              have hb := wtF_sizes m (d + 1) b (by omega) (by omega) (by omega)
              have he := wtF_sizes m (d + 1) e (by omega) (by omega) (by omega)
              rw [ih _ h, hb, he, sizes_cons, size_mk]
              omega
            · omega
      have := key l 0 (by omega)
      omega

set_option maxRecDepth 100000 in
set_option maxHeartbeats 4000000 in
theorem weight_ok {B : Nat} : ∀ (m : Nat) (d : Nat) (l : List Stm) (v : Value) (w : World), 31 < m + d → d ≤ 31 → Stms w B v l → B ≤ w.heap.size →
    Calls Tryz.prog 20 #[v, .int .i64 d] w fun e w' => e = .returned (.int .i64 (wtF m d l)) ∧ Upd [] w w' := by
  intro m
  induction m with
  | zero => intro d l v w h1 h2; omega
  | succ m ih =>
    intro d l v w hm hd hv hB
    by_cases h30 : 30 < d
    · have h30' : decide ((30 : Int) < d) = true := by simp; omega
      have HR : Hid (wtF (m + 1) d l = 1000) := Lib.hid (by unfold wtF; rw [if_pos h30])
      go_enter Tryz.func20, Tryz.ntmps20
      go_wp2_with fail
      go_ret
      rw [HR.out]
      exact ⟨rfl, .refl _ _⟩
    · have h30' : decide ((30 : Int) < d) = false := by simp; omega
      have HR : Hid (wtF (m + 1) d l = min (wtG (wtF m) d (l.drop 0) 0) 1000) := Lib.hid (by unfold wtF; rw [if_neg h30]; rfl)
      obtain ⟨tot, htot⟩ : ∃ t, wtF (m + 1) d l = t := ⟨_, rfl⟩
      rw [htot] at HR ⊢
      have IH := Lib.hid ih
      have HLI := Lib.hid hv
      have HLE : Hid (∀ d l, wtF m d l ≤ 1000) := Lib.hid (wtF_le m)
      clear htot ih
      cases hv with
      | mk A nn c l vb ve hln hc hcm hcell hbb hee =>
      have hnn : nn ≤ 9223372036854775807 := by omega
      have HLN := Lib.hid hln
      have HCE := Lib.hid hcell
      have HBB := Lib.hid hbb
      have HEE := Lib.hid hee
      clear hln hcell hbb hee
      go_enter Tryz.func20, Tryz.ntmps20
      go_wp2_with fail
      go_loopw [5, 6] (fun u i wr => ∃ (k n : Nat), u = .int .i64 n ∧ n ≤ 3000 ∧ i = .int .i64 k ∧ k ≤ nn ∧ Hid (tot = min (wtG (wtF m) d (l.drop k) n) 1000) ∧ Hid (Upd [] w wr)) (fun _ i _ => nn - (intOf i).toNat)
      case atStart => exact ⟨0, 0, rfl, by omega, rfl, by omega, HR, Lib.hid (.refl _ _)⟩
      case round =>
        obtain ⟨k, n, rfl, hn, rfl, hk, KR, KU⟩ := hrel
        by_cases hkn : k < nn
        · have hkn' : decide ((k : Int) < nn) = true := by simp; omega
          by_cases hn1 : n < 1000
          · have hn1' : decide ((n : Int) < 1000) = true := by simp; omega
            obtain ⟨x, hx⟩ : ∃ x, l[k]? = some x := ⟨_, List.getElem?_eq_getElem (by rw [HLN.out]; exact hkn)⟩
            obtain ⟨a1, a2, a3, a4, a5, a6, a7, bo, el⟩ := x
            have HZ : Hid (tot = min (wtG (wtF m) d (l.drop (k + 1)) (n + 1 + wtF m (d + 1) bo + wtF m (d + 1) el)) 1000) := Lib.hid (by
              rw [KR.out]
              obtain ⟨hl, he⟩ := List.getElem?_eq_some_iff.1 hx
              rw [List.drop_eq_getElem_cons hl, he, wtG_cons, if_pos hn1])
            obtain ⟨ad, rfl, hlt, hcc⟩ := HCE.out k a1 a2 a3 a4 a5 a6 a7 bo el hx
            have hsb := HBB.out k a1 a2 a3 a4 a5 a6 a7 bo el hx
            have hse := HEE.out k a1 a2 a3 a4 a5 a6 a7 bo el hx
            obtain ⟨Ab, nb, cb, hvb⟩ := hsb.slice
            obtain ⟨Ae, ne, ce, hve⟩ := hse.slice
            rw [hvb, hve] at hcc
            rw [hvb] at hsb
            rw [hve] at hse
            have HSB := Lib.hid hsb
            have HSE := Lib.hid hse
            have CS : Hid (∀ W, Upd [] wr.drew W → W.cell? ⟨(ad.add (k * 9)).block, (ad.add (k * 9)).off + (6 + 1), none⟩ = some (.slice Ab nb cb) ∧ W.cell? ⟨(ad.add (k * 9)).block, (ad.add (k * 9)).off + (7 + 1), none⟩ = some (.slice Ae ne ce)) := Lib.hid (fun W hW => by
              have hb : Below B w W := (KU.out.drew.trans hW).below hB (by simp)
              constructor
              · rw [← add_more]; exact (hb.cell (by rw [block_add]; exact hlt)).trans (hcc 7 _ rfl)
              · rw [← add_more]; exact (hb.cell (by rw [block_add]; exact hlt)).trans (hcc 8 _ rfl))
            have hr1 := HLE.out (d + 1) bo
            have hr2 := HLE.out (d + 1) el
            obtain ⟨r1, hr1e⟩ : ∃ r, wtF m (d + 1) bo = r := ⟨_, rfl⟩
            obtain ⟨r2, hr2e⟩ : ∃ r, wtF m (d + 1) el = r := ⟨_, rfl⟩
            rw [hr1e, hr2e] at HZ
            rw [hr1e] at hr1
            rw [hr2e] at hr2
            have HE1 := Lib.hid hr1e
            have HE2 := Lib.hid hr2e
            clear hvb hve hsb hse hcc hx hr1e hr2e
            have e1 : IntKind.i64.wrap ((n : Int) + 1) = (n : Int) + 1 := IntWalk.i64_in _ (by omega)
            have e2 : IntKind.i64.wrap ((n : Int) + 1 + r1) = (n : Int) + 1 + r1 := IntWalk.i64_in _ (by omega)
            have e3 : IntKind.i64.wrap ((n : Int) + 1 + r1 + r2) = (n : Int) + 1 + r1 + r2 := IntWalk.i64_in _ (by omega)
            have e4 : IntKind.i64.wrap ((d : Int) + 1) = (d : Int) + 1 := IntWalk.i64_in _ (by omega)
            have q1 : (0 : Int) ≤ (k : Int) := by omega
            have q2 : (k : Int) < (nn : Int) := by omega
            go_wp2_with fail
            refine wp_invN [(9, .det (.int .i64 r1)), (18, .det (.int .i64 r2))] [] (by kernel_rfl) (by kernel_rfl) (by kernel_rfl) ⟨lasts_det _, lasts_det _, trivial⟩ ?_
            with_reducible apply wpV_light
            · simp only [lightOp]
            · intro W hU hF
              have f0 := CS.out W hU
              clear hU hF
              go_simp
              exact rfl
            simp only [Act.put, List.setIfInBounds_toArray, List.set_cons_zero, List.set_cons_succ]
            with_reducible apply wpV_light
            · simp only [lightOp]
            · intro W hU hF
              have f0 := CS.out W hU
              clear hU hF
              go_simp
              exact rfl
            simp only [Act.put, List.setIfInBounds_toArray, List.set_cons_zero, List.set_cons_succ]
            with_reducible apply wpV_light
            · simp only [lightOp]
            · intro W hU hF
              have f0 := CS.out W hU
              clear hU hF
              go_simp
              exact rfl
            simp only [Act.put, List.setIfInBounds_toArray, List.set_cons_zero, List.set_cons_succ]
            with_reducible apply wpV_light
            · simp only [lightOp]
            · intro W hU hF
              have f0 := CS.out W hU
              clear hU hF
              go_simp
              exact rfl
            simp only [Act.put, List.setIfInBounds_toArray, List.set_cons_zero, List.set_cons_succ]
            with_reducible apply wpV_light
            · simp only [lightOp]
            · intro W hU hF
              have f0 := CS.out W hU
              clear hU hF
              go_simp
              exact rfl
            simp only [Act.put, List.setIfInBounds_toArray, List.set_cons_zero, List.set_cons_succ]
            with_reducible apply wpV_light
            · simp only [lightOp]
            · intro W hU hF
              have f0 := CS.out W hU
              clear hU hF
              go_simp
              exact rfl
            simp only [Act.put, List.setIfInBounds_toArray, List.set_cons_zero, List.set_cons_succ]
            with_reducible apply wpV_light
            · simp only [lightOp]
            · intro W hU hF
              have f0 := CS.out W hU
              clear hU hF
              go_simp
              exact rfl
            simp only [Act.put, List.setIfInBounds_toArray, List.set_cons_zero, List.set_cons_succ]
            with_reducible apply wpV_light
            · simp only [lightOp]
            · intro W hU hF
              have f0 := CS.out W hU
              clear hU hF
              go_simp
              exact rfl
            simp only [Act.put, List.setIfInBounds_toArray, List.set_cons_zero, List.set_cons_succ]
            with_reducible apply wpV_light
            · simp only [lightOp]
            · intro W hU hF
              have f0 := CS.out W hU
              clear hU hF
              go_simp
              exact rfl
            simp only [Act.put, List.setIfInBounds_toArray, List.set_cons_zero, List.set_cons_succ]
            refine wpV_heavy (by simp only [lightOp]) (by rfl) (fun W hU hk hF K hK => ?_) ?_
            · go_wp2_with fail
              have hc := IH.out (d + 1) bo (.slice Ab nb cb) W (by omega) (by omega) (HSB.out.belowW ((KU.out.drew.trans hU).below hB (by simp))) (Nat.le_trans hB (KU.out.drew.trans hU).size)
              rw [show ((d + 1 : Nat) : Int) = (d : Int) + 1 by omega, HE1.out] at hc
              refine hc.mono ?_; rintro e w2 ⟨rfl, u2⟩
              go_wp2_with fail
              exact hK.out _ _ (outV_new rfl rfl (by intro b hb; cases hb) u2)
            rintro _ rfl
            simp only [Act.put, List.setIfInBounds_toArray, List.set_cons_zero, List.set_cons_succ]
            with_reducible apply wpV_light
            · simp only [lightOp]
            · intro W hU hF
              have f0 := CS.out W hU
              clear hU hF
              go_simp
              exact rfl
            simp only [Act.put, List.setIfInBounds_toArray, List.set_cons_zero, List.set_cons_succ]
            with_reducible apply wpV_light
            · simp only [lightOp]
            · intro W hU hF
              have f0 := CS.out W hU
              clear hU hF
              go_simp
              exact rfl
            simp only [Act.put, List.setIfInBounds_toArray, List.set_cons_zero, List.set_cons_succ]
            with_reducible apply wpV_light
            · simp only [lightOp]
            · intro W hU hF
              have f0 := CS.out W hU
              clear hU hF
              go_simp
              exact rfl
            simp only [Act.put, List.setIfInBounds_toArray, List.set_cons_zero, List.set_cons_succ]
            with_reducible apply wpV_light
            · simp only [lightOp]
            · intro W hU hF
              have f0 := CS.out W hU
              clear hU hF
              go_simp
              exact rfl
            simp only [Act.put, List.setIfInBounds_toArray, List.set_cons_zero, List.set_cons_succ]
            with_reducible apply wpV_light
            · simp only [lightOp]
            · intro W hU hF
              have f0 := CS.out W hU
              clear hU hF
              go_simp
              exact rfl
            simp only [Act.put, List.setIfInBounds_toArray, List.set_cons_zero, List.set_cons_succ]
            with_reducible apply wpV_light
            · simp only [lightOp]
            · intro W hU hF
              have f0 := CS.out W hU
              clear hU hF
              go_simp
              exact rfl
            simp only [Act.put, List.setIfInBounds_toArray, List.set_cons_zero, List.set_cons_succ]
            with_reducible apply wpV_light
            · simp only [lightOp]
            · intro W hU hF
              have f0 := CS.out W hU
              clear hU hF
              go_simp
              exact rfl
            simp only [Act.put, List.setIfInBounds_toArray, List.set_cons_zero, List.set_cons_succ]
            with_reducible apply wpV_light
            · simp only [lightOp]
            · intro W hU hF
              have f0 := CS.out W hU
              clear hU hF
              go_simp
              exact rfl
            simp only [Act.put, List.setIfInBounds_toArray, List.set_cons_zero, List.set_cons_succ]
            refine wpV_heavy (by simp only [lightOp]) (by rfl) (fun W hU hk hF K hK => ?_) ?_
            · go_wp2_with fail
              have hc := IH.out (d + 1) el (.slice Ae ne ce) W (by omega) (by omega) (HSE.out.belowW ((KU.out.drew.trans hU).below hB (by simp))) (Nat.le_trans hB (KU.out.drew.trans hU).size)
              rw [show ((d + 1 : Nat) : Int) = (d : Int) + 1 by omega, HE2.out] at hc
              refine hc.mono ?_; rintro e w2 ⟨rfl, u2⟩
              go_wp2_with fail
              exact hK.out _ _ (outV_new rfl rfl (by intro b hb; cases hb) u2)
            rintro _ rfl
            simp only [Act.put, List.setIfInBounds_toArray, List.set_cons_zero, List.set_cons_succ]
            with_reducible apply wpV_light
            · simp only [lightOp]
            · intro W hU hF
              have f0 := CS.out W hU
              clear hU hF
              go_simp
              exact rfl
            simp only [Act.put, List.setIfInBounds_toArray, List.set_cons_zero, List.set_cons_succ]
            with_reducible apply wpV_light
            · simp only [lightOp]
            · intro W hU hF
              have f0 := CS.out W hU
              clear hU hF
              go_simp
              exact rfl
            simp only [Act.put, List.setIfInBounds_toArray, List.set_cons_zero, List.set_cons_succ]
            refine wpV_end (fun W hU _ _ => ?_)
            have KU2 : Hid (Upd [] w W) := Lib.hid (KU.out.drew.trans hU)
            clear hU e1 e2 e3 e4 q1 q2
            refine wpT_end ?_
            go_wp2_with fail
            go_roundw
            case rel => exact ⟨k + 1, n + 1 + r1 + r2, by go_num, by omega, by go_num, by omega, HZ, KU2⟩
            case measure => simp [intOf]; omega
          · have hn1' : decide ((n : Int) < 1000) = false := by simp; omega
            have HZ : Hid (tot = 1000) := Lib.hid (by rw [KR.out, wtG_done _ _ _ _ hn1]; omega)
            go_wp2_with fail
            all_goals
              go_ret
              refine ⟨congrArg (fun x => Ending.returned (.int .i64 x)) ?_, KU.out⟩
              rw [HZ.out]
              omega
        · obtain rfl : nn = k := by omega
          have HZ : Hid (tot = min n 1000) := Lib.hid (by rw [KR.out, List.drop_eq_nil_of_le (by rw [HLN.out]; exact Nat.le_refl _)]; rfl)
          go_wp2_with fail
          all_goals
            go_ret
            refine ⟨congrArg (fun x => Ending.returned (.int .i64 x)) ?_, KU.out⟩
            rw [HZ.out]
            omega
end Go.Proofs.YtfbeaklplefojaaGreatDoor

namespace Go.Proofs.YtfbeaklplefojaaGreatDoor
open Go.RowKit

/-- Is a transaction gone through? -/
def fewB (l : List Stm) : Bool := decide (wtF 32 0 l ≤ 250)
theorem few_sizes {l : List Stm} (h : fewB l = true) : sizes l ≤ 250 := by
  have h1 : wtF 32 0 l ≤ 250 := by simpa [fewB] using h
  rw [← wtF_sizes 32 0 l (by omega) (by omega) (by omega)]
  exact h1
theorem few_ok (l : List Stm) (v : Value) (w : World) (hv : Stms w w.heap.size v l) : Calls Tryz.prog 7 #[v] w fun e w' => e = .returned (.bool (fewB l)) ∧ Upd [] w w' := by
  have hc := weight_ok 32 0 l v w (by omega) (by omega) hv (Nat.le_refl _)
  rw [show ((0 : Nat) : Int) = 0 from rfl] at hc
  have HC := Lib.hid hc
  have HF : Hid (fewB l = decide ((wtF 32 0 l : Int) ≤ 250)) := Lib.hid (by unfold fewB; rw [Bool.eq_iff_iff]; simp; omega)
  clear hc hv
  go_enter Tryz.func7, Tryz.ntmps7
  go_wp2_with fail
  refine HC.out.mono ?_; rintro e w1 ⟨rfl, u1⟩
  have U1 := Lib.hid u1
  clear u1
  go_wp2_with fail
  go_ret
  rw [HF.out]
  exact ⟨rfl, U1.out⟩

theorem stms_one {w : World} {g : Nat} {t : TypeId} {a1 a2 a3 a4 a5 a6 a7 : Int} {vb ve : Value} {bo el : List Stm} (h : Blk w g t (stmCells a1 a2 a3 a4 a5 a6 a7 vb ve).toArray) (B : Nat) (hg : g < B) (c : Nat) (hc : 1 ≤ c) (hm : c ≤ 9223372036854775807) (hb : Stms w B vb bo) (he : Stms w B ve el) :
    Stms w B (.slice (some ⟨g, 0, none⟩) 1 c) [.mk a1 a2 a3 a4 a5 a6 a7 bo el] := by
  have one : ∀ {k : Nat} {s : Stm}, [Stm.mk a1 a2 a3 a4 a5 a6 a7 bo el][k]? = some s → k = 0 ∧ s = .mk a1 a2 a3 a4 a5 a6 a7 bo el := fun {k s} h => by
    cases k with
    | zero => simp at h; exact ⟨rfl, h.symm⟩
    | succ k => simp at h
  refine .mk _ 1 c _ (fun _ => vb) (fun _ => ve) rfl hc hm (fun k b1 b2 b3 b4 b5 b6 b7 b e hk => ?_) (fun k b1 b2 b3 b4 b5 b6 b7 b e hk => ?_) (fun k b1 b2 b3 b4 b5 b6 b7 b e hk => ?_)
  · obtain ⟨rfl, hs⟩ := one hk
    cases hs
    refine ⟨_, rfl, hg, fun j u hu => ?_⟩
    rw [add_head, h.cell, ← Array.getElem?_toList, Nat.zero_mul, Nat.zero_add]
    exact hu
  · obtain ⟨rfl, hs⟩ := one hk
    cases hs
    exact hb
  · obtain ⟨rfl, hs⟩ := one hk
    cases hs
    exact he
theorem stms_nil (w : World) (B : Nat) : Stms w B (.slice none 0 0) [] := .mk none 0 0 [] (fun _ => .nilIface) (fun _ => .nilIface) rfl (Nat.le_refl _) (by omega) (by simp) (by simp) (by simp)
theorem src_nil (w : World) : Src w 1 (.slice none 0 0) 0 (([] : List Int).map (Value.int .i64)) := ⟨rfl, none, 0, rfl, by simp⟩

end Go.Proofs.YtfbeaklplefojaaGreatDoor

namespace Go.Proofs.YtfbeaklplefojaaGreatDoor
open Go.RowKit

def rowsOf (vb ve : Nat → Value) : Nat → List Stm → List Value
  | _, [] => []
  | k, .mk a1 a2 a3 a4 a5 a6 a7 b e :: l => stmCells a1 a2 a3 a4 a5 a6 a7 (vb k) (ve k) ++ rowsOf vb ve (k + 1) l
theorem rowsOf_len (vb ve : Nat → Value) : ∀ (l : List Stm) (k : Nat), (rowsOf vb ve k l).length = l.length * 9
  | [], _ => rfl
  | .mk .. :: l, k => by unfold rowsOf; simp [stmCells, rowsOf_len vb ve l]; omega
theorem rowsOf_get (vb ve : Nat → Value) : ∀ (l : List Stm) (k j : Nat) (u : Value), (rowsOf vb ve k l)[j]? = some u →
    ∃ i r a1 a2 a3 a4 a5 a6 a7 b e, l[i]? = some (.mk a1 a2 a3 a4 a5 a6 a7 b e) ∧ (stmCells a1 a2 a3 a4 a5 a6 a7 (vb (k + i)) (ve (k + i)))[r]? = some u ∧ j = i * 9 + r
  | [], k, j, u, h => by simp [rowsOf] at h
  | .mk a1 a2 a3 a4 a5 a6 a7 b e :: l, k, j, u, h => by
    unfold rowsOf at h
    by_cases hj : j < 9
    · rw [List.getElem?_append_left (by simp [stmCells]; omega)] at h
      exact ⟨0, j, a1, a2, a3, a4, a5, a6, a7, b, e, rfl, h, by omega⟩
    · rw [List.getElem?_append_right (by simp [stmCells]; omega)] at h
      obtain ⟨i, r, b1, b2, b3, b4, b5, b6, b7, b', e', h1, h2, h3⟩ := rowsOf_get vb ve l (k + 1) _ u h
      refine ⟨i + 1, r, b1, b2, b3, b4, b5, b6, b7, b', e', by simpa using h1, ?_, ?_⟩
      · rw [show k + (i + 1) = k + 1 + i by omega]; exact h2
      · simp [stmCells] at h3; omega
def StmsR (w : World) (B : Nat) : List Stm → List Value → Prop
  | [], xs => xs = []
  | .mk a1 a2 a3 a4 a5 a6 a7 b e :: l, xs => ∃ vb ve ys, xs = stmCells a1 a2 a3 a4 a5 a6 a7 vb ve ++ ys ∧ Stms w B vb b ∧ Stms w B ve e ∧ StmsR w B l ys
theorem StmsR.keep {w w' : World} {B B' : Nat} (hk : Below B w w') (hB : B ≤ B') : ∀ {l : List Stm} {xs : List Value}, StmsR w B l xs → StmsR w' B' l xs
  | [], _, h => h
  | .mk .. :: l, xs, ⟨vb, ve, ys, h1, h2, h3, h4⟩ => ⟨vb, ve, ys, h1, (h2.belowW hk).more hB, (h3.belowW hk).more hB, StmsR.keep hk hB h4⟩
theorem StmsR.append {w : World} {B : Nat} : ∀ {l m : List Stm} {xs ys : List Value}, StmsR w B l xs → StmsR w B m ys → StmsR w B (l ++ m) (xs ++ ys)
  | [], m, xs, ys, h, h' => by cases h; exact h'
  | .mk .. :: l, m, xs, ys, ⟨vb, ve, zs, h1, h2, h3, h4⟩, h' => ⟨vb, ve, zs ++ ys, by rw [h1]; simp, h2, h3, StmsR.append h4 h'⟩
theorem StmsR.one {w : World} {B : Nat} : ∀ {l : List Stm} {xs : List Value}, StmsR w B l xs → ∀ u ∈ xs, u.oneCell' = true
  | [], xs, h => by cases h; simp
  | .mk .. :: l, xs, ⟨vb, ve, zs, h1, h2, h3, h4⟩ => by
    intro u hu
    rw [h1] at hu
    rcases List.mem_append.1 hu with h | h
    · obtain ⟨A, n, c, rfl⟩ := h2.slice
      obtain ⟨A', n', c', rfl⟩ := h3.slice
      simp [stmCells] at h
      rcases h with rfl | rfl | rfl | rfl | rfl | rfl | rfl | rfl | rfl <;> rfl
    · exact StmsR.one h4 u h
theorem StmsR.get {w : World} {B : Nat} : ∀ {l : List Stm} {xs : List Value} {i : Nat} {a1 a2 a3 a4 a5 a6 a7 : Int} {b e : List Stm}, StmsR w B l xs → l[i]? = some (.mk a1 a2 a3 a4 a5 a6 a7 b e) →
    ∃ vb ve, Stms w B vb b ∧ Stms w B ve e ∧ ∀ j u, (stmCells a1 a2 a3 a4 a5 a6 a7 vb ve)[j]? = some u → xs[i * 9 + j]? = some u
  | [], xs, i, _, _, _, _, _, _, _, _, _, _, h => by simp at h
  | .mk .. :: l, xs, 0, _, _, _, _, _, _, _, _, _, ⟨vb, ve, ys, h1, h2, h3, h4⟩, h => by
    simp at h
    obtain ⟨rfl, rfl, rfl, rfl, rfl, rfl, rfl, rfl, rfl⟩ := h
    refine ⟨vb, ve, h2, h3, fun j u hj => ?_⟩
    have hj' := (List.getElem?_eq_some_iff.1 hj).1
    rw [h1, List.getElem?_append_left (by omega), Nat.zero_mul, Nat.zero_add]
    exact hj
  | .mk .. :: l, xs, i + 1, _, _, _, _, _, _, _, _, _, ⟨vb, ve, ys, h1, h2, h3, h4⟩, h => by
    obtain ⟨vb', ve', g1, g2, g3⟩ := StmsR.get h4 (by simpa using h)
    refine ⟨vb', ve', g1, g2, fun j u hj => ?_⟩
    rw [h1, List.getElem?_append_right (by simp [stmCells]; omega)]
    rw [show ∀ p : List Value, p.length = 9 → (i + 1) * 9 + j - p.length = i * 9 + j from fun p hp => by omega]
    · exact g3 j u hj
    · simp [stmCells]
theorem stmsR_of {w : World} {B : Nat} {A : Option Addr} {n c : Nat} {l : List Stm} (h : Stms w B (.slice A n c) l) (hB : B ≤ w.heap.size) : ∃ xs, Src w 9 (.slice A n c) n xs ∧ StmsR w B l xs := by
  cases h with
  | mk _ _ _ _ vb ve hn hc hm hcell hb he =>
    refine ⟨rowsOf vb ve 0 l, ⟨by rw [rowsOf_len, hn], A, c, rfl, fun j u hj => ?_⟩, ?_⟩
    · obtain ⟨i, r, a1, a2, a3, a4, a5, a6, a7, b, e, h1, h2, rfl⟩ := rowsOf_get vb ve l 0 j u hj
      rw [Nat.zero_add] at h2
      obtain ⟨ad, rfl, hl, hcc⟩ := hcell i a1 a2 a3 a4 a5 a6 a7 b e h1
      exact ⟨ad, rfl, by omega, hcc r u h2⟩
    · have key : ∀ (l' : List Stm) (k : Nat), (∀ i s, l'[i]? = some s → l[k + i]? = some s) → StmsR w B l' (rowsOf vb ve k l') := by
        intro l'
        induction l' with
        | nil => intro k _; rfl
        | cons s l' ih =>
          intro k hk
          cases s with
          | mk a1 a2 a3 a4 a5 a6 a7 b e =>
            have h0 := hk 0 _ rfl
            exact ⟨vb k, ve k, _, rfl, hb k a1 a2 a3 a4 a5 a6 a7 b e h0, he k a1 a2 a3 a4 a5 a6 a7 b e h0, ih (k + 1) fun i s hi => by rw [show k + 1 + i = k + (i + 1) by omega]; exact hk (i + 1) s (by simpa using hi)⟩
      exact key l 0 fun i s hi => by rw [Nat.zero_add]; exact hi
theorem stms_of_own {w : World} {B B' H n : Nat} {v : Value} {l : List Stm} {xs : List Value} (ho : w.ownsRow B' 40 9 v n xs) (hr : StmsR w B l xs) (hn : n = l.length) (hB : B ≤ H) (hH : w.heap.size ≤ H) : Stms w H v l := by
  obtain ⟨A, c, rfl, h1, h2⟩ := own_slice ho
  obtain ⟨_, A', c', he, hs⟩ := Src.of_own ho
  injection he with he _ _
  subst he
  have vbe : ∀ {i : Nat} {a1 a2 a3 a4 a5 a6 a7 : Int} {b e : List Stm}, l[i]? = some (.mk a1 a2 a3 a4 a5 a6 a7 b e) → Stms w B (xs.getD (i * 9 + 7) .nilIface) b ∧ Stms w B (xs.getD (i * 9 + 8) .nilIface) e ∧
      ∀ j u, (stmCells a1 a2 a3 a4 a5 a6 a7 (xs.getD (i * 9 + 7) .nilIface) (xs.getD (i * 9 + 8) .nilIface))[j]? = some u → xs[i * 9 + j]? = some u := by
    intro i a1 a2 a3 a4 a5 a6 a7 b e hi
    obtain ⟨vb, ve, g1, g2, g3⟩ := hr.get hi
    have e7 : xs.getD (i * 9 + 7) .nilIface = vb := by rw [List.getD_eq_getElem?_getD, g3 7 _ rfl]; rfl
    have e8 : xs.getD (i * 9 + 8) .nilIface = ve := by rw [List.getD_eq_getElem?_getD, g3 8 _ rfl]; rfl
    rw [e7, e8]
    exact ⟨g1, g2, g3⟩
  refine .mk A n c l (fun i => xs.getD (i * 9 + 7) .nilIface) (fun i => xs.getD (i * 9 + 8) .nilIface) hn.symm h1 (by simpa [maxLen] using h2) (fun k a1 a2 a3 a4 a5 a6 a7 b e h => ?_) (fun k a1 a2 a3 a4 a5 a6 a7 b e h => (vbe h).1.more hB) (fun k a1 a2 a3 a4 a5 a6 a7 b e h => (vbe h).2.1.more hB)
  obtain ⟨_, _, g3⟩ := vbe h
  obtain ⟨ad, rfl, hl, c0⟩ := hs (k * 9 + 0) _ (g3 0 _ rfl)
  refine ⟨ad, rfl, by omega, fun j u hj => ?_⟩
  obtain ⟨ad', e, _, cj⟩ := hs (k * 9 + j) u (g3 j u hj)
  cases e
  exact cj
theorem stm_elem : Elem Tryz.prog 24 40 9 104 := .mk' (z := ((Tryz.prog.info? 40).bind (·.zero)).getD undef) Tryz.underlying24 (by kernel_rfl) (by kernel_rfl) (by omega)
theorem list_le_sizes : ∀ (l : List Stm), l.length ≤ sizes l
  | [] => Nat.le_refl _
  | .mk .. :: l => by have := list_le_sizes l; rw [sizes_cons, size_mk]; simp; omega
end Go.Proofs.YtfbeaklplefojaaGreatDoor

namespace Go.Proofs.YtfbeaklplefojaaGreatDoor.Ev
open Go.RowKit Assoc MP
attribute [local go_sem] litStep_value

def sPut : Stm := .mk 2 0 0 0 1 0 7 [] []
def sGet : Stm := .mk 1 0 1 0 1 0 0 [] []
def sOr : Stm := .mk 14 0 0 0 0 0 0 [sPut, .mk 15 0 0 0 0 0 0 [] []] [sGet]
theorem ex_a : errE (newS [1]) [sPut, sGet] = 0 ∧ endE (newS [1]) [sPut, sGet] = 1 ∧ toldE (newS [1]) [sPut, sGet] = [7] := by decide
theorem ex_b : errE (newS [1]) [sOr] = 0 ∧ endE (newS [1]) [sOr] = 1 ∧ toldE (newS [1]) [sOr] = [-1] := by decide
theorem own_lit {w : World} {g B n s : Nat} {e : TypeId} {cs : Array Value} {xs : List Value} (h : Blk w g e cs) (hc : cs.toList = xs) (hs : cs.size = n * s) (hn : n ≤ 1000000) (hB : B ≤ g) : w.ownsRow B e s (.slice (some ⟨g, 0, none⟩) n n) n xs := by
  subst hc
  exact ⟨by simpa using hs, .inr ⟨g, n, cs, rfl, hB, h, Nat.le_refl _, by simp only [maxLen]; omega, hs, List.take_of_length_le (by rw [Array.length_toList, hs]; exact Nat.le_refl _)⟩⟩
/-- A list literal of statements. -/
theorem stms_lit {w : World} {B g n : Nat} {cs : Array Value} {l : List Stm} (h : Blk w g 40 cs) (hr : StmsR w B l cs.toList) (hn : l.length = n) (hs : cs.size = n * 9) (hm : n ≤ 1000000) (hB : B ≤ w.heap.size) : Stms w w.heap.size (.slice (some ⟨g, 0, none⟩) n n) l :=
  stms_of_own (own_lit (B := 0) (s := 9) h rfl hs hm (Nat.zero_le _)) hr hn.symm hB (Nat.le_refl _)
theorem stmsR_put (w : World) (B : Nat) : StmsR w B [sPut] [.int .i64 2, .int .i64 0, .int .i64 0, .int .i64 0, .int .i64 1, .int .i64 0, .int .i64 7, .slice none 0 0, .slice none 0 0] := ⟨_, _, [], rfl, stms_nil _ _, stms_nil _ _, rfl⟩
theorem stmsR_get (w : World) (B : Nat) : StmsR w B [sGet] [.int .i64 1, .int .i64 0, .int .i64 1, .int .i64 0, .int .i64 1, .int .i64 0, .int .i64 0, .slice none 0 0, .slice none 0 0] := ⟨_, _, [], rfl, stms_nil _ _, stms_nil _ _, rfl⟩
theorem stmsR_retry (w : World) (B : Nat) : StmsR w B [.mk 15 0 0 0 0 0 0 [] []] [.int .i64 15, .int .i64 0, .int .i64 0, .int .i64 0, .int .i64 0, .int .i64 0, .int .i64 0, .slice none 0 0, .slice none 0 0] := ⟨_, _, [], rfl, stms_nil _ _, stms_nil _ _, rfl⟩
set_option maxRecDepth 100000 in
set_option maxHeartbeats 4000000 in
theorem e_alive (w : World) (hg : Typed w) : Calls Tryz.prog 8 #[] w fun e w' => e = .returned (.bool true) ∧ Upd [] w w' := by
  have HG := Lib.hid hg
  have UA : Hid (Upd [] w (w.alloc (.cells #[.int .i64 1] 3))) := Lib.hid ((Upd.refl [] w).alloc _)
  have YA : Hid (Rd encK (w.alloc (.cells #[.int .i64 1] 3)) (.slice (some ⟨w.heap.size, 0, none⟩) 1 1) [1]) := Lib.hid (Src.of_blk (s := 1) (m := 1) (Blk.new w 3 #[.int .i64 1]) 1 rfl)
  clear hg
  go_enter Tryz.func8, Tryz.ntmps8
  go_wp2_with fail
  generalize (w.alloc (.cells #[.int .i64 1] 3)) = w1 at *
  refine (m_new _ 1 1 [1] w1 YA.out rfl (by omega)).mono ?_
  rintro e w2 ⟨u2, ⟨i, g, hb, _⟩ | ⟨_, h8, _⟩ | ⟨_, _, sb, F, rfl, h2⟩⟩
  · rw [show badK [1] = none by decide] at hb
    cases hb
  · simp at h8
  have S2 : Hid (Mdl w1.heap.size sb F w2 (newS [1])) := Lib.hid h2
  have U2 := Lib.hid (UA.out.trans u2)
  clear u2 h2
  go_wp2_with fail
  have BP : Hid (Blk
    (((w2.alloc (.cells #[.int .i64 2, .int .i64 0, .int .i64 0, .int .i64 0, .int .i64 1, .int .i64 0, .int .i64 7, .slice none 0 0, .slice none 0 0] 40)).alloc (.cells #[.int .i64 1, .int .i64 0, .int .i64 1, .int .i64 0, .int .i64 1, .int .i64 0, .int .i64 0, .slice none 0 0, .slice none 0 0] 40)).alloc (.cells #[.int .i64 2, .int .i64 0, .int .i64 0, .int .i64 0, .int .i64 1, .int .i64 0, .int .i64 7, .slice none 0 0, .slice none 0 0, .int .i64 1, .int .i64 0, .int .i64 1, .int .i64 0, .int .i64 1, .int .i64 0, .int .i64 0, .slice none 0 0, .slice none 0 0] 40))
    w2.heap.size 40 #[.int .i64 2, .int .i64 0, .int .i64 0, .int .i64 0, .int .i64 1, .int .i64 0, .int .i64 7, .slice none 0 0, .slice none 0 0]) := Lib.hid (((Blk.new w2 _ _).alloc _).alloc _)
  have BG : Hid (Blk
    (((w2.alloc (.cells #[.int .i64 2, .int .i64 0, .int .i64 0, .int .i64 0, .int .i64 1, .int .i64 0, .int .i64 7, .slice none 0 0, .slice none 0 0] 40)).alloc (.cells #[.int .i64 1, .int .i64 0, .int .i64 1, .int .i64 0, .int .i64 1, .int .i64 0, .int .i64 0, .slice none 0 0, .slice none 0 0] 40)).alloc (.cells #[.int .i64 2, .int .i64 0, .int .i64 0, .int .i64 0, .int .i64 1, .int .i64 0, .int .i64 7, .slice none 0 0, .slice none 0 0, .int .i64 1, .int .i64 0, .int .i64 1, .int .i64 0, .int .i64 1, .int .i64 0, .int .i64 0, .slice none 0 0, .slice none 0 0] 40))
    (w2.heap.size + 1) 40 #[.int .i64 1, .int .i64 0, .int .i64 1, .int .i64 0, .int .i64 1, .int .i64 0, .int .i64 0, .slice none 0 0, .slice none 0 0]) := Lib.hid ((Blk.newAt _ _ (by simp)).alloc _)
  have BL : Hid (Blk
    (((w2.alloc (.cells #[.int .i64 2, .int .i64 0, .int .i64 0, .int .i64 0, .int .i64 1, .int .i64 0, .int .i64 7, .slice none 0 0, .slice none 0 0] 40)).alloc (.cells #[.int .i64 1, .int .i64 0, .int .i64 1, .int .i64 0, .int .i64 1, .int .i64 0, .int .i64 0, .slice none 0 0, .slice none 0 0] 40)).alloc (.cells #[.int .i64 2, .int .i64 0, .int .i64 0, .int .i64 0, .int .i64 1, .int .i64 0, .int .i64 7, .slice none 0 0, .slice none 0 0, .int .i64 1, .int .i64 0, .int .i64 1, .int .i64 0, .int .i64 1, .int .i64 0, .int .i64 0, .slice none 0 0, .slice none 0 0] 40))
    (w2.heap.size + 1 + 1) 40 #[.int .i64 2, .int .i64 0, .int .i64 0, .int .i64 0, .int .i64 1, .int .i64 0, .int .i64 7, .slice none 0 0, .slice none 0 0, .int .i64 1, .int .i64 0, .int .i64 1, .int .i64 0, .int .i64 1, .int .i64 0, .int .i64 0, .slice none 0 0, .slice none 0 0]) := Lib.hid (Blk.newAt _ _ (by simp))
  have U3 : Hid (Upd [] w2
    (((w2.alloc (.cells #[.int .i64 2, .int .i64 0, .int .i64 0, .int .i64 0, .int .i64 1, .int .i64 0, .int .i64 7, .slice none 0 0, .slice none 0 0] 40)).alloc (.cells #[.int .i64 1, .int .i64 0, .int .i64 1, .int .i64 0, .int .i64 1, .int .i64 0, .int .i64 0, .slice none 0 0, .slice none 0 0] 40)).alloc (.cells #[.int .i64 2, .int .i64 0, .int .i64 0, .int .i64 0, .int .i64 1, .int .i64 0, .int .i64 7, .slice none 0 0, .slice none 0 0, .int .i64 1, .int .i64 0, .int .i64 1, .int .i64 0, .int .i64 1, .int .i64 0, .int .i64 0, .slice none 0 0, .slice none 0 0] 40))
    ) := Lib.hid ((((Upd.refl [] w2).alloc _).alloc _).alloc _)
  generalize
    (((w2.alloc (.cells #[.int .i64 2, .int .i64 0, .int .i64 0, .int .i64 0, .int .i64 1, .int .i64 0, .int .i64 7, .slice none 0 0, .slice none 0 0] 40)).alloc (.cells #[.int .i64 1, .int .i64 0, .int .i64 1, .int .i64 0, .int .i64 1, .int .i64 0, .int .i64 0, .slice none 0 0, .slice none 0 0] 40)).alloc (.cells #[.int .i64 2, .int .i64 0, .int .i64 0, .int .i64 0, .int .i64 1, .int .i64 0, .int .i64 7, .slice none 0 0, .slice none 0 0, .int .i64 1, .int .i64 0, .int .i64 1, .int .i64 0, .int .i64 1, .int .i64 0, .int .i64 0, .slice none 0 0, .slice none 0 0] 40))
    = w3 at BP BG BL U3 ⊢
  have HS3 : Hid (Stms w3 w3.heap.size (.slice (some ⟨w2.heap.size + 1 + 1, 0, none⟩) 2 2) [sPut, sGet]) := Lib.hid (stms_lit BL.out ((stmsR_put w3 w3.heap.size).append (stmsR_get w3 _)) rfl rfl (by decide) (Nat.le_refl _))
  refine (ran_ok w1.heap.size sb F (newS [1]) [sPut, sGet] _ w3 (S2.out.upd0 U3.out) HS3.out (by decide) (HG.out.upd (U2.out.trans U3.out) (by simp))).mono ?_
  rintro e w4 ⟨p4, v4, u4, a4, rfl, hu4, ev4, o4, hl4, hm4⟩
  rw [ex_a.1] at ev4
  rw [ex_a.2.2] at o4
  rw [ex_a.2.1]
  obtain rfl := errv_zero ev4
  obtain ⟨A4, c4, rfl, _, _⟩ := own_slice o4
  have U4 : Hid (Upd [] w w4) := Lib.hid (U2.out.trans (U3.out.trans hu4))
  have O4 := Lib.hid o4
  have S4 := Lib.hid (S2.out.upd0 (U3.out.trans hu4))
  have cP : ∀ i, w4.cell? ⟨w2.heap.size, i, none⟩ = _ := (BP.out.upd hu4 (by simp)).cell
  have cG : ∀ i, w4.cell? ⟨w2.heap.size + 1, i, none⟩ = _ := (BG.out.upd hu4 (by simp)).cell
  have lP : w2.heap.size < w4.heap.size := (BP.out.upd hu4 (by simp)).lt
  have lG : w2.heap.size + 1 < w4.heap.size := (BG.out.upd hu4 (by simp)).lt
  clear hu4 ev4 o4 hl4 hm4 U2 U3 BP BG BL HS3 S2
  go_wp2_with fail
  have BE : Hid (Blk
    ((((w4.alloc (.cells #[.int .i64 1, .slice A4 1 c4] 32)).alloc (.cells #[.int .i64 2, .int .i64 0, .int .i64 0, .int .i64 0, .int .i64 1, .int .i64 0, .int .i64 7, .slice none 0 0, .slice none 0 0, .int .i64 15, .int .i64 0, .int .i64 0, .int .i64 0, .int .i64 0, .int .i64 0, .int .i64 0, .slice none 0 0, .slice none 0 0] 40)).alloc (.cells #[.int .i64 1, .int .i64 0, .int .i64 1, .int .i64 0, .int .i64 1, .int .i64 0, .int .i64 0, .slice none 0 0, .slice none 0 0] 40)).alloc (.cells #[.int .i64 14, .int .i64 0, .int .i64 0, .int .i64 0, .int .i64 0, .int .i64 0, .int .i64 0, .slice (some ⟨w4.heap.size + 1, 0, none⟩) 2 2, .slice (some ⟨w4.heap.size + 1 + 1, 0, none⟩) 1 1] 40))
    w4.heap.size 32 #[.int .i64 1, .slice A4 1 c4]) := Lib.hid ((((Blk.new w4 _ _).alloc _).alloc _).alloc _)
  have B1 : Hid (Blk
    ((((w4.alloc (.cells #[.int .i64 1, .slice A4 1 c4] 32)).alloc (.cells #[.int .i64 2, .int .i64 0, .int .i64 0, .int .i64 0, .int .i64 1, .int .i64 0, .int .i64 7, .slice none 0 0, .slice none 0 0, .int .i64 15, .int .i64 0, .int .i64 0, .int .i64 0, .int .i64 0, .int .i64 0, .int .i64 0, .slice none 0 0, .slice none 0 0] 40)).alloc (.cells #[.int .i64 1, .int .i64 0, .int .i64 1, .int .i64 0, .int .i64 1, .int .i64 0, .int .i64 0, .slice none 0 0, .slice none 0 0] 40)).alloc (.cells #[.int .i64 14, .int .i64 0, .int .i64 0, .int .i64 0, .int .i64 0, .int .i64 0, .int .i64 0, .slice (some ⟨w4.heap.size + 1, 0, none⟩) 2 2, .slice (some ⟨w4.heap.size + 1 + 1, 0, none⟩) 1 1] 40))
    (w4.heap.size + 1) 40 #[.int .i64 2, .int .i64 0, .int .i64 0, .int .i64 0, .int .i64 1, .int .i64 0, .int .i64 7, .slice none 0 0, .slice none 0 0, .int .i64 15, .int .i64 0, .int .i64 0, .int .i64 0, .int .i64 0, .int .i64 0, .int .i64 0, .slice none 0 0, .slice none 0 0]) := Lib.hid (((Blk.newAt _ _ (by simp)).alloc _).alloc _)
  have B2 : Hid (Blk
    ((((w4.alloc (.cells #[.int .i64 1, .slice A4 1 c4] 32)).alloc (.cells #[.int .i64 2, .int .i64 0, .int .i64 0, .int .i64 0, .int .i64 1, .int .i64 0, .int .i64 7, .slice none 0 0, .slice none 0 0, .int .i64 15, .int .i64 0, .int .i64 0, .int .i64 0, .int .i64 0, .int .i64 0, .int .i64 0, .slice none 0 0, .slice none 0 0] 40)).alloc (.cells #[.int .i64 1, .int .i64 0, .int .i64 1, .int .i64 0, .int .i64 1, .int .i64 0, .int .i64 0, .slice none 0 0, .slice none 0 0] 40)).alloc (.cells #[.int .i64 14, .int .i64 0, .int .i64 0, .int .i64 0, .int .i64 0, .int .i64 0, .int .i64 0, .slice (some ⟨w4.heap.size + 1, 0, none⟩) 2 2, .slice (some ⟨w4.heap.size + 1 + 1, 0, none⟩) 1 1] 40))
    (w4.heap.size + 1 + 1) 40 #[.int .i64 1, .int .i64 0, .int .i64 1, .int .i64 0, .int .i64 1, .int .i64 0, .int .i64 0, .slice none 0 0, .slice none 0 0]) := Lib.hid ((Blk.newAt _ _ (by simp)).alloc _)
  have B3 : Hid (Blk
    ((((w4.alloc (.cells #[.int .i64 1, .slice A4 1 c4] 32)).alloc (.cells #[.int .i64 2, .int .i64 0, .int .i64 0, .int .i64 0, .int .i64 1, .int .i64 0, .int .i64 7, .slice none 0 0, .slice none 0 0, .int .i64 15, .int .i64 0, .int .i64 0, .int .i64 0, .int .i64 0, .int .i64 0, .int .i64 0, .slice none 0 0, .slice none 0 0] 40)).alloc (.cells #[.int .i64 1, .int .i64 0, .int .i64 1, .int .i64 0, .int .i64 1, .int .i64 0, .int .i64 0, .slice none 0 0, .slice none 0 0] 40)).alloc (.cells #[.int .i64 14, .int .i64 0, .int .i64 0, .int .i64 0, .int .i64 0, .int .i64 0, .int .i64 0, .slice (some ⟨w4.heap.size + 1, 0, none⟩) 2 2, .slice (some ⟨w4.heap.size + 1 + 1, 0, none⟩) 1 1] 40))
    (w4.heap.size + 1 + 1 + 1) 40 #[.int .i64 14, .int .i64 0, .int .i64 0, .int .i64 0, .int .i64 0, .int .i64 0, .int .i64 0, .slice (some ⟨w4.heap.size + 1, 0, none⟩) 2 2, .slice (some ⟨w4.heap.size + 1 + 1, 0, none⟩) 1 1]) := Lib.hid (Blk.newAt _ _ (by simp))
  have U5 : Hid (Upd [] w4
    ((((w4.alloc (.cells #[.int .i64 1, .slice A4 1 c4] 32)).alloc (.cells #[.int .i64 2, .int .i64 0, .int .i64 0, .int .i64 0, .int .i64 1, .int .i64 0, .int .i64 7, .slice none 0 0, .slice none 0 0, .int .i64 15, .int .i64 0, .int .i64 0, .int .i64 0, .int .i64 0, .int .i64 0, .int .i64 0, .slice none 0 0, .slice none 0 0] 40)).alloc (.cells #[.int .i64 1, .int .i64 0, .int .i64 1, .int .i64 0, .int .i64 1, .int .i64 0, .int .i64 0, .slice none 0 0, .slice none 0 0] 40)).alloc (.cells #[.int .i64 14, .int .i64 0, .int .i64 0, .int .i64 0, .int .i64 0, .int .i64 0, .int .i64 0, .slice (some ⟨w4.heap.size + 1, 0, none⟩) 2 2, .slice (some ⟨w4.heap.size + 1 + 1, 0, none⟩) 1 1] 40))
    ) := Lib.hid (((((Upd.refl [] w4).alloc _).alloc _).alloc _).alloc _)
  clear cP cG lP lG
  generalize
    ((((w4.alloc (.cells #[.int .i64 1, .slice A4 1 c4] 32)).alloc (.cells #[.int .i64 2, .int .i64 0, .int .i64 0, .int .i64 0, .int .i64 1, .int .i64 0, .int .i64 7, .slice none 0 0, .slice none 0 0, .int .i64 15, .int .i64 0, .int .i64 0, .int .i64 0, .int .i64 0, .int .i64 0, .int .i64 0, .slice none 0 0, .slice none 0 0] 40)).alloc (.cells #[.int .i64 1, .int .i64 0, .int .i64 1, .int .i64 0, .int .i64 1, .int .i64 0, .int .i64 0, .slice none 0 0, .slice none 0 0] 40)).alloc (.cells #[.int .i64 14, .int .i64 0, .int .i64 0, .int .i64 0, .int .i64 0, .int .i64 0, .int .i64 0, .slice (some ⟨w4.heap.size + 1, 0, none⟩) 2 2, .slice (some ⟨w4.heap.size + 1 + 1, 0, none⟩) 1 1] 40))
    = w5 at BE B1 B2 B3 U5 ⊢
  have T1 : Hid (Stms w5 w5.heap.size (.slice (some ⟨w4.heap.size + 1, 0, none⟩) 2 2) [sPut, .mk 15 0 0 0 0 0 0 [] []]) := Lib.hid (stms_lit B1.out ((stmsR_put w5 w5.heap.size).append (stmsR_retry w5 _)) rfl rfl (by decide) (Nat.le_refl _))
  have T2 : Hid (Stms w5 w5.heap.size (.slice (some ⟨w4.heap.size + 1 + 1, 0, none⟩) 1 1) [sGet]) := Lib.hid (stms_lit B2.out (stmsR_get w5 w5.heap.size) rfl rfl (by decide) (Nat.le_refl _))
  have T3 : Hid (Stms w5 w5.heap.size (.slice (some ⟨w4.heap.size + 1 + 1 + 1, 0, none⟩) 1 1) [sOr]) := Lib.hid (stms_lit B3.out ⟨_, _, [], rfl, T1.out, T2.out, rfl⟩ rfl rfl (by decide) (Nat.le_refl _))
  refine (ran_ok w1.heap.size sb F (newS [1]) [sOr] _ w5 (S4.out.upd0 U5.out) T3.out (by decide) (HG.out.upd (U4.out.trans U5.out) (by simp))).mono ?_
  rintro e w6 ⟨p6, v6, u6, a6, rfl, hu6, ev6, o6, hl6, hm6⟩
  rw [ex_b.1] at ev6
  rw [ex_b.2.2] at o6
  rw [ex_b.2.1]
  obtain rfl := errv_zero ev6
  obtain ⟨A6, c6, rfl, _, _⟩ := own_slice o6
  have U6 : Hid (Upd [] w w6) := Lib.hid (U4.out.trans (U5.out.trans hu6))
  have O4' := Lib.hid (O4.out.upd0 (U5.out.trans hu6))
  have O6 := Lib.hid o6
  have BE' := Lib.hid (BE.out.upd hu6 (by simp))
  have cE0 : w6.cell? ⟨w4.heap.size, 0, none⟩ = some (.int .i64 1) := BE'.out.cell 0
  have cE1 : w6.cell? ⟨w4.heap.size, 1, none⟩ = some (.slice A4 1 c4) := BE'.out.cell 1
  have lE : w4.heap.size < w6.heap.size := BE'.out.lt
  clear hu6 ev6 o6 hl6 hm6 U4 U5 O4 B1 B2 B3 T1 T2 T3 S4 BE
  go_wp2_with fail
  refine (no_nil _).mono ?_; rintro e w' ⟨rfl, rfl⟩
  go_wp2_with fail
  refine (no_nil _).mono ?_; rintro e w' ⟨rfl, rfl⟩
  go_wp2_with fail
  refine (no_nil _).mono ?_; rintro e w' ⟨rfl, rfl⟩
  go_wp2_with fail
  have U7 : Hid (Upd [] w6 ((w6.alloc (.cells #[.int .i64 1, .slice A6 1 c6] 32)).alloc (.cells #[.int .i64 7] 3))) := Lib.hid (((Upd.refl [] w6).alloc _).alloc _)
  have B6 : Hid (Blk ((w6.alloc (.cells #[.int .i64 1, .slice A6 1 c6] 32)).alloc (.cells #[.int .i64 7] 3)) w6.heap.size 32 #[.int .i64 1, .slice A6 1 c6]) := Lib.hid ((Blk.new _ _ _).alloc _)
  have B7 : Hid (Blk ((w6.alloc (.cells #[.int .i64 1, .slice A6 1 c6] 32)).alloc (.cells #[.int .i64 7] 3)) (w6.heap.size + 1) 3 #[.int .i64 7]) := Lib.hid (Blk.newAt _ _ (by simp))
  clear cE0 cE1 lE
  generalize ((w6.alloc (.cells #[.int .i64 1, .slice A6 1 c6] 32)).alloc (.cells #[.int .i64 7] 3)) = w7 at U7 B6 B7 ⊢
  refine (esame_ok w3.heap.size 0 1 1 [7] [7] (.slice A4 1 c4) (.slice (some ⟨w6.heap.size + 1, 0, none⟩) 1 1) w7 (O4'.out.upd0 U7.out) (own_lit B7.out rfl rfl (by decide) (Nat.zero_le _)) (by decide) (by decide)).mono ?_
  rintro e w8 ⟨rfl, u8⟩
  rw [show decide ((1 : Int) = 1 ∧ ([7] : List Int) = [7]) = true by decide]
  have U8 : Hid (Upd [] w6 w8) := Lib.hid (U7.out.trans u8)
  have B6' := Lib.hid (B6.out.upd u8 (by simp))
  have cE0 : w8.cell? ⟨w6.heap.size, 0, none⟩ = some (.int .i64 1) := B6'.out.cell 0
  have cE1 : w8.cell? ⟨w6.heap.size, 1, none⟩ = some (.slice A6 1 c6) := B6'.out.cell 1
  have lE : w6.heap.size < w8.heap.size := B6'.out.lt
  clear u8
  go_wp2_with fail
  refine (esame_ok w5.heap.size 0 1 1 [-1] [-1] (.slice A6 1 c6) (.slice (some ⟨w8.heap.size, 0, none⟩) 1 1) _ (O6.out.upd0 (U8.out.alloc _)) (own_lit (Blk.new _ _ _) rfl rfl (by decide) (Nat.zero_le _)) (by decide) (by decide)).mono ?_
  rintro e w9 ⟨rfl, u9⟩
  rw [show decide ((1 : Int) = 1 ∧ ([-1] : List Int) = [-1]) = true by decide]
  have U9 : Hid (Upd [] w w9) := Lib.hid (U6.out.trans ((U8.out.alloc _).trans u9))
  clear u9 cE0 cE1 lE
  go_wp2_with fail
  go_ret
  exact ⟨rfl, U9.out⟩
end Go.Proofs.YtfbeaklplefojaaGreatDoor.Ev

namespace Go.Proofs.YtfbeaklplefojaaGreatDoor
open Go.RowKit Go.Deep Go.WideShapes Go.ChangeShapes
theorem in_i64 {n : Int} (h : (Lit.int .i64 n).wf = true) : -9223372036854775808 ≤ n ∧ n ≤ 9223372036854775807 := by
  simp only [Lit.wf, Bool.and_eq_true, decide_eq_true_eq] at h
  have h1 : IntKind.i64.min = -9223372036854775808 := by decide
  have h2 : IntKind.i64.max = 9223372036854775807 := by decide
  rw [h1, h2] at h
  exact h
section
variable {H : Type} {enc : TypeId × Value → H} {W : World} {base b0 : Nat} {spare : Nat → Bool} {held : Bool} {v : Value} {d : DataW H} {ps : List MemPlace} {r : Reach}
set_option maxRecDepth 100000 in
theorem acts08_of (hok : Value.okWide Tryz.prog W r b0 23 v) (h : DataW.Trod enc Tryz.prog W base spare held 23 v d ps) :
    ∃ (L : List MAct) (A : Option Addr) (c : Nat), v = .slice A L.length c ∧ Rd encA W v L ∧ (∀ a ∈ L, MP.kB a.2.2.1) := by
  obtain ⟨L, A, c, h1, h2, h3, h4, h5⟩ := rd_arg Tryz.underlying23 (reads_4 Tryz.underlying79 (by kernel_rfl) rfl rfl rfl rfl (by kernel_rfl) (by kernel_rfl) (by kernel_rfl) (by kernel_rfl) Tryz.underlying3 Tryz.underlying3 Tryz.underlying3 Tryz.underlying3) hok h
  exact ⟨L, A, c, h1, h4, fun a ha => in_i64 (h5 a ha).2.2.1⟩
set_option maxRecDepth 100000 in
theorem ints08_of (hok : Value.okWide Tryz.prog W r b0 22 v) (h : DataW.Trod enc Tryz.prog W base spare held 22 v d ps) :
    ∃ (L : List Int) (A : Option Addr) (c : Nat), v = .slice A L.length c ∧ Rd encK W v L := by
  obtain ⟨L, A, c, h1, h2, h3, h4, _⟩ := rd_arg Tryz.underlying22 (reads_int Tryz.underlying3 (by kernel_rfl)) hok h
  exact ⟨L, A, c, h1, h4⟩
end
end Go.Proofs.YtfbeaklplefojaaGreatDoor

namespace Go.Proofs.YtfbeaklplefojaaGreatDoor
open Go.RowKit Go.Deep Go.WideShapes Go.ChangeShapes
section
variable {H : Type} {enc : TypeId × Value → H} {W : World} {base b0 : Nat} {spare : Nat → Bool} {held : Bool} {v : Value} {d : DataW H} {ps : List MemPlace} {r : Reach}
set_option maxRecDepth 100000 in
theorem ints11_of (hok : Value.okWide Tryz.prog W r b0 22 v) (h : DataW.Trod enc Tryz.prog W base spare held 22 v d ps) :
    ∃ (L : List Int) (A : Option Addr) (c : Nat), v = .slice A L.length c ∧ L.length ≤ 9223372036854775807 ∧ Rd encK W v L := by
  obtain ⟨L, A, c, h1, h2, h3, h4, _⟩ := rd_arg Tryz.underlying22 (reads_int Tryz.underlying3 (by kernel_rfl)) hok h
  exact ⟨L, A, c, h1, by unfold maxLen at h3; omega, h4⟩
end
end Go.Proofs.YtfbeaklplefojaaGreatDoor

namespace Go.Proofs.YtfbeaklplefojaaGreatDoor
open Go.RowKit Go.Deep Go.WideShapes Go.ChangeShapes

theorem list9 {α : Type} {l : List α} (h : l.length = 9) : ∃ a0 a1 a2 a3 a4 a5 a6 a7 a8, l = [a0, a1, a2, a3, a4, a5, a6, a7, a8] := by
  match l, h with
  | [a0, a1, a2, a3, a4, a5, a6, a7, a8], _ => exact ⟨a0, a1, a2, a3, a4, a5, a6, a7, a8, rfl⟩

section
variable {H : Type} {enc : TypeId × Value → H} {W : World} {base : Nat} {spare : Nat → Bool} {held : Bool}
theorem arg_of {fuel : Nat} {a b : Value} {x : DataW H × List MemPlace} (h : DataW.trod enc Tryz.prog W base spare held fuel 38 [a, b] = some x) : ∃ i j : Int, a = .int .i64 i ∧ b = .int .i64 j := by
  obtain ⟨xs, n, _, _, hl, hxl, hf⟩ := DataW.trod_struct Tryz.underlying38 h
  have t0 := hf 0 _ rfl
  have t1 := hf 1 _ rfl
  have c1 : Tryz.prog.cellsOf 3 = 1 := by kernel_rfl
  simp only [List.getElem_toArray, List.getElem_cons_zero, List.getElem_cons_succ, c1, List.drop_zero, List.drop_succ_cons, List.take_succ_cons, List.take_zero] at t0 t1
  have hx0 : xs[0]? = some (xs[0]'(by rw [hxl]; decide)) := List.getElem?_eq_getElem _
  have hx1 : xs[1]? = some (xs[1]'(by rw [hxl]; decide)) := List.getElem?_eq_getElem _
  rw [hx0] at t0
  rw [hx1] at t1
  obtain ⟨y0, g0, _, _⟩ := DataW.trod_int Tryz.underlying3 t0
  obtain ⟨y1, g1, _, _⟩ := DataW.trod_int Tryz.underlying3 t1
  simp only [List.cons.injEq, and_true] at g0 g1
  exact ⟨y0, y1, g0, g1⟩

set_option maxRecDepth 100000 in
theorem stms_trod : ∀ (fuel : Nat) (v : Value) (x : DataW H × List MemPlace), DataW.trod enc Tryz.prog W base spare held fuel 24 [v] = some x → ∃ l, Stms W W.heap.size v l := by
  intro fuel
  induction fuel using Nat.strongRecOn with
  | _ fuel ih =>
    intro v x h
    rcases DataW.trod_slice Tryz.underlying24 h with ⟨h0, _⟩ | ⟨a, len, cap, elems, rest, n, hfu, hcs, _, _, hlc, hcm, hel, hi, _⟩
    · simp only [List.cons.injEq, and_true] at h0
      subst h0
      exact ⟨[], .mk none 0 0 [] (fun _ => .nilIface) (fun _ => .nilIface) rfl (Nat.le_refl _) (by omega) (by simp) (by simp) (by simp)⟩
    · simp only [List.cons.injEq, and_true] at hcs
      subst hcs
      have c9 : Tryz.prog.cellsOf 40 = 9 := by kernel_rfl
      have c1 : Tryz.prog.cellsOf 3 = 1 := by kernel_rfl
      have c2 : Tryz.prog.cellsOf 38 = 2 := by kernel_rfl
      have cb : Tryz.prog.cellsOf 24 = 1 := by kernel_rfl
      rw [c9] at hi
      have key : ∀ i, i < len → ∃ F : (Int × Int × Int × Int × Int × Int × Int) × (List Stm × List Stm) × (Value × Value), a.block < W.heap.size ∧ (∀ j u, (stmCells F.1.1 F.1.2.1 F.1.2.2.1 F.1.2.2.2.1 F.1.2.2.2.2.1 F.1.2.2.2.2.2.1 F.1.2.2.2.2.2.2 F.2.2.1 F.2.2.2)[j]? = some u → W.cell? (a.add (i * 9 + j)) = some u) ∧
          Stms W W.heap.size F.2.2.1 F.2.1.1 ∧ Stms W W.heap.size F.2.2.2 F.2.1.2 := by
        intro i hlt
        have h1 := hi i hlt
        have he : elems[i]? = some (elems[i]'(by omega)) := List.getElem?_eq_getElem _
        rw [he, Option.bind_eq_some_iff] at h1
        obtain ⟨cs', hc, ht⟩ := h1
        obtain ⟨_, hcl, hat⟩ := World.cells?_some hc
        obtain ⟨v0, v1, v2, v3, v4, v5, v6, v7, v8, rfl⟩ := list9 hcl
        obtain ⟨xs, k, hk, _, _, hxl, hf⟩ := DataW.trod_struct Tryz.underlying40 ht
        have hx : ∀ j (hj : j < 7), xs[j]? = some (xs[j]'(by rw [hxl]; exact hj)) := fun j hj => List.getElem?_eq_getElem _
        have t0 := hf 0 _ rfl
        have t1 := hf 1 _ rfl
        have t2 := hf 2 _ rfl
        have t3 := hf 3 _ rfl
        have t4 := hf 4 _ rfl
        have t5 := hf 5 _ rfl
        have t6 := hf 6 _ rfl
        simp only [List.getElem_toArray, List.getElem_cons_zero, List.getElem_cons_succ, c1, c2, cb, List.drop_zero, List.drop_succ_cons, List.take_succ_cons, List.take_zero, List.drop_nil, List.take_nil] at t0 t1 t2 t3 t4 t5 t6
        rw [hx 0 (by omega)] at t0
        rw [hx 1 (by omega)] at t1
        rw [hx 2 (by omega)] at t2
        rw [hx 3 (by omega)] at t3
        rw [hx 4 (by omega)] at t4
        rw [hx 5 (by omega)] at t5
        rw [hx 6 (by omega)] at t6
        obtain ⟨y0, g0, _, _⟩ := DataW.trod_int Tryz.underlying3 t0
        obtain ⟨y1, g1, _, _⟩ := DataW.trod_int Tryz.underlying3 t1
        obtain ⟨y2, g2, _, _⟩ := DataW.trod_int Tryz.underlying3 t2
        obtain ⟨y3, y4, g3, g4⟩ := arg_of t3
        obtain ⟨y5, y6, g5, g6⟩ := arg_of t4
        simp only [List.cons.injEq, and_true] at g0 g1 g2
        subst g0 g1 g2 g3 g4 g5 g6
        obtain ⟨lb, hb⟩ := ih k (by omega) v7 _ t5
        obtain ⟨le, hle⟩ := ih k (by omega) v8 _ t6
        refine ⟨((y0, y1, y2, y3, y4, y5, y6), (lb, le), (v7, v8)), ?_, fun j u hu => ?_, hb, hle⟩
        · have h9 := hat 0 (by omega)
          have := World.block_lt_of_cell? _ _ h9
          rwa [block_add, block_add] at this
        · have hj : j < 9 := (List.getElem?_eq_some_iff.1 hu).1
          rw [← Go.Deep.add_add, hat j hj]
          exact hu
      obtain ⟨F, hF⟩ : ∃ F : Nat → (Int × Int × Int × Int × Int × Int × Int) × (List Stm × List Stm) × (Value × Value), ∀ i, i < len → a.block < W.heap.size ∧ (∀ j u, (stmCells (F i).1.1 (F i).1.2.1 (F i).1.2.2.1 (F i).1.2.2.2.1 (F i).1.2.2.2.2.1 (F i).1.2.2.2.2.2.1 (F i).1.2.2.2.2.2.2 (F i).2.2.1 (F i).2.2.2)[j]? = some u → W.cell? (a.add (i * 9 + j)) = some u) ∧
          Stms W W.heap.size (F i).2.2.1 (F i).2.1.1 ∧ Stms W W.heap.size (F i).2.2.2 (F i).2.1.2 :=
        ⟨fun i => if h : i < len then (key i h).choose else ((0, 0, 0, 0, 0, 0, 0), ([], []), (.nilIface, .nilIface)), fun i h => by simp only [dif_pos h]; exact (key i h).choose_spec⟩
      have get : ∀ k a1 a2 a3 a4 a5 a6 a7 b e, ((List.range len).map fun i => Stm.mk (F i).1.1 (F i).1.2.1 (F i).1.2.2.1 (F i).1.2.2.2.1 (F i).1.2.2.2.2.1 (F i).1.2.2.2.2.2.1 (F i).1.2.2.2.2.2.2 (F i).2.1.1 (F i).2.1.2)[k]? = some (.mk a1 a2 a3 a4 a5 a6 a7 b e) →
          k < len ∧ (F k).1 = (a1, a2, a3, a4, a5, a6, a7) ∧ (F k).2.1 = (b, e) := by
        intro k a1 a2 a3 a4 a5 a6 a7 b e h
        have hk : k < len := by have := (List.getElem?_eq_some_iff.1 h).1; simpa using this
        simp only [List.getElem?_map, List.getElem?_range hk, Option.map_some, Option.some.injEq, Stm.mk.injEq] at h
        obtain ⟨h1, h2, h3, h4, h5, h6, h7, h8, h9⟩ := h
        exact ⟨hk, Prod.ext h1 (Prod.ext h2 (Prod.ext h3 (Prod.ext h4 (Prod.ext h5 (Prod.ext h6 h7))))), Prod.ext h8 h9⟩
      refine ⟨_, .mk (some a) len cap ((List.range len).map fun i => Stm.mk (F i).1.1 (F i).1.2.1 (F i).1.2.2.1 (F i).1.2.2.2.1 (F i).1.2.2.2.2.1 (F i).1.2.2.2.2.2.1 (F i).1.2.2.2.2.2.2 (F i).2.1.1 (F i).2.1.2) (fun i => (F i).2.2.1) (fun i => (F i).2.2.2) (by simp) hlc (by simpa [maxLen] using hcm)
        (fun k a1 a2 a3 a4 a5 a6 a7 b e h => ?_) (fun k a1 a2 a3 a4 a5 a6 a7 b e h => ?_) (fun k a1 a2 a3 a4 a5 a6 a7 b e h => ?_)⟩
      · obtain ⟨hk, e1, e2⟩ := get _ _ _ _ _ _ _ _ _ _ h
        obtain ⟨q1, q2, _, _⟩ := hF k hk
        rw [e1] at q2
        exact ⟨a, rfl, q1, q2⟩
      · obtain ⟨hk, e1, e2⟩ := get _ _ _ _ _ _ _ _ _ _ h
        obtain ⟨_, _, q3, _⟩ := hF k hk
        rw [e2] at q3
        exact q3
      · obtain ⟨hk, e1, e2⟩ := get _ _ _ _ _ _ _ _ _ _ h
        obtain ⟨_, _, _, q4⟩ := hF k hk
        rw [e2] at q4
        exact q4
end
set_option maxRecDepth 100000 in
/-- An argument that is a transaction. -/
theorem stms_of {H : Type} {enc : TypeId × Value → H} {W : World} {base b0 : Nat} {spare : Nat → Bool} {held : Bool} {v : Value} {d : DataW H} {ps : List MemPlace} {r : Reach}
    (hok : Value.okWide Tryz.prog W r b0 24 v) (h : DataW.Trod enc Tryz.prog W base spare held 24 v d ps) : ∃ l, Stms W W.heap.size v l := by
  obtain ⟨a0, len, cap, rfl⟩ := okWide_slice Tryz.underlying24 hok
  obtain ⟨fuel, hf⟩ := h
  exact stms_trod fuel _ _ hf
set_option maxRecDepth 100000 in
/-- An argument that is a list of ints. -/
theorem ints_of {H : Type} {enc : TypeId × Value → H} {W : World} {base b0 : Nat} {spare : Nat → Bool} {held : Bool} {v : Value} {d : DataW H} {ps : List MemPlace} {r : Reach}
    (hok : Value.okWide Tryz.prog W r b0 22 v) (h : DataW.Trod enc Tryz.prog W base spare held 22 v d ps) : ∃ (A : Option Addr) (n c : Nat) (ks : List Int), v = .slice A n c ∧ n ≤ c ∧ c ≤ 9223372036854775807 ∧ Src W 1 (.slice A n c) n (ks.map (Value.int .i64)) := by
  obtain ⟨a0, len, cap, rfl⟩ := okWide_slice Tryz.underlying22 hok
  obtain ⟨fuel, hf⟩ := h
  rcases DataW.trod_slice Tryz.underlying22 hf with ⟨h0, _⟩ | ⟨a, len', cap', elems, rest, n, hfu, hcs, _, _, hlc, hcm, hel, hi, _⟩
  · simp only [Value.cells, List.cons.injEq, and_true] at h0
    injection h0 with h1 h2 h3
    subst h1 h2 h3
    exact ⟨none, 0, 0, [], rfl, Nat.le_refl _, by omega, by simp, none, 0, rfl, by simp⟩
  · simp only [Value.cells, List.cons.injEq, and_true] at hcs
    injection hcs with h1 h2 h3
    subst h1 h2 h3
    have c1 : Tryz.prog.cellsOf 3 = 1 := by kernel_rfl
    rw [c1] at hi
    have key : ∀ i, i < len → ∃ k : Int, W.cell? (a.add i) = some (.int .i64 k) := by
      intro i hlt
      have h1 := hi i hlt
      have he : elems[i]? = some (elems[i]'(by omega)) := List.getElem?_eq_getElem _
      rw [he, Option.bind_eq_some_iff] at h1
      obtain ⟨cs', hc, ht⟩ := h1
      obtain ⟨y0, g0, _, _⟩ := DataW.trod_int Tryz.underlying3 ht
      obtain ⟨_, hcl, hat⟩ := World.cells?_some hc
      have := hat 0 (by omega)
      rw [g0] at this
      rw [Go.Deep.add_add, Nat.mul_one, Nat.add_zero] at this
      exact ⟨y0, this⟩
    obtain ⟨F, hF⟩ : ∃ F : Nat → Int, ∀ i, i < len → W.cell? (a.add i) = some (.int .i64 (F i)) := ⟨fun i => if h : i < len then (key i h).choose else 0, fun i h => by simp only [dif_pos h]; exact (key i h).choose_spec⟩
    refine ⟨some a, len, cap, (List.range len).map F, rfl, hlc, by simpa [maxLen] using hcm, by simp, some a, cap, rfl, fun j u hj => ?_⟩
    have hjl : j < len := by have := (List.getElem?_eq_some_iff.1 hj).1; simpa using this
    have hc := hF j hjl
    simp [List.getElem?_range hjl] at hj
    subst hj
    exact ⟨a, rfl, by have := World.block_lt_of_cell? _ _ hc; rwa [block_add] at this, hc⟩
end Go.Proofs.YtfbeaklplefojaaGreatDoor

namespace Go.Proofs.YtfbeaklplefojaaGreatDoor.DoorKit
open Go.ChangeShapes Go.WideShapes Go.ChangeAt Go.RowKit

theorem own : ownKnob Tryz.prog.godebug = none := by kernel_rfl
theorem laidOut : laidOutB Tryz.prog = true := by kernel_rfl
theorem et : Tryz.prog.globalNamed "errors.errorType" = some 0 := by kernel_rfl
theorem rt : (Tryz.prog.cutTypes.find? (·.1 == "internal/reflectlite.rtype")).map (·.2) = some 146 := by kernel_rfl
theorem oneRow : ((List.range 220).filter fun t => Tryz.prog.rowNamed t [101, 114, 114, 111, 114]) = [34] := by kernel_rfl
theorem size : Tryz.prog.types.size = 220 := by kernel_rfl

theorem of_laid {W : World} (h : laidMetH Tryz.prog [("errors.errorType", Rows.laid_errors_errorType)] W) : Typed W := by
  have h' : laidMet Tryz.prog [] W ∧ handlesMet Tryz.prog [("errors.errorType", Rows.laid_errors_errorType)] W := h
  obtain ⟨name, u, ty, e1, e2, e3, e4, e5⟩ := h'.2 _ (List.mem_singleton.2 rfl)
  have en : name = [101, 114, 114, 111, 114] := (Option.some.inj e1).symm
  subst en
  obtain rfl := Option.some.inj (rt.symm.trans e2)
  have hm : ty ∈ (List.range 220).filter fun t => Tryz.prog.rowNamed t [101, 114, 114, 111, 114] := List.mem_filter.2 ⟨List.mem_range.2 (by rw [← size]; exact e3), e4⟩
  rw [oneRow] at hm
  obtain rfl := List.mem_singleton.1 hm
  have hh : typeHandle Tryz.prog 34 = .pointer (some ⟨1, 34, none⟩) := by kernel_rfl
  rw [hh] at e5
  have hc : W.cell? ⟨0, 0, none⟩ = some (.iface 146 (.agg #[.pointer (some ⟨1, 34, none⟩)])) := by simpa using World.var?_cell et e5 0
  exact ⟨hc, World.block_lt_of_cell? _ _ hc⟩

theorem door_met (os : Os) (args : Array Value) : laidMetH Tryz.prog [("errors.errorType", Rows.laid_errors_errorType)] ((World.doorLaid Tryz.prog 400 os).forCall (fun _ _ => 0) ⟨#[], args, []⟩).memory :=
  laidMetH_of_parts3 (fuel := 8) (laidMet_nil _ _) (by kernel_rfl) (by kernel_rfl)
end Go.Proofs.YtfbeaklplefojaaGreatDoor.DoorKit

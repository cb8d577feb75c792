/-
 order.wrong: what is wrong with one.
 order.Check, concordref12.Check.
 What is wrong with what came of a plan, plainly. No program in sight.
 Transactions that ended, counted, plainly. No program in sight.
 Lists of things that have so many cells each, laid flat; what a slice of them reads as, owns; which blocks a thing's turns may turn. No program in sight.
 Arguments that are slices of plain things: what they read as. No program in sight.
 Transactions that ended, out of an argument.
-/
import Derived.Test.YtmjnmpifibemjaaGreatDoorJoB5
import Derived.Test.YtmjnmpifibemjaaGreatDoorJoB2
import Derived.Deep.QuietTactic
import Derived.BigQuiet
import Derived.Test.YtmjnmpifibemjaaGreatDoorJoB4
import Derived.Test.YtmjnmpifibemjaaGreatDoorJoB0
import Derived.Test.YtmjnmpifibemjaaGreatDoorProg
set_option linter.unusedVariables false
namespace Go.Proofs.YtmjnmpifibemjaaGreatDoor
open Go.RowKit

def dupB (L : List Att) (i k : Nat) : Bool := (L.getD i default).wr && (L.getD k default).wr && decide ((L.getD i default).st = (L.getD k default).st)
def confB (L : List Att) (i j : Nat) : Bool := decide (j ≠ i) && decide ((L.getD j default).en < (L.getD i default).be) && !ahd L j i
/-- What is wrong with the one at place i. -/
def wrongAt (L : List Att) (i : Nat) : Int :=
 if (L.getD i default).en < (L.getD i default).be then 2 else if (List.range i).any (dupB L i) then 7 else if (List.range L.length).any (confB L i) then 12 else 0
theorem any_range_no {p : Nat → Bool} {n : Nat} (h : ∀ k, k < n → p k = false) : (List.range n).any p = false := by
 rw [List.any_eq_false]
 intro x hx
 rw [h x (by simpa using hx)]
 simp
theorem any_range_yes {p : Nat → Bool} {n k : Nat} (hk : k < n) (h : p k = true) : (List.range n).any p = true := by
 rw [List.any_eq_true]
 exact ⟨k, by simpa using hk, h⟩
theorem wrong_2 {L : List Att} {i : Nat} (h : (L.getD i default).en < (L.getD i default).be) : wrongAt L i = 2 := by unfold wrongAt; rw [if_pos h]
theorem wrong_7 {L : List Att} {i k : Nat} (h : (L.getD i default).be ≤ (L.getD i default).en) (hk : k < i) (hd : dupB L i k = true) : wrongAt L i = 7 := by
 unfold wrongAt; rw [if_neg (Int.not_lt.2 h), if_pos (any_range_yes hk hd)]
theorem wrong_12 {L : List Att} {i j : Nat} (h : (L.getD i default).be ≤ (L.getD i default).en) (hd : ∀ k, k < i → dupB L i k = false) (hj : j < L.length) (hc : confB L i j = true) : wrongAt L i = 12 := by
 unfold wrongAt; rw [if_neg (Int.not_lt.2 h), any_range_no hd, any_range_yes hj hc]; rfl
theorem wrong_0 {L : List Att} {i : Nat} (h : (L.getD i default).be ≤ (L.getD i default).en) (hd : ∀ k, k < i → dupB L i k = false) (hc : ∀ j, j < L.length → confB L i j = false) : wrongAt L i = 0 := by
 unfold wrongAt; rw [if_neg (Int.not_lt.2 h), any_range_no hd, any_range_no hc]; rfl
theorem below_succ {p : Nat → Prop} {k : Nat} (h : ∀ j, j < k → p j) (hk : p k) : ∀ j, j < k + 1 → p j := by
 intro j hj
 rcases Nat.lt_or_eq_of_le (Nat.le_of_lt_succ hj) with h1 | h1
 ·exact h j h1
 ·exact h1 ▸ hk
/-- The cells of the attempt at place i. -/
theorem Atts.six {w : World} {A : Option Addr} {L : List Att} (h : Atts w A L) (i : Nat) (hi : i < L.length) (v : Att) (hv : L.getD i default = v) :
 ∃ ad, A = some ad ∧ w.cell? (ad.add (i * 6)) = some (.int .i64 v.th) ∧ w.cell? ⟨(ad.add (i * 6)).block, (ad.add (i * 6)).off + 1, none⟩ = some (.int .i64 v.ix) ∧ w.cell? ⟨(ad.add (i * 6)).block, (ad.add (i * 6)).off + 2, none⟩ = some (.int .i64 v.st) ∧
   w.cell? ⟨(ad.add (i * 6)).block, (ad.add (i * 6)).off + 3, none⟩ = some (.bool v.wr) ∧ w.cell? ⟨(ad.add (i * 6)).block, (ad.add (i * 6)).off + 4, none⟩ = some (.int .i64 v.be) ∧ w.cell? ⟨(ad.add (i * 6)).block, (ad.add (i * 6)).off + 5, none⟩ = some (.int .i64 v.en) := by
 obtain ⟨ad, rfl, c1, c2, c3, c4, c5, c6, _⟩ := h i _ (List.getElem?_eq_getElem hi)
 rw [List.getD_eq_getElem?_getD, List.getElem?_eq_getElem hi] at hv
 simp only [Option.getD_some] at hv
 rw [hv] at c1 c2 c3 c4 c5 c6
 exact ⟨ad, rfl, c1, c2, c3, c4, c5, c6⟩

set_option maxHeartbeats 2000000 in
theorem wrong_ok (A : Option Addr) (n c : Nat) (L : List Att) (i : Nat) (w : World) (hA : Atts w A L) (hn : L.length = n) (h60 : n ≤ 100) (hi : i < n) (hc : n ≤ c) (hcm : c ≤ 9223372036854775807) :
 Calls Tryz.prog 51 #[.slice A n c, .int .i64 i] w fun e w' => e = .returned (.int .i64 (wrongAt L i)) ∧ Upd [] w w' := by
 obtain ⟨v, hv⟩ : ∃ v, L.getD i default = v := ⟨_, rfl⟩
 obtain ⟨ad, rfl, x1, x2, x3, x4, x5, x6⟩ := hA.six i (by omega) v hv
 obtain ⟨a1, a2, a3, a4, a5, a6⟩ := v
 dsimp only at x1 x2 x3 x4 x5 x6
 have HN := Lib.hid hn
 have HA := Lib.hid hA
 have HV := Lib.hid hv
 have hi0 : (i : Int) ≤ c := by omega
 clear hn hA hv
 by_cases h2 : a6 < a5
 ·have HR : Hid (wrongAt L i = 2) := Lib.hid (wrong_2 (by rw [HV.out]; exact h2))
  go_enter Tryz.func51, Tryz.ntmps51
  go_wp2_with fail
  go_ret
  rw [HR.out]
  exact ⟨rfl, (Upd.refl [] w).alloc _⟩
 ·have HR : Hid ((L.getD i default).be ≤ (L.getD i default).en) := Lib.hid (by rw [HV.out]; exact Int.not_lt.1 h2)
  go_enter Tryz.func51, Tryz.ntmps51
  go_wp2_with fail
  clear x1 x2 x3 x4 x5 x6
  have b0 := Blk.new w 39 #[.int .i64 a1, .int .i64 a2, .int .i64 a3, .bool a4, .int .i64 a5, .int .i64 a6]
  have u0 := (Upd.refl [] w).alloc (.cells #[.int .i64 a1, .int .i64 a2, .int .i64 a3, .bool a4, .int .i64 a5, .int .i64 a6] 39)
  obtain ⟨p, hp⟩ : ∃ p, w.heap.size = p := ⟨_, rfl⟩
  rw [hp] at b0 ⊢
  have B0 := Lib.hid b0
  have U0 := Lib.hid u0
  clear b0 u0 hp
  generalize w.alloc (.cells #[.int .i64 a1, .int .i64 a2, .int .i64 a3, .bool a4, .int .i64 a5, .int .i64 a6] 39) = w0 at *
  go_loopw [23] (fun u wr => ∃ k : Nat, u = .int .i64 k ∧ k ≤ i ∧ Hid (Upd [] w0 wr) ∧ Hid (∀ j, j < k → dupB L i j = false)) (fun u _ => i - (intOf u).toNat)
  case atStart => exact ⟨0, rfl, by omega, Lib.hid (.refl _ _), Lib.hid (by intro j hj; omega)⟩
  case round =>
   obtain ⟨k, rfl, hk, HU, HD⟩ := hrel
   have b1 := B0.out.upd HU.out (by simp)
   have p2 : wr.cell? ⟨p, 2, none⟩ = some (.int .i64 a3) := b1.cell 2
   have p3 : wr.cell? ⟨p, 3, none⟩ = some (.bool a4) := b1.cell 3
   have pl : p < wr.heap.size := b1.lt
   clear b1
   by_cases hki : k < i
   ·obtain ⟨v, hv⟩ : ∃ v, L.getD k default = v := ⟨_, rfl⟩
    obtain ⟨ad', he, y1, y2, y3, y4, y5, y6⟩ := (HA.out.upd (U0.out.trans HU.out)).six k (by rw [HN.out]; omega) v hv
    injection he with he
    subst he
    obtain ⟨b1, b2, b3, b4, b5, b6⟩ := v
    dsimp only at y1 y2 y3 y4 y5 y6
    have HK := Lib.hid hv
    clear hv
    have HDK : Hid (dupB L i k = (a4 && b4 && decide (a3 = b3))) := Lib.hid (by unfold dupB; rw [HV.out, HK.out])
    cases a4 with
    | false =>
      go_wp2_with fail
      go_roundw
      case rel => exact ⟨k + 1, by go_num, by omega, Lib.hid (HU.out.alloc _), Lib.hid (below_succ HD.out (by rw [HDK.out]; rfl))⟩
      case measure => simp [intOf]; omega
    | true =>
      cases b4 with
      | false =>
        go_wp2_with fail
        go_roundw
        case rel => exact ⟨k + 1, by go_num, by omega, Lib.hid (HU.out.alloc _), Lib.hid (below_succ HD.out (by rw [HDK.out]; rfl))⟩
        case measure => simp [intOf]; omega
      | true =>
        by_cases h3 : a3 = b3
        ·subst h3
         have HX : Hid (wrongAt L i = 7) := Lib.hid (wrong_7 HR.out hki (by rw [HDK.out]; simp))
         go_wp2_with fail
         go_ret
         rw [HX.out]
         exact ⟨rfl, U0.out.trans (HU.out.alloc _)⟩
        ·have e3 : (a3 == b3) = false := by simpa using h3
         have H3 : Hid (dupB L i k = false) := Lib.hid (by rw [HDK.out]; simp [h3])
         clear h3
         go_wp2_with fail
         go_roundw
         case rel => exact ⟨k + 1, by go_num, by omega, Lib.hid (HU.out.alloc _), Lib.hid (below_succ HD.out H3.out)⟩
         case measure => simp [intOf]; omega
   ·obtain rfl : i = k := by omega
    go_wp2_with fail
    have U1 := Lib.hid (U0.out.trans HU.out)
    have B1 := Lib.hid (B0.out.upd HU.out (by simp))
    clear HU p2 p3 pl
    obtain ⟨w1, rfl⟩ : ∃ w1 : World, w1 = wr := ⟨_, rfl⟩
    go_loopw [43] (fun u ws => ∃ j : Nat, u = .int .i64 j ∧ j ≤ n ∧ Hid (Upd [] w1 ws) ∧ Hid (∀ k, k < j → confB L i k = false)) (fun u _ => n - (intOf u).toNat)
    case atStart => exact ⟨0, rfl, by omega, Lib.hid (.refl _ _), Lib.hid (by intro j hj; omega)⟩
    case round =>
     obtain ⟨j, rfl, hj, JU, JC⟩ := hrel
     have q1 := B1.out.upd JU.out (by simp)
     have p4 : wr.cell? ⟨p, 4, none⟩ = some (.int .i64 a5) := q1.cell 4
     have pl : p < wr.heap.size := q1.lt
     clear q1
     by_cases hjn : j < n
     ·obtain ⟨v, hv⟩ : ∃ v, L.getD j default = v := ⟨_, rfl⟩
      obtain ⟨ad', he, y1, y2, y3, y4, y5, y6⟩ := (HA.out.upd (U1.out.trans JU.out)).six j (by rw [HN.out]; omega) v hv
      injection he with he
      subst he
      obtain ⟨b1, b2, b3, b4, b5, b6⟩ := v
      dsimp only at y1 y2 y3 y4 y5 y6
      have HK := Lib.hid hv
      clear hv
      have HCJ : Hid (confB L i j = (decide (j ≠ i) && decide (b6 < a5) && !ahd L j i)) := Lib.hid (by unfold confB; rw [HV.out, HK.out])
      by_cases hji : j = i
      ·subst hji
       have H3 : Hid (confB L j j = false) := Lib.hid (by rw [HCJ.out]; simp)
       go_wp2_with fail
       go_roundw
       case rel => exact ⟨j + 1, by go_num, by omega, Lib.hid (JU.out.alloc _), Lib.hid (below_succ JC.out H3.out)⟩
       case measure => simp [intOf]; omega
      ·have e1 : ((j : Int) != (i : Int)) = true := by
        have : ¬ (j : Int) = i := by omega
        simpa using this
       have hne := Lib.hid hji
       clear hji
       by_cases h5 : b6 < a5
       ·go_wp2_with fail
        refine (ahead_at (some ad) n c L _ (HA.out.upd ((U1.out.trans JU.out).alloc _)) HN.out j i hjn hi).mono ?_; rintro e w2 ⟨rfl, u2⟩
        have U2 := Lib.hid ((JU.out.alloc _).trans u2)
        clear u2
        cases hb : ahd L j i with
        | true =>
          have H3 : Hid (confB L i j = false) := Lib.hid (by rw [HCJ.out, hb]; simp)
          clear hb
          go_wp2_with fail
          go_roundw
          case rel => exact ⟨j + 1, by go_num, by omega, U2, Lib.hid (below_succ JC.out H3.out)⟩
          case measure => simp [intOf]; omega
        | false =>
          have H3 : Hid (wrongAt L i = 12) := Lib.hid (wrong_12 HR.out HD.out (by rw [HN.out]; exact hjn) (by rw [HCJ.out, hb]; simp [hne.out, h5]))
          clear hb
          go_wp2_with fail
          go_ret
          rw [H3.out]
          exact ⟨rfl, U1.out.trans U2.out⟩
       ·have H3 : Hid (confB L i j = false) := Lib.hid (by rw [HCJ.out]; simp [h5])
        go_wp2_with fail
        go_roundw
        case rel => exact ⟨j + 1, by go_num, by omega, Lib.hid (JU.out.alloc _), Lib.hid (below_succ JC.out H3.out)⟩
        case measure => simp [intOf]; omega
     ·obtain rfl : n = j := by omega
      have H3 : Hid (wrongAt L i = 0) := Lib.hid (wrong_0 HR.out HD.out (by rw [HN.out]; exact JC.out))
      go_wp2_with fail
      go_ret
      rw [H3.out]
      exact ⟨rfl, U1.out.trans JU.out⟩
end Go.Proofs.YtmjnmpifibemjaaGreatDoor

namespace Go.Proofs.YtmjnmpifibemjaaGreatDoor
open Go.RowKit

/-- What Check says: the number, the place. -/
def chkR (L : List Att) : Int × Int :=
 match (List.range L.length).find? (fun i => wrongAt L i != 0) with
 | none => (0, 0)
 | some i => (wrongAt L i, (i : Int) + 1)
theorem chk_none {L : List Att} (h : ∀ k, k < L.length → wrongAt L k = 0) : chkR L = (0, 0) := by
 unfold chkR
 have : (List.range L.length).find? (fun i => wrongAt L i != 0) = none := by
  rw [List.find?_eq_none]
  intro x hx
  simp [h x (by simpa using hx)]
 rw [this]
theorem chk_some {L : List Att} {i : Nat} (h : ∀ k, k < i → wrongAt L k = 0) (hi : i < L.length) (hw : wrongAt L i ≠ 0) : chkR L = (wrongAt L i, (i : Int) + 1) := by
 unfold chkR
 have : (List.range L.length).find? (fun i => wrongAt L i != 0) = some i := by
  rw [List.find?_range_eq_some]
  refine ⟨by simpa using hw, by simpa using hi, fun j hj => by simp [h j hj]⟩
 rw [this]
theorem wrong_range (L : List Att) (i : Nat) : wrongAt L i ≠ 0 → 1 ≤ wrongAt L i ∧ wrongAt L i ≤ 17 := by
 unfold wrongAt
 split
 ·omega
 ·split
  ·omega
  ·split <;> omega

set_option maxHeartbeats 1000000 in
theorem check_ok (A : Option Addr) (n c : Nat) (L : List Att) (w : World) (hA : Atts w A L) (hn : L.length = n) (h60 : n ≤ 100) (hc : n ≤ c) (hcm : c ≤ 9223372036854775807) :
 Calls Tryz.prog 27 #[.slice A n c] w fun e w' => ∃ v, e = .returned v ∧ ErrV w' v (chkR L).1 (chkR L).2 ∧ Upd [] w w' := by
 have HN := Lib.hid hn
 have HA := Lib.hid hA
 clear hn hA
 go_enter Tryz.func27, Tryz.ntmps27
 go_wp2_with fail
 go_loopw [7] (fun u wr => ∃ k : Nat, u = .int .i64 k ∧ k ≤ n ∧ Hid (Upd [] w wr) ∧ Hid (∀ j, j < k → wrongAt L j = 0)) (fun u _ => n - (intOf u).toNat)
 case atStart => exact ⟨0, rfl, by omega, Lib.hid (.refl _ _), Lib.hid (by intro j hj; omega)⟩
 case round =>
  obtain ⟨k, rfl, hk, HU, HD⟩ := hrel
  by_cases hkn : k < n
  ·go_wp2_with fail
   refine (wrong_ok A n c L k _ (HA.out.upd HU.out) HN.out h60 hkn hc hcm).mono ?_; rintro e w1 ⟨rfl, u1⟩
   have U1 := Lib.hid (HU.out.trans u1)
   clear u1
   obtain ⟨x, hx⟩ : ∃ x, wrongAt L k = x := ⟨_, rfl⟩
   rw [hx]
   have HX := Lib.hid hx
   clear hx
   by_cases h0 : x = 0
   ·subst h0
    go_wp2_with fail
    go_roundw
    case rel => exact ⟨k + 1, by go_num, by omega, U1, Lib.hid (below_succ HD.out HX.out)⟩
    case measure => simp [intOf]; omega
   ·have e1 : (x != 0) = true := by simpa using h0
    have HC : Hid (chkR L = (x, (k : Int) + 1)) := Lib.hid (by rw [chk_some HD.out (by rw [HN.out]; exact hkn) (by rw [HX.out]; exact h0), HX.out])
    have HR : Hid (1 ≤ x ∧ x ≤ 17) := Lib.hid (by have := wrong_range L k (by rw [HX.out]; exact h0); rwa [HX.out] at this)
    clear h0
    go_wp2_with fail
    go_ret
    refine ⟨_, rfl, ?_, U1.out.alloc _⟩
    rw [HC.out]
    exact .fault (Blk.new _ _ _) HR.out.1 HR.out.2
  ·obtain rfl : n = k := by omega
   have HC : Hid (chkR L = (0, 0)) := Lib.hid (chk_none (by rw [HN.out]; exact HD.out))
   go_wp2_with fail
   go_ret
   refine ⟨_, rfl, ?_, HU.out⟩
   rw [HC.out]
   exact .nil _

end Go.Proofs.YtmjnmpifibemjaaGreatDoor

namespace Go.Proofs.YtmjnmpifibemjaaGreatDoor.Jd
open Ev MP

/-- A transaction that ended. -/
structure Ed where
 a : Att
 kd : Int
 told : List Int
 er : Int
deriving Inhabited
/-- A plan. -/
structure Pn where
 words : Int
 pat : Int
 ks : List Int
 ths : List (List (List Stm))
def txnR (p : Pn) (x : Att) : Option (List Stm) := if 0 ≤ x.th ∧ 0 ≤ x.ix then (p.ths[x.th.toNat]?).bind (fun t => t[x.ix.toNat]?) else none
def txnO (p : Pn) (x : Ed) : List Stm := (txnR p x.a).getD []
def isDone (x : Ed) : Bool := x.kd == 1
def doneR (l : List Ed) : List Ed := l.filter isDone
def otherR (l : List Ed) : List Ed := l.filter (fun x => !isDone x)
def attsR (l : List Ed) : List Att := l.map (·.a)
def ordR (d : List Ed) : List Nat := srt (ahd (attsR d)) (List.range (attsR d).length)
/-- Those that are done, in order. -/
def seqR (d : List Ed) : List Ed := (ordR d).map (fun i => d.getD i default)
def s0R (p : Pn) : MS := ⟨p.ks, List.replicate p.ks.length []⟩
/-- Does it do what it did? -/
def okE (p : Pn) (s : MS) (x : Ed) : Bool := endE s (txnO p x) == 1 && toldE s (txnO p x) == x.told
def nextE (p : Pn) (s : MS) (x : Ed) : MS := finE s (txnO p x)
/-- Behind so many. -/
def stN (p : Pn) (q : List Ed) (k : Nat) : MS := (q.take k).foldl (nextE p) (s0R p)
def toldB (p : Pn) (x : Ed) (s : MS) : Bool := endE s (txnO p x) == x.kd && toldE s (txnO p x) == x.told
def seenR (p : Pn) (d : List Ed) (x : Ed) : Bool := (List.range (d.length + 1)).any fun k => decide (wth (attsR d) x.a.be ≤ k) && toldB p x (stN p (seqR d) k)
def lostR (p : Pn) (d : List Ed) (x : Ed) : Bool := x.er == 0 && x.kd != 0 && !seenR p d x
/-- The error, and its place. -/
def judgeR (p : Pn) (l : List Ed) : Int × Int :=
 match (List.range l.length).find? (fun i => (txnR p (l.getD i default).a).isNone) with
 | some i => (3, (i : Int) + 1)
 | none =>
   if (chkR (attsR (doneR l))).1 ≠ 0 then chkR (attsR (doneR l)) else
   match (List.range (doneR l).length).find? (fun k => !okE p (stN p (seqR (doneR l)) k) ((seqR (doneR l)).getD k default)) with
   | some k => (12, (k : Int) + 1)
   | none =>
     match (List.range (otherR l).length).find? (fun i => lostR p (doneR l) ((otherR l).getD i default)) with
     | some i => (5, (i : Int) + 1)
     | none => (0, 0)
theorem getD_mem {α : Type} [Inhabited α] {l : List α} {i : Nat} (h : i < l.length) : l.getD i default ∈ l := by
 rw [List.getD_eq_getElem?_getD, List.getElem?_eq_getElem h]
 exact List.getElem_mem h
theorem mem_getD {α : Type} [Inhabited α] {l : List α} {x : α} (h : x ∈ l) : ∃ i, i < l.length ∧ l.getD i default = x := by
 obtain ⟨i, hi, e⟩ := List.getElem_of_mem h
 exact ⟨i, hi, by rw [List.getD_eq_getElem?_getD, List.getElem?_eq_getElem hi]; exact e⟩
theorem find_none {n : Nat} {f : Nat → Bool} : (List.range n).find? f = none ↔ ∀ i, i < n → f i = false := by
 rw [List.find?_eq_none]
 constructor
 ·intro h i hi
  have := h i (by simpa using hi)
  simpa using this
 ·intro h i hi
  rw [h i (by simpa using hi)]
  simp
/-- Nothing is wrong. -/
def Fine0 (p : Pn) (l : List Ed) : Prop :=
 (∀ x ∈ l, (txnR p x.a).isNone = false) ∧ (chkR (attsR (doneR l))).1 = 0 ∧ (∀ k, k < (doneR l).length → okE p (stN p (seqR (doneR l)) k) ((seqR (doneR l)).getD k default) = true) ∧ ∀ x ∈ otherR l, lostR p (doneR l) x = false
theorem judge_zero (p : Pn) (l : List Ed) : (judgeR p l).1 = 0 ↔ Fine0 p l := by
 unfold judgeR Fine0
 cases h1 : (List.range l.length).find? (fun i => (txnR p (l.getD i default).a).isNone) with
 | some i =>
   simp only
   constructor
   ·intro h; cases h
   ·intro ⟨h, _⟩
    have h2 := List.find?_some h1
    have h3 := List.mem_of_find?_eq_some h1
    have := h _ (getD_mem (by simpa using h3))
    rw [h2] at this
    cases this
 | none =>
   rw [find_none] at h1
   have h1' : ∀ x ∈ l, (txnR p x.a).isNone = false := fun x hx => by
    obtain ⟨i, hi, rfl⟩ := mem_getD hx
    exact h1 i hi
   simp only
   by_cases h2 : (chkR (attsR (doneR l))).1 = 0
   ·rw [if_neg (by simp [h2])]
    cases h3 : (List.range (doneR l).length).find? (fun k => !okE p (stN p (seqR (doneR l)) k) ((seqR (doneR l)).getD k default)) with
    | some k =>
      simp only
      constructor
      ·intro h; cases h
      ·intro ⟨_, _, h, _⟩
       have h4 := List.find?_some h3
       have h5 := List.mem_of_find?_eq_some h3
       rw [h k (by simpa using h5)] at h4
       cases h4
    | none =>
      rw [find_none] at h3
      have h3' : ∀ k, k < (doneR l).length → okE p (stN p (seqR (doneR l)) k) ((seqR (doneR l)).getD k default) = true := fun k hk => by simpa using h3 k hk
      simp only
      cases h4 : (List.range (otherR l).length).find? (fun i => lostR p (doneR l) ((otherR l).getD i default)) with
      | some i =>
        simp only
        constructor
        ·intro h; cases h
        ·intro ⟨_, _, _, h⟩
         have h5 := List.find?_some h4
         have h6 := List.mem_of_find?_eq_some h4
         rw [h _ (getD_mem (by simpa using h6))] at h5
         cases h5
      | none =>
        rw [find_none] at h4
        simp only [true_iff]
        refine ⟨h1', h2, h3', fun x hx => ?_⟩
        obtain ⟨i, hi, rfl⟩ := mem_getD hx
        exact h4 i hi
   ·rw [if_pos h2]
    exact ⟨fun h => absurd h h2, fun h => absurd h.2.1 h2⟩
/-! In whichever order they stand. -/
/-- No two have one stamp and one end. -/
def apart2 (x y : Ed) : Prop := ¬ (x.a.st = y.a.st ∧ x.a.en = y.a.en)
/-- Which of two stands ahead, without their places. -/
def ahv (x y : Att) : Prop := x.st < y.st ∨ x.st = y.st ∧ (rk x.wr < rk y.wr ∨ rk x.wr = rk y.wr ∧ x.en < y.en)
theorem ahv_asym {x y : Att} (h : ahv x y) (h' : ahv y x) : False := by
 unfold ahv at h h'
 omega
theorem ahd_v {L : List Att} {i j : Nat} (hd : ¬ ((L.getD i default).st = (L.getD j default).st ∧ (L.getD i default).en = (L.getD j default).en)) : ahd L i j = true ↔ ahv (L.getD i default) (L.getD j default) := by
 rw [ahd_iff]
 unfold ahv
 omega
theorem atts_getD (d : List Ed) (i : Nat) : (attsR d).getD i default = (d.getD i default).a := by
 unfold attsR
 rw [List.getD_eq_getElem?_getD, List.getD_eq_getElem?_getD, List.getElem?_map]
 cases h : d[i]? with
 | none => rfl
 | some x => rfl
theorem perm_eq {α : Type} {R : α → α → Prop} (has : ∀ x y, R x y → R y x → False) : ∀ {a b : List α}, a.Perm b → a.Pairwise R → b.Pairwise R → a = b
 | [], b, hp, _, _ => (List.nil_perm.1 hp).symm
 | x :: a, [], hp, _, _ => absurd (List.perm_nil.1 hp) (by simp)
 | x :: a, y :: b, hp, ha, hb => by
   rw [List.pairwise_cons] at ha hb
   have hxy : x = y := by
    have h1 : x ∈ y :: b := hp.mem_iff.1 (List.mem_cons_self ..)
    have h2 : y ∈ x :: a := hp.mem_iff.2 (List.mem_cons_self ..)
    rcases List.mem_cons.1 h1 with h1 | h1
    ·exact h1
    ·rcases List.mem_cons.1 h2 with h2 | h2
     ·exact h2.symm
     ·exact (has x y (ha.1 y h2) (hb.1 x h1)).elim
   subst hxy
   rw [perm_eq has (List.Perm.cons_inv hp) ha.2 hb.2]
theorem pair_getD {d : List Ed} (h : d.Pairwise apart2) {i j : Nat} (hi : i < d.length) (hj : j < d.length) (hne : i ≠ j) : apart2 (d.getD i default) (d.getD j default) := by
 have e : ∀ k (hk : k < d.length), d.getD k default = d[k] := fun k hk => by rw [List.getD_eq_getElem?_getD, List.getElem?_eq_getElem hk]; rfl
 rw [e i hi, e j hj]
 rcases Nat.lt_or_gt_of_ne hne with h1 | h1
 ·exact List.pairwise_iff_getElem.1 h i j hi hj h1
 ·have := List.pairwise_iff_getElem.1 h j i hj hi h1
  unfold apart2 at this ⊢
  omega
theorem ord_perm (d : List Ed) : (ordR d).Perm (List.range d.length) := by
 have h := srt_perm (lt := ahd (attsR d)) (List.range (attsR d).length)
 unfold ordR
 rw [show (attsR d).length = d.length by simp [attsR]] at h ⊢
 exact h
theorem seq_perm (d : List Ed) : (seqR d).Perm d := by
 have h := (ord_perm d).map (fun i => d.getD i default)
 have e : (List.range d.length).map (fun i => d.getD i default) = d := by
  apply List.ext_getElem?
  intro i
  rw [List.getElem?_map]
  by_cases hi : i < d.length
  ·rw [List.getElem?_range hi, List.getElem?_eq_getElem hi]
   simp [List.getD_eq_getElem?_getD, List.getElem?_eq_getElem hi]
  ·rw [List.getElem?_eq_none (by simpa using hi), List.getElem?_eq_none (by simpa using hi)]; rfl
 unfold seqR
 rwa [e] at h
theorem seq_sorted {d : List Ed} (h : d.Pairwise apart2) : (seqR d).Pairwise (fun x y => ahv x.a y.a) := by
 unfold seqR
 rw [List.pairwise_map]
 have h1 := srt_pairwise (ahd_tot (attsR d)) (List.range (attsR d).length) List.nodup_range
 refine h1.imp_of_mem (fun {i j} hi hj hij => ?_)
 have hi' : i < d.length := by have := (ord_perm d).mem_iff.1 hi; simpa using this
 have hj' : j < d.length := by have := (ord_perm d).mem_iff.1 hj; simpa using this
 have hne : i ≠ j := fun e => by rw [e, (ahd_tot (attsR d)).irr] at hij; cases hij
 have hap := pair_getD h hi' hj' hne
 rw [ahd_v (by rw [atts_getD, atts_getD]; exact hap), atts_getD, atts_getD] at hij
 exact hij
theorem apart_perm {d d' : List Ed} (hp : d.Perm d') (h : d.Pairwise apart2) : d'.Pairwise apart2 := hp.pairwise h (fun {x y} hxy => by unfold apart2 at hxy ⊢; omega)
theorem seq_eq {d d' : List Ed} (hp : d.Perm d') (h : d.Pairwise apart2) : seqR d = seqR d' :=
 perm_eq (fun x y => ahv_asym) (((seq_perm d).trans hp).trans (seq_perm d').symm) (seq_sorted h) (seq_sorted (apart_perm hp h))
/-- How many are ahead of what begins then, by the order alone. -/
def wS (q : List Ed) (b : Int) : Nat → Nat
 | 0 => 0
 | k + 1 => if (q.getD k default).a.en < b then k + 1 else wS q b k
theorem seq_getD (d : List Ed) (k : Nat) (hk : k < d.length) : (seqR d).getD k default = d.getD ((ordR d).getD k 0) default := by
 unfold seqR
 have hl : k < (ordR d).length := by rw [(ord_perm d).length_eq]; simpa using hk
 rw [List.getD_eq_getElem?_getD, List.getElem?_map, List.getElem?_eq_getElem hl, List.getD_eq_getElem?_getD (l := ordR d), List.getElem?_eq_getElem hl]
 rfl
theorem wth_seq (d : List Ed) (b : Int) : wth (attsR d) b = wS (seqR d) b d.length := by
 unfold wth
 have hl : (attsR d).length = d.length := by simp [attsR]
 have key : ∀ k, k ≤ d.length → wthK (attsR d) (ordR d) b k = wS (seqR d) b k := by
  intro k
  induction k with
  | zero => intro _; rfl
  | succ k ih =>
    intro hk
    unfold wthK wS
    rw [atts_getD, ← seq_getD d k (by omega), ih (by omega)]
 rw [show srt (ahd (attsR d)) (List.range (attsR d).length) = ordR d from rfl, hl]
 exact key _ (Nat.le_refl _)
/-- Nothing is wrong with their order in time, by them alone. -/
def ChkV (d : List Ed) : Prop := (∀ x ∈ d, x.a.be ≤ x.a.en) ∧ (∀ x ∈ d, ∀ y ∈ d, apart2 x y → ¬ (x.a.wr = true ∧ y.a.wr = true ∧ x.a.st = y.a.st)) ∧ ∀ x ∈ d, ∀ y ∈ d, apart2 x y → y.a.en < x.a.be → ahv y.a x.a
theorem chk_v {d : List Ed} (h : d.Pairwise apart2) : (chkR (attsR d)).1 = 0 ↔ ChkV d := by
 have hl : (attsR d).length = d.length := by simp [attsR]
 have hz : (chkR (attsR d)).1 = 0 ↔ ∀ i, i < d.length → wrongAt (attsR d) i = 0 := by
  constructor
  ·intro h0 i hi
   unfold chkR at h0
   cases hf : (List.range (attsR d).length).find? (fun i => wrongAt (attsR d) i != 0) with
   | none =>
     rw [find_none] at hf
     have := hf i (by rw [hl]; exact hi)
     simpa using this
   | some k =>
     rw [hf] at h0
     have := List.find?_some hf
     simp only at h0
     rw [h0] at this
     simp at this
  ·intro h0
   rw [chk_none (fun k hk => h0 k (by rw [← hl]; exact hk))]
 rw [hz]
 unfold ChkV
 constructor
 ·intro h0
  have w2 : ∀ i, i < d.length → ¬ (d.getD i default).a.en < (d.getD i default).a.be := fun i hi hlt => by
   have := h0 i hi
   rw [wrong_2 (by rw [atts_getD]; exact hlt)] at this
   cases this
  have w7 : ∀ i k, i < d.length → k < i → dupB (attsR d) i k = false := fun i k hi hk => by
   cases hd : dupB (attsR d) i k with
   | false => rfl
   | true =>
     have := h0 i hi
     rw [wrong_7 (by rw [atts_getD]; exact Int.not_lt.1 (w2 i hi)) hk hd] at this
     cases this
  have w12 : ∀ i j, i < d.length → j < d.length → confB (attsR d) i j = false := fun i j hi hj => by
   cases hc : confB (attsR d) i j with
   | false => rfl
   | true =>
     have := h0 i hi
     rw [wrong_12 (by rw [atts_getD]; exact Int.not_lt.1 (w2 i hi)) (fun k hk => w7 i k hi hk) (by rw [hl]; exact hj) hc] at this
     cases this
  refine ⟨fun x hx => ?_, fun x hx y hy hxy hc => ?_, fun x hx y hy hxy hlt => ?_⟩
  ·obtain ⟨i, hi, rfl⟩ := mem_getD hx
   exact Int.not_lt.1 (w2 i hi)
  ·obtain ⟨i, hi, rfl⟩ := mem_getD hx
   obtain ⟨j, hj, rfl⟩ := mem_getD hy
   have hne : i ≠ j := fun e => hxy (by subst e; exact ⟨rfl, rfl⟩)
   rcases Nat.lt_or_gt_of_ne hne with h1 | h1
   ·have := w7 j i hj h1
    unfold dupB at this
    rw [atts_getD, atts_getD, hc.1, hc.2.1, hc.2.2] at this
    simp at this
   ·have := w7 i j hi h1
    unfold dupB at this
    rw [atts_getD, atts_getD, hc.1, hc.2.1, hc.2.2] at this
    simp at this
  ·obtain ⟨i, hi, rfl⟩ := mem_getD hx
   obtain ⟨j, hj, rfl⟩ := mem_getD hy
   have hne : j ≠ i := fun e => hxy (by subst e; exact ⟨rfl, rfl⟩)
   have := w12 i j hi hj
   unfold confB at this
   rw [atts_getD, atts_getD, decide_eq_true hne, decide_eq_true hlt] at this
   simp only [Bool.and_self, Bool.true_and, Bool.not_eq_false'] at this
   rw [ahd_v (by rw [atts_getD, atts_getD]; have := pair_getD h hj hi hne; exact this), atts_getD, atts_getD] at this
   exact this
 ·intro ⟨v1, v2, v3⟩ i hi
  have hx := getD_mem (l := d) hi
  refine wrong_0 (by rw [atts_getD]; exact v1 _ hx) (fun k hk => ?_) (fun j hj => ?_)
  ·have hy := getD_mem (l := d) (i := k) (by omega)
   have hap := pair_getD h hi (show k < d.length by omega) (by omega)
   have := v2 _ hx _ hy hap
   unfold dupB
   rw [atts_getD, atts_getD]
   cases h1 : (d.getD i default).a.wr with
   | false => simp
   | true =>
     cases h2 : (d.getD k default).a.wr with
     | false => simp
     | true =>
       simp only [Bool.and_self, Bool.true_and, decide_eq_false_iff_not]
       exact fun e => this ⟨h1, h2, e⟩
  ·rw [hl] at hj
   have hy := getD_mem (l := d) hj
   unfold confB
   rw [atts_getD, atts_getD]
   by_cases hne : j = i
   ·simp [hne]
   ·have hap := pair_getD h hi hj (fun e => hne e.symm)
    by_cases hlt : (d.getD j default).a.en < (d.getD i default).a.be
    ·have := v3 _ hx _ hy hap hlt
     have h2 := (ahd_v (L := attsR d) (i := j) (j := i) (by rw [atts_getD, atts_getD]; exact pair_getD h hj hi hne)).2 (by rw [atts_getD, atts_getD]; exact this)
     rw [h2]
     simp
    ·rw [decide_eq_false hlt]; simp
theorem chkv_perm {d d' : List Ed} (hp : d.Perm d') : ChkV d ↔ ChkV d' := by
 unfold ChkV
 constructor
 ·intro ⟨h1, h2, h3⟩
  exact ⟨fun x hx => h1 x (hp.mem_iff.2 hx), fun x hx y hy => h2 x (hp.mem_iff.2 hx) y (hp.mem_iff.2 hy), fun x hx y hy => h3 x (hp.mem_iff.2 hx) y (hp.mem_iff.2 hy)⟩
 ·intro ⟨h1, h2, h3⟩
  exact ⟨fun x hx => h1 x (hp.mem_iff.1 hx), fun x hx y hy => h2 x (hp.mem_iff.1 hx) y (hp.mem_iff.1 hy), fun x hx y hy => h3 x (hp.mem_iff.1 hx) y (hp.mem_iff.1 hy)⟩
theorem fine_perm (p : Pn) {l m : List Ed} (hp : l.Perm m) (h : l.Pairwise apart2) : Fine0 p l → Fine0 p m := by
 have hd : (doneR l).Perm (doneR m) := hp.filter _
 have ho : (otherR l).Perm (otherR m) := hp.filter _
 have hpd : (doneR l).Pairwise apart2 := h.filter _
 have hs := seq_eq hd hpd
 have hw : ∀ b, wth (attsR (doneR l)) b = wth (attsR (doneR m)) b := fun b => by rw [wth_seq, wth_seq, hs, hd.length_eq]
 have hlost : ∀ x, lostR p (doneR l) x = lostR p (doneR m) x := fun x => by
  unfold lostR seenR
  rw [hw, hs, hd.length_eq]
 intro ⟨h1, h2, h3, h4⟩
 refine ⟨fun x hx => h1 x (hp.mem_iff.2 hx), ?_, fun k hk => ?_, fun x hx => ?_⟩
 ·rw [chk_v (apart_perm hd hpd), ← chkv_perm hd, ← chk_v hpd]; exact h2
 ·rw [← hs]; exact h3 k (by rw [hd.length_eq]; exact hk)
 ·rw [← hlost]; exact h4 x (ho.mem_iff.2 hx)
/-- In which order they stand changes nothing of whether something is wrong. -/
theorem judge_perm (p : Pn) {l m : List Ed} (hp : l.Perm m) (h : l.Pairwise apart2) : (judgeR p l).1 = 0 ↔ (judgeR p m).1 = 0 := by
 rw [judge_zero, judge_zero]
 exact ⟨fine_perm p hp h, fine_perm p hp.symm (apart_perm hp h)⟩
end Go.Proofs.YtmjnmpifibemjaaGreatDoor.Jd

namespace Go.Proofs.YtmjnmpifibemjaaGreatDoor.St
open Go Go.RowKit

/-- A transaction that came to its end; where what it was told lies. -/
structure En where
 th : Int
 ix : Int
 st : Int
 wr : Bool
 be : Int
 en : Int
 kd : Int
 er : Int
 ta : Option Addr
 tn : Nat
 tc : Nat
/-- A count. -/
structure Tal where
 dn : Int
 wo : Int
 ab : Int
 bl : Int
 cp : Int
 fl : Int
 tm : Int
 lg : Int
def zero : Tal := ⟨0, 0, 0, 0, 0, 0, 0, 0⟩
def isI (b : Bool) : Int := if b then 1 else 0
def one (x : En) : Tal := ⟨isI (x.kd == 1), isI (x.kd == 1 && x.wr), isI (x.kd == 2), isI (x.kd == 3), isI (x.kd == 4), isI (!(x.kd == 1 || x.kd == 2 || x.kd == 3 || x.kd == 4)), x.en - x.be, x.en - x.be⟩
def EB (x : En) : Prop := -1000000 ≤ x.be ∧ x.be ≤ 1000000 ∧ -1000000 ≤ x.en ∧ x.en ≤ 1000000
end Go.Proofs.YtmjnmpifibemjaaGreatDoor.St

namespace Go.Proofs.YtmjnmpifibemjaaGreatDoor
open Go.RowKit

/-- How a thing lies in cells. -/
structure Enc (α : Type) where
 c : α → List Value
 s : Nat
 len : ∀ a, (c a).length = s
 one : ∀ a, ∀ u ∈ c a, u.oneCell' = true
 pos : 0 < s
def flat {α : Type} (E : Enc α) (L : List α) : List Value := L.flatMap E.c
section
variable {α : Type} {E : Enc α} {L M : List α} {a : α} {k j : Nat}
theorem flat_cons : flat E (a :: L) = E.c a ++ flat E L := by unfold flat; rw [List.flatMap_cons]
theorem flat_append : flat E (L ++ M) = flat E L ++ flat E M := by unfold flat; rw [List.flatMap_append]
theorem flat_one_ : flat E [a] = E.c a := by unfold flat; simp
theorem flat_len : (flat E L).length = L.length * E.s := by
 induction L with
 | nil => simp [flat]
 | cons a L ih => rw [flat_cons, List.length_append, ih, E.len, List.length_cons, Nat.add_mul]; omega
theorem flat_cells : ∀ u ∈ flat E L, u.oneCell' = true := by
 intro u hu
 obtain ⟨a, _, h⟩ := List.mem_flatMap.1 hu
 exact E.one a u h
theorem flat_get (h : L[k]? = some a) (hj : j < E.s) : (flat E L)[k * E.s + j]? = (E.c a)[j]? := by
 induction L generalizing k with
 | nil => simp at h
 | cons b L ih =>
   rw [flat_cons]
   cases k with
   | zero =>
     simp at h
     subst h
     rw [Nat.zero_mul, Nat.zero_add, List.getElem?_append_left (by rw [E.len]; exact hj)]
   | succ k =>
     rw [List.getElem?_append_right (by rw [E.len, Nat.add_mul]; omega), E.len, show (k + 1) * E.s + j - E.s = k * E.s + j by rw [Nat.add_mul]; omega]
     exact ih (by simpa using h)
theorem flat_take (k : Nat) : flat E (L.take k) = (flat E L).take (k * E.s) := by
 induction L generalizing k with
 | nil => simp [flat]
 | cons a L ih =>
   cases k with
   | zero => simp [flat]
   | succ k =>
     rw [List.take_succ_cons, flat_cons, flat_cons, ih, List.take_append, E.len, List.take_of_length_le (l := E.c a) (by rw [E.len, Nat.add_mul]; omega), show (k + 1) * E.s - E.s = k * E.s by rw [Nat.add_mul]; omega]
theorem flat_drop (k : Nat) : flat E (L.drop k) = (flat E L).drop (k * E.s) := by
 induction L generalizing k with
 | nil => simp [flat]
 | cons a L ih =>
   cases k with
   | zero => simp [flat]
   | succ k =>
     have h0 : (E.c a).drop ((k + 1) * E.s) = [] := List.drop_eq_nil_of_le (by rw [E.len, Nat.add_mul]; omega)
     rw [List.drop_succ_cons, flat_cons, ih, List.drop_append, E.len, h0, show (k + 1) * E.s - E.s = k * E.s by rw [Nat.add_mul]; omega]
     rfl
end
/-- A slice value that reads as these things. -/
def Rd {α : Type} (E : Enc α) (w : World) (v : Value) (L : List α) : Prop := Src w E.s v L.length (flat E L)
/-- A slice value that owns these things, in a block from B on. -/
def Ow {α : Type} (E : Enc α) (e : TypeId) (w : World) (B : Nat) (v : Value) (L : List α) : Prop := w.ownsRow B e E.s v L.length (flat E L)
section
variable {α : Type} {E : Enc α} {L M : List α} {a : α} {k j B : Nat} {e : TypeId} {w w' : World} {v : Value} {S : List Nat}
theorem Rd.nil (E : Enc α) (w : World) (c : Nat) : Rd E w (.slice none 0 c) [] := ⟨by simp [flat], none, c, rfl, by simp [flat]⟩
theorem Ow.nil (E : Enc α) (e : TypeId) (w : World) (B : Nat) : Ow E e w B (.slice none 0 0) [] := own_nil _ _ _ _
theorem Ow.rd (h : Ow E e w B v L) : Rd E w v L := Src.of_own h
theorem Rd.upd (h : Rd E w v L) (hu : Upd S w w') (hS : ∀ b, v.ownBlock = some b → b ∉ S) : Rd E w' v L := Src.upd h hu hS
theorem Rd.upd0 (h : Rd E w v L) (hu : Upd [] w w') : Rd E w' v L := Src.upd0 h hu
theorem Ow.upd (h : Ow E e w B v L) (hu : Upd S w w') (hS : ∀ b, v.ownBlock = some b → b ∉ S) : Ow E e w' B v L := own_upd h hu hS
theorem Ow.upd0 (h : Ow E e w B v L) (hu : Upd [] w w') : Ow E e w' B v L := own_upd0 h hu
theorem Rd.form (h : Rd E w v L) : ∃ A c, v = .slice A L.length c := by
 obtain ⟨_, A, c, e, _⟩ := h
 exact ⟨A, c, e⟩
theorem Ow.form (h : Ow E e w B v L) : ∃ A c, v = .slice A L.length c ∧ L.length ≤ c ∧ c ≤ maxLen := own_slice h
/-- The cells of the k-th one. -/
theorem Rd.at_ {A : Option Addr} {n c : Nat} (h : Rd E w (.slice A n c) L) (hk : L[k]? = some a) : ∃ ad : Addr, A = some ad ∧ ad.block < w.heap.size ∧ ∀ j u, (E.c a)[j]? = some u → w.cell? (ad.add (k * E.s + j)) = some u := by
 obtain ⟨h1, A', c', he, h2⟩ := h
 injection he with hA _ _
 subst hA
 have h0 := E.pos
 have hl := E.len a
 obtain ⟨u, hu⟩ : ∃ u, (E.c a)[0]? = some u := ⟨_, List.getElem?_eq_getElem (by omega)⟩
 obtain ⟨ad, rfl, hb, _⟩ := h2 (k * E.s + 0) u ((flat_get hk h0).trans hu)
 refine ⟨ad, rfl, hb, fun j u hj => ?_⟩
 have hjl : j < E.s := by have := (List.getElem?_eq_some_iff.1 hj).1; omega
 obtain ⟨ad', e, _, hc⟩ := h2 (k * E.s + j) u ((flat_get hk hjl).trans hj)
 cases e
 exact hc
theorem Ow.at_ {g n c : Nat} (h : Ow E e w B (.slice (some ⟨g, 0, none⟩) n c) L) (hk : L[k]? = some a) : ∀ j u, (E.c a)[j]? = some u → w.cell? ⟨g, k * E.s + j, none⟩ = some u := by
 intro j u hj
 have hjl : j < E.s := by have := (List.getElem?_eq_some_iff.1 hj).1; rw [E.len] at this; exact this
 have hn : n = L.length := by
  obtain ⟨A, c', he, _⟩ := own_slice h
  injection he
 subst hn
 exact own_cell h _ u ((flat_get hk hjl).trans hj)
theorem Rd.take {A : Option Addr} {n c : Nat} (h : Rd E w (.slice A n c) L) (k : Nat) (hk : k ≤ L.length) (c' : Nat) : Rd E w (.slice A k c') (L.take k) := by
 have hn : n = L.length := by
  obtain ⟨_, A', c2, he, _⟩ := h
  injection he
 subst hn
 unfold Rd
 rw [flat_take, List.length_take, Nat.min_eq_left hk]
 exact Src.take h k hk c'
theorem Rd.drop {A : Option Addr} {n c : Nat} (h : Rd E w (.slice A n c) L) (k : Nat) (hk : k ≤ L.length) (hc : n ≤ c) (c' : Nat) : Rd E w (.slice (if c = k then A else A.map (·.add (k * E.s))) (n - k) c') (L.drop k) := by
 have hn : n = L.length := by
  obtain ⟨_, A', c2, he, _⟩ := h
  injection he
 subst hn
 unfold Rd
 rw [flat_drop, List.length_drop]
 exact Src.drop h k hk hc c'
end

/-- From w to w' only blocks of F, and new ones, have turned; F' are of F, or new. -/
structure Frm (F F' : List Nat) (w w' : World) : Prop where
 upd : Upd F w w'
 sub : ∀ k ∈ F', k ∈ F ∨ w.heap.size ≤ k
def Disj (F G : List Nat) : Prop := ∀ k ∈ F, k ∉ G
section
variable {F F' F'' G : List Nat} {w w' w0 w1 : World} {B : Nat}
theorem Frm.refl (F : List Nat) (w : World) : Frm F F w w := ⟨.refl _ _, fun _ h => .inl h⟩
theorem Frm.trans (h : Frm F F' w w1) (h' : Frm F' F'' w1 w') : Frm F F'' w w' :=
 ⟨h.upd.trans' h'.upd h.sub, fun k hk => (h'.sub k hk).elim (h.sub k) (fun g => .inr (Nat.le_trans h.upd.size g))⟩
theorem Frm.of0 (h : Upd [] w w') : Frm F F w w' := ⟨h.mono (by simp), fun _ h => .inl h⟩
theorem Frm.pre (h0 : Upd [] w0 w) (h : Frm F F' w w') : Frm F F' w0 w' := (Frm.of0 h0).trans h
theorem Frm.post (h : Frm F F' w w') (h0 : Upd [] w' w1) : Frm F F' w w1 := h.trans (.of0 h0)
theorem Disj.symm (h : Disj F G) : Disj G F := fun k hk hf => h k hf hk
theorem Frm.base (h : Frm F F' w w') (hB : ∀ k ∈ F, B ≤ k) (hw : B ≤ w.heap.size) : ∀ k ∈ F', B ≤ k := fun k hk => (h.sub k hk).elim (hB k) (fun hs => Nat.le_trans hw hs)
/-- What the call made, and turns: the rest stays. -/
theorem Frm.rest (h : Frm F F' w w') (h0 : Upd [] w0 w) (hF : ∀ k ∈ F, w0.heap.size ≤ k) : Upd [] w0 w' := h0.trans' h.upd (fun k hk => .inr (hF k hk))
theorem Upd.rest (h : Upd F w w') (h0 : Upd [] w0 w) (hF : ∀ k ∈ F, w0.heap.size ≤ k) : Upd [] w0 w' := h0.trans' h (fun k hk => .inr (hF k hk))
end
end Go.Proofs.YtmjnmpifibemjaaGreatDoor

namespace Go.Proofs.YtmjnmpifibemjaaGreatDoor
open Go.RowKit Go.Deep Go.WideShapes Go.ChangeShapes

/-- Whatever reads at a type is such a thing. -/
def ReadsAs {α : Type} (P : Program) (t : TypeId) (E : Enc α) (good : α → Prop) : Prop :=
 P.cellsOf t = E.s ∧ ∀ {H : Type} {enc : TypeId × Value → H} {w : World} {base : Nat} {spare : Nat → Bool} {held : Bool} {fuel : Nat} {cs : List Value} {x : DataW H × List MemPlace},
  DataW.trod enc P w base spare held fuel t cs = some x → ∃ a, cs = E.c a ∧ good a
theorem pick_list {α : Type} {Q : Nat → α → Prop} : ∀ n, (∀ i, i < n → ∃ a, Q i a) → ∃ L : List α, L.length = n ∧ ∀ i a, L[i]? = some a → Q i a
 | 0, _ => ⟨[], rfl, by simp⟩
 | n + 1, h => by
   obtain ⟨L, hl, hL⟩ := pick_list n (fun i hi => h i (by omega))
   obtain ⟨a, ha⟩ := h n (by omega)
   refine ⟨L ++ [a], by simp [hl], fun i b hb => ?_⟩
   rw [List.getElem?_append] at hb
   split at hb
   ·exact hL i b hb
   ·rename_i hi
    have hi' : i = n := by
     have := (List.getElem?_eq_some_iff.1 hb).1
     simp at this
     omega
    subst hi'
    simp [hl] at hb
    subst hb
    exact ha
section
variable {H : Type} {enc : TypeId × Value → H} {P : Program} {w : World} {base : Nat} {spare : Nat → Bool} {held : Bool}
end
/-- An integer; two; in whatever kinds. -/
def encI (q : IntKind) : Enc Int := ⟨fun a => [.int q a], 1, fun _ => rfl, by intro a u hu; simp at hu; subst hu; rfl, by omega⟩
def encII (q q' : IntKind) : Enc (Int × Int) := ⟨fun p => [.int q p.1, .int q' p.2], 2, fun _ => rfl, by intro a u hu; simp at hu; rcases hu with rfl | rfl <;> rfl, by omega⟩
def inK (q : IntKind) (a : Int) : Prop := (Lit.int q a).wf = true
end Go.Proofs.YtmjnmpifibemjaaGreatDoor

namespace Go.Proofs.YtmjnmpifibemjaaGreatDoor
open Go.RowKit Go.Deep Go.WideShapes Go.ChangeShapes St

def enCells (x : En) : List Value := [.int .i64 x.th, .int .i64 x.ix, .int .i64 x.st, .bool x.wr, .int .i64 x.be, .int .i64 x.en, .int .i64 x.kd, .slice x.ta x.tn x.tc, .int .i64 x.er]
def encE : Enc En := ⟨enCells, 9, fun _ => rfl, by intro a u hu; simp [enCells] at hu; rcases hu with rfl | rfl | rfl | rfl | rfl | rfl | rfl | rfl | rfl <;> rfl, by omega⟩
theorem list9e {α : Type} {l : List α} (h : l.length = 9) : ∃ a0 a1 a2 a3 a4 a5 a6 a7 a8, l = [a0, a1, a2, a3, a4, a5, a6, a7, a8] := by
 match l, h with
 | [a0, a1, a2, a3, a4, a5, a6, a7, a8], _ => exact ⟨a0, a1, a2, a3, a4, a5, a6, a7, a8, rfl⟩
set_option maxRecDepth 100000 in
theorem reads_en : ReadsAs Tryz.prog 42 encE (fun x => inK .i64 x.th) :=
 ⟨by kernel_rfl, fun {H enc w base spare held fuel cs x} h => by
   have c9 : Tryz.prog.cellsOf 42 = 9 := by kernel_rfl
   have c6 : Tryz.prog.cellsOf 39 = 6 := by kernel_rfl
   have c1 : Tryz.prog.cellsOf 3 = 1 := by kernel_rfl
   have cb : Tryz.prog.cellsOf 4 = 1 := by kernel_rfl
   have cs1 : Tryz.prog.cellsOf 22 = 1 := by kernel_rfl
   have ce : Tryz.prog.cellsOf 40 = 1 := by kernel_rfl
   obtain ⟨xs, n, _, _, hl, hxl, hf⟩ := DataW.trod_struct Tryz.underlying42 h
   rw [c9] at hl
   obtain ⟨v0, v1, v2, v3, v4, v5, v6, v7, v8, rfl⟩ := list9e hl
   have hx : ∀ j (hj : j < 4), xs[j]? = some (xs[j]'(by rw [hxl]; exact hj)) := fun j hj => List.getElem?_eq_getElem _
   have t0 := hf 0 _ rfl
   have t1 := hf 1 _ rfl
   have t2 := hf 2 _ rfl
   have t3 := hf 3 _ rfl
   simp only [List.getElem_toArray, List.getElem_cons_zero, List.getElem_cons_succ, c1, c6, cs1, ce, List.drop_zero, List.drop_succ_cons, List.take_succ_cons, List.take_zero, List.drop_nil, List.take_nil] at t0 t1 t2 t3
   rw [hx 0 (by omega)] at t0
   rw [hx 1 (by omega)] at t1
   rw [hx 2 (by omega)] at t2
   rw [hx 3 (by omega)] at t3
   obtain ⟨ys, m, _, _, yl, hyl, yf⟩ := DataW.trod_struct Tryz.underlying39 t0
   have hy : ∀ j (hj : j < 6), ys[j]? = some (ys[j]'(by rw [hyl]; exact hj)) := fun j hj => List.getElem?_eq_getElem _
   have s0 := yf 0 _ rfl
   have s1 := yf 1 _ rfl
   have s2 := yf 2 _ rfl
   have s3 := yf 3 _ rfl
   have s4 := yf 4 _ rfl
   have s5 := yf 5 _ rfl
   simp only [List.getElem_toArray, List.getElem_cons_zero, List.getElem_cons_succ, c1, cb, List.drop_zero, List.drop_succ_cons, List.take_succ_cons, List.take_zero, List.drop_nil, List.take_nil] at s0 s1 s2 s3 s4 s5
   rw [hy 0 (by omega)] at s0
   rw [hy 1 (by omega)] at s1
   rw [hy 2 (by omega)] at s2
   rw [hy 3 (by omega)] at s3
   rw [hy 4 (by omega)] at s4
   rw [hy 5 (by omega)] at s5
   obtain ⟨y0, g0, _, w0⟩ := DataW.trod_int Tryz.underlying3 s0
   obtain ⟨y1, g1, _, _⟩ := DataW.trod_int Tryz.underlying3 s1
   obtain ⟨y2, g2, _, _⟩ := DataW.trod_int Tryz.underlying3 s2
   obtain ⟨y3, g3, _⟩ := DataW.trod_bool Tryz.underlying4 s3
   obtain ⟨y4, g4, _, _⟩ := DataW.trod_int Tryz.underlying3 s4
   obtain ⟨y5, g5, _, _⟩ := DataW.trod_int Tryz.underlying3 s5
   obtain ⟨y6, g6, _, _⟩ := DataW.trod_int Tryz.underlying3 t1
   obtain ⟨y8, g8, _, _⟩ := DataW.trod_int Tryz.underlying40 t3
   obtain ⟨ta, tn, tc, g7⟩ : ∃ ta tn tc, v7 = .slice ta tn tc := by
    rcases DataW.trod_slice Tryz.underlying22 t2 with ⟨h0, _⟩ | ⟨a, len, cap, elems, rest, n, hfu, hcs, _⟩
    ·simp only [List.cons.injEq, and_true] at h0
     exact ⟨_, _, _, h0⟩
    ·simp only [List.cons.injEq, and_true] at hcs
     exact ⟨_, _, _, hcs⟩
   simp only [List.cons.injEq, and_true] at g0 g1 g2 g3 g4 g5 g6 g8
   subst g0 g1 g2 g3 g4 g5 g6 g7 g8
   exact ⟨⟨y0, y1, y2, y3, y4, y5, y6, y8, ta, tn, tc⟩, rfl, w0⟩⟩
end Go.Proofs.YtmjnmpifibemjaaGreatDoor

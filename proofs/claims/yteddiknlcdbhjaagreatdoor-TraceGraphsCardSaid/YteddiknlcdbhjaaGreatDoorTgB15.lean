/-
  concordref28: Graph.
  trace.Graph.
  trace.Serial.
  slices.Reverse of ints; trace.way.
  A slice of ints that lies anywhere in a row of the call's own (a queue: head taken off, appended to). No program in sight.
  trace.way.
  A ring from one transaction, step by step: no Go in sight.
-/
import Derived.Test.YteddiknlcdbhjaaGreatDoorTgB14
import Derived.Deep.RegionHeld3
import Derived.Test.YteddiknlcdbhjaaGreatDoorTgB8
import Derived.Test.YteddiknlcdbhjaaGreatDoorTgB2
import Derived.Test.YteddiknlcdbhjaaGreatDoorTgB0
import Derived.Test.YteddiknlcdbhjaaGreatDoorTgB3
import Derived.ArgAppend
import Derived.Lib.AppendZerosOnto
set_option linter.unusedVariables false
namespace Go.Proofs.YteddiknlcdbhjaaGreatDoor
open Go.RowKit TrP
attribute [local go_sem] litStep_value

theorem putE_len (l : List Ed) (x : Ed) : (putE l x).length ≤ l.length + 1 := by
  unfold putE insG
  split
  · omega
  · split
    · omega
    · simp; omega
theorem stepG_len (l : List Ev) (out : List Ed) (x : Ev) : (TrP.stepG l out x).length ≤ out.length + 2 := by
  have ha : (addW l out x).length ≤ out.length + 1 := by
    unfold addW
    split
    · exact putE_len _ _
    · omega
  unfold TrP.stepG
  split
  · split
    · have := putE_len out (x.txn, nextR l x.cell x.ver, 2); omega
    · omega
  · split
    · have := putE_len (addW l out x) (x.txn, nextR l x.cell x.ver, 3); omega
    · omega
theorem foldG_len (l : List Ev) : ∀ (r : List Ev) (out : List Ed), (r.foldl (TrP.stepG l) out).length ≤ out.length + 2 * r.length
  | [], out => by simp
  | x :: r, out => by
    rw [List.foldl_cons]
    have h1 := foldG_len l r (TrP.stepG l out x)
    have h2 := stepG_len l out x
    simp only [List.length_cons]
    omega
theorem foldG_snoc {l : List Ev} {j : Nat} {x : Ev} (hx : l[j]? = some x) : (l.take (j + 1)).foldl (TrP.stepG l) [] = TrP.stepG l ((l.take j).foldl (TrP.stepG l) []) x := by
  rw [List.take_add_one, hx, List.foldl_append]
  rfl
def GraphPost (l : List Ev) (w : World) (e : Ending) (w' : World) : Prop := ∃ u, e = .returned u ∧ Ow encE 40 w' w.heap.size u (graphR l) ∧ Upd [] w w'
set_option maxRecDepth 100000 in
set_option maxHeartbeats 4000000 in
theorem r_graph (A : Option Addr) (n k : Nat) (l : List Ev) (w : World) (h : Rd encEv w (.slice A n k) l) (hn : l.length = n) (hl : n ≤ 60) :
    Calls Tryz.prog 10 #[.slice A n k] w fun e w' => GraphPost l w e w' := by
  have H := Lib.hid h
  have HN := Lib.hid hn
  clear h hn
  go_enter Tryz.func10, Tryz.ntmps10
  go_wp2_with fail
  go_loopw [3, 4] (fun r u wr => ∃ (A' : Option Addr) (m c j : Nat), r = .slice A' m c ∧ u = .int .i64 j ∧ j ≤ n ∧ m ≤ 2 * j ∧ Hid (((l.take j).foldl (TrP.stepG l) []).length = m) ∧ Hid (Ow encE 40 wr w.heap.size (.slice A' m c) ((l.take j).foldl (TrP.stepG l) [])) ∧ Hid (Upd [] w wr)) (fun r u _ => n - (intOf u).toNat)
  case atStart => exact ⟨none, 0, 0, 0, rfl, rfl, by omega, by omega, Lib.hid rfl, Lib.hid (Ow.nil ..), Lib.hid (.refl _ _)⟩
  case round =>
    obtain ⟨A', m, c, j, rfl, rfl, hj, hm, HM, HO, U1⟩ := hrel
    by_cases hjn : j < n
    · obtain ⟨⟨xt, xc, xv, xw⟩, hx⟩ : ∃ x, l[j]? = some x := ⟨_, List.getElem?_eq_getElem (by rw [HN.out]; omega)⟩
      have H1 := Lib.hid (H.out.upd0 U1.out)
      have FS := Lib.hid (foldG_snoc hx)
      obtain ⟨L, hL⟩ : ∃ L, (l.take j).foldl (TrP.stepG l) [] = L := ⟨_, rfl⟩
      rw [hL] at FS HM HO
      obtain ⟨ad, rfl, hb, hc⟩ := H1.out.at_ hx
      have f0 : wr.cell? (ad.add (j * 4)) = some (.int .i64 xt) := hc 0 _ rfl
      have f1 : wr.cell? ⟨(ad.add (j * 4)).block, (ad.add (j * 4)).off + 1, none⟩ = some (.int .u64 xc) := by rw [← add_more]; exact hc 1 _ rfl
      have f2 : wr.cell? ⟨(ad.add (j * 4)).block, (ad.add (j * 4)).off + 2, none⟩ = some (.int .i64 xv) := by rw [← add_more]; exact hc 2 _ rfl
      have f3 : wr.cell? ⟨(ad.add (j * 4)).block, (ad.add (j * 4)).off + 3, none⟩ = some (.bool xw) := by rw [← add_more]; exact hc 3 _ rfl
      have HX := Lib.hid hx
      have q3 : (0 : Int) ≤ (j : Int) := by omega
      have q4 : (j : Int) < (n : Int) := by omega
      have WS : Hid (w.heap.size ≤ wr.heap.size) := Lib.hid U1.out.size
      clear hx hc hL
      have X1 : Hid (Blk (wr.alloc (.cells #[.int .i64 xt, .int .u64 xc, .int .i64 xv, .bool xw] 48)) wr.heap.size 48 #[.int .i64 xt, .int .u64 xc, .int .i64 xv, .bool xw]) := Lib.hid (Blk.new wr _ _)
      have V1 : Hid (Upd [] wr (wr.alloc (.cells #[.int .i64 xt, .int .u64 xc, .int .i64 xv, .bool xw] 48))) := Lib.hid ((Upd.refl [] wr).alloc _)
      go_wp2_with fail
      generalize (wr.alloc (.cells #[.int .i64 xt, .int .u64 xc, .int .i64 xv, .bool xw] 48)) = w1 at *
      refine (r_next (some ad) n k l xc xv w1 (H1.out.upd0 V1.out) HN.out (by omega)).mono ?_; rintro e w2 ⟨rfl, u2⟩
      have V2 := Lib.hid (V1.out.trans u2)
      have X2 := Lib.hid (X1.out.upd u2 (by simp))
      obtain ⟨N, hN⟩ : ∃ N, nextR l xc xv = N := ⟨_, rfl⟩
      have SG : Hid (TrP.stepG l L ⟨xt, xc, xv, xw⟩ = if xw = true then (if 0 ≤ N then putE L (xt, N, 2) else L) else if 0 ≤ N then putE (addW l L ⟨xt, xc, xv, xw⟩) (xt, N, 3) else addW l L ⟨xt, xc, xv, xw⟩) := Lib.hid (by rw [← hN]; rfl)
      rw [hN]
      have e0 : w2.cell? ⟨wr.heap.size, 0, none⟩ = some (.int .i64 xt) := X2.out.cell 0
      have e1 : w2.cell? ⟨wr.heap.size, 1, none⟩ = some (.int .u64 xc) := X2.out.cell 1
      have e2 : w2.cell? ⟨wr.heap.size, 2, none⟩ = some (.int .i64 xv) := X2.out.cell 2
      have e3 : w2.cell? ⟨wr.heap.size, 3, none⟩ = some (.bool xw) := X2.out.cell 3
      clear u2 V1 X1 f0 f1 f2 f3 hN
      cases xw with
      | true =>
        rw [if_pos rfl] at SG
        by_cases h0 : 0 ≤ N
        · have d0 : decide (0 ≤ N) = true := by simpa using h0
          rw [if_pos h0] at SG
          go_wp2_with fail
          refine (r_putE w.heap.size A' m c L (xt, N, 2) w2 (HO.out.upd0 V2.out) HM.out (by omega) (Nat.le_trans WS.out V2.out.size)).mono ?_; rintro e w3 ⟨u, rfl, o3, u3⟩
          obtain ⟨A3, c3, rfl, _, _⟩ := own_slice o3
          obtain ⟨m3, hm3⟩ : ∃ m3, (putE L (xt, N, 2)).length = m3 := ⟨_, rfl⟩
          have HM3 := Lib.hid hm3
          have O3 : Hid (Ow encE 40 w3 w.heap.size (.slice A3 m3 c3) (putE L (xt, N, 2))) := Lib.hid (by rw [← hm3]; exact o3)
          have L3 : m3 ≤ m + 1 := by rw [← hm3, ← HM.out]; exact putE_len _ _
          have V3 := Lib.hid (U1.out.trans (V2.out.trans u3))
          rw [hm3]
          clear o3 u3 hm3 e0 e1 e2 e3
          go_wp2_with fail
          go_roundw
          case rel => exact ⟨A3, m3, c3, j + 1, rfl, by go_num, by omega, by omega, Lib.hid (by rw [FS.out, SG.out]; exact HM3.out), Lib.hid (by rw [FS.out, SG.out]; exact O3.out), V3⟩
          case measure => simp [intOf]; omega
        · have d0 : decide (0 ≤ N) = false := by simpa using h0
          rw [if_neg h0] at SG
          go_wp2_with fail
          go_roundw
          case rel => exact ⟨A', m, c, j + 1, rfl, by go_num, by omega, by omega, Lib.hid (by rw [FS.out, SG.out]; exact HM.out), Lib.hid (by rw [FS.out, SG.out]; exact HO.out.upd0 V2.out), Lib.hid (U1.out.trans V2.out)⟩
          case measure => simp [intOf]; omega
      | false =>
        rw [if_neg (by simp)] at SG
        go_wp2_with fail
        refine (r_writer (some ad) n k l xc xv w2 (H1.out.upd0 V2.out) HN.out (by omega)).mono ?_; rintro e w3 ⟨r, rfl, hr, rfl⟩
        rcases hr with ⟨i, y, rfl, hy, hwr⟩ | ⟨rfl, hwr⟩
        · obtain ⟨yt, yc, yv, yw⟩ := y
          have HLa0 : Hid (addW l L ⟨xt, xc, xv, false⟩ = putE L (yt, xt, 1)) := Lib.hid (by unfold addW; rw [show wroteOf l xc xv = some yt from hwr])
          obtain ⟨La, hLa⟩ : ∃ La, putE L (yt, xt, 1) = La := ⟨_, rfl⟩
          have HLa : Hid (addW l L ⟨xt, xc, xv, false⟩ = La) := Lib.hid (by rw [HLa0.out, hLa])
          have hil : i < n := by have := (List.getElem?_eq_some_iff.1 hy).1; rw [HN.out] at this; exact this
          have r1 : (0 : Int) ≤ (i : Int) := by omega
          have r2 : (i : Int) < (n : Int) := by omega
          have HY := Lib.hid hy
          have KP : Hid (∀ W, Upd [] w2 W → W.cell? (ad.add (i * 4)) = some (.int .i64 yt) ∧ W.cell? ⟨wr.heap.size, 0, none⟩ = some (.int .i64 xt)) := Lib.hid (fun W hW => by
            obtain ⟨ad', ea, _, hc'⟩ := (H1.out.upd0 (V2.out.trans hW)).at_ HY.out
            injection ea with ea
            subst ea
            exact ⟨hc' 0 _ rfl, (X2.out.upd hW (by simp)).cell 0⟩)
          have v0 : Upd [] w2 w2.drew := (Upd.refl [] _).drew
          clear hwr hy e0 e1 e2 e3
          go_wp2_with fail
          go_region_held3 (fun W => W.cell? (ad.add (i * 4)) = some (.int .i64 yt) ∧ W.cell? ⟨wr.heap.size, 0, none⟩ = some (.int .i64 xt)) (first | exact KP.out _ v0 | exact KP.out _ (v0.trans u3))
            (first | (go_at_call 21; refine (r_putE w.heap.size A' m c L (yt, xt, 1) _ (HO.out.upd0 (V2.out.trans v0)) HM.out (by omega) (Nat.le_trans WS.out (V2.out.trans v0).size)).mono ?_; rintro e w3 ⟨u, rfl, o3, u3⟩))
          obtain ⟨A4, c4, rfl, _, _⟩ := own_slice o3
          rw [hLa] at o3
          rename World => wq
          obtain ⟨m4, hm4⟩ : ∃ m4, La.length = m4 := ⟨_, rfl⟩
          have HM4 := Lib.hid hm4
          have OA : Hid (Ow encE 40 wq w.heap.size (.slice A4 m4 c4) La) := Lib.hid (by rw [← hm4]; exact o3)
          have L4 : m4 ≤ m + 1 := by rw [← hm4, ← hLa, ← HM.out]; exact putE_len _ _
          have VQ := Lib.hid (V2.out.trans (v0.trans u3))
          have XQ := Lib.hid (X2.out.upd (v0.trans u3) (by simp))
          have e0 : wq.cell? ⟨wr.heap.size, 0, none⟩ = some (.int .i64 xt) := XQ.out.cell 0
          rw [hLa, hm4]
          clear o3 u3 hm4 v0 hLa
          -- La: what there is by now; at wq, of the world w2
          by_cases h0 : 0 ≤ N
          · have d0 : decide (0 ≤ N) = true := by simpa using h0
            rw [if_pos h0] at SG
            go_wp2_with fail
            refine (r_putE w.heap.size A4 m4 c4 La (xt, N, 3) wq OA.out HM4.out (by omega) (Nat.le_trans WS.out VQ.out.size)).mono ?_; rintro e w3 ⟨u, rfl, o3, u3⟩
            obtain ⟨A3, c3, rfl, _, _⟩ := own_slice o3
            obtain ⟨m3, hm3⟩ : ∃ m3, (putE La (xt, N, 3)).length = m3 := ⟨_, rfl⟩
            have HM3 := Lib.hid hm3
            have O3 : Hid (Ow encE 40 w3 w.heap.size (.slice A3 m3 c3) (putE La (xt, N, 3))) := Lib.hid (by rw [← hm3]; exact o3)
            have L3 : m3 ≤ m4 + 1 := by rw [← hm3, ← HM4.out]; exact putE_len _ _
            have V3 := Lib.hid (U1.out.trans (VQ.out.trans u3))
            rw [hm3]
            clear o3 u3 hm3 e0
            go_wp2_with fail
            go_roundw
            case rel => exact ⟨A3, m3, c3, j + 1, rfl, by go_num, by omega, by omega, Lib.hid (by rw [FS.out, SG.out, HLa.out]; exact HM3.out), Lib.hid (by rw [FS.out, SG.out, HLa.out]; exact O3.out), V3⟩
            case measure => simp [intOf]; omega
          · have d0 : decide (0 ≤ N) = false := by simpa using h0
            rw [if_neg h0] at SG
            go_wp2_with fail
            go_roundw
            case rel => exact ⟨A4, m4, c4, j + 1, rfl, by go_num, by omega, by omega, Lib.hid (by rw [FS.out, SG.out, HLa.out]; exact HM4.out), Lib.hid (by rw [FS.out, SG.out, HLa.out]; exact OA.out), Lib.hid (U1.out.trans VQ.out)⟩
            case measure => simp [intOf]; omega
        · have HLa : Hid (addW l L ⟨xt, xc, xv, false⟩ = L) := Lib.hid (by unfold addW; rw [show wroteOf l xc xv = none from hwr])
          clear hwr
          obtain ⟨La, hLa⟩ : ∃ La, La = L := ⟨_, rfl⟩
          obtain ⟨wq, hwq⟩ : ∃ wq, wq = w2 := ⟨_, rfl⟩
          obtain ⟨A4, hA4⟩ : ∃ A4, A4 = A' := ⟨_, rfl⟩
          obtain ⟨m4, hm4⟩ : ∃ m4, m4 = m := ⟨_, rfl⟩
          obtain ⟨c4, hc4⟩ : ∃ c4, c4 = c := ⟨_, rfl⟩
          subst hLa hwq hA4 hm4 hc4
          have HM4 := HM
          have OA := Lib.hid (HO.out.upd0 V2.out)
          have VQ := V2
          have L4 : m4 ≤ m4 + 1 := by omega
          clear e1 e2 e3
          -- La: what there is by now; at wq, of the world w2
          by_cases h0 : 0 ≤ N
          · have d0 : decide (0 ≤ N) = true := by simpa using h0
            rw [if_pos h0] at SG
            go_wp2_with fail
            refine (r_putE w.heap.size A4 m4 c4 La (xt, N, 3) wq OA.out HM4.out (by omega) (Nat.le_trans WS.out VQ.out.size)).mono ?_; rintro e w3 ⟨u, rfl, o3, u3⟩
            obtain ⟨A3, c3, rfl, _, _⟩ := own_slice o3
            obtain ⟨m3, hm3⟩ : ∃ m3, (putE La (xt, N, 3)).length = m3 := ⟨_, rfl⟩
            have HM3 := Lib.hid hm3
            have O3 : Hid (Ow encE 40 w3 w.heap.size (.slice A3 m3 c3) (putE La (xt, N, 3))) := Lib.hid (by rw [← hm3]; exact o3)
            have L3 : m3 ≤ m4 + 1 := by rw [← hm3, ← HM4.out]; exact putE_len _ _
            have V3 := Lib.hid (U1.out.trans (VQ.out.trans u3))
            rw [hm3]
            clear o3 u3 hm3 e0
            go_wp2_with fail
            go_roundw
            case rel => exact ⟨A3, m3, c3, j + 1, rfl, by go_num, by omega, by omega, Lib.hid (by rw [FS.out, SG.out, HLa.out]; exact HM3.out), Lib.hid (by rw [FS.out, SG.out, HLa.out]; exact O3.out), V3⟩
            case measure => simp [intOf]; omega
          · have d0 : decide (0 ≤ N) = false := by simpa using h0
            rw [if_neg h0] at SG
            go_wp2_with fail
            go_roundw
            case rel => exact ⟨A4, m4, c4, j + 1, rfl, by go_num, by omega, by omega, Lib.hid (by rw [FS.out, SG.out, HLa.out]; exact HM4.out), Lib.hid (by rw [FS.out, SG.out, HLa.out]; exact OA.out), Lib.hid (U1.out.trans VQ.out)⟩
            case measure => simp [intOf]; omega
    · have : j = n := by omega
      subst this
      go_wp2_with fail
      go_ret
      refine ⟨_, rfl, ?_, U1.out⟩
      have h1 := HO.out
      rw [List.take_of_length_le (by rw [HN.out]; exact Nat.le_refl _)] at h1
      exact h1
end Go.Proofs.YteddiknlcdbhjaaGreatDoor

namespace Go.Proofs.YteddiknlcdbhjaaGreatDoor
open Go Go.RowKit Go.Shelf TrP

def GraphT (l : List Ev) (w : World) (e : Ending) (w' : World) : Prop := ∃ g v, e = .returned (.tuple #[g, v]) ∧ ErrV w' v (wrongE l).1 (wrongE l).2 ∧ Upd [] w w' ∧ ((wrongE l).1 ≠ 0 → g = .slice none 0 0) ∧ ((wrongE l).1 = 0 → v = .nilIface ∧ Ow encE 40 w' w.heap.size g (graphR l))
theorem graphR_short (l : List Ev) (h : l.length ≤ 60) : (graphR l).length ≤ 120 := by
  have := foldG_len l l []
  show (l.foldl (TrP.stepG l) []).length ≤ 120
  simp at this
  omega
set_option maxRecDepth 100000 in
set_option maxHeartbeats 1000000 in
theorem t_graph (A : Option Addr) (n k : Nat) (l : List Ev) (w : World) (h : Rd encEv w (.slice A n k) l) (hn : l.length = n) (hl : n ≤ 60) (hev : ∀ x ∈ l, EvIn x) :
    Calls Tryz.prog 5 #[.slice A n k] w fun e w' => GraphT l w e w' := by
  have HT := Lib.hid (t_trace A n k l w h hn hl hev)
  have HS := Lib.hid (graphR_short l (by omega))
  clear h hn hev
  go_enter Tryz.func5, Tryz.ntmps5
  go_wp2_with fail
  refine HT.out.mono ?_; rintro e w1 ⟨t, v, rfl, he, u1, hbad, hok⟩
  have HE := Lib.hid he
  have U1 := Lib.hid u1
  have HOK := Lib.hid hok
  have HBAD := Lib.hid hbad
  clear u1 hok hbad
  rcases he with ⟨rfl, h0, _⟩ | ⟨rfl, ⟨h1, h2⟩, _⟩ | ⟨g, rfl, hb, h1, h2⟩
  · obtain ⟨_, ρ, tb, b, S, cn, ht, _, hst, hS⟩ := HOK.out h0
    subst ht
    have H0 := Lib.hid h0
    have HST := Lib.hid hst
    have HG : Hid (∀ x, x ∈ S ↔ x ∈ graphR l) := Lib.hid (fun x => by rw [hS, graphR_iff (wrongE_iff.1.1 h0).noted])
    clear h0 hst hS
    go_wp2_with fail
    refine (t_all ρ w.heap.size tb b _ _ _ w1 HST.out (fun L hL hm => ?_)).mono ?_
    · have hp : L.Perm (graphR l) := (List.perm_ext_iff_of_nodup hL ((graphR_rise l).1.imp (fun h e => by subst e; rw [ltE_irr] at h; cases h))).2 (fun x => (hm x).trans (HG.out x))
      have := hp.length_eq
      have := HS.out
      omega
    rintro e w2 ⟨gv, G, rfl, hr, hm, ho, u2⟩
    have hG : G = graphR l := riseE_uniq hr (graphR_rise l).1 (fun x => (hm x).trans (HG.out x))
    subst hG
    have HO := Lib.hid (show Ow encE 40 w2 w.heap.size gv (graphR l) from own_base ho U1.out.size)
    have U2 := Lib.hid (U1.out.trans u2)
    have H2 := Lib.hid (HE.out.upd u2)
    clear hr hm ho u2
    go_wp2_with fail
    go_ret2
    unfold GraphT
    exact ⟨_, _, rfl, H2.out, U2.out, fun h => absurd H0.out h, fun _ => ⟨rfl, HO.out⟩⟩
  · have H1 : Hid ((wrongE l).1 ≠ 0) := Lib.hid (by omega)
    have ht := HBAD.out H1.out
    subst ht
    clear h1 h2
    go_wp2_with fail
    go_ret2
    unfold GraphT
    exact ⟨_, _, rfl, HE.out, U1.out, fun _ => rfl, fun h => absurd h H1.out⟩
  · have H1 : Hid ((wrongE l).1 ≠ 0) := Lib.hid (by omega)
    have ht := HBAD.out H1.out
    subst ht
    clear h1 h2 hb
    go_wp2_with fail
    go_ret2
    unfold GraphT
    exact ⟨_, _, rfl, HE.out, U1.out, fun _ => rfl, fun h => absurd h H1.out⟩
end Go.Proofs.YteddiknlcdbhjaaGreatDoor

namespace Go.Proofs.YteddiknlcdbhjaaGreatDoor
open Go Go.RowKit TrP HeapPlain Assoc
open Vk (cntOf cntQ t_pairs rd_ints rows_at flat_intK)
attribute [local go_sem] litStep_value

def lenOfS : Value → Nat
  | .slice _ n _ => n
  | _ => 0
def SerialT (l : List Ev) (w : World) (e : Ending) (w' : World) : Prop := ∃ s v, e = .returned (.tuple #[s, v]) ∧ Upd [] w w' ∧
  ((wrongE l).1 ≠ 0 → s = .slice none 0 0 ∧ ErrV w' v (wrongE l).1 (wrongE l).2) ∧
  ((wrongE l).1 = 0 → (∀ o, serialL (graphR l) (txnsR l) = some o → Ow encK 3 w' w.heap.size s o ∧ v = .nilIface) ∧ (serialL (graphR l) (txnsR l) = none → s = .slice none 0 0 ∧ v = .iface 51 (.int .i64 12)))
theorem cntQ_cntR {l : List Ev} (hg : GOk (graphR l) (txnsR l)) : cntQ l (graphR l) = cntR (graphR l) (txnsR l) [] := by
  funext t
  unfold cntQ cntR
  rw [cnt_remain hg (graphR_rise l).1]
  have : t ∈ l.map (·.txn) ↔ t ∈ txnsR l := by rw [(txnsR_rise l).2]; simp
  by_cases h : t ∈ txnsR l
  · rw [if_pos h, if_pos (this.2 h)]
  · rw [if_neg h, if_neg (fun e => h (this.1 e))]
theorem ldP_succ {l : List Ev} (hg : GOk (graphR l) (txnsR l)) : ldP (pairsL (graphR l)) = succL (graphR l) (txnsR l) := funext fun a => ld_succ hg (graphR_rise l).1 a
/-- What trace.trace and pairs leave, if nothing is wrong. -/
def PairedSt (l : List Ev) (B : Nat) (sv : Value) (tb : Nat) (w : World) : Prop := ∃ ρ b cn S, TrSt w ρ B tb b .nilIface sv (tcOf (cntR (graphR l) (txnsR l) []) cn l S (succL (graphR l) (txnsR l))) ∧ cn ≤ 60
theorem t_paired {l : List Ev} {ρ : Rho} {B tb : Nat} {b : TB} {sv : Value} {cn : Nat} {S : List Ed} {w : World} (h : TrSt w ρ B tb b .nilIface sv (tcOf (cntOf l) cn l S (fun _ => []))) (hS : ∀ y, y ∈ S ↔ EdgeP l y) (h0 : (wrongE l).1 = 0) (hl : l.length ≤ 60) (hcn : cn ≤ 60) :
    Calls Tryz.prog 22 #[.pointer (some ⟨tb, 0, none⟩)] w fun e w' => e = .returned (.tuple #[]) ∧ PairedSt l B sv tb w' ∧ (B ≤ w.heap.size → ∀ w0, B = w0.heap.size → Upd [] w0 w → Upd [] w0 w') := by
  have hok := wrongE_iff.1.1 h0
  have hg := gok hok
  have ht := h.trim
  have hlen := graphR_short l hl
  refine (t_pairs (trimR w ρ) B tb b .nilIface sv l cn S w ht (fun x => by rw [hS, graphR_iff hok.noted]) (by omega) (fun e he => ?_) (fun x hx => by unfold trimR; rw [if_neg (by omega)])).mono ?_
  · have := hg.to e he
    rw [(txnsR_rise l).2] at this
    obtain ⟨x, hx, e⟩ := this
    exact List.mem_map.2 ⟨x, hx, e⟩
  · rintro e w' ⟨rfl, ρ', tw, hs⟩
    rw [cntQ_cntR hg, ldP_succ hg] at hs
    exact ⟨rfl, ⟨ρ', b, cn, S, hs, hcn⟩, fun _ w0 hB hu => tw.rest hu (fun x hx => by rw [← hB]; exact ht.hi x hx)⟩
theorem key_uniq {L : List IEnt} (h : (L.map (·.1)).Nodup) {x y : IEnt} (hx : x ∈ L) (hy : y ∈ L) (e : x.1 = y.1) : x = y := by
  obtain ⟨i, hi, rfl⟩ := List.getElem_of_mem hx
  obtain ⟨j, hj, rfl⟩ := List.getElem_of_mem hy
  have hp := List.pairwise_iff_getElem.1 h
  rcases Nat.lt_trichotomy i j with g | rfl | g
  · exact absurd (by rw [List.getElem_map, List.getElem_map]; exact e) (hp i j (by simpa using hi) (by simpa using hj) g)
  · rfl
  · exact absurd (by rw [List.getElem_map, List.getElem_map]; exact e.symm) (hp j i (by simpa using hj) (by simpa using hi) g)
theorem SerSt.itr {bt Rb rb cn : Nat} {wR : World} {f : Int → Option Int} {wq w' : World} {out xs : List Int} (h : SerSt bt Rb rb cn wR f wq (.slice none 0 0) out xs) {q : IntKind} {R0 : Nat} (hR : Rb < R0) (hbt : bt < Rb) {L rest : List IEnt} (hi : IIter wq q bt R0 L rest) (hu : Upd [R0] wq w') : SerSt bt Rb rb cn wR f w' (.slice none 0 0) out xs := by
  have hn := h.rd.not_iter hi
  have hk := h.rd.keep (O := fun x => x = R0) (.of_upd hu (by simp)) (fun k hk e => hn.2 (e ▸ hk))
  exact ⟨h.fr.trans (UpdP.of_upd (O := fun x => x = bt ∨ Rb ≤ x) hu (by intro x hx; simp at hx; exact .inl (.inr (by omega)))) (fun x hx => .inl hx), h.tx.upd hu (by simp; omega), hk.1, h.hp, h.ow.upd hu (fun b hb => by cases hb), fun y hy => by cases hy⟩
set_option maxRecDepth 100000 in
set_option maxHeartbeats 8000000 in
theorem t_serial (A : Option Addr) (n k : Nat) (l : List Ev) (w : World) (h : Rd encEv w (.slice A n k) l) (hn : l.length = n) (hl : n ≤ 60) (hev : ∀ x ∈ l, EvIn x) :
    Calls Tryz.prog 12 #[.slice A n k] w fun e w' => SerialT l w e w' := by
  have HT := Lib.hid (t_trace A n k l w h hn hl hev)
  have hl60 : l.length ≤ 60 := by omega
  clear h hn hev
  go_enter Tryz.func12, Tryz.ntmps12
  go_wp2_with fail
  refine HT.out.mono ?_; rintro e w1 ⟨t, v, rfl, he, u1, hbad, hok⟩
  have HE := Lib.hid he
  have U1 := Lib.hid u1
  have HOK := Lib.hid hok
  have HBAD := Lib.hid hbad
  clear u1 hok hbad
  rcases he with ⟨rfl, h0, _⟩ | ⟨rfl, ⟨h1, h2⟩, _⟩ | ⟨g, rfl, hb, h1, h2⟩
  · obtain ⟨_, ρ0, tb, b0, S0, cn0, ht, hcn0, hst0, hS0⟩ := HOK.out h0
    subst ht
    have H0 := Lib.hid h0
    have HPA := Lib.hid (t_paired hst0 hS0 h0 hl60 hcn0)
    have HB1 : Hid (w.heap.size ≤ w1.heap.size) := Lib.hid U1.out.size
    clear h0 hst0 hS0 hcn0
    go_wp2_with fail
    refine HPA.out.mono ?_; rintro e w2 ⟨rfl, ⟨ρ1, b, cn, S, hst, hcn⟩, hup⟩
    have U2 := Lib.hid (hup HB1.out w rfl U1.out)
    obtain ⟨g, hg⟩ : ∃ g, graphR l = g := ⟨_, rfl⟩
    obtain ⟨all, hall⟩ : ∃ all, txnsR l = all := ⟨_, rfl⟩
    have hgk := gok (wrongE_iff.1.1 H0.out)
    rw [hg, hall] at hst hgk
    have HG := Lib.hid hgk
    have HGG := Lib.hid hg
    have HALL := Lib.hid hall
    have hcl := imap_len hgk.rise hst.tx.2
    subst hcl
    have ST := Lib.hid hst.trim
    obtain ⟨Rb, hRb⟩ : ∃ Rb, w2.heap.size = Rb := ⟨_, rfl⟩
    have HRB := Lib.hid hRb
    have HBT : Hid (b.bt < Rb) := Lib.hid (by rw [← hRb]; exact hst.tx.2.lt)
    have KEEP : Hid (∀ y, y < w2.heap.size → y ≠ b.bt → ¬ (y = b.bt ∨ Rb ≤ y)) := Lib.hid (fun y h1 h2 h3 => h3.elim h2 (fun h => by omega))
    clear hup hst HPA HOK HBAD HE HT hg hall hgk hRb
    have V3 : Hid (Upd [] w2 (w2.alloc (.cells #[.slice none 0 0] 60))) := Lib.hid ((Upd.refl [] w2).alloc _)
    have B3 : Hid (Blk (w2.alloc (.cells #[.slice none 0 0] 60)) Rb 60 #[.slice none 0 0]) := Lib.hid (by rw [← HRB.out]; exact Blk.new w2 _ _)
    have k1 : (w2.alloc (.cells #[.slice none 0 0] 60)).cell? ⟨tb, 0, none⟩ = some (.map (some b.bt)) := (ST.out.tr.upd V3.out (by simp)).cell 0
    obtain ⟨L, w5, hr1, it, hfi, hke, _, u5, _⟩ := run_range_int (P := Tryz.prog) (mt := 61) Tryz.underlying61 (ST.out.tx.2.upd V3.out (by simp))
    have HFI : Hid (∀ k, (cntR g all [] k).map (Value.int .i64) = findI L k) := Lib.hid hfi
    have HKE := Lib.hid hke
    have IT := Lib.hid it
    have U5 : Hid (Upd [] w2 w5) := Lib.hid (V3.out.trans u5)
    have B5 := Lib.hid (B3.out.upd u5 (by simp))
    have SE5 : Hid (SerSt b.bt Rb Rb all.length w2 (cntR g all []) w5 (.slice none 0 0) [] []) := Lib.hid {
      fr := UpdP.of_upd (V3.out.trans u5) (by simp)
      tx := ST.out.tx.2.upd (V3.out.trans u5) (by simp)
      rd := ⟨⟨_, B5.out, own_nil _ _ _ _⟩, by simp, Nat.le_refl _⟩
      hp := fun k h0 hk => by simp at hk
      ow := Ow.nil _ _ _ _
      ap := fun y hy => by cases hy }
    clear it u5 hfi hke B3 B5
    go_wp2_with fail
    rw [HRB.out]
    clear k1 hr1
    rw [show (w2.alloc (.cells #[.slice none 0 0] 60)).heap.size = Rb + 1 from by simp [HRB.out]] at IT
    obtain ⟨R0, hR0⟩ : ∃ R0, Rb + 1 = R0 := ⟨_, rfl⟩
    have HR0 : Hid (Rb < R0) := Lib.hid (by omega)
    rw [hR0] at IT ⊢
    clear hR0 V3
    go_loopw [7] (fun _ wq => Hid (∃ rest xs, IIter wq .i64 b.bt R0 L rest ∧ SerSt b.bt Rb Rb all.length w2 (cntR g all []) wq (.slice none 0 0) [] xs ∧ xs.Nodup ∧ (∀ y, y ∈ xs ↔ ∃ x, x ∈ L ∧ x ∉ rest ∧ x.1 = y ∧ remain g all [] y = 0))) (fun _ wq => itLeft b.bt R0 wq)
    case atStart => exact Lib.hid ⟨L, [], IT.out, SE5.out, by simp, fun y => ⟨fun h => (by cases h), fun ⟨x, h1, h2, _⟩ => absurd h1 h2⟩⟩
    case round =>
      obtain ⟨rest, xs, hit, hse, hnd, hM⟩ := hrel.out
      rename World => wq
      have SE := Lib.hid hse
      have HNX := Lib.hid hnd
      have HM := Lib.hid hM
      have HLF := Lib.hid hit.left
      have HND := Lib.hid hit.nodup
      clear hrel hse hnd hM
      rcases run_next_int (P := Tryz.prog) hit 0 with ⟨h0, r2⟩ | ⟨⟨xk, xv, xst⟩, rest', w7, hp, r2, it2, u2, r3⟩
      · subst h0
        clear hit
        go_wp2_with fail
        clear r2
        have HPX : Hid (xs.Perm (readyL g all [])) := Lib.hid ((List.perm_ext_iff_of_nodup HNX.out (readyL_nodup HG.out [])).2 (fun y => by
          rw [HM.out, TrP.mem_ready]
          constructor
          · rintro ⟨x, h1, _, rfl, h2⟩
            have := findI_mem HKE.out h1
            rw [← HFI.out] at this
            unfold cntR at this
            by_cases e : x.1 ∈ all
            · exact ⟨e, h2⟩
            · rw [if_neg e] at this; cases this
          · rintro ⟨h1, h2⟩
            have : (findI L y).isSome = true := by rw [← HFI.out]; unfold cntR; rw [if_pos h1]; rfl
            obtain ⟨x, hx, e⟩ := List.mem_map.1 (findI_some.1 this)
            exact ⟨x, hx, by simp, e, h2⟩))
        clear HFI HKE IT HLF HND HM HNX SE5 U5
        obtain ⟨sb, hsb⟩ : ∃ sb, serialL g all = sb := ⟨_, rfl⟩
        have HSB := Lib.hid hsb
        go_loopw [9] (fun vo wq => Hid (∃ out xs, SerSt b.bt Rb Rb all.length w2 (cntR g all out) wq vo out xs ∧ xs.Perm (readyL g all out) ∧ Ser g all out ∧ serialL g all = serialGo g all (all.length - out.length) out)) (fun vo _ => 61 - lenOfS vo)
        case atStart => exact Lib.hid ⟨[], xs, SE.out, HPX.out, Ser.nil, rfl⟩
        case round =>
          obtain ⟨out, xs, se, px, sr, hv⟩ := hrel.out
          rename World => wz
          have SE := Lib.hid se
          have PX := Lib.hid px
          have SR := Lib.hid sr
          have HV := Lib.hid hv
          obtain ⟨Ao, co, rfl, _, _⟩ := se.ow.form
          obtain ⟨no, hno⟩ : ∃ no, out.length = no := ⟨_, rfl⟩
          rw [hno] at SE hv ⊢
          have HNO := Lib.hid hno
          have hno60 : no ≤ 60 := by
            have := len_sub sr.nodup sr.sub
            omega
          clear hrel se px sr hv hsb hno
          go_wp2_with fail
          refine (rdy_len Rb Rb xs wz SE.out.rd).mono ?_; rintro e wa ⟨rfl, rda, fa⟩
          have SEA := Lib.hid (SE.out.heap HBT.out rda SE.out.hp fa)
          clear rda fa
          have TRA : Hid (Blk wa tb 67 #[.map (some b.bt), .map (some b.bw), .map (some b.br), .map (some b.be), .map (some b.bl), .nilIface, .slice A n k]) := Lib.hid (ST.out.tr.updP SEA.out.fr (KEEP.out tb ST.out.tr.lt (fun e => by have h1 := ST.out.rt; rw [e, ST.out.tx.1] at h1; cases h1)))
          cases hxs : xs with
          | nil =>
            subst hxs
            have k1 : wa.cell? ⟨tb, 0, none⟩ = some (.map (some b.bt)) := TRA.out.cell 0
            have ln : (Builtin.len_ #[61] 3 #[.map (some b.bt)]).run Tryz.prog wa = .ok (.int .i64 all.length) wa := run_len_int Tryz.underlying61 SEA.out.tx _
            have hend := go_end HV.out (List.Perm.eq_nil PX.out.symm)
            have hU : Hid (Upd [] w wa) := Lib.hid (U2.out.trans' (S := []) (T := []) (Upd.refl [] w2) (by simp) |> fun h => SEA.out.fr.to_upd h (fun x hx => by
              have h1 := h.size
              have h2 := HRB.out
              rcases hx with rfl | hx
              · exact ST.out.hi _ (by rw [ST.out.tx.1]; simp)
              · omega))
            by_cases hlt : no < all.length
            · have d : decide ((no : Int) < (all.length : Int)) = true := by simp; omega
              have d2 : decide (no < all.length) = true := by simp; omega
              have HEND : Hid (serialL g all = none) := Lib.hid (by rw [hend, if_pos (by rw [HNO.out]; exact hlt)])
              clear hend hlt
              go_wp2_with fail
              go_ret2
              unfold SerialT
              rw [HGG.out, HALL.out, HEND.out]
              exact ⟨_, _, rfl, hU.out, fun h => absurd H0.out h, fun _ => ⟨fun o h => (by cases h), fun _ => ⟨rfl, rfl⟩⟩⟩
            · have d : decide ((no : Int) < (all.length : Int)) = false := by simp; omega
              have d2 : decide (no < all.length) = false := by simp; omega
              have HEND : Hid (serialL g all = some out) := Lib.hid (by rw [hend, if_neg (by rw [HNO.out]; exact hlt)])
              clear hend hlt
              go_wp2_with fail
              go_ret2
              unfold SerialT
              rw [HGG.out, HALL.out, HEND.out]
              refine ⟨_, _, rfl, hU.out, fun h => absurd H0.out h, fun _ => ⟨fun o h => ?_, fun h => (by cases h)⟩⟩
              cases h
              exact ⟨own_base SEA.out.ow (by have h1 := U2.out.size; have h2 := HRB.out; omega), rfl⟩
          | cons x xt =>
            have hxl : xs.length = xt.length + 1 := by rw [hxs]; rfl
            have HXL := Lib.hid hxl
            have hx0 : xs.getD 0 default = x := by rw [hxs]; rfl
            have HX0 := Lib.hid hx0
            have hxr : x ∈ readyL g all out := PX.out.mem_iff.1 (by rw [hxs]; simp)
            have hmn : ∀ y ∈ readyL g all out, x ≤ y := fun y hy => by rw [← hx0]; exact least_head hxl SEA.out.hp y (PX.out.mem_iff.2 hy)
            obtain ⟨g1, g2, g3, g4, g5, g6⟩ := go_step HG.out SR.out HV.out hxr hmn
            have SR1 := Lib.hid g1
            have HV1 := Lib.hid g2
            have HXA := Lib.hid g3
            have HXO := Lib.hid g4
            have HXP := Lib.hid g5
            have hnoc : no + 1 ≤ 60 := by have := HNO.out; omega
            obtain ⟨rv, rb1, ro1⟩ := SEA.out.rd.obj
            obtain ⟨rg, rc, rcur, rfl, _, rbg, rnc, rcm, _, _⟩ := own_form ro1 (by rw [hxl]; omega)
            have k0 : wa.cell? ⟨Rb, 0, none⟩ = some (.slice (some ⟨rg, 0, none⟩) xs.length rc) := rb1.cell 0
            have k1 : wa.cell? ⟨rg, 0, none⟩ = some (.int .i64 x) := own_cell ro1 0 _ (by rw [hxs]; rfl)
            have hpos : decide ((0 : Int) < ((xt.length : Int) + 1)) = true := decide_eq_true (by omega)
            have hpos2 : (0 : Int) < (xt.length : Int) + 1 := by omega
            rw [hxl] at k0
            obtain ⟨xm, hxm⟩ : ∃ xm, xt.length = xm := ⟨_, rfl⟩
            rw [hxm] at k0 hpos hpos2 hxl
            have HXM : Hid (xs.length = xm + 1) := Lib.hid hxl
            clear g1 g2 g3 g4 g5 g6 rb1 ro1 rbg hxl hx0 hxr hmn
            rw [show (((x :: xt).length : Nat) : Int) = ((xm : Int) + 1) from by simp [hxm]]
            clear hxs hxm
            go_wp2_with fail
            clear k0 k1 hpos hpos2
            refine (hp_pop Rb Rb xs xm wa SEA.out.rd HXM.out SEA.out.hp).mono ?_; rintro e wb ⟨rfl, ys, rdb, pb, hb, fb⟩
            rw [HX0.out] at pb
            have SEB := Lib.hid ((SEA.out.heap HBT.out rdb hb fb).upd0 ((Upd.refl [] wb).alloc (.cells #[.int .i64 x] 3)))
            have PB : Hid ((x :: ys).Perm (readyL g all out)) := Lib.hid (pb.trans PX.out)
            have OWB : Hid ((wb.alloc (.cells #[.int .i64 x] 3)).ownsRow Rb 3 1 (.slice Ao no co) no (flat encK out)) := Lib.hid (by have := SEB.out.ow; unfold Ow at this; rw [HNO.out] at this; exact this)
            have HRW : Hid (Rb ≤ (wb.alloc (.cells #[.int .i64 x] 3)).heap.size) := Lib.hid (by have h1 := SEB.out.fr.size; have h2 := HRB.out; omega)
            clear rdb pb hb fb SEA TRA SE PX
            go_wp2_with (at_builtin; refine stoppedR ?_)
            refine Lib.hid ?_
            refine wpList_app _ (by rfl) (.tmp 54) (.tmp 56) _ (by rfl) int_elem (.slice Ao no co) _ (by rfl) (by rfl) OWB.out (.of_blk (Blk.new wb 3 #[.int .i64 x]) (m := 1) 1 rfl) (by intro u hu; simp at hu; subst hu; rfl) (by simp only [maxLen]; omega) (by omega) HRW.out ?_
            intro v5 W5 o5 u5 b5
            have SE5 : Hid (SerSt b.bt Rb Rb all.length w2 (cntR g all out) W5 v5 (out ++ [x]) ys) := Lib.hid (SEB.out.app HBT.out u5 (by
              unfold Ow
              rw [flat_append, List.length_append, HNO.out]
              exact o5) (b5.imp id (fun e => ⟨_, e, Nat.le_refl _⟩)))
            obtain ⟨A5, c5, rfl, _, _⟩ := own_slice o5
            clear o5 u5 b5 SEB OWB HRW
            have TR5 : Hid (Blk W5 tb 67 #[.map (some b.bt), .map (some b.bw), .map (some b.br), .map (some b.be), .map (some b.bl), .nilIface, .slice A n k]) := Lib.hid (ST.out.tr.updP SE5.out.fr (KEEP.out tb ST.out.tr.lt (fun e => by have h1 := ST.out.rt; rw [e, ST.out.tx.1] at h1; cases h1)))
            obtain ⟨lg, lm, vv, ig, hvv, hown, hro, _⟩ := rows_at ST.out.ld.2 x
            have ho2 : w2.ownsRow w.heap.size 3 1 vv (succL g all x).length ((succL g all x).map (.int .i64)) := hown
            obtain ⟨ls, hls⟩ : ∃ ls, succL g all x = ls := ⟨_, rfl⟩
            rw [hls] at ho2
            have HLS := Lib.hid hls
            obtain ⟨A1, c1, rfl, hnc1, hcm1⟩ := own_slice ho2
            obtain ⟨n1, hn1⟩ : ∃ n1, ls.length = n1 := ⟨_, rfl⟩
            have hn160 : n1 ≤ 60 := by
              have : (succL g all x).length ≤ all.length := List.length_filter_le _ _
              rw [hls] at this
              omega
            rw [hn1] at ho2 hnc1 hvv hro
            have HN1 := Lib.hid hn1
            have OW := Lib.hid ho2
            have HRO := Lib.hid hro
            have hbl : ¬ (b.bl = b.bt ∨ Rb ≤ b.bl) := KEEP.out b.bl ST.out.ld.2.lt (fun e => by have h1 := ST.out.ld.1; rw [e, ST.out.tx.1] at h1; cases h1)
            have k4 : W5.cell? ⟨tb, 4, none⟩ = some (.map (some b.bl)) := TR5.out.cell 4
            have r4 : (Instr.lookup 65 (.map (some b.bl)) (.int .i64 x) false).run Tryz.prog W5 = .ok (.slice A1 n1 c1) W5 := by
              rw [run_lookup_int' Tryz.underlying65 Tryz.underlying3 (Tryz.zeroValue36 W5) (ig.updP SE5.out.fr hbl) x, hvv]
            clear hown hro hls hn1 ho2 ig hvv hbl hnc1 hcm1
            go_wp2_with fail
            clear k4 r4
            go_loopw [65] (fun u wx => ∃ j : Nat, u = .int .i64 j ∧ j ≤ n1 ∧ Hid (∃ zs, SerSt b.bt Rb Rb all.length w2 (cntI g all out x j) wx (.slice A5 (no + 1) c5) (out ++ [x]) zs ∧ zs.Perm (rdyI g all out x ys j))) (fun u _ => n1 - (intOf u).toNat)
            case atStart => exact ⟨0, rfl, by omega, Lib.hid ⟨ys, by rw [← cntI_start HG.out HXA.out HXO.out]; exact SE5.out, by simp [rdyI]⟩⟩
            case round =>
              obtain ⟨j, rfl, hj, HRELJ⟩ := hrel
              rename World => wx
              obtain ⟨zs, sz, pz⟩ := HRELJ.out
              have SZ := Lib.hid sz
              have PZ := Lib.hid pz
              clear sz pz
              by_cases hjn : j < n1
              · obtain ⟨y, hy⟩ : ∃ y, ls[j]? = some y := ⟨_, List.getElem?_eq_getElem (by rw [HN1.out]; exact hjn)⟩
                have HY : Hid ((succL g all x)[j]? = some y) := Lib.hid (by rw [HLS.out]; exact hy)
                have ow : wx.ownsRow w.heap.size 3 1 (.slice A1 n1 c1) n1 (ls.map (.int .i64)) := own_updP OW.out SZ.out.fr (fun q hq => KEEP.out q (own_lt OW.out hq).2 (fun e => by have h1 := HRO.out q hq; rw [e, ST.out.tx.1] at h1; cases h1))
                obtain ⟨lb, lc, lcur, e, _, _, _, _, _, _⟩ := own_form ow (by omega)
                injection e with e1 e2 e3
                subst e1 e3
                clear e2
                have f0 : wx.cell? ⟨lb, j, none⟩ = some (.int .i64 y) := own_cell ow j _ (by rw [List.getElem?_map, hy]; rfl)
                have tr := ST.out.tr.updP SZ.out.fr (KEEP.out tb ST.out.tr.lt (fun e => by have h1 := ST.out.rt; rw [e, ST.out.tx.1] at h1; cases h1))
                have f1 : wx.cell? ⟨tb, 0, none⟩ = some (.map (some b.bt)) := tr.cell 0
                obtain ⟨r, hr⟩ : ∃ r, remain g all (out ++ [x]) y = r := ⟨_, rfl⟩
                have HRR := Lib.hid hr
                have hr60 : r ≤ 60 := by rw [← hr]; exact Nat.le_trans (remain_len _) hcn
                have hat : cntI g all out x j y = some ((r : Int) + 1) := by rw [← hr]; exact cntI_at HY.out
                obtain ⟨z, hz⟩ : ∃ z : Int, (r : Int) + 1 = z := ⟨_, rfl⟩
                rw [hz] at hat
                have hz1 : 1 ≤ z := by omega
                have hz2 : z ≤ 61 := by omega
                have f2 : (Instr.lookup 61 (.map (some b.bt)) (.int .i64 y) false).run Tryz.prog wx = .ok (.int .i64 z) wx := by
                  rw [run_lookup_int' Tryz.underlying61 Tryz.underlying3 (Tryz.zeroValue3 wx) SZ.out.tx y, hat]
                  rfl
                obtain ⟨wy, f3, im, hu3⟩ := run_mapUpdate_int (P := Tryz.prog) Tryz.underlying61 Tryz.underlying3 SZ.out.tx y (.int .i64 (z - 1))
                have hnx : ∀ t, putI (fun k => (cntI g all out x j k).map (Value.int .i64)) y (.int .i64 (z - 1)) t = (cntI g all out x (j + 1) t).map (Value.int .i64) := fun t => by
                  rw [cntI_next HG.out HY.out t]
                  unfold putI
                  by_cases e : t = y
                  · rw [if_pos e, if_pos e, hr]
                    show _ = some (Value.int .i64 (r : Int))
                    rw [show z - 1 = (r : Int) by omega]
                  · rw [if_neg e, if_neg e]
                have im2 : IMap wy .i64 b.bt (fun k => (cntI g all out x (j + 1) k).map (Value.int .i64)) all.length := by
                  have h1 := im.congr hnx
                  rw [hat] at h1
                  exact h1
                have SY := Lib.hid (SZ.out.setTx HBT.out hu3 im2)
                have f4 : wy.cell? ⟨tb, 0, none⟩ = some (.map (some b.bt)) := (ST.out.tr.updP SY.out.fr (KEEP.out tb ST.out.tr.lt (fun e => by have h1 := ST.out.rt; rw [e, ST.out.tx.1] at h1; cases h1))).cell 0
                have f5 : (Instr.lookup 61 (.map (some b.bt)) (.int .i64 y) false).run Tryz.prog wy = .ok (.int .i64 (z - 1)) wy := by
                  rw [run_lookup_int' Tryz.underlying61 Tryz.underlying3 (Tryz.zeroValue3 wy) SY.out.tx y, ← hnx y]
                  unfold putI
                  rw [if_pos rfl]
                  rfl
                have q3 : (0 : Int) ≤ (j : Int) := by omega
                have q4 : (j : Int) < (n1 : Int) := by omega
                have HZR : Hid (z - 1 = (r : Int)) := Lib.hid (by omega)
                clear hat hr hz im im2 hu3 hnx tr ow hy HRELJ
                by_cases h0 : r = 0
                · have d : ((z - 1 : Int) == 0) = true := by have := HZR.out; simp; omega
                  have HZ0 := Lib.hid h0
                  have hzl : zs.length < 1000 := by
                    have h1 := PZ.out.length_eq
                    have h2 := rdyI_len (g := g) (all := all) (out := out) (n := x) (H := ys) (i := j)
                    have h3 := PB.out.length_eq
                    rw [List.length_cons] at h3
                    have h4 := readyL_len (g := g) (all := all) (out := out)
                    omega
                  clear h0
                  go_wp2_with fail
                  refine (hp_push Rb Rb zs y wy SY.out.rd SY.out.hp hzl).mono ?_; rintro e wv ⟨rfl, us, rdv, pv, hv, fv⟩
                  have SV := Lib.hid (SY.out.heap HBT.out rdv hv fv)
                  have PV : Hid (us.Perm (rdyI g all out x ys (j + 1))) := Lib.hid (by
                    rw [rdyI_next HY.out, HRR.out, if_pos HZ0.out]
                    exact pv.trans ((List.Perm.cons y PZ.out).trans (List.perm_append_comm (l₁ := [y])))) 
                  clear rdv pv hv fv f0 f1 f2 f3 f4 f5
                  go_wp2_with fail
                  go_roundw
                  case rel => exact ⟨j + 1, by go_num, by omega, Lib.hid ⟨us, SV.out, PV.out⟩⟩
                  case measure => simp [intOf]; omega
                · have d : ((z - 1 : Int) == 0) = false := by have := HZR.out; simp; omega
                  have HZ0 := Lib.hid h0
                  clear h0
                  go_wp2_with fail
                  go_roundw
                  case rel => exact ⟨j + 1, by go_num, by omega, Lib.hid ⟨zs, SY.out, by rw [rdyI_next HY.out, HRR.out, if_neg HZ0.out, List.append_nil]; exact PZ.out⟩⟩
                  case measure => simp [intOf]; omega
              · have : j = n1 := by omega
                subst this
                have hle : (succL g all x).length ≤ j := by rw [HLS.out, HN1.out]; exact Nat.le_refl _
                have HREL : Hid (∃ out xs, SerSt b.bt Rb Rb all.length w2 (cntR g all out) wx (.slice A5 (no + 1) c5) out xs ∧ xs.Perm (readyL g all out) ∧ Ser g all out ∧ serialL g all = serialGo g all (all.length - out.length) out) := Lib.hid ⟨out ++ [x], zs, by rw [← cntI_end hle]; exact SZ.out, by
                  refine PZ.out.trans ?_
                  unfold rdyI
                  rw [List.take_of_length_le hle]
                  exact ready_next HG.out SR.out HXA.out HXP.out PB.out, SR1.out, HV1.out⟩
                clear hle
                go_wp2_with fail
                go_roundw
                case rel => exact HREL
                case measure => simp [lenOfS]; omega
      · have hxL : (xk, xv, xst) ∈ L := (HND.out.2 _ (hp.mem_iff.1 (List.mem_cons_self ..)))
        have hfx : (cntR g all [] xk).map (Value.int .i64) = some xv := by rw [HFI.out, findI_mem HKE.out hxL]
        obtain ⟨hxa, rfl⟩ : xk ∈ all ∧ xv = .int .i64 (remain g all [] xk : Int) := by
          unfold cntR at hfx
          by_cases e : xk ∈ all
          · rw [if_pos e] at hfx; cases hfx; exact ⟨e, rfl⟩
          · rw [if_neg e] at hfx; cases hfx
        obtain ⟨rm, hrm⟩ : ∃ rm, remain g all [] xk = rm := ⟨_, rfl⟩
        have SE7 : Hid (SerSt b.bt Rb Rb all.length w2 (cntR g all []) w7 (.slice none 0 0) [] xs) := Lib.hid (SE.out.itr HR0.out HBT.out hit u2)
        have HGO : Hid (∀ z : IEnt, z ∉ rest' ↔ z ∉ rest ∨ z = (xk, .int .i64 (remain g all [] xk : Int), xst)) := Lib.hid (gone_step hp HND.out.1)
        have IT2 := Lib.hid it2
        have HP := Lib.hid hp.length_eq
        have HXL := Lib.hid hxL
        have HXA := Lib.hid hxa
        have HXN : Hid (xk ∉ xs) := Lib.hid (fun hm => by
          obtain ⟨z, z1, z2, z3, _⟩ := (HM.out xk).1 hm
          have : z = (xk, .int .i64 (remain g all [] xk : Int), xst) := key_uniq HKE.out z1 hxL z3
          rw [this] at z2
          exact z2 (hp.mem_iff.1 (List.mem_cons_self ..)))
        clear hit hp it2 u2 hxL hxa hfx
        rw [hrm] at r2 r3 HGO HXL
        have HRM := Lib.hid hrm
        clear hrm
        have hrm0 : rm ≤ 60 := by rw [← HRM.out]; exact Nat.le_trans (remain_len _) hcn
        by_cases h0 : rm = 0
        · have HZ := Lib.hid h0
          have d : ((rm : Int) == 0) = true := by simp [h0]
          have hxl : xs.length < 1000 := by
            have := len_sub HNX.out (m := all) (fun y hy => by
              obtain ⟨z, z1, _, rfl, _⟩ := (HM.out y).1 hy
              have := findI_mem HKE.out z1
              rw [← HFI.out] at this
              unfold cntR at this
              by_cases e : z.1 ∈ all
              · exact e
              · rw [if_neg e] at this; cases this)
            omega
          clear h0
          go_wp2_with fail
          refine (hp_push Rb Rb xs xk w7 SE7.out.rd SE7.out.hp hxl).mono ?_; rintro e w8 ⟨rfl, ys, rd8, p8, h8, f8⟩
          have SE8 := Lib.hid (SE7.out.heap HBT.out rd8 h8 f8)
          have IT8 := Lib.hid (IT2.out.updP f8.1 (fun hx => (SE7.out.rd.not_iter IT2.out).1 hx) (fun hx => (SE7.out.rd.not_iter IT2.out).2 hx))
          have P8 := Lib.hid p8
          clear rd8 p8 h8 f8
          have HLL : Hid (itLeft b.bt R0 w8 < itLeft b.bt R0 wq) := Lib.hid (by rw [IT8.out.left, HLF.out, ← HP.out]; simp)
          have HREL : Hid (∃ rest xs, IIter w8 .i64 b.bt R0 L rest ∧ SerSt b.bt Rb Rb all.length w2 (cntR g all []) w8 (.slice none 0 0) [] xs ∧ xs.Nodup ∧ (∀ y, y ∈ xs ↔ ∃ x, x ∈ L ∧ x ∉ rest ∧ x.1 = y ∧ remain g all [] y = 0)) := Lib.hid ⟨rest', ys, IT8.out, SE8.out, P8.out.symm.nodup_iff.1 (List.nodup_cons.2 ⟨HXN.out, HNX.out⟩), fun y => by
            rw [P8.out.mem_iff, List.mem_cons, HM.out]
            constructor
            · rintro (rfl | ⟨x, h1, h2, h3⟩)
              · exact ⟨_, HXL.out, (HGO.out _).2 (.inr rfl), rfl, by rw [HRM.out]; exact HZ.out⟩
              · exact ⟨x, h1, (HGO.out x).2 (.inl h2), h3⟩
            · rintro ⟨x, h1, h2, h3, h4⟩
              rcases (HGO.out x).1 h2 with h5 | rfl
              · exact .inr ⟨x, h1, h5, h3, h4⟩
              · exact .inl h3.symm⟩
          go_wp2_with fail
          go_roundw
          case rel => exact HREL
          case measure => exact HLL.out
        · have HZ : Hid (rm ≠ 0) := Lib.hid h0
          have d : ((rm : Int) == 0) = false := by simp [h0]
          have HLL : Hid (itLeft b.bt R0 w7 < itLeft b.bt R0 wq) := Lib.hid (by rw [IT2.out.left, HLF.out, ← HP.out]; simp)
          have HREL : Hid (∃ rest xs, IIter w7 .i64 b.bt R0 L rest ∧ SerSt b.bt Rb Rb all.length w2 (cntR g all []) w7 (.slice none 0 0) [] xs ∧ xs.Nodup ∧ (∀ y, y ∈ xs ↔ ∃ x, x ∈ L ∧ x ∉ rest ∧ x.1 = y ∧ remain g all [] y = 0)) := Lib.hid ⟨rest', xs, IT2.out, SE7.out, HNX.out, fun y => by
            rw [HM.out]
            constructor
            · rintro ⟨x, h1, h2, h3⟩
              exact ⟨x, h1, (HGO.out x).2 (.inl h2), h3⟩
            · rintro ⟨x, h1, h2, h3, h4⟩
              rcases (HGO.out x).1 h2 with h5 | rfl
              · exact ⟨x, h1, h5, h3, h4⟩
              · subst h3
                exact absurd (HRM.out.symm.trans h4) HZ.out⟩
          clear h0
          go_wp2_with fail
          go_roundw
          case rel => exact HREL
          case measure => exact HLL.out
  · have H1 : Hid ((wrongE l).1 ≠ 0) := Lib.hid (by omega)
    have ht := HBAD.out H1.out
    subst ht
    clear h1 h2
    go_wp2_with fail
    go_ret2
    unfold SerialT
    exact ⟨_, _, rfl, U1.out, fun _ => ⟨rfl, HE.out⟩, fun h => absurd h H1.out⟩
  · have H1 : Hid ((wrongE l).1 ≠ 0) := Lib.hid (by omega)
    have ht := HBAD.out H1.out
    subst ht
    clear h1 h2 hb
    go_wp2_with fail
    go_ret2
    unfold SerialT
    exact ⟨_, _, rfl, U1.out, fun _ => ⟨rfl, HE.out⟩, fun h => absurd h H1.out⟩
end Go.Proofs.YteddiknlcdbhjaaGreatDoor

namespace Go.Proofs.YteddiknlcdbhjaaGreatDoor
open Go Go.RowKit TrP
open Vk (flat_intK)
attribute [local go_sem] litStep_value

/-- The first i and the last i have changed places. -/
def RevI (xs L : List Int) (i : Nat) : Prop := L.length = xs.length ∧ ∀ k, k < xs.length → L.getD k 0 = if k < i ∨ xs.length - i ≤ k then xs.getD (xs.length - 1 - k) 0 else xs.getD k 0
theorem RevI.start (xs : List Int) : RevI xs xs 0 := ⟨rfl, fun k hk => by rw [if_neg (by omega)]⟩
theorem getD_setL {L : List Int} {i k : Nat} {x : Int} (hi : i < L.length) : (L.set i x).getD k 0 = if k = i then x else L.getD k 0 := by
  rw [List.getD_eq_getElem?_getD, List.getElem?_set]
  by_cases e : k = i
  · subst e; simp [hi]
  · rw [if_neg (fun h => e h.symm), if_neg e, List.getD_eq_getElem?_getD]
theorem RevI.step {xs L : List Int} {i : Nat} (h : RevI xs L i) (hi : i < xs.length - 1 - i) : RevI xs ((L.set i (L.getD (xs.length - 1 - i) 0)).set (xs.length - 1 - i) (L.getD i 0)) (i + 1) := by
  obtain ⟨h1, h2⟩ := h
  refine ⟨by simp [h1], fun k hk => ?_⟩
  rw [getD_setL (by simp; omega), getD_setL (by omega)]
  have e1 := h2 i (by omega)
  have e2 := h2 (xs.length - 1 - i) (by omega)
  have e3 := h2 k hk
  rw [if_neg (by omega)] at e1 e2
  by_cases k1 : k = xs.length - 1 - i
  · rw [if_pos k1, if_pos (by omega), e1]
    congr 1
    omega
  · rw [if_neg k1]
    by_cases k2 : k = i
    · rw [if_pos k2, if_pos (by omega), e2, k2]
    · rw [if_neg k2, e3]
      by_cases k3 : k < i ∨ xs.length - i ≤ k
      · rw [if_pos k3, if_pos (by omega)]
      · rw [if_neg k3, if_neg (by omega)]
theorem RevI.done {xs L : List Int} {i : Nat} (h : RevI xs L i) (hi : ¬ (i + i + 1 < xs.length)) : L = xs.reverse := by
  obtain ⟨h1, h2⟩ := h
  refine List.ext_getElem (by simp [h1]) (fun k hk hk' => ?_)
  rw [List.length_reverse] at hk'
  have e := h2 k hk'
  rw [List.getElem_reverse]
  rw [List.getD_eq_getElem?_getD, List.getElem?_eq_getElem hk] at e
  by_cases k3 : k < i ∨ xs.length - i ≤ k
  · rw [if_pos k3, List.getD_eq_getElem?_getD, List.getElem?_eq_getElem (by omega)] at e
    simpa using e
  · have : k = xs.length - 1 - k := by omega
    rw [if_neg k3, List.getD_eq_getElem?_getD, List.getElem?_eq_getElem hk'] at e
    simp at e
    rw [e]
    congr 1
def RevPost (B : Nat) (g n c : Nat) (xs : List Int) (w : World) (e : Ending) (w' : World) : Prop := e = .returned (.tuple #[]) ∧ w'.ownsRow B 3 1 (.slice (some ⟨g, 0, none⟩) n c) n (xs.reverse.map (.int .i64)) ∧ Upd [g] w w'
set_option maxRecDepth 100000 in
set_option maxHeartbeats 2000000 in
theorem reverse_ok (B g n c : Nat) (xs : List Int) (w : World) (h : w.ownsRow B 3 1 (.slice (some ⟨g, 0, none⟩) n c) n (xs.map (.int .i64))) (hn : xs.length = n) (hl : n ≤ 1000) :
    Calls Tryz.prog 60 #[.slice (some ⟨g, 0, none⟩) n c] w fun e w' => RevPost B g n c xs w e w' := by
  have H := Lib.hid h
  have HN := Lib.hid hn
  clear h hn
  go_enter Tryz.func60, Tryz.ntmps60
  go_wp2_with fail
  go_loopw [2, 3] (fun u v wq => ∃ i : Nat, u = .int .i64 i ∧ v = .int .i64 ((n : Int) - 1 - i) ∧ i ≤ n ∧ Hid (∃ L, RevI xs L i ∧ wq.ownsRow B 3 1 (.slice (some ⟨g, 0, none⟩) n c) n (L.map (.int .i64)) ∧ Upd [g] w wq)) (fun u _ _ => n - (intOf u).toNat)
  case atStart => exact ⟨0, rfl, by simp, by omega, Lib.hid ⟨xs, RevI.start xs, H.out, .refl _ _⟩⟩
  case round =>
    obtain ⟨i, rfl, rfl, hi, HREL⟩ := hrel
    rename World => wq
    obtain ⟨L, hr, ho, hu⟩ := HREL.out
    have HR := Lib.hid hr
    have HO := Lib.hid ho
    have HU := Lib.hid hu
    have HLL : Hid (L.length = n) := Lib.hid (hr.1.trans HN.out)
    clear hr hu HREL
    by_cases hlt : i + i + 1 < n
    · obtain ⟨j, hj⟩ : ∃ j, n - 1 - i = j := ⟨_, rfl⟩
      have hji : (n : Int) - 1 - (i : Int) = (j : Int) := by omega
      obtain ⟨x, hx⟩ : ∃ x, L[i]? = some x := ⟨_, List.getElem?_eq_getElem (by rw [HLL.out]; omega)⟩
      obtain ⟨y, hy⟩ : ∃ y, L[j]? = some y := ⟨_, List.getElem?_eq_getElem (by rw [HLL.out]; omega)⟩
      have HST : Hid (RevI xs ((L.set i y).set j x) (i + 1)) := Lib.hid (by
        have h1 := HR.out.step (by rw [HN.out]; omega)
        rw [HN.out, hj] at h1
        have e1 : L.getD i 0 = x := by rw [List.getD_eq_getElem?_getD, hx]; rfl
        have e2 : L.getD j 0 = y := by rw [List.getD_eq_getElem?_getD, hy]; rfl
        rw [e1, e2] at h1
        exact h1)
      rw [hji]
      have CS : Hid (∀ W, Upd [] wq.drew W → W.cell? ⟨g, i, none⟩ = some (.int .i64 x) ∧ W.cell? ⟨g, j, none⟩ = some (.int .i64 y)) := Lib.hid (fun W hW => by
        have hu : Upd [] wq W := (Upd.refl [] wq).drew.trans hW
        have ho' := own_upd0 ho hu
        exact ⟨own_cell ho' _ _ (map_int_get hx), own_cell ho' _ _ (map_int_get hy)⟩)
      have q1 : (0 : Int) ≤ (i : Int) := by omega
      have q2 : (i : Int) < (n : Int) := by omega
      have q3 : (0 : Int) ≤ (j : Int) := by omega
      have q4 : (j : Int) < (n : Int) := by omega
      have q5 : (i : Int) < (j : Int) := by omega
      have q6 : i < j := by omega
      have HJ : Hid ((n : Int) - 1 - ((i + 1 : Nat) : Int) = (j : Int) - 1) := Lib.hid (by omega)
      clear ho hx hy hji hj
      go_wp2_with fail
      refine wp_invNT 12 [] [] (by kernel_rfl) (by simp) (by kernel_rfl) (by kernel_rfl) trivial ?_
      simp only [List.take_succ_cons, List.take_zero, List.drop_succ_cons, List.drop_zero]
      with_reducible apply wpV_light
      · simp only [lightOp]
      · intro W hU hF
        have f0 := CS.out W hU
        clear hU hF
        go_simp
        exact rfl
      simp only [Act.put, List.setIfInBounds_toArray, List.set_cons_zero, List.set_cons_succ]
      with_reducible apply wpV_light
      · simp only [lightOp]
      · intro W hU hF
        have f0 := CS.out W hU
        clear hU hF
        go_simp
        exact rfl
      simp only [Act.put, List.setIfInBounds_toArray, List.set_cons_zero, List.set_cons_succ]
      with_reducible apply wpV_light
      · simp only [lightOp]
      · intro W hU hF
        have f0 := CS.out W hU
        clear hU hF
        go_simp
        exact rfl
      simp only [Act.put, List.setIfInBounds_toArray, List.set_cons_zero, List.set_cons_succ]
      with_reducible apply wpV_light
      · simp only [lightOp]
      · intro W hU hF
        have f0 := CS.out W hU
        clear hU hF
        go_simp
        exact rfl
      simp only [Act.put, List.setIfInBounds_toArray, List.set_cons_zero, List.set_cons_succ]
      with_reducible apply wpV_light
      · simp only [lightOp]
      · intro W hU hF
        have f0 := CS.out W hU
        clear hU hF
        go_simp
        exact rfl
      simp only [Act.put, List.setIfInBounds_toArray, List.set_cons_zero, List.set_cons_succ]
      with_reducible apply wpV_light
      · simp only [lightOp]
      · intro W hU hF
        have f0 := CS.out W hU
        clear hU hF
        go_simp
        exact rfl
      simp only [Act.put, List.setIfInBounds_toArray, List.set_cons_zero, List.set_cons_succ]
      with_reducible apply wpV_light
      · simp only [lightOp]
      · intro W hU hF
        have f0 := CS.out W hU
        clear hU hF
        go_simp
        exact rfl
      simp only [Act.put, List.setIfInBounds_toArray, List.set_cons_zero, List.set_cons_succ]
      with_reducible apply wpV_light
      · simp only [lightOp]
      · intro W hU hF
        have f0 := CS.out W hU
        clear hU hF
        go_simp
        exact rfl
      simp only [Act.put, List.setIfInBounds_toArray, List.set_cons_zero, List.set_cons_succ]
      with_reducible apply wpV_light
      · simp only [lightOp]
      · intro W hU hF
        have f0 := CS.out W hU
        clear hU hF
        go_simp
        exact rfl
      simp only [Act.put, List.setIfInBounds_toArray, List.set_cons_zero, List.set_cons_succ]
      with_reducible apply wpV_light
      · simp only [lightOp]
      · intro W hU hF
        have f0 := CS.out W hU
        clear hU hF
        go_simp
        exact rfl
      simp only [Act.put, List.setIfInBounds_toArray, List.set_cons_zero, List.set_cons_succ]
      with_reducible apply wpV_light
      · simp only [lightOp]
      · intro W hU hF
        have f0 := CS.out W hU
        clear hU hF
        go_simp
        exact rfl
      simp only [Act.put, List.setIfInBounds_toArray, List.set_cons_zero, List.set_cons_succ]
      with_reducible apply wpV_light
      · simp only [lightOp]
      · intro W hU hF
        have f0 := CS.out W hU
        clear hU hF
        go_simp
        exact rfl
      simp only [Act.put, List.setIfInBounds_toArray, List.set_cons_zero, List.set_cons_succ]
      refine wpV_end (fun W hU _ _ => ?_)
      have U2 : Hid (Upd [] wq W) := Lib.hid ((Upd.refl [] wq).drew.trans hU)
      clear hU
      have O2 : Hid (W.ownsRow B 3 1 (.slice (some ⟨g, 0, none⟩) n c) n (L.map (.int .i64))) := Lib.hid (own_upd0 HO.out U2.out)
      have fz : ∀ k, W.frozen? ⟨g, k, none⟩ = false := own_frozen O2.out
      have fl : g < W.heap.size := by obtain ⟨_, _, hb, _⟩ := own_open O2.out; exact hb.lt
      obtain ⟨f1, f2⟩ := CS.out W ((Upd.refl [] wq.drew).trans (by
        have := U2.out
        exact ⟨this.os, this.tape, this.output, this.size, this.keep⟩))
      refine wpT_op (by rfl) (fun K hK => ?_)
      go_wp2_with fail
      refine hK.out _ _ ?_
      clear hK K
      try simp only [Act.put, List.setIfInBounds_toArray, List.set_cons_zero, List.set_cons_succ]
      refine wpT_op (by rfl) (fun K hK => ?_)
      go_wp2_with fail
      refine hK.out _ _ ?_
      clear hK K
      try simp only [Act.put, List.setIfInBounds_toArray, List.set_cons_zero, List.set_cons_succ]
      have O3 : Hid ((W.setCell ⟨g, i, none⟩ (.int .i64 y)).ownsRow B 3 1 (.slice (some ⟨g, 0, none⟩) n c) n ((L.set i y).map (.int .i64))) := Lib.hid (by rw [List.map_set]; exact own_set O2.out _ _)
      have U3 : Hid (Upd [g] wq (W.setCell ⟨g, i, none⟩ (.int .i64 y))) := Lib.hid ((U2.out.mono (by simp)).setCell (.inl (by simp)) _)
      generalize (W.setCell ⟨g, i, none⟩ (.int .i64 y)) = W3 at *
      clear f1 f2 fz fl O2 U2
      obtain ⟨z, hz⟩ : ∃ z, (L.set i y)[j]? = some z := ⟨_, List.getElem?_eq_getElem (by rw [List.length_set, HLL.out]; omega)⟩
      have f1 := own_cell O3.out _ _ (map_int_get hz)
      clear hz
      have fz : ∀ k, W3.frozen? ⟨g, k, none⟩ = false := own_frozen O3.out
      have fl : g < W3.heap.size := by obtain ⟨_, _, hb, _⟩ := own_open O3.out; exact hb.lt
      refine wpT_op (by rfl) (fun K hK => ?_)
      go_wp2_with fail
      refine hK.out _ _ ?_
      clear hK K
      try simp only [Act.put, List.setIfInBounds_toArray, List.set_cons_zero, List.set_cons_succ]
      refine wpT_op (by rfl) (fun K hK => ?_)
      go_wp2_with fail
      refine hK.out _ _ ?_
      clear hK K
      try simp only [Act.put, List.setIfInBounds_toArray, List.set_cons_zero, List.set_cons_succ]
      have O4 : Hid ((W3.setCell ⟨g, j, none⟩ (.int .i64 x)).ownsRow B 3 1 (.slice (some ⟨g, 0, none⟩) n c) n (((L.set i y).set j x).map (.int .i64))) := Lib.hid (by rw [List.map_set]; exact own_set O3.out _ _)
      have U4 : Hid (Upd [g] wq (W3.setCell ⟨g, j, none⟩ (.int .i64 x))) := Lib.hid (U3.out.setCell (.inl (by simp)) _)
      generalize (W3.setCell ⟨g, j, none⟩ (.int .i64 x)) = W4 at *
      clear f1 fz fl O3 U3
      refine wpT_end ?_
      go_wp2_with fail
      go_roundw
      case rel => exact ⟨i + 1, by go_num, by rw [HJ.out], by omega, Lib.hid ⟨_, HST.out, O4.out, HU.out.trans U4.out⟩⟩
      case measure => simp [intOf]; omega
    · have d : decide ((i : Int) < (n : Int) - 1 - (i : Int)) = false := by simp; omega
      go_wp2_with fail
      go_end0
      refine ⟨rfl, ?_, HU.out⟩
      rw [← HR.out.done (by rw [HN.out]; exact hlt)]
      exact HO.out
end Go.Proofs.YteddiknlcdbhjaaGreatDoor

namespace Go.Proofs.YteddiknlcdbhjaaGreatDoor
open Go Go.RowKit

/-- An operation 'append' whose run is known. -/
theorem wpList_appr {P : Program} {ops : Array Oper} {rest : List Oper} {o : Oper} {a : Act} {Q : Exit → Act → World → Prop} (w : World) (hgd : o.guard = none) (s' x' : Operand) (t tn : TypeId) (ho : o.op = .call { callee := .builtin .append, args := #[s', x'], argTypes := #[t, tn] })
    (v x : Value) (hs : a.eval s' = v) (hx : a.eval x' = x) {v' : Value} {w' : World} (hr : (Builtin.append_ #[t, tn] o.type #[v, x]).run P w = .ok v' w') (h : wpList P ops Q rest (a.put o.dst v') w') : wpList P ops Q (o :: rest) a w :=
  wpList_plain hgd fun _ hK => Lib.wp_append_run w s' x' t tn ho v x hs hx v' w' hr (hK _ _ h)
def SlAt (e : TypeId) (B : Nat) (w : World) (v : Value) (xs : List Int) : Prop := ∃ (g o c : Nat) (cur : Array Value), v = .slice (some ⟨g, o, none⟩) xs.length c ∧ xs.length ≤ c ∧ c ≤ maxLen ∧ B ≤ g ∧ Blk w g e cur ∧ o + c ≤ cur.size ∧ ∀ (j : Nat) x, xs[j]? = some x → cur[o + j]? = some (.int .i64 x)
section
variable {e : TypeId} {B g : Nat} {w w' : World} {v : Value} {xs : List Int}
theorem SlAt.start {x : Int} (h : Blk w g e #[.int .i64 x]) (hB : B ≤ g) : SlAt e B w (.slice (some ⟨g, 0, none⟩) 1 1) [x] :=
  ⟨g, 0, 1, _, rfl, by simp, by simp [maxLen], hB, h, by simp, fun j y hj => by
    cases j with
    | zero => simp at hj; subst hj; rfl
    | succ j => simp at hj⟩
theorem SlAt.upd {S : List Nat} (h : SlAt e B w v xs) (hu : Upd S w w') (hS : ∀ b, v.ownBlock = some b → b ∉ S) : SlAt e B w' v xs := by
  obtain ⟨g, o, c, cur, rfl, h1, h2, h3, h4, h5, h6⟩ := h
  exact ⟨g, o, c, cur, rfl, h1, h2, h3, h4.upd hu (hS g rfl), h5, h6⟩
theorem SlAt.upd0 (h : SlAt e B w v xs) (hu : Upd [] w w') : SlAt e B w' v xs := h.upd hu (by simp)
theorem SlAt.form (h : SlAt e B w v xs) : ∃ (g o c : Nat), v = .slice (some ⟨g, o, none⟩) xs.length c ∧ xs.length ≤ c ∧ c ≤ maxLen ∧ B ≤ g ∧ g < w.heap.size := by
  obtain ⟨g, o, c, cur, rfl, h1, h2, h3, h4, h5, h6⟩ := h
  exact ⟨g, o, c, rfl, h1, h2, h3, h4.lt⟩
theorem SlAt.head {o n c : Nat} {x : Int} (h : SlAt e B w (.slice (some ⟨g, o, none⟩) n c) (x :: xs)) : w.cell? ⟨g, o, none⟩ = some (.int .i64 x) := by
  obtain ⟨g', o', c', cur, hv, h1, h2, h3, h4, h5, h6⟩ := h
  injection hv with hv _ _
  injection hv with hv
  injection hv with e1 e2 _
  subst e1 e2
  rw [h4.cell]
  exact h6 0 x rfl
theorem SlAt.tail {o n c : Nat} {x : Int} (h : SlAt e B w (.slice (some ⟨g, o, none⟩) n c) (x :: xs)) : SlAt e B w (.slice (if c = 1 then some ⟨g, o, none⟩ else some ⟨g, o + 1, none⟩) (n - 1) (c - 1)) xs := by
  obtain ⟨g', o', c', cur, hv, h1, h2, h3, h4, h5, h6⟩ := h
  injection hv with hv e3 e4
  injection hv with hv
  injection hv with e1 e2 _
  subst e1 e2 e3 e4
  rw [List.length_cons] at h1
  by_cases hc : c = 1
  · rw [if_pos hc]
    have : xs = [] := List.eq_nil_of_length_eq_zero (by omega)
    subst this
    exact ⟨g, o, c - 1, cur, rfl, by simp, by omega, h3, h4, by omega, by simp⟩
  · rw [if_neg hc]
    exact ⟨g, o + 1, c - 1, cur, rfl, by omega, by omega, h3, h4, by omega, fun j y hj => by
      rw [show o + 1 + j = o + (j + 1) by omega]
      exact h6 (j + 1) y hj⟩
end
section
variable {P : Program} {e t : TypeId} {B : Nat} {w : World} {v : Value} {xs : List Int}
/-- One more. -/
theorem SlAt.app (ET : Elem P t e 1 8) (h : SlAt e B w v xs) (hl : xs.length < 1000) (hB : B ≤ w.heap.size) {q : Nat} {x : Int} (hq : Blk w q e #[.int .i64 x]) (ty : TypeId) :
    ∃ v' w', (Builtin.append_ #[t, t] ty #[v, .slice (some ⟨q, 0, none⟩) 1 1]).run P w = .ok v' w' ∧ SlAt e B w' v' (xs ++ [x]) ∧ Upd v.ownBlock.toList w w' ∧ (v'.ownBlock = v.ownBlock ∨ ∃ b, v'.ownBlock = some b ∧ w.heap.size ≤ b) := by
  obtain ⟨g, o, c, cur, rfl, h1, h2, h3, h4, h5, h6⟩ := h
  obtain ⟨i, z, hi, hz, hsz, hby, hzs⟩ := ET.info
  have hnews : ∀ (j : Nat) u, [Value.int .i64 x][j]? = some u → w.cell? ((⟨q, 0, none⟩ : Addr).add j) = some u := fun j u hj => by
    cases j with
    | zero => simp at hj; subst hj; exact hq.cell 0
    | succ j => simp at hj
  by_cases hr : xs.length + 1 ≤ c
  · have hlt : o + xs.length < cur.size := by omega
    have hrun := run_append_room_cells (P := P) w t ty e i ET.und hi g o xs.length c ⟨q, 0, none⟩ 1 1 [.int .i64 x] (by simp [hsz]) hnews (by intro u hu; simp at hu; subst hu; rfl) hr (by
      intro j hj
      simp at hj
      subst hj
      rw [hsz, Nat.mul_one, Nat.add_zero, h4.cell, Array.getElem?_eq_getElem hlt]
      rfl) (fun j _ => h4.frozen _)
    rw [hsz, Nat.mul_one] at hrun
    have hset : w.setCells g (o + xs.length) [.int .i64 x] = w.setCell ⟨g, o + xs.length, none⟩ (.int .i64 x) := rfl
    rw [hset] at hrun
    refine ⟨_, _, hrun, ⟨g, o, c, _, by rw [List.length_append]; rfl, by rw [List.length_append]; exact hr, h2, h3, h4.set_eq rfl, by simp; omega, fun j y hj => ?_⟩, (Upd.refl _ w).setCell (.inl (by simp [Value.ownBlock])) _, .inl rfl⟩
    rcases Nat.lt_or_ge j xs.length with hjl | hjl
    · rw [List.getElem?_append_left hjl] at hj
      have := h6 j y hj
      simp [Array.getElem?_setIfInBounds, show o + xs.length ≠ o + j by omega, show xs.length ≠ j by omega, this]
    · rw [List.getElem?_append_right hjl] at hj
      have hj0 := (List.getElem?_eq_some_iff.1 hj).1
      simp at hj0
      have e0 : j = xs.length := by omega
      subst e0
      simp at hj
      subst hj
      simp [Array.getElem?_setIfInBounds, hlt]
  · obtain ⟨v', w', hrun, ho, hg⟩ := run_append_arg_grows (P := P) w t ty e i z 1 8 ET.und hi hz hsz hby hzs (by omega) ⟨g, o, none⟩ xs.length c (xs.map (.int .i64)) (by simp) (fun j u hj => by
      rw [List.getElem?_map] at hj
      cases hx : xs[j]? with
      | none => rw [hx] at hj; cases hj
      | some y =>
        rw [hx] at hj
        cases hj
        rw [Addr.add_lit, h4.cell]
        exact h6 j y hx) ⟨q, 0, none⟩ 1 1 [.int .i64 x] (by simp) hnews (by omega) (by simp only [maxLen]; omega) (by omega)
    obtain ⟨g', c', cur', rfl, k1, k2, k3, k4, k5, k6⟩ := own_form ho (by omega)
    have hu : Upd [] w w' := own_upd_of_grown (v := .slice none 0 0) hg
    refine ⟨_, _, hrun, ⟨g', 0, c', cur', by rw [List.length_append]; rfl, by rw [List.length_append]; exact k3, k4, Nat.le_trans hB k1, k2, by omega, fun j y hj => ?_⟩, hu.mono (by simp), ?_⟩
    · have hc := own_cell ho j (.int .i64 y) (by
        have : ((xs ++ [x]).map (Value.int .i64))[j]? = some (.int .i64 y) := by rw [List.getElem?_map, hj]; rfl
        rw [List.map_append] at this
        exact this)
      rw [k2.cell] at hc
      rw [Nat.zero_add]
      exact hc
    · exact .inr ⟨g', rfl, k1⟩
end
end Go.Proofs.YteddiknlcdbhjaaGreatDoor

namespace Go.Proofs.YteddiknlcdbhjaaGreatDoor
open Go Go.RowKit TrP
attribute [local go_sem] litStep_value

namespace TrP
/-- Ways grow by one. -/
theorem From.len {g : List Ed} {all : List Int} {n : Int} {fr : Int → Option Int} {met : List Int} {ways : List (List Int)} (h : From g all n fr met ways) : ∀ (i : Nat) w, ways[i]? = some w → 1 ≤ w.length ∧ w.length ≤ i + 1 := by
  intro i
  induction i using Nat.strongRecOn with
  | _ i ih =>
    intro w hw
    rcases h.back hw with ⟨rfl, rfl⟩ | ⟨_, j, w', hj, h2, h3, _⟩
    · simp
    · have := ih j hj w' h2
      rw [h3, List.length_append, List.length_singleton]
      omega
end TrP
def WayPost (wy : List Int) (w : World) (e : Ending) (w' : World) : Prop := ∃ v, e = .returned v ∧ Ow encK 3 w' w.heap.size v wy ∧ Upd [] w w'
set_option maxRecDepth 100000 in
set_option maxHeartbeats 2000000 in
theorem t_way (g : List Ed) (all : List Int) (n : Int) (fr : Int → Option Int) (met : List Int) (ways : List (List Int)) (i : Nat) (wy : List Int) (fb cnt : Nat) (w : World) (h : From g all n fr met ways) (hw : ways[i]? = some wy) (hl : ways.length ≤ 100) (im : IMap w .i64 fb (fun k => (fr k).map (.int .i64)) cnt) :
    Calls Tryz.prog 46 #[.map (some fb), .int .i64 n, .int .i64 (wy.getLastD 0)] w fun e w' => WayPost wy w e w' := by
  have H := Lib.hid h
  have IM := Lib.hid im
  have hlen : wy.length ≤ 100 := by
    have h1 := (h.len i wy hw).2
    have h2 := (List.getElem?_eq_some_iff.1 hw).1
    omega
  have HW := Lib.hid hw
  obtain ⟨t0, ht0⟩ : ∃ t0, wy.getLastD 0 = t0 := ⟨_, rfl⟩
  have HT0 := Lib.hid ht0
  rw [ht0]
  clear h im hw hl ht0
  go_enter Tryz.func46, Tryz.ntmps46
  go_wp2_with fail
  have O1 : Hid ((w.alloc (.cells #[.int .i64 t0] 3)).ownsRow w.heap.size 3 1 (.slice (some ⟨w.heap.size, 0, none⟩) 1 1) 1 [.int .i64 t0]) := Lib.hid ⟨by simp, .inr ⟨w.heap.size, 1, _, rfl, Nat.le_refl _, Blk.new w _ _, by omega, by simp [maxLen], by simp, by simp⟩⟩
  have U1 : Hid (Upd [] w (w.alloc (.cells #[.int .i64 t0] 3))) := Lib.hid ((Upd.refl [] w).alloc _)
  generalize w.alloc (.cells #[.int .i64 t0] 3) = w1 at *
  go_loopw [2, 7] (fun u v wq => ∃ (i' : Nat) (w' s : List Int) (A : Option Addr) (c : Nat), u = .int .i64 (w'.getLastD 0) ∧ v = .slice A (s.length + 1) c ∧ s.length + 1 ≤ 100 ∧ wy = w' ++ s ∧ Hid (ways[i']? = some w') ∧ Hid (wq.ownsRow w.heap.size 3 1 v (s.length + 1) ((s.reverse ++ [w'.getLastD 0]).map (.int .i64)) ∧ Upd [] w wq)) (fun _ v _ => 101 - lenOfS v)
  case atStart => exact ⟨i, wy, [], _, _, by rw [HT0.out], rfl, by simp, by simp, HW, Lib.hid ⟨by rw [HT0.out]; exact O1.out, U1.out⟩⟩
  case round =>
    obtain ⟨i', w', s, A, c, rfl, rfl, hsl, hws, HW', HREL⟩ := hrel
    rename World => wq
    obtain ⟨ho, hu⟩ := HREL.out
    have HO := Lib.hid ho
    have HU := Lib.hid hu
    have HWS := Lib.hid hws
    have hwl := congrArg List.length hws
    rw [List.length_append] at hwl
    rcases H.out.back HW'.out with ⟨he, h0⟩ | ⟨hne, j, w2, hj, h2, h3, h4⟩
    · clear ho hu HREL hws
      have e : w'.getLastD 0 = n := by rw [he]; rfl
      rw [e] at HO ⊢
      have HE := Lib.hid he
      obtain ⟨ns, hns⟩ : ∃ ns, s.length + 1 = ns := ⟨_, rfl⟩
      rw [hns] at HO hsl ⊢
      obtain ⟨q, c2, cur, e2, hq, hbq, _, _, _, _⟩ := own_form HO.out (by omega)
      injection e2 with e3 e4 e5
      subst e3 e5
      have HNS := Lib.hid hns
      have HQ := Lib.hid hq
      clear e he hbq e4 hwl h0 hns hq
      go_wp2_with fail
      refine (reverse_ok w.heap.size q ns c (s.reverse ++ [n]) wq HO.out (by rw [← HNS.out]; simp) (by omega)).mono ?_; rintro e w3 ⟨rfl, o3, u3⟩
      have U3 : Hid (Upd [] w w3) := Lib.hid (HU.out.trans' u3 (by intro x hx; simp at hx; subst hx; exact .inr HQ.out))
      have O3 : Hid (Ow encK 3 w3 w.heap.size (.slice (some ⟨q, 0, none⟩) ns c) wy) := Lib.hid (by
        unfold Ow
        rw [Vk.flat_intK, HWS.out, HE.out]
        have e1 : (s.reverse ++ [n]).reverse = [n] ++ s := by simp
        rw [e1] at o3
        rw [show ([n] ++ s).length = ns from by rw [← HNS.out]; simp]
        exact o3)
      clear o3 u3
      go_wp2_with fail
      go_ret
      unfold WayPost
      exact ⟨_, rfl, O3.out, U3.out⟩
    · clear ho hu HREL hws
      obtain ⟨tn, hto⟩ : ∃ tn, w'.getLastD 0 = tn := ⟨_, rfl⟩
      obtain ⟨t2, ht2⟩ : ∃ t2, w2.getLastD 0 = t2 := ⟨_, rfl⟩
      rw [hto] at hne h3 h4 HO ⊢
      rw [ht2] at h4
      have lk : (Instr.lookup 61 (.map (some fb)) (.int .i64 tn) false).run Tryz.prog wq = .ok (.int .i64 t2) wq := by
        rw [run_lookup_int' Tryz.underlying61 Tryz.underlying3 (Tryz.zeroValue3 wq) (IM.out.upd HU.out (by simp)) tn, h4]
        rfl
      have d : (tn != n) = true := by simpa using hne
      have hl2 : (w2.length : Int) + 1 = w'.length := by rw [h3]; simp
      have hl3 := (H.out.len j w2 h2).1
      have hs2 : s.length + 1 + 1 ≤ 100 := by omega
      have HSZ : Hid (w.heap.size ≤ wq.heap.size) := Lib.hid HU.out.size
      have H2 := Lib.hid h2
      have H3 := Lib.hid h3
      have HT2 := Lib.hid ht2
      obtain ⟨ns, hns⟩ : ∃ ns, s.length + 1 = ns := ⟨_, rfl⟩
      rw [hns] at HO hs2 hsl ⊢
      have HNS := Lib.hid hns
      clear h2 h3 h4 hne hto ht2 hl2 hl3 hwl hns
      go_wp2_with (at_builtin; refine stoppedR ?_)
      refine Lib.hid ?_
      refine wpList_app _ (by rfl) (.tmp 16) (.tmp 18) _ (by rfl) int_elem (.slice A ns c) _ (by rfl) (by rfl) (own_upd0 HO.out ((Upd.refl [] wq).alloc _)) (.of_blk (Blk.new wq 3 #[.int .i64 t2]) (m := 1) 1 rfl) (by intro u hu; simp at hu; subst hu; rfl) (by simp only [maxLen]; omega) (by omega) (Nat.le_trans HSZ.out (by simp)) ?_
      intro v5 W5 o5 u5 b5
      have HREL : Hid (W5.ownsRow w.heap.size 3 1 v5 (ns + 1) (((tn :: s).reverse ++ [t2]).map (.int .i64)) ∧ Upd [] w W5) := Lib.hid ⟨by
        have e : ((tn :: s).reverse ++ [t2]).map (Value.int .i64) = (s.reverse ++ [tn]).map (.int .i64) ++ [.int .i64 t2] := by simp
        rw [e]; exact o5, (HU.out.trans ((Upd.refl [] wq).alloc _)).trans' u5 (by
          intro x hx
          exact .inr (own_lt HO.out (by simpa using hx)).1)⟩
      obtain ⟨A5, c5, rfl, _, _⟩ := own_slice o5
      clear o5 u5 b5
      go_wp2_with fail
      go_roundw
      case rel => exact ⟨j, w2, tn :: s, A5, c5, by rw [HT2.out], by rw [List.length_cons, HNS.out], by rw [List.length_cons, HNS.out]; exact hs2, by rw [HWS.out, H3.out]; simp, H2, Lib.hid (by rw [List.length_cons, HNS.out, HT2.out]; exact HREL.out)⟩
      case measure => simp [lenOfS]; omega
end Go.Proofs.YteddiknlcdbhjaaGreatDoor

namespace Go.Proofs.YteddiknlcdbhjaaGreatDoor.TrP

/-- Those that still have to be looked at. -/
def todoL (ways : List (List Int)) (m : Nat) : List Int := (ways.drop m).map (fun w => w.getLastD 0)
section
variable {g : List Ed} {all : List Int} {n : Int} {fr : Int → Option Int} {met : List Int} {ways : List (List Int)} {w : List Int}
theorem todoL_len (m : Nat) : (todoL ways m).length = ways.length - m := by simp [todoL]
theorem todoL_cons {m : Nat} (hw : ways[m]? = some w) : todoL ways m = w.getLastD 0 :: todoL ways (m + 1) := by
  obtain ⟨hm, rfl⟩ := List.getElem?_eq_some_iff.1 hw
  unfold todoL
  rw [List.drop_eq_getElem_cons hm]
  rfl
theorem todoL_push {m : Nat} (hm : m ≤ ways.length) (v : List Int) (k : Int) : todoL (ways ++ [v ++ [k]]) m = todoL ways m ++ [k] := by
  unfold todoL
  rw [List.drop_append_of_le_length hm, List.map_append]
  simp [List.getLastD_eq_getLast?]
theorem Bfs.small (h : Bfs g all n met ways) : met.length ≤ all.length := len_sub h.nodup h.sub
/-- Nothing is left to look at. -/
theorem bfs_none {f m : Nat} (h : ways[m]? = none) : bfsR g all n f m met ways = [] := by
  cases f with
  | zero => rfl
  | succ f => unfold bfsR; rw [h]
theorem scan_succ {x : Int} : scanR g n x w all met ways = scanR g n x w (succL g all x) met ways := scanR_skip all met ways
theorem scan_drop {x k : Int} {j : Nat} (h : (succL g all x)[j]? = some k) : scanR g n x w ((succL g all x).drop j) met ways = if k = n then none else if k ∈ met then scanR g n x w ((succL g all x).drop (j + 1)) met ways else scanR g n x w ((succL g all x).drop (j + 1)) (met ++ [k]) (ways ++ [w ++ [k]]) := by
  rw [drop_cons h]
  conv => lhs; unfold scanR
  rw [if_pos (mem_succL.1 (List.mem_of_getElem? h)).2]
theorem bfs_hit {f m : Nat} (hw : ways[m]? = some w) (hs : scanR g n (w.getLastD 0) w (succL g all (w.getLastD 0)) met ways = none) : bfsR g all n (f + 1) m met ways = w := by
  conv => lhs; unfold bfsR
  rw [hw]
  simp only
  rw [scan_succ, hs]
theorem bfs_on {f m : Nat} {met' : List Int} {ways' : List (List Int)} (hw : ways[m]? = some w) (hs : scanR g n (w.getLastD 0) w (succL g all (w.getLastD 0)) met ways = some (met', ways')) : bfsR g all n (f + 1) m met ways = bfsR g all n f (m + 1) met' ways' := by
  conv => lhs; unfold bfsR
  rw [hw]
  simp only
  rw [scan_succ, hs]
end
end Go.Proofs.YteddiknlcdbhjaaGreatDoor.TrP

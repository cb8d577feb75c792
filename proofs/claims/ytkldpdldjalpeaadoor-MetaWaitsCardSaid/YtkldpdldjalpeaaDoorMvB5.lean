/-
  Package meta by contracts: NewClock, NewCell.
  Package meta by contracts: Read.
  concordlaw06's answer by contract.
  Package thread's Thread by contracts: New, Done, Err, end, Step, Run.
  Package thread's Thread by contracts: Run.
  Several threads on the same blocks, and what their bodies keep: a step, a run of one of them.
-/
import Derived.Test.YtkldpdldjalpeaaDoorMvB4
set_option linter.unusedVariables false
namespace Go.Proofs.YtkldpdldjalpeaaDoor
open Go.RowKit Th
attribute [local go_sem] litStep_value

set_option maxRecDepth 20000 in
set_option maxHeartbeats 1000000 in
theorem newclock_ok {F : BFp} {cb : Nat} {lv : Value} {c : CS} (w : World) (h : CSt w F cb lv c) (hn : c.B.top + 1 + 1 ≤ c.B.ws.length) :
    Calls Tryd.prog 14 #[.pointer (some ⟨cb, 0, none⟩)] w fun e w' => ∃ F' lv' x v,
      e = .returned (.tuple #[.int .u64 x, v]) ∧ CSt w' F' cb lv' (access c (.alloc 1)).2 ∧ CNx w w' F F' cb lv lv' ∧ AlV x v (access c (.alloc 1)).1 ∧ F'.b0 = F.b0 := by
  have HC := Lib.hid (calloc_ok w h 1 ⟨by omega, by omega, hn⟩)
  clear h hn
  go_enter Tryd.func14, Tryd.ntmps14
  go_wp2_with fail
  refine HC.out.mono ?_
  rintro e w1 ⟨F', lv', x, v, rfl, h1, h2, h3, h4⟩
  have H1 := Lib.hid h1
  have H2 := Lib.hid h2
  have H3 := Lib.hid h3
  have H4 := Lib.hid h4
  clear h1 h2 h3 h4
  go_wp2_with fail
  go_ret2
  exact ⟨F', lv', x, v, rfl, H1.out, H2.out, H3.out, H4.out⟩
/-- What a new cell tells. -/
def NcV (w' : World) (B : Nat) (x : Int) (v : Value) : Option Int → Prop
  | some r => x = r ∧ v = .nilIface
  | none => ErK 1 w' B v 11
theorem alloc_ref {w : World} {F : BFp} {cb : Nat} {lv : Value} {c c' : CS} {n : Nat} {e : En} (ha : access c (.alloc n) = (some e, c')) (hl : c.next = c.log.length) : e.ref = c.B.top ∧ (c.B.top, n) ∈ c'.B.sz := by
  unfold access at ha
  rw [List.getElem?_eq_none (by omega)] at ha
  simp only at ha
  split at ha
  · injection ha with h1; cases h1
  · injection ha with h1 h2
    injection h1 with h1
    subst h1 h2
    exact ⟨rfl, by simp [ex]⟩
set_option maxRecDepth 20000 in
set_option maxHeartbeats 1000000 in
/-- What was given out, or is given out now, is there. -/
theorem newcell_ok {F : BFp} {cb : Nat} {lv : Value} {c : CS} (w : World) (h : CSt w F cb lv c) (val : Int) (hv : 0 ≤ val ∧ val < 18446744073709551616) (hn : c.B.top + 2 + 1 ≤ c.B.ws.length)
    (hr : ∀ e c', access c (.alloc 2) = (some e, c') → 0 ≤ e.ref ∧ (e.ref.toNat, 2) ∈ c'.B.sz) :
    Calls Tryd.prog 15 #[.pointer (some ⟨cb, 0, none⟩), .int .u64 val] w fun e w' => ∃ F' lv' x v,
      e = .returned (.tuple #[.int .u64 x, v]) ∧ CSt w' F' cb lv' (run (cellT val) c).2 ∧ CNx w w' F F' cb lv lv' ∧ NcV w' w.heap.size x v (run (cellT val) c).1 ∧ F'.b0 = F.b0 := by
  have HC := Lib.hid (calloc_ok w h 2 ⟨by omega, by omega, hn⟩)
  have HV := Lib.hid hv
  have HR0 := Lib.hid hr
  clear h hn hv hr
  go_enter Tryd.func15, Tryd.ntmps15
  go_wp2_with fail
  refine HC.out.mono ?_
  rintro e w1 ⟨F1, lv1, x, v, rfl, h1, h2, h3, h4⟩
  have H2 := Lib.hid h2
  have H4 := Lib.hid h4
  have hB : w.heap.size ≤ w1.heap.size := h2.up.size
  cases ha : access c (.alloc 2) with
  | mk o c1 =>
    rw [ha] at h1 h3
    have H1 := Lib.hid h1
    cases o with
    | none =>
      obtain ⟨rfl, rfl⟩ := h3
      have HR := Lib.hid (show run (cellT val) c = (none, c1) from run_none ha)
      clear h1 h2 h4 ha
      go_wp2_with fail
      refine (in_ok (k := 0) (B := w.heap.size) _ _ (.num 0 _ _ 11 (by omega)) hB).mono ?_; rintro e w4 ⟨v', rfl, he, hu⟩
      have HE := Lib.hid he
      have HU := Lib.hid hu
      clear he hu
      go_wp2_with fail
      go_ret2
      rw [HR.out]
      exact ⟨F1, lv1, 0, v', rfl, H1.out.upd0 HU.out, H2.out.upd HU.out, HE.out, H4.out⟩
    | some en =>
      obtain ⟨rfl, rfl⟩ := h3
      obtain ⟨hr0, hr1⟩ := HR0.out _ _ ha
      have hr := run_some (k := fun e : En => Pg.acc (.store e.ref.toNat 1 val) fun _ => .ret e.ref) ha
      have HR := Lib.hid (show run (cellT val) c = _ from hr)
      obtain ⟨q, hq⟩ : ∃ q : Nat, en.ref = q := ⟨en.ref.toNat, by omega⟩
      rw [hq] at HR hr1
      rw [Int.toNat_natCast] at HR hr1
      have HM := Lib.hid hr1
      rw [hq]
      clear h1 h2 h4 ha hr hr0 hr1
      go_wp2_with fail
      refine (cstore_ok w1 H1.out q 2 1 val HV.out HM.out (by omega)).mono ?_
      rintro e w2 ⟨lv2, v, rfl, h1, h2, h3⟩
      have N2 := Lib.hid (H2.out.trans h2)
      have hB2 : w.heap.size ≤ w2.heap.size := N2.out.up.size
      cases hb : access c1 (.store q 1 val) with
      | mk o2 c2 =>
        rw [hb] at h1 h3
        have H3 := Lib.hid h1
        cases o2 with
        | none =>
          have h3' : v = _ := h3
          subst h3'
          have HR2 := Lib.hid (HR.out.trans (run_none hb))
          clear h1 h2 h3 hb
          go_wp2_with fail
          refine (in_ok (k := 0) (B := w.heap.size) _ _ (.num 0 _ _ 11 (by omega)) hB2).mono ?_; rintro e w4 ⟨v', rfl, he, hu⟩
          have HE := Lib.hid he
          have HU := Lib.hid hu
          clear he hu
          go_wp2_with fail
          go_ret2
          rw [HR2.out]
          exact ⟨F1, lv2, 0, v', rfl, H3.out.upd0 HU.out, N2.out.upd HU.out, HE.out, H4.out⟩
        | some sn =>
          have h3' : v = _ := h3
          subst h3'
          have HR2 := Lib.hid (HR.out.trans (run_some hb))
          clear h1 h2 h3 hb
          go_wp2_with fail
          go_ret2
          rw [HR2.out]
          exact ⟨F1, lv2, q, .nilIface, rfl, H3.out, N2.out, ⟨rfl, rfl⟩, H4.out⟩
end Go.Proofs.YtkldpdldjalpeaaDoor

namespace Go.Proofs.YtkldpdldjalpeaaDoor
open Go.RowKit Th
attribute [local go_sem] litStep_value

set_option maxRecDepth 20000 in
set_option maxHeartbeats 4000000 in
theorem read_ok {F : BFp} {cb : Nat} {lv : Value} {c : CS} (w : World) (h : CSt w F cb lv c) (cl : Nat) (hm : (cl, 2) ∈ c.B.sz) (hns : ∀ a, (run (readT cl) c).1 = some a → a.err ≠ 98) :
    Calls Tryd.prog 42 #[.pointer (some ⟨cb, 0, none⟩), .int .u64 cl] w fun e w' => ∃ lv' v, e = .returned (.tuple #[.int .u64 (resA (run (readT cl) c).1).val, .int .i64 (resA (run (readT cl) c).1).n, v]) ∧ CSt w' F cb lv' (run (readT cl) c).2 ∧ CNx w w' F F cb lv lv' ∧ ErK 1 w' w.heap.size v (resA (run (readT cl) c).1).err := by
  have HNS := Lib.hid hns
  have HM := Lib.hid hm
  have HL := Lib.hid (cload_ok w h cl 2 0 hm (by omega))
  clear h hm hns
  go_enter Tryd.func42, Tryd.ntmps42
  go_wp2_with fail
  refine HL.out.mono ?_; rintro e w1 ⟨lv1, x, v, rfl, h1, h2, h3⟩
  have H1 := Lib.hid h1
  have N1 := Lib.hid h2
  have ST : Hid ((v = .iface 75 (.int .i64 11) ∧ x = 0 ∧ run (readT cl) c = (none, (access c (.load cl 0)).2)) ∨ (v = .nilIface ∧ (0 ≤ x ∧ x < 18446744073709551616) ∧ run (readL cl 7 x) (access c (.load cl 0)).2 = run (readT cl) c ∧ (cl, 2) ∈ (access c (.load cl 0)).2.B.sz)) := Lib.hid (by
    cases ha : access c (.load cl 0) with
    | mk o c1 =>
      rw [ha] at h1 h3
      cases o with
      | none => exact .inl ⟨h3.2, h3.1, run_none ha⟩
      | some en =>
        obtain ⟨rfl, rfl⟩ := h3
        exact .inr ⟨rfl, acc_word ha h1, (show run (readT cl) c = run (readL cl 7 en.word) c1 from run_some ha).symm, access_mem ha HM.out⟩)
  have hv : (v = .iface 75 (.int .i64 11)) ∨ v = .nilIface := ST.out.elim (fun h => .inl h.1) (fun h => .inr h.1)
  generalize (access c (.load cl 0)).2 = c1 at H1 ST
  clear h1 h2 h3
  have KX : Hid (∃ ev, ev = v ∧ True) := Lib.hid ⟨v, rfl, trivial⟩
  clear KX
  obtain ⟨v1, hv1⟩ : ∃ v1, v1 = v := ⟨v, rfl⟩
  rcases hv with rfl | rfl
  all_goals
    go_wp2_with fail
    go_loopw [7, 8, 19] (fun a b u wr => ∃ (j : Nat) (cj : CS) (lj : Value) (xw : Int), a = .int .u64 xw ∧ u = .int .i64 j ∧ Hid (CSt wr F cb lj cj) ∧ Hid (CNx w wr F F cb lv lj) ∧ ((b = .iface 75 (.int .i64 11) ∧ j ≤ 7 ∧ Hid (run (readT cl) c = (none, cj))) ∨ (b = .nilIface ∧ j ≤ 6 ∧ (0 ≤ xw ∧ xw < 18446744073709551616) ∧ Hid (run (readL cl (7 - j) xw) cj = run (readT cl) c) ∧ Hid ((cl, 2) ∈ cj.B.sz)))) (fun a b u _ => 8 - (intOf u).toNat)
    case atStart =>
      refine ⟨0, c1, lv1, x, rfl, rfl, H1, N1, ?_⟩
      rcases ST.out with ⟨h1, h2, h3⟩ | ⟨h1, h2, h3, h4⟩
      · first | exact .inl ⟨rfl, by omega, Lib.hid h3⟩ | cases h1
      · first | exact .inr ⟨rfl, by omega, h2, Lib.hid h3, Lib.hid h4⟩ | cases h1
    case round =>
      obtain ⟨j, cj, lj, xw, rfl, rfl, KS, KN, KK⟩ := hrel
      have hBr : w.heap.size ≤ wr.heap.size := KN.out.up.size
      rcases KK with ⟨rfl, hj, KR⟩ | ⟨rfl, hj, hxw, KR, KM⟩
      · have hji : (j : Int) < 8 := by omega
        clear hj
        go_wp2_with fail
        refine (in_ok (k := 0) (B := w.heap.size) _ wr (.num 0 wr _ 11 (by omega)) hBr).mono ?_; rintro e w2 ⟨v', rfl, he, hu⟩
        have HE := Lib.hid he
        have HU := Lib.hid hu
        clear he hu
        go_wp2_with fail
        go_ret3
        rw [KR.out]
        exact ⟨lj, v', rfl, KS.out.upd0 HU.out, KN.out.upd HU.out, HE.out⟩
      · have hji : (j : Int) < 8 := by omega
        obtain ⟨m, hm⟩ : ∃ m, 7 - j = m + 1 := ⟨6 - j, by omega⟩
        have HMJ := Lib.hid hm
        have HJ := Lib.hid hj
        have HXW := Lib.hid hxw
        have hR := KR.out
        rw [hm] at hR
        unfold readL at hR
        clear hj hm hxw
        go_wp2_with fail
        refine (unpack_ok xw wr HXW.out.1 HXW.out.2).mono ?_; rintro e w2 ⟨rfl, hu⟩
        have hB2 := Nat.le_trans hBr hu.size
        have KS2 := Lib.hid (KS.out.upd0 hu)
        have KN2 := Lib.hid (KN.out.upd hu)
        have hver : 0 ≤ (unp xw).ver ∧ (unp xw).ver < 281474976710656 := ⟨(unp_fit HXW.out).1, (unp_fit HXW.out).2.1⟩
        clear hu
        simp only [encM]
        by_cases hch : (unp xw).ch = true
        · rw [if_pos hch] at hR
          have HR := Lib.hid hR
          rw [hch]
          clear hR hch
          go_wp2_with fail
          refine (in_ok (k := 0) (B := w.heap.size) _ _ (.num 0 _ _ 12 (by omega)) (by simp; omega)).mono ?_; rintro e w3 ⟨v', rfl, he, hu⟩
          have HE := Lib.hid he
          have HU := Lib.hid (((Upd.refl [] w2).alloc _).trans hu)
          clear he hu
          go_wp2_with fail
          go_ret3
          rw [← HR.out]
          exact ⟨lj, v', rfl, KS2.out.upd0 HU.out, KN2.out.upd HU.out, HE.out⟩
        · have hch' : (unp xw).ch = false := by simpa using hch
          rw [if_neg hch] at hR
          have HR := Lib.hid hR
          rw [hch']
          generalize hvv : (unp xw).ver = vr at hver
          have HVV := Lib.hid hvv
          clear hR hch hch' hvv
          go_wp2_with fail
          obtain ⟨w3, hw3⟩ : ∃ w3, w3 = w2.alloc (Obj.cells #[.int .i64 vr, .int .i64 (unp xw).own, .bool false, .bool (unp xw).wt] 108) := ⟨_, rfl⟩
          have U3 : Hid (Upd [] w2 w3) := Lib.hid (by rw [hw3]; exact (Upd.refl _ _).alloc _)
          have X3 : Hid (Blk w3 w2.heap.size 108 #[.int .i64 vr, .int .i64 (unp xw).own, .bool false, .bool (unp xw).wt]) := Lib.hid (by rw [hw3]; exact Blk.new _ _ _)
          rw [← hw3]
          clear hw3
          refine (cload_ok w3 (KS2.out.upd0 U3.out) cl 2 1 KM.out (by omega)).mono ?_
          rintro e w4 ⟨lv4, x4, v4, rfl, h1, h2, h3⟩
          have N4 := Lib.hid ((KN2.out.upd U3.out).trans h2)
          have X4 : Hid (Blk w4 w2.heap.size 108 #[.int .i64 vr, .int .i64 (unp xw).own, .bool false, .bool (unp xw).wt]) := Lib.hid (X3.out.upd h2.up (fun hm => by have := SS_lt KS2.out _ hm; omega))
          have hB4 : w.heap.size ≤ w4.heap.size := by have := X4.out.lt; omega
          have G4 : Hid (w2.heap.size ∉ SS F cb lv4) := Lib.hid (SS_new KS2.out h2 (Nat.le_refl _) X3.out.lt)
          cases ha : access cj (.load cl 1) with
          | mk o c2 =>
            rw [ha] at h1 h3
            have H4 := Lib.hid h1
            cases o with
            | none =>
              obtain ⟨rfl, rfl⟩ := h3
              have HRR := Lib.hid (HR.out.symm.trans (run_none ha))
              clear h1 h2 ha
              go_wp2_with fail
              refine (in_ok (k := 0) (B := w.heap.size) _ _ (.num 0 _ _ 11 (by omega)) hB4).mono ?_; rintro e w5 ⟨v', rfl, he, hu⟩
              have HE := Lib.hid he
              have HU := Lib.hid hu
              clear he hu
              go_wp2_with fail
              go_ret3
              rw [HRR.out]
              exact ⟨lv4, v', rfl, H4.out.upd0 HU.out, N4.out.upd HU.out, HE.out⟩
            | some f =>
              obtain ⟨rfl, rfl⟩ := h3
              have HR2 := Lib.hid (HR.out.symm.trans (run_some ha))
              have KM2 := Lib.hid (access_mem ha KM.out)
              clear h1 h2 ha
              go_wp2_with fail
              refine (cload_ok w4 H4.out cl 2 0 KM2.out (by omega)).mono ?_
              rintro e w5 ⟨lv5, x5, v5, rfl, h1, h2, h3⟩
              have N5 := Lib.hid (N4.out.trans h2)
              have X5 : Hid (Blk w5 w2.heap.size 108 #[.int .i64 vr, .int .i64 (unp xw).own, .bool false, .bool (unp xw).wt]) := Lib.hid (X4.out.upd h2.up G4.out)
              cases hb : access c2 (.load cl 0) with
              | mk o3 c3 =>
                rw [hb] at h1 h3
                have H5 := Lib.hid h1
                cases o3 with
                | none =>
                  obtain ⟨rfl, rfl⟩ := h3
                  have HR3 := Lib.hid (HR2.out.trans (run_none hb))
                  clear h1 h2 hb
                  go_wp2_with fail
                  go_round
                  case rel => exact ⟨j + 1, c3, lv5, 0, rfl, by simp, H5, N5, .inl ⟨rfl, by have := HJ.out; omega, HR3⟩⟩
                  case measure => simp [intOf]; omega
                | some g =>
                  obtain ⟨rfl, rfl⟩ := h3
                  have HR3 := HR2.out.trans (run_some hb)
                  have hgw := acc_word hb h1
                  have KM3 := Lib.hid (access_mem hb KM2.out)
                  by_cases hg : g.word = xw
                  · rw [if_pos hg] at HR3
                    have HRR := Lib.hid HR3
                    have f5 := X5.out.facts
                    clear h1 h2 hb hgw HR3
                    rw [hg]
                    clear hg
                    have hself : (xw == xw) = true := by simp
                    go_wp2_with fail
                    go_quiet (fail)
                    go_wp2_with fail
                    go_ret3
                    rw [HRR.out]
                    refine ⟨lv5, .nilIface, ?_, H5.out.upd0 ((Upd.refl _ _).drewN _), N5.out.upd ((Upd.refl _ _).drewN _), .nil _ _ _⟩
                    show Ending.returned (.tuple #[.int .u64 f.word, .int .i64 vr, .nilIface]) = .returned (.tuple #[.int .u64 f.word, .int .i64 (unp xw).ver, .nilIface])
                    rw [HVV.out]
                  · rw [if_neg hg] at HR3
                    have HRR := Lib.hid HR3
                    have hg' : (g.word == xw) = false := by simpa using hg
                    clear h1 h2 hb HR3 hg
                    have hmm : 1 ≤ m := by
                      rcases Nat.eq_zero_or_pos m with e | e
                      · subst e
                        have h0 : (run (readT cl) c).1 = some ⟨98, 0, 0⟩ := by rw [HRR.out]; rfl
                        exact absurd rfl (HNS.out _ h0)
                      · exact e
                    have HMM := Lib.hid hmm
                    clear hmm
                    go_wp2_with fail
                    go_round
                    case rel => exact ⟨j + 1, c3, lv5, g.word, rfl, by simp, H5, N5, .inr ⟨rfl, by have := HMJ.out; have := HMM.out; omega, hgw, Lib.hid (by rw [show 7 - (j + 1) = m by have := HMJ.out; omega]; exact HRR.out.symm), KM3⟩⟩
                    case measure => simp [intOf]; omega
end Go.Proofs.YtkldpdldjalpeaaDoor

namespace Go.Proofs.YtkldpdldjalpeaaDoor
open Go.RowKit Th
attribute [local go_sem] litStep_value

def encA (a : An) : List Value := [.int .i64 a.err, .int .u64 a.val, .int .i64 a.n]
def AnE : Enc An := ⟨encA, 3, fun _ => rfl, by intro a u hu; simp [encA] at hu; rcases hu with rfl | rfl | rfl <;> rfl, by decide⟩
def encC (x : Cl) : List Value := [.int .i64 x.kind, .int .i64 x.a, .int .i64 x.n, .int .i64 x.own, .int .u64 x.val]
def ClE : Enc Cl := ⟨encC, 5, fun _ => rfl, by intro a u hu; simp [encC] at hu; rcases hu with rfl | rfl | rfl | rfl | rfl <;> rfl, by decide⟩
/-- What a run comes to, whatever it was told. -/
def RetAll {α : Type} (P : α → Prop) : Pg α → Prop
  | .ret a => P a
  | .acc _ k => ∀ e, RetAll P (k e)
theorem retAll_run {α : Type} {P : α → Prop} : ∀ {p : Pg α} {c : CS} {a : α}, RetAll P p → (run p c).1 = some a → P a
  | .ret b, c, a, h, hr => by
    rw [run_ret] at hr
    injection hr with hr
    subst hr
    exact h
  | .acc x k, c, a, h, hr => by
    cases hx : access c x with
    | mk o c1 =>
      cases o with
      | some e => rw [run_some hx] at hr; exact retAll_run (h e) hr
      | none => rw [run_none hx] at hr; cases hr
def V0 (a : An) : Prop := a.val = 0
def VN0 (a : An) : Prop := a.val = 0 ∧ a.n = 0
def VN1 (a : An) : Prop := a.val = 0 ∧ (a.n = 0 ∨ a.n = 1)
theorem v0_now (ck : Nat) : RetAll V0 (nowT ck) := fun e => rfl
theorem v0_tick (ck : Nat) : ∀ n, RetAll V0 (tickT ck n)
  | 0 => rfl
  | n + 1 => fun e d => by
    dsimp only
    split
    · rfl
    · exact v0_tick ck n
theorem vn0_turn (cl : Nat) (ver : Int) (tf : Mt → Mt) : ∀ n, RetAll VN0 (turnT cl ver tf n)
  | 0 => ⟨rfl, rfl⟩
  | n + 1 => fun e => by
    dsimp only
    split
    · exact ⟨rfl, rfl⟩
    · split
      · exact ⟨rfl, rfl⟩
      · intro d
        dsimp only
        split
        · exact ⟨rfl, rfl⟩
        · exact vn0_turn cl ver tf n
theorem vn0_rel (cl : Nat) : RetAll VN0 (relT cl) := fun e => by
  dsimp only
  split
  · exact ⟨rfl, rfl⟩
  · exact fun _ => ⟨rfl, rfl⟩
theorem vn1_commit (cl : Nat) (val ver : Int) : RetAll VN1 (commitT cl val ver) := fun e => by
  dsimp only
  split
  · exact ⟨rfl, .inl rfl⟩
  · refine fun _ _ => ⟨rfl, ?_⟩
    show (if (unp e.word).wt = true then (1 : Int) else 0) = 0 ∨ (if (unp e.word).wt = true then (1 : Int) else 0) = 1
    split
    · exact .inr rfl
    · exact .inl rfl
theorem resA_all {P : An → Prop} {p : Pg An} {c : CS} (h : RetAll P p) (h0 : P ⟨11, 0, 0⟩) : P (resA (run p c).1) := by
  cases hr : (run p c).1 with
  | none => exact h0
  | some a => exact retAll_run h hr
theorem set3 {w : World} {g : Nat} {t : TypeId} {a b c : Value} (h : Blk w g t #[a, b, c]) (x0 x1 x2 : Value) :
    Blk (((w.setCell ⟨g, 0, none⟩ x0).setCell ⟨g, 1, none⟩ x1).setCell ⟨g, 2, none⟩ x2) g t #[x0, x1, x2] ∧ Upd [g] w (((w.setCell ⟨g, 0, none⟩ x0).setCell ⟨g, 1, none⟩ x1).setCell ⟨g, 2, none⟩ x2) :=
  ⟨((h.set_ 0 x0).set_ 1 x1).set_ 2 x2, (((Upd.refl _ _).setCell (by simp) _).setCell (by simp) _).setCell (by simp) _⟩
theorem new_SS {w w1 : World} {F : BFp} {cb : Nat} {lv : Value} {c : CS} (h : CSt w F cb lv c) {x : Nat} (hx : w.heap.size ≤ x) : x ∉ SS F cb lv := fun hm => by have := SS_lt h x hm; omega
set_option maxRecDepth 20000 in
set_option maxHeartbeats 4000000 in
theorem answer_ok {F : BFp} {cb : Nat} {lv : Value} {c : CS} (w : World) (h : CSt w F cb lv c) (ck cl : Nat) (hk : (ck, 1) ∈ c.B.sz) (hm : (cl, 2) ∈ c.B.sz) (x : Cl) (hx : OkC x) (hns : ∀ a, (run (ansT ck cl x) c).1 = some a → a.err ≠ 98) :
    Calls Tryd.prog 29 #[.pointer (some ⟨cb, 0, none⟩), .agg (encC x).toArray, .int .u64 ck, .int .u64 cl] w fun e w' => ∃ lv', e = .returned (.tuple #[.agg (encA (resA (run (ansT ck cl x) c).1)).toArray, .bool ((resA (run (ansT ck cl x) c).1).err == 11)]) ∧ CSt w' F cb lv' (run (ansT ck cl x) c).2 ∧ CNx w w' F F cb lv lv' := by
  obtain ⟨kind, xa, xn, xo, xv⟩ := x
  have HS := Lib.hid h
  have HK := Lib.hid hk
  have HM := Lib.hid hm
  have HX := Lib.hid hx
  have HNS := Lib.hid hns
  obtain ⟨w1, hw1⟩ : ∃ w1, w1 = ((w.alloc (Obj.cells #[.int .i64 kind, .int .i64 xa, .int .i64 xn, .int .i64 xo, .int .u64 xv] 31)).alloc (Obj.cells #[.int .i64 0, .int .u64 0, .int .i64 0] 38)).alloc (Obj.cells #[.int .i64 0, .int .u64 0, .int .i64 0] 38) := ⟨_, rfl⟩
  have U1 : Hid (Upd [] w w1) := Lib.hid (by rw [hw1]; exact (((Upd.refl _ _).alloc _).alloc _).alloc _)
  have P1 : Hid (Blk w1 w.heap.size 31 #[.int .i64 kind, .int .i64 xa, .int .i64 xn, .int .i64 xo, .int .u64 xv]) := Lib.hid (by rw [hw1]; exact ((Blk.new _ _ _).alloc _).alloc _)
  have P2 : Hid (Blk w1 (w.heap.size + 1) 38 #[.int .i64 0, .int .u64 0, .int .i64 0]) := Lib.hid (by rw [hw1]; exact (Blk.newAt _ _ (by simp)).alloc _)
  have P3 : Hid (Blk w1 (w.heap.size + 1 + 1) 38 #[.int .i64 0, .int .u64 0, .int .i64 0]) := Lib.hid (by rw [hw1]; exact Blk.newAt _ _ (by simp))
  clear h hk hm hx hns
  simp only [encC]
  by_cases k1 : kind = 1
  · subst k1
    go_enter Tryd.func29, Tryd.ntmps29
    go_wp2_with fail
    rw [← hw1]
    clear hw1
    refine (now_ok w1 (HS.out.upd0 U1.out) ck HK.out).mono ?_
    rintro e w2 ⟨lv', v, rfl, h1, h2, h3⟩
    have HRA : Hid (ansT ck cl ⟨1, xa, xn, xo, xv⟩ = nowT ck) := Lib.hid rfl
    have HV0 : Hid (V0 (resA (run (nowT ck) c).1)) := Lib.hid (resA_all (v0_now ck) rfl)
    generalize hres : resA (run (nowT ck) c).1 = A at h1 h3 HV0 ⊢
    have HRes := Lib.hid hres
    clear hres
    obtain ⟨ae, av, an⟩ := A
    obtain rfl : av = 0 := HV0.out
    clear HV0
    have H1 := Lib.hid h1
    have N2 := Lib.hid (h2.upd0 U1.out)
    have ER2 := Lib.hid (h3.up (show 1 ≤ 2 by omega))
    have Q2 : Hid (Blk w2 (w.heap.size + 1) 38 #[.int .i64 0, .int .u64 0, .int .i64 0]) := Lib.hid (P2.out.upd h2.up (new_SS (w1 := w) HS.out (by omega)))
    have Q3 : Hid (Blk w2 (w.heap.size + 1 + 1) 38 #[.int .i64 0, .int .u64 0, .int .i64 0]) := Lib.hid (P3.out.upd h2.up (new_SS (w1 := w) HS.out (by omega)))
    have NS : Hid ((∀ x, x ∈ [w.heap.size + 1 + 1] → x ∉ SS F cb lv') ∧ ∀ x, x ∈ [w.heap.size + 1] → x ∉ SS F cb lv') := Lib.hid ⟨fun x hx => by simp at hx; subst hx; exact SS_new HS.out h2 (by omega) P3.out.lt, fun x hx => by simp at hx; subst hx; exact SS_new HS.out h2 (by omega) P2.out.lt⟩
    have f := Q3.out.facts
    clear h1 h2 h3
    go_wp2_with fail
    obtain ⟨w3, hw3⟩ : ∃ w3, w3 = w2.setCell ⟨w.heap.size + 1 + 1, 2, none⟩ (.int .i64 an) := ⟨_, rfl⟩
    have R3 : Hid (Blk w3 (w.heap.size + 1 + 1) 38 #[.int .i64 0, .int .u64 0, .int .i64 an]) := Lib.hid (by rw [hw3]; exact Q3.out.set_ 2 _)
    have UU : Hid (Upd [w.heap.size + 1 + 1] w2 w3) := Lib.hid (by rw [hw3]; exact (Upd.refl _ _).setCell (by simp) _)
    rw [← hw3]
    clear hw3 f
    have ER3 := Lib.hid ((ER2.out.upd UU.out (by intro x hx; simp at hx; subst hx; exact P3.out.lt)).er (Nat.le_refl 2))
    refine (no_er ER3.out).mono ?_; rintro e w' ⟨rfl, rfl⟩
    have f3 := R3.out.facts
    go_wp2_with fail
    obtain ⟨w4, hw4⟩ : ∃ w4, w4 = w3.setCell ⟨w.heap.size + 1 + 1, 0, none⟩ (.int .i64 ae) := ⟨_, rfl⟩
    have R4 : Hid (Blk w4 (w.heap.size + 1 + 1) 38 #[.int .i64 ae, .int .u64 0, .int .i64 an]) := Lib.hid (by rw [hw4]; exact R3.out.set_ 0 _)
    have U4 : Hid (Upd [w.heap.size + 1 + 1] w2 w4) := Lib.hid (UU.out.trans (by rw [hw4]; exact (Upd.refl _ _).setCell (by simp) _))
    rw [← hw4]
    clear hw4 f3
    have Q4b := Q2.out.upd U4.out (by simp)
    have Q4 := Lib.hid Q4b
    have f4 := R4.out.facts
    have q4 := Q4b.facts
    clear Q4b
    go_region
    all_goals
      go_wp2_with fail
      obtain ⟨HRf0, UFf0⟩ := set3 Q4.out (.int .i64 ae) (.int .u64 0) (.int .i64 an)
      have HRf := HRf0.drew
      have UFf := UFf0.drew
      clear HRf0 UFf0
      generalize (((w4.setCell ⟨w.heap.size + 1, 0, none⟩ (.int .i64 ae)).setCell ⟨w.heap.size + 1, 1, none⟩ (.int .u64 0)).setCell ⟨w.heap.size + 1, 2, none⟩ (.int .i64 an)).drew = W7 at HRf UFf ⊢
      have d0 : W7.cell? ⟨w.heap.size + 1, 0, none⟩ = some (.int .i64 ae) := HRf.cell 0
      have d1 : W7.cell? ⟨w.heap.size + 1, 1, none⟩ = some (.int .u64 0) := HRf.cell 1
      have d2 : W7.cell? ⟨w.heap.size + 1, 2, none⟩ = some (.int .i64 an) := HRf.cell 2
      have hnS : ∀ x, x ∈ [w.heap.size + 1 + 1] → x ∉ SS F cb lv' := NS.out.1
      have hnS2 : ∀ x, x ∈ [w.heap.size + 1] → x ∉ SS F cb lv' := NS.out.2
      rw [HRA.out, HRes.out]
      exact bodyPost_ret (v := .tuple #[.agg (encA ⟨ae, 0, an⟩).toArray, .bool (ae == 11)]) (by simp [results, Tryd.results29, go_sem, encA, d0, d1, d2]) rfl ⟨lv', rfl, (H1.out.far U4.out hnS).far UFf hnS2, (N2.out.far U4.out (by simp; omega)).far UFf (by simp)⟩
  by_cases k2 : kind = 2
  · subst k2
    go_enter Tryd.func29, Tryd.ntmps29
    go_wp2_with fail
    rw [← hw1]
    clear hw1
    refine (tick_ok w1 (HS.out.upd0 U1.out) ck HK.out).mono ?_
    rintro e w2 ⟨lv', v, rfl, h1, h2, h3⟩
    have HRA : Hid (ansT ck cl ⟨2, xa, xn, xo, xv⟩ = tickT ck 8) := Lib.hid rfl
    have HV0 : Hid (V0 (resA (run (tickT ck 8) c).1)) := Lib.hid (resA_all (v0_tick ck 8) rfl)
    generalize hres : resA (run (tickT ck 8) c).1 = A at h1 h3 HV0 ⊢
    have HRes := Lib.hid hres
    clear hres
    obtain ⟨ae, av, an⟩ := A
    obtain rfl : av = 0 := HV0.out
    clear HV0
    have H1 := Lib.hid h1
    have N2 := Lib.hid (h2.upd0 U1.out)
    have ER2 := Lib.hid (h3.up (show 1 ≤ 2 by omega))
    have Q2 : Hid (Blk w2 (w.heap.size + 1) 38 #[.int .i64 0, .int .u64 0, .int .i64 0]) := Lib.hid (P2.out.upd h2.up (new_SS (w1 := w) HS.out (by omega)))
    have Q3 : Hid (Blk w2 (w.heap.size + 1 + 1) 38 #[.int .i64 0, .int .u64 0, .int .i64 0]) := Lib.hid (P3.out.upd h2.up (new_SS (w1 := w) HS.out (by omega)))
    have NS : Hid ((∀ x, x ∈ [w.heap.size + 1 + 1] → x ∉ SS F cb lv') ∧ ∀ x, x ∈ [w.heap.size + 1] → x ∉ SS F cb lv') := Lib.hid ⟨fun x hx => by simp at hx; subst hx; exact SS_new HS.out h2 (by omega) P3.out.lt, fun x hx => by simp at hx; subst hx; exact SS_new HS.out h2 (by omega) P2.out.lt⟩
    have f := Q3.out.facts
    clear h1 h2 h3
    go_wp2_with fail
    obtain ⟨w3, hw3⟩ : ∃ w3, w3 = w2.setCell ⟨w.heap.size + 1 + 1, 2, none⟩ (.int .i64 an) := ⟨_, rfl⟩
    have R3 : Hid (Blk w3 (w.heap.size + 1 + 1) 38 #[.int .i64 0, .int .u64 0, .int .i64 an]) := Lib.hid (by rw [hw3]; exact Q3.out.set_ 2 _)
    have UU : Hid (Upd [w.heap.size + 1 + 1] w2 w3) := Lib.hid (by rw [hw3]; exact (Upd.refl _ _).setCell (by simp) _)
    rw [← hw3]
    clear hw3 f
    have ER3 := Lib.hid ((ER2.out.upd UU.out (by intro x hx; simp at hx; subst hx; exact P3.out.lt)).er (Nat.le_refl 2))
    refine (no_er ER3.out).mono ?_; rintro e w' ⟨rfl, rfl⟩
    have f3 := R3.out.facts
    go_wp2_with fail
    obtain ⟨w4, hw4⟩ : ∃ w4, w4 = w3.setCell ⟨w.heap.size + 1 + 1, 0, none⟩ (.int .i64 ae) := ⟨_, rfl⟩
    have R4 : Hid (Blk w4 (w.heap.size + 1 + 1) 38 #[.int .i64 ae, .int .u64 0, .int .i64 an]) := Lib.hid (by rw [hw4]; exact R3.out.set_ 0 _)
    have U4 : Hid (Upd [w.heap.size + 1 + 1] w2 w4) := Lib.hid (UU.out.trans (by rw [hw4]; exact (Upd.refl _ _).setCell (by simp) _))
    rw [← hw4]
    clear hw4 f3
    have Q4b := Q2.out.upd U4.out (by simp)
    have Q4 := Lib.hid Q4b
    have f4 := R4.out.facts
    have q4 := Q4b.facts
    clear Q4b
    go_region
    all_goals
      go_wp2_with fail
      obtain ⟨HRf0, UFf0⟩ := set3 Q4.out (.int .i64 ae) (.int .u64 0) (.int .i64 an)
      have HRf := HRf0.drew
      have UFf := UFf0.drew
      clear HRf0 UFf0
      generalize (((w4.setCell ⟨w.heap.size + 1, 0, none⟩ (.int .i64 ae)).setCell ⟨w.heap.size + 1, 1, none⟩ (.int .u64 0)).setCell ⟨w.heap.size + 1, 2, none⟩ (.int .i64 an)).drew = W7 at HRf UFf ⊢
      have d0 : W7.cell? ⟨w.heap.size + 1, 0, none⟩ = some (.int .i64 ae) := HRf.cell 0
      have d1 : W7.cell? ⟨w.heap.size + 1, 1, none⟩ = some (.int .u64 0) := HRf.cell 1
      have d2 : W7.cell? ⟨w.heap.size + 1, 2, none⟩ = some (.int .i64 an) := HRf.cell 2
      have hnS : ∀ x, x ∈ [w.heap.size + 1 + 1] → x ∉ SS F cb lv' := NS.out.1
      have hnS2 : ∀ x, x ∈ [w.heap.size + 1] → x ∉ SS F cb lv' := NS.out.2
      rw [HRA.out, HRes.out]
      exact bodyPost_ret (v := .tuple #[.agg (encA ⟨ae, 0, an⟩).toArray, .bool (ae == 11)]) (by simp [results, Tryd.results29, go_sem, encA, d0, d1, d2]) rfl ⟨lv', rfl, (H1.out.far U4.out hnS).far UFf hnS2, (N2.out.far U4.out (by simp; omega)).far UFf (by simp)⟩
  by_cases k3 : kind = 3
  · subst k3
    go_enter Tryd.func29, Tryd.ntmps29
    go_wp2_with fail
    rw [← hw1]
    clear hw1
    have HRA : Hid (ansT ck cl ⟨3, xa, xn, xo, xv⟩ = readT cl) := Lib.hid rfl
    have hns3 := HNS.out
    rw [HRA.out] at hns3
    refine (read_ok w1 (HS.out.upd0 U1.out) cl HM.out hns3).mono ?_
    clear hns3
    rintro e w2 ⟨lv', v, rfl, h1, h2, h3⟩
    have HV0 : Hid True := Lib.hid trivial
    generalize hres : resA (run (readT cl) c).1 = A at h1 h3 HV0 ⊢
    have HRes := Lib.hid hres
    clear hres
    obtain ⟨ae, av, an⟩ := A
    skip
    clear HV0
    have H1 := Lib.hid h1
    have N2 := Lib.hid (h2.upd0 U1.out)
    have ER2 := Lib.hid (h3.up (show 1 ≤ 2 by omega))
    have Q2 : Hid (Blk w2 (w.heap.size + 1) 38 #[.int .i64 0, .int .u64 0, .int .i64 0]) := Lib.hid (P2.out.upd h2.up (new_SS (w1 := w) HS.out (by omega)))
    have Q3 : Hid (Blk w2 (w.heap.size + 1 + 1) 38 #[.int .i64 0, .int .u64 0, .int .i64 0]) := Lib.hid (P3.out.upd h2.up (new_SS (w1 := w) HS.out (by omega)))
    have NS : Hid ((∀ x, x ∈ [w.heap.size + 1 + 1] → x ∉ SS F cb lv') ∧ ∀ x, x ∈ [w.heap.size + 1] → x ∉ SS F cb lv') := Lib.hid ⟨fun x hx => by simp at hx; subst hx; exact SS_new HS.out h2 (by omega) P3.out.lt, fun x hx => by simp at hx; subst hx; exact SS_new HS.out h2 (by omega) P2.out.lt⟩
    have f := Q3.out.facts
    clear h1 h2 h3
    go_wp2_with fail
    obtain ⟨w3, hw3⟩ : ∃ w3, w3 = (w2.setCell ⟨w.heap.size + 1 + 1, 1, none⟩ (.int .u64 av)).setCell ⟨w.heap.size + 1 + 1, 2, none⟩ (.int .i64 an) := ⟨_, rfl⟩
    have R3 : Hid (Blk w3 (w.heap.size + 1 + 1) 38 #[.int .i64 0, .int .u64 av, .int .i64 an]) := Lib.hid (by rw [hw3]; exact (Q3.out.set_ 1 _).set_ 2 _)
    have UU : Hid (Upd [w.heap.size + 1 + 1] w2 w3) := Lib.hid (by rw [hw3]; exact ((Upd.refl _ _).setCell (by simp) _).setCell (by simp) _)
    rw [← hw3]
    clear hw3 f
    have ER3 := Lib.hid ((ER2.out.upd UU.out (by intro x hx; simp at hx; subst hx; exact P3.out.lt)).er (Nat.le_refl 2))
    refine (no_er ER3.out).mono ?_; rintro e w' ⟨rfl, rfl⟩
    have f3 := R3.out.facts
    go_wp2_with fail
    obtain ⟨w4, hw4⟩ : ∃ w4, w4 = w3.setCell ⟨w.heap.size + 1 + 1, 0, none⟩ (.int .i64 ae) := ⟨_, rfl⟩
    have R4 : Hid (Blk w4 (w.heap.size + 1 + 1) 38 #[.int .i64 ae, .int .u64 av, .int .i64 an]) := Lib.hid (by rw [hw4]; exact R3.out.set_ 0 _)
    have U4 : Hid (Upd [w.heap.size + 1 + 1] w2 w4) := Lib.hid (UU.out.trans (by rw [hw4]; exact (Upd.refl _ _).setCell (by simp) _))
    rw [← hw4]
    clear hw4 f3
    have Q4b := Q2.out.upd U4.out (by simp)
    have Q4 := Lib.hid Q4b
    have f4 := R4.out.facts
    have q4 := Q4b.facts
    clear Q4b
    go_region
    all_goals
      go_wp2_with fail
      obtain ⟨HRf0, UFf0⟩ := set3 Q4.out (.int .i64 ae) (.int .u64 av) (.int .i64 an)
      have HRf := HRf0.drew
      have UFf := UFf0.drew
      clear HRf0 UFf0
      generalize (((w4.setCell ⟨w.heap.size + 1, 0, none⟩ (.int .i64 ae)).setCell ⟨w.heap.size + 1, 1, none⟩ (.int .u64 av)).setCell ⟨w.heap.size + 1, 2, none⟩ (.int .i64 an)).drew = W7 at HRf UFf ⊢
      have d0 : W7.cell? ⟨w.heap.size + 1, 0, none⟩ = some (.int .i64 ae) := HRf.cell 0
      have d1 : W7.cell? ⟨w.heap.size + 1, 1, none⟩ = some (.int .u64 av) := HRf.cell 1
      have d2 : W7.cell? ⟨w.heap.size + 1, 2, none⟩ = some (.int .i64 an) := HRf.cell 2
      have hnS : ∀ x, x ∈ [w.heap.size + 1 + 1] → x ∉ SS F cb lv' := NS.out.1
      have hnS2 : ∀ x, x ∈ [w.heap.size + 1] → x ∉ SS F cb lv' := NS.out.2
      rw [HRA.out, HRes.out]
      exact bodyPost_ret (v := .tuple #[.agg (encA ⟨ae, av, an⟩).toArray, .bool (ae == 11)]) (by simp [results, Tryd.results29, go_sem, encA, d0, d1, d2]) rfl ⟨lv', rfl, (H1.out.far U4.out hnS).far UFf hnS2, (N2.out.far U4.out (by simp; omega)).far UFf (by simp)⟩
  have k4 : kind ≠ 4 := HX.out.1
  by_cases k5 : kind = 5
  · subst k5
    go_enter Tryd.func29, Tryd.ntmps29
    go_wp2_with fail
    rw [← hw1]
    clear hw1
    refine (mlock_ok w1 (HS.out.upd0 U1.out) cl HM.out xn xo (HX.out.2.1 rfl)).mono ?_
    rintro e w2 ⟨lv', v, rfl, h1, h2, h3⟩
    have HRA : Hid (ansT ck cl ⟨5, xa, xn, xo, xv⟩ = turnT cl xn (lockTo xo) 8) := Lib.hid rfl
    have HV0 : Hid (VN0 (resA (run (turnT cl xn (lockTo xo) 8) c).1)) := Lib.hid (resA_all (vn0_turn cl xn _ 8) ⟨rfl, rfl⟩)
    generalize hres : resA (run (turnT cl xn (lockTo xo) 8) c).1 = A at h1 h3 HV0 ⊢
    have HRes := Lib.hid hres
    clear hres
    obtain ⟨ae, av, an⟩ := A
    obtain ⟨rfl, rfl⟩ : av = 0 ∧ an = 0 := HV0.out
    clear HV0
    have H1 := Lib.hid h1
    have N2 := Lib.hid (h2.upd0 U1.out)
    have ER2 := Lib.hid (h3.up (show 2 ≤ 2 by omega))
    have Q2 : Hid (Blk w2 (w.heap.size + 1) 38 #[.int .i64 0, .int .u64 0, .int .i64 0]) := Lib.hid (P2.out.upd h2.up (new_SS (w1 := w) HS.out (by omega)))
    have Q3 : Hid (Blk w2 (w.heap.size + 1 + 1) 38 #[.int .i64 0, .int .u64 0, .int .i64 0]) := Lib.hid (P3.out.upd h2.up (new_SS (w1 := w) HS.out (by omega)))
    have NS : Hid ((∀ x, x ∈ [w.heap.size + 1 + 1] → x ∉ SS F cb lv') ∧ ∀ x, x ∈ [w.heap.size + 1] → x ∉ SS F cb lv') := Lib.hid ⟨fun x hx => by simp at hx; subst hx; exact SS_new HS.out h2 (by omega) P3.out.lt, fun x hx => by simp at hx; subst hx; exact SS_new HS.out h2 (by omega) P2.out.lt⟩
    have f := Q3.out.facts
    clear h1 h2 h3
    clear f
    go_wp2_with fail
    obtain ⟨w3, hw3⟩ : ∃ w3, w3 = w2 := ⟨_, rfl⟩
    have R3 : Hid (Blk w3 (w.heap.size + 1 + 1) 38 #[.int .i64 0, .int .u64 0, .int .i64 0]) := Lib.hid (by rw [hw3]; exact Q3.out)
    have UU : Hid (Upd [w.heap.size + 1 + 1] w2 w3) := Lib.hid (by rw [hw3]; exact .refl _ _)
    rw [← hw3]
    clear hw3
    have ER3 := Lib.hid ((ER2.out.upd UU.out (by intro x hx; simp at hx; subst hx; exact P3.out.lt)).er (Nat.le_refl 2))
    refine (no_er ER3.out).mono ?_; rintro e w' ⟨rfl, rfl⟩
    have f3 := R3.out.facts
    go_wp2_with fail
    obtain ⟨w4, hw4⟩ : ∃ w4, w4 = w3.setCell ⟨w.heap.size + 1 + 1, 0, none⟩ (.int .i64 ae) := ⟨_, rfl⟩
    have R4 : Hid (Blk w4 (w.heap.size + 1 + 1) 38 #[.int .i64 ae, .int .u64 0, .int .i64 0]) := Lib.hid (by rw [hw4]; exact R3.out.set_ 0 _)
    have U4 : Hid (Upd [w.heap.size + 1 + 1] w2 w4) := Lib.hid (UU.out.trans (by rw [hw4]; exact (Upd.refl _ _).setCell (by simp) _))
    rw [← hw4]
    clear hw4 f3
    have Q4b := Q2.out.upd U4.out (by simp)
    have Q4 := Lib.hid Q4b
    have f4 := R4.out.facts
    have q4 := Q4b.facts
    clear Q4b
    go_region
    all_goals
      go_wp2_with fail
      obtain ⟨HRf0, UFf0⟩ := set3 Q4.out (.int .i64 ae) (.int .u64 0) (.int .i64 0)
      have HRf := HRf0.drew
      have UFf := UFf0.drew
      clear HRf0 UFf0
      generalize (((w4.setCell ⟨w.heap.size + 1, 0, none⟩ (.int .i64 ae)).setCell ⟨w.heap.size + 1, 1, none⟩ (.int .u64 0)).setCell ⟨w.heap.size + 1, 2, none⟩ (.int .i64 0)).drew = W7 at HRf UFf ⊢
      have d0 : W7.cell? ⟨w.heap.size + 1, 0, none⟩ = some (.int .i64 ae) := HRf.cell 0
      have d1 : W7.cell? ⟨w.heap.size + 1, 1, none⟩ = some (.int .u64 0) := HRf.cell 1
      have d2 : W7.cell? ⟨w.heap.size + 1, 2, none⟩ = some (.int .i64 0) := HRf.cell 2
      have hnS : ∀ x, x ∈ [w.heap.size + 1 + 1] → x ∉ SS F cb lv' := NS.out.1
      have hnS2 : ∀ x, x ∈ [w.heap.size + 1] → x ∉ SS F cb lv' := NS.out.2
      rw [HRA.out, HRes.out]
      exact bodyPost_ret (v := .tuple #[.agg (encA ⟨ae, 0, 0⟩).toArray, .bool (ae == 11)]) (by simp [results, Tryd.results29, go_sem, encA, d0, d1, d2]) rfl ⟨lv', rfl, (H1.out.far U4.out hnS).far UFf hnS2, (N2.out.far U4.out (by simp; omega)).far UFf (by simp)⟩
  by_cases k6 : kind = 6
  · subst k6
    go_enter Tryd.func29, Tryd.ntmps29
    go_wp2_with fail
    rw [← hw1]
    clear hw1
    refine (mcommit_ok w1 (HS.out.upd0 U1.out) cl HM.out xv xn (HX.out.2.2 rfl).2 (HX.out.2.2 rfl).1).mono ?_
    rintro e w2 ⟨lv', v, rfl, h1, h2, h3⟩
    have HRA : Hid (ansT ck cl ⟨6, xa, xn, xo, xv⟩ = commitT cl xv xn) := Lib.hid rfl
    have HV0 : Hid (VN1 (resA (run (commitT cl xv xn) c).1)) := Lib.hid (resA_all (vn1_commit cl xv xn) ⟨rfl, .inl rfl⟩)
    generalize hres : resA (run (commitT cl xv xn) c).1 = A at h1 h3 HV0 ⊢
    have HRes := Lib.hid hres
    clear hres
    obtain ⟨ae, av, an⟩ := A
    obtain ⟨rfl, hn⟩ : av = 0 ∧ (an = 0 ∨ an = 1) := HV0.out
    clear HV0
    have H1 := Lib.hid h1
    have N2 := Lib.hid (h2.upd0 U1.out)
    have ER2 := Lib.hid (h3.up (show 2 ≤ 2 by omega))
    have Q2 : Hid (Blk w2 (w.heap.size + 1) 38 #[.int .i64 0, .int .u64 0, .int .i64 0]) := Lib.hid (P2.out.upd h2.up (new_SS (w1 := w) HS.out (by omega)))
    have Q3 : Hid (Blk w2 (w.heap.size + 1 + 1) 38 #[.int .i64 0, .int .u64 0, .int .i64 0]) := Lib.hid (P3.out.upd h2.up (new_SS (w1 := w) HS.out (by omega)))
    have NS : Hid ((∀ x, x ∈ [w.heap.size + 1 + 1] → x ∉ SS F cb lv') ∧ ∀ x, x ∈ [w.heap.size + 1] → x ∉ SS F cb lv') := Lib.hid ⟨fun x hx => by simp at hx; subst hx; exact SS_new HS.out h2 (by omega) P3.out.lt, fun x hx => by simp at hx; subst hx; exact SS_new HS.out h2 (by omega) P2.out.lt⟩
    have f := Q3.out.facts
    clear h1 h2 h3
    rcases hn with rfl | rfl
    · clear f
      go_wp2_with fail
      obtain ⟨w3, hw3⟩ : ∃ w3, w3 = w2 := ⟨_, rfl⟩
      have R3 : Hid (Blk w3 (w.heap.size + 1 + 1) 38 #[.int .i64 0, .int .u64 0, .int .i64 0]) := Lib.hid (by rw [hw3]; exact Q3.out)
      have UU : Hid (Upd [w.heap.size + 1 + 1] w2 w3) := Lib.hid (by rw [hw3]; exact .refl _ _)
      rw [← hw3]
      clear hw3
      have ER3 := Lib.hid ((ER2.out.upd UU.out (by intro x hx; simp at hx; subst hx; exact P3.out.lt)).er (Nat.le_refl 2))
      refine (no_er ER3.out).mono ?_; rintro e w' ⟨rfl, rfl⟩
      have f3 := R3.out.facts
      go_wp2_with fail
      obtain ⟨w4, hw4⟩ : ∃ w4, w4 = w3.setCell ⟨w.heap.size + 1 + 1, 0, none⟩ (.int .i64 ae) := ⟨_, rfl⟩
      have R4 : Hid (Blk w4 (w.heap.size + 1 + 1) 38 #[.int .i64 ae, .int .u64 0, .int .i64 0]) := Lib.hid (by rw [hw4]; exact R3.out.set_ 0 _)
      have U4 : Hid (Upd [w.heap.size + 1 + 1] w2 w4) := Lib.hid (UU.out.trans (by rw [hw4]; exact (Upd.refl _ _).setCell (by simp) _))
      rw [← hw4]
      clear hw4 f3
      have Q4b := Q2.out.upd U4.out (by simp)
      have Q4 := Lib.hid Q4b
      have f4 := R4.out.facts
      have q4 := Q4b.facts
      clear Q4b
      go_region
      all_goals
        go_wp2_with fail
        obtain ⟨HRf0, UFf0⟩ := set3 Q4.out (.int .i64 ae) (.int .u64 0) (.int .i64 0)
        have HRf := HRf0.drew
        have UFf := UFf0.drew
        clear HRf0 UFf0
        generalize (((w4.setCell ⟨w.heap.size + 1, 0, none⟩ (.int .i64 ae)).setCell ⟨w.heap.size + 1, 1, none⟩ (.int .u64 0)).setCell ⟨w.heap.size + 1, 2, none⟩ (.int .i64 0)).drew = W7 at HRf UFf ⊢
        have d0 : W7.cell? ⟨w.heap.size + 1, 0, none⟩ = some (.int .i64 ae) := HRf.cell 0
        have d1 : W7.cell? ⟨w.heap.size + 1, 1, none⟩ = some (.int .u64 0) := HRf.cell 1
        have d2 : W7.cell? ⟨w.heap.size + 1, 2, none⟩ = some (.int .i64 0) := HRf.cell 2
        have hnS : ∀ x, x ∈ [w.heap.size + 1 + 1] → x ∉ SS F cb lv' := NS.out.1
        have hnS2 : ∀ x, x ∈ [w.heap.size + 1] → x ∉ SS F cb lv' := NS.out.2
        rw [HRA.out, HRes.out]
        exact bodyPost_ret (v := .tuple #[.agg (encA ⟨ae, 0, 0⟩).toArray, .bool (ae == 11)]) (by simp [results, Tryd.results29, go_sem, encA, d0, d1, d2]) rfl ⟨lv', rfl, (H1.out.far U4.out hnS).far UFf hnS2, (N2.out.far U4.out (by simp; omega)).far UFf (by simp)⟩
    · go_wp2_with fail
      obtain ⟨w3, hw3⟩ : ∃ w3, w3 = w2.setCell ⟨w.heap.size + 1 + 1, 2, none⟩ (.int .i64 1) := ⟨_, rfl⟩
      have R3 : Hid (Blk w3 (w.heap.size + 1 + 1) 38 #[.int .i64 0, .int .u64 0, .int .i64 1]) := Lib.hid (by rw [hw3]; exact Q3.out.set_ 2 _)
      have UU : Hid (Upd [w.heap.size + 1 + 1] w2 w3) := Lib.hid (by rw [hw3]; exact (Upd.refl _ _).setCell (by simp) _)
      rw [← hw3]
      clear hw3 f
      have ER3 := Lib.hid ((ER2.out.upd UU.out (by intro x hx; simp at hx; subst hx; exact P3.out.lt)).er (Nat.le_refl 2))
      refine (no_er ER3.out).mono ?_; rintro e w' ⟨rfl, rfl⟩
      have f3 := R3.out.facts
      go_wp2_with fail
      obtain ⟨w4, hw4⟩ : ∃ w4, w4 = w3.setCell ⟨w.heap.size + 1 + 1, 0, none⟩ (.int .i64 ae) := ⟨_, rfl⟩
      have R4 : Hid (Blk w4 (w.heap.size + 1 + 1) 38 #[.int .i64 ae, .int .u64 0, .int .i64 1]) := Lib.hid (by rw [hw4]; exact R3.out.set_ 0 _)
      have U4 : Hid (Upd [w.heap.size + 1 + 1] w2 w4) := Lib.hid (UU.out.trans (by rw [hw4]; exact (Upd.refl _ _).setCell (by simp) _))
      rw [← hw4]
      clear hw4 f3
      have Q4b := Q2.out.upd U4.out (by simp)
      have Q4 := Lib.hid Q4b
      have f4 := R4.out.facts
      have q4 := Q4b.facts
      clear Q4b
      go_region
      all_goals
        go_wp2_with fail
        obtain ⟨HRf0, UFf0⟩ := set3 Q4.out (.int .i64 ae) (.int .u64 0) (.int .i64 1)
        have HRf := HRf0.drew
        have UFf := UFf0.drew
        clear HRf0 UFf0
        generalize (((w4.setCell ⟨w.heap.size + 1, 0, none⟩ (.int .i64 ae)).setCell ⟨w.heap.size + 1, 1, none⟩ (.int .u64 0)).setCell ⟨w.heap.size + 1, 2, none⟩ (.int .i64 1)).drew = W7 at HRf UFf ⊢
        have d0 : W7.cell? ⟨w.heap.size + 1, 0, none⟩ = some (.int .i64 ae) := HRf.cell 0
        have d1 : W7.cell? ⟨w.heap.size + 1, 1, none⟩ = some (.int .u64 0) := HRf.cell 1
        have d2 : W7.cell? ⟨w.heap.size + 1, 2, none⟩ = some (.int .i64 1) := HRf.cell 2
        have hnS : ∀ x, x ∈ [w.heap.size + 1 + 1] → x ∉ SS F cb lv' := NS.out.1
        have hnS2 : ∀ x, x ∈ [w.heap.size + 1] → x ∉ SS F cb lv' := NS.out.2
        rw [HRA.out, HRes.out]
        exact bodyPost_ret (v := .tuple #[.agg (encA ⟨ae, 0, 1⟩).toArray, .bool (ae == 11)]) (by simp [results, Tryd.results29, go_sem, encA, d0, d1, d2]) rfl ⟨lv', rfl, (H1.out.far U4.out hnS).far UFf hnS2, (N2.out.far U4.out (by simp; omega)).far UFf (by simp)⟩
  by_cases k7 : kind = 7
  · subst k7
    go_enter Tryd.func29, Tryd.ntmps29
    go_wp2_with fail
    rw [← hw1]
    clear hw1
    refine (mrel_ok w1 (HS.out.upd0 U1.out) cl HM.out).mono ?_
    rintro e w2 ⟨lv', v, rfl, h1, h2, h3⟩
    have HRA : Hid (ansT ck cl ⟨7, xa, xn, xo, xv⟩ = relT cl) := Lib.hid rfl
    have HV0 : Hid (VN0 (resA (run (relT cl) c).1)) := Lib.hid (resA_all (vn0_rel cl) ⟨rfl, rfl⟩)
    generalize hres : resA (run (relT cl) c).1 = A at h1 h3 HV0 ⊢
    have HRes := Lib.hid hres
    clear hres
    obtain ⟨ae, av, an⟩ := A
    obtain ⟨rfl, rfl⟩ : av = 0 ∧ an = 0 := HV0.out
    clear HV0
    have H1 := Lib.hid h1
    have N2 := Lib.hid (h2.upd0 U1.out)
    have ER2 := Lib.hid (h3.up (show 2 ≤ 2 by omega))
    have Q2 : Hid (Blk w2 (w.heap.size + 1) 38 #[.int .i64 0, .int .u64 0, .int .i64 0]) := Lib.hid (P2.out.upd h2.up (new_SS (w1 := w) HS.out (by omega)))
    have Q3 : Hid (Blk w2 (w.heap.size + 1 + 1) 38 #[.int .i64 0, .int .u64 0, .int .i64 0]) := Lib.hid (P3.out.upd h2.up (new_SS (w1 := w) HS.out (by omega)))
    have NS : Hid ((∀ x, x ∈ [w.heap.size + 1 + 1] → x ∉ SS F cb lv') ∧ ∀ x, x ∈ [w.heap.size + 1] → x ∉ SS F cb lv') := Lib.hid ⟨fun x hx => by simp at hx; subst hx; exact SS_new HS.out h2 (by omega) P3.out.lt, fun x hx => by simp at hx; subst hx; exact SS_new HS.out h2 (by omega) P2.out.lt⟩
    have f := Q3.out.facts
    clear h1 h2 h3
    clear f
    go_wp2_with fail
    obtain ⟨w3, hw3⟩ : ∃ w3, w3 = w2 := ⟨_, rfl⟩
    have R3 : Hid (Blk w3 (w.heap.size + 1 + 1) 38 #[.int .i64 0, .int .u64 0, .int .i64 0]) := Lib.hid (by rw [hw3]; exact Q3.out)
    have UU : Hid (Upd [w.heap.size + 1 + 1] w2 w3) := Lib.hid (by rw [hw3]; exact .refl _ _)
    rw [← hw3]
    clear hw3
    have ER3 := Lib.hid ((ER2.out.upd UU.out (by intro x hx; simp at hx; subst hx; exact P3.out.lt)).er (Nat.le_refl 2))
    refine (no_er ER3.out).mono ?_; rintro e w' ⟨rfl, rfl⟩
    have f3 := R3.out.facts
    go_wp2_with fail
    obtain ⟨w4, hw4⟩ : ∃ w4, w4 = w3.setCell ⟨w.heap.size + 1 + 1, 0, none⟩ (.int .i64 ae) := ⟨_, rfl⟩
    have R4 : Hid (Blk w4 (w.heap.size + 1 + 1) 38 #[.int .i64 ae, .int .u64 0, .int .i64 0]) := Lib.hid (by rw [hw4]; exact R3.out.set_ 0 _)
    have U4 : Hid (Upd [w.heap.size + 1 + 1] w2 w4) := Lib.hid (UU.out.trans (by rw [hw4]; exact (Upd.refl _ _).setCell (by simp) _))
    rw [← hw4]
    clear hw4 f3
    have Q4b := Q2.out.upd U4.out (by simp)
    have Q4 := Lib.hid Q4b
    have f4 := R4.out.facts
    have q4 := Q4b.facts
    clear Q4b
    go_region
    all_goals
      go_wp2_with fail
      obtain ⟨HRf0, UFf0⟩ := set3 Q4.out (.int .i64 ae) (.int .u64 0) (.int .i64 0)
      have HRf := HRf0.drew
      have UFf := UFf0.drew
      clear HRf0 UFf0
      generalize (((w4.setCell ⟨w.heap.size + 1, 0, none⟩ (.int .i64 ae)).setCell ⟨w.heap.size + 1, 1, none⟩ (.int .u64 0)).setCell ⟨w.heap.size + 1, 2, none⟩ (.int .i64 0)).drew = W7 at HRf UFf ⊢
      have d0 : W7.cell? ⟨w.heap.size + 1, 0, none⟩ = some (.int .i64 ae) := HRf.cell 0
      have d1 : W7.cell? ⟨w.heap.size + 1, 1, none⟩ = some (.int .u64 0) := HRf.cell 1
      have d2 : W7.cell? ⟨w.heap.size + 1, 2, none⟩ = some (.int .i64 0) := HRf.cell 2
      have hnS : ∀ x, x ∈ [w.heap.size + 1 + 1] → x ∉ SS F cb lv' := NS.out.1
      have hnS2 : ∀ x, x ∈ [w.heap.size + 1] → x ∉ SS F cb lv' := NS.out.2
      rw [HRA.out, HRes.out]
      exact bodyPost_ret (v := .tuple #[.agg (encA ⟨ae, 0, 0⟩).toArray, .bool (ae == 11)]) (by simp [results, Tryd.results29, go_sem, encA, d0, d1, d2]) rfl ⟨lv', rfl, (H1.out.far U4.out hnS).far UFf hnS2, (N2.out.far U4.out (by simp; omega)).far UFf (by simp)⟩
  by_cases k8 : kind = 8
  · subst k8
    go_enter Tryd.func29, Tryd.ntmps29
    go_wp2_with fail
    rw [← hw1]
    clear hw1
    refine (mawait_ok w1 (HS.out.upd0 U1.out) cl HM.out xn).mono ?_
    rintro e w2 ⟨lv', v, rfl, h1, h2, h3⟩
    have HRA : Hid (ansT ck cl ⟨8, xa, xn, xo, xv⟩ = turnT cl xn waitTo 8) := Lib.hid rfl
    have HV0 : Hid (VN0 (resA (run (turnT cl xn waitTo 8) c).1)) := Lib.hid (resA_all (vn0_turn cl xn _ 8) ⟨rfl, rfl⟩)
    generalize hres : resA (run (turnT cl xn waitTo 8) c).1 = A at h1 h3 HV0 ⊢
    have HRes := Lib.hid hres
    clear hres
    obtain ⟨ae, av, an⟩ := A
    obtain ⟨rfl, rfl⟩ : av = 0 ∧ an = 0 := HV0.out
    clear HV0
    have H1 := Lib.hid h1
    have N2 := Lib.hid (h2.upd0 U1.out)
    have ER2 := Lib.hid (h3.up (show 2 ≤ 2 by omega))
    have Q2 : Hid (Blk w2 (w.heap.size + 1) 38 #[.int .i64 0, .int .u64 0, .int .i64 0]) := Lib.hid (P2.out.upd h2.up (new_SS (w1 := w) HS.out (by omega)))
    have Q3 : Hid (Blk w2 (w.heap.size + 1 + 1) 38 #[.int .i64 0, .int .u64 0, .int .i64 0]) := Lib.hid (P3.out.upd h2.up (new_SS (w1 := w) HS.out (by omega)))
    have NS : Hid ((∀ x, x ∈ [w.heap.size + 1 + 1] → x ∉ SS F cb lv') ∧ ∀ x, x ∈ [w.heap.size + 1] → x ∉ SS F cb lv') := Lib.hid ⟨fun x hx => by simp at hx; subst hx; exact SS_new HS.out h2 (by omega) P3.out.lt, fun x hx => by simp at hx; subst hx; exact SS_new HS.out h2 (by omega) P2.out.lt⟩
    have f := Q3.out.facts
    clear h1 h2 h3
    clear f
    go_wp2_with fail
    obtain ⟨w3, hw3⟩ : ∃ w3, w3 = w2 := ⟨_, rfl⟩
    have R3 : Hid (Blk w3 (w.heap.size + 1 + 1) 38 #[.int .i64 0, .int .u64 0, .int .i64 0]) := Lib.hid (by rw [hw3]; exact Q3.out)
    have UU : Hid (Upd [w.heap.size + 1 + 1] w2 w3) := Lib.hid (by rw [hw3]; exact .refl _ _)
    rw [← hw3]
    clear hw3
    have ER3 := Lib.hid ((ER2.out.upd UU.out (by intro x hx; simp at hx; subst hx; exact P3.out.lt)).er (Nat.le_refl 2))
    refine (no_er ER3.out).mono ?_; rintro e w' ⟨rfl, rfl⟩
    have f3 := R3.out.facts
    go_wp2_with fail
    obtain ⟨w4, hw4⟩ : ∃ w4, w4 = w3.setCell ⟨w.heap.size + 1 + 1, 0, none⟩ (.int .i64 ae) := ⟨_, rfl⟩
    have R4 : Hid (Blk w4 (w.heap.size + 1 + 1) 38 #[.int .i64 ae, .int .u64 0, .int .i64 0]) := Lib.hid (by rw [hw4]; exact R3.out.set_ 0 _)
    have U4 : Hid (Upd [w.heap.size + 1 + 1] w2 w4) := Lib.hid (UU.out.trans (by rw [hw4]; exact (Upd.refl _ _).setCell (by simp) _))
    rw [← hw4]
    clear hw4 f3
    have Q4b := Q2.out.upd U4.out (by simp)
    have Q4 := Lib.hid Q4b
    have f4 := R4.out.facts
    have q4 := Q4b.facts
    clear Q4b
    go_region
    all_goals
      go_wp2_with fail
      obtain ⟨HRf0, UFf0⟩ := set3 Q4.out (.int .i64 ae) (.int .u64 0) (.int .i64 0)
      have HRf := HRf0.drew
      have UFf := UFf0.drew
      clear HRf0 UFf0
      generalize (((w4.setCell ⟨w.heap.size + 1, 0, none⟩ (.int .i64 ae)).setCell ⟨w.heap.size + 1, 1, none⟩ (.int .u64 0)).setCell ⟨w.heap.size + 1, 2, none⟩ (.int .i64 0)).drew = W7 at HRf UFf ⊢
      have d0 : W7.cell? ⟨w.heap.size + 1, 0, none⟩ = some (.int .i64 ae) := HRf.cell 0
      have d1 : W7.cell? ⟨w.heap.size + 1, 1, none⟩ = some (.int .u64 0) := HRf.cell 1
      have d2 : W7.cell? ⟨w.heap.size + 1, 2, none⟩ = some (.int .i64 0) := HRf.cell 2
      have hnS : ∀ x, x ∈ [w.heap.size + 1 + 1] → x ∉ SS F cb lv' := NS.out.1
      have hnS2 : ∀ x, x ∈ [w.heap.size + 1] → x ∉ SS F cb lv' := NS.out.2
      rw [HRA.out, HRes.out]
      exact bodyPost_ret (v := .tuple #[.agg (encA ⟨ae, 0, 0⟩).toArray, .bool (ae == 11)]) (by simp [results, Tryd.results29, go_sem, encA, d0, d1, d2]) rfl ⟨lv', rfl, (H1.out.far U4.out hnS).far UFf hnS2, (N2.out.far U4.out (by simp; omega)).far UFf (by simp)⟩
  · have HRA : Hid (ansT ck cl ⟨kind, xa, xn, xo, xv⟩ = .ret ⟨0, 0, 0⟩) := Lib.hid (by unfold ansT; simp only [if_neg k1, if_neg k2, if_neg k3, if_neg k5, if_neg k6, if_neg k7, if_neg k8])
    have e1 : (kind == 1) = false := by simpa using k1
    have e2 : (kind == 2) = false := by simpa using k2
    have e3 : (kind == 3) = false := by simpa using k3
    have e4 : (kind == 4) = false := by simpa using k4
    have e5 : (kind == 5) = false := by simpa using k5
    have e6 : (kind == 6) = false := by simpa using k6
    have e7 : (kind == 7) = false := by simpa using k7
    have e8 : (kind == 8) = false := by simpa using k8
    clear k1 k2 k3 k4 k5 k6 k7 k8
    go_enter Tryd.func29, Tryd.ntmps29
    go_wp2_with fail
    rw [← hw1]
    clear hw1
    obtain ⟨ae, hae, HRes⟩ : ∃ ae : Int, ae = 0 ∧ Hid (resA (run (.ret ⟨0, 0, 0⟩ : Pg An) c).1 = ⟨ae, 0, 0⟩) := ⟨0, rfl, Lib.hid rfl⟩
    obtain ⟨w2, hw2⟩ : ∃ w2, w2 = w1 := ⟨_, rfl⟩
    obtain ⟨lv', hlv⟩ : ∃ lv', lv' = lv := ⟨_, rfl⟩
    have H1 : Hid (CSt w2 F cb lv' (run (.ret ⟨0, 0, 0⟩ : Pg An) c).2) := Lib.hid (by rw [hw2, hlv]; exact HS.out.upd0 U1.out)
    have N2 : Hid (CNx w w2 F F cb lv lv') := Lib.hid (by rw [hw2, hlv]; exact (CNx.refl w F cb lv).upd U1.out)
    have ER2 : Hid (ErK 2 w2 w1.heap.size .nilIface ae) := Lib.hid (by rw [hae]; exact .nil _ _ _)
    have Q2 : Hid (Blk w2 (w.heap.size + 1) 38 #[.int .i64 0, .int .u64 0, .int .i64 0]) := Lib.hid (by rw [hw2]; exact P2.out)
    have Q3 : Hid (Blk w2 (w.heap.size + 1 + 1) 38 #[.int .i64 0, .int .u64 0, .int .i64 0]) := Lib.hid (by rw [hw2]; exact P3.out)
    have NS : Hid ((∀ x, x ∈ [w.heap.size + 1 + 1] → x ∉ SS F cb lv') ∧ ∀ x, x ∈ [w.heap.size + 1] → x ∉ SS F cb lv') := Lib.hid ⟨fun x hx => by simp at hx; subst hx; rw [hlv]; exact new_SS (w1 := w) HS.out (by omega), fun x hx => by simp at hx; subst hx; rw [hlv]; exact new_SS (w1 := w) HS.out (by omega)⟩
    rw [← hw2]
    clear hw2 hlv hae e1 e2 e3 e4 e5 e6 e7 e8
    obtain ⟨w3, hw3⟩ : ∃ w3, w3 = w2 := ⟨_, rfl⟩
    have R3 : Hid (Blk w3 (w.heap.size + 1 + 1) 38 #[.int .i64 0, .int .u64 0, .int .i64 0]) := Lib.hid (by rw [hw3]; exact Q3.out)
    have UU : Hid (Upd [w.heap.size + 1 + 1] w2 w3) := Lib.hid (by rw [hw3]; exact .refl _ _)
    rw [← hw3]
    clear hw3
    have ER3 := Lib.hid ((ER2.out.upd UU.out (by intro x hx; simp at hx; subst hx; exact P3.out.lt)).er (Nat.le_refl 2))
    refine (no_er ER3.out).mono ?_; rintro e w' ⟨rfl, rfl⟩
    have f3 := R3.out.facts
    go_wp2_with fail
    obtain ⟨w4, hw4⟩ : ∃ w4, w4 = w3.setCell ⟨w.heap.size + 1 + 1, 0, none⟩ (.int .i64 ae) := ⟨_, rfl⟩
    have R4 : Hid (Blk w4 (w.heap.size + 1 + 1) 38 #[.int .i64 ae, .int .u64 0, .int .i64 0]) := Lib.hid (by rw [hw4]; exact R3.out.set_ 0 _)
    have U4 : Hid (Upd [w.heap.size + 1 + 1] w2 w4) := Lib.hid (UU.out.trans (by rw [hw4]; exact (Upd.refl _ _).setCell (by simp) _))
    rw [← hw4]
    clear hw4 f3
    have Q4b := Q2.out.upd U4.out (by simp)
    have Q4 := Lib.hid Q4b
    have f4 := R4.out.facts
    have q4 := Q4b.facts
    clear Q4b
    go_region
    all_goals
      go_wp2_with fail
      obtain ⟨HRf0, UFf0⟩ := set3 Q4.out (.int .i64 ae) (.int .u64 0) (.int .i64 0)
      have HRf := HRf0.drew
      have UFf := UFf0.drew
      clear HRf0 UFf0
      generalize (((w4.setCell ⟨w.heap.size + 1, 0, none⟩ (.int .i64 ae)).setCell ⟨w.heap.size + 1, 1, none⟩ (.int .u64 0)).setCell ⟨w.heap.size + 1, 2, none⟩ (.int .i64 0)).drew = W7 at HRf UFf ⊢
      have d0 : W7.cell? ⟨w.heap.size + 1, 0, none⟩ = some (.int .i64 ae) := HRf.cell 0
      have d1 : W7.cell? ⟨w.heap.size + 1, 1, none⟩ = some (.int .u64 0) := HRf.cell 1
      have d2 : W7.cell? ⟨w.heap.size + 1, 2, none⟩ = some (.int .i64 0) := HRf.cell 2
      have hnS : ∀ x, x ∈ [w.heap.size + 1 + 1] → x ∉ SS F cb lv' := NS.out.1
      have hnS2 : ∀ x, x ∈ [w.heap.size + 1] → x ∉ SS F cb lv' := NS.out.2
      rw [HRA.out, HRes.out]
      exact bodyPost_ret (v := .tuple #[.agg (encA ⟨ae, 0, 0⟩).toArray, .bool (ae == 11)]) (by simp [results, Tryd.results29, go_sem, encA, d0, d1, d2]) rfl ⟨lv', rfl, (H1.out.far U4.out hnS).far UFf hnS2, (N2.out.far U4.out (by simp; omega)).far UFf (by simp)⟩
end Go.Proofs.YtkldpdldjalpeaaDoor

namespace Go.Proofs.YtkldpdldjalpeaaDoor
open Go.RowKit Th
attribute [local go_sem] litStep_value

/-- A thread: block tb, its body, its log's value lv. -/
structure ThSt (w : World) (b0 : Nat) (tb : Nat) (lv : Value) (fid : FuncId) (caps : Array Value) (l : List En) (d : Bool) : Prop where
  hdr : ∃ n : Int, Blk w tb 70 #[.pointer (some ⟨b0, 0, none⟩), .func (.func fid) #[] caps, lv, .int .i64 0, .int .i64 n, .bool d, .nilIface]
  log : Ow EnE 91 w 0 lv l
  lwd : ∀ e, e ∈ l → 0 ≤ e.word ∧ e.word < 18446744073709551616
theorem ThSt.upd {w w' : World} {b0 tb : Nat} {lv : Value} {fid : FuncId} {caps : Array Value} {l : List En} {d : Bool} {S : List Nat} (h : ThSt w b0 tb lv fid caps l d) (hu : Upd S w w') (h1 : tb ∉ S) (h2 : ∀ b, lv.ownBlock = some b → b ∉ S) : ThSt w' b0 tb lv fid caps l d := by
  obtain ⟨n, hn⟩ := h.hdr
  exact ⟨⟨n, hn.upd hu h1⟩, h.log.upd hu h2, h.lwd⟩
set_option maxRecDepth 20000 in
theorem tnew_ok {F : BFp} {B : BS} (w : World) (h : BSt w F B) (fid : FuncId) (caps : Array Value) :
    Calls Tryd.prog 12 #[.pointer (some ⟨F.b0, 0, none⟩), .func (.func fid) #[] caps] w fun e w' => ∃ tb, e = .returned (.pointer (some ⟨tb, 0, none⟩)) ∧ ThSt w' F.b0 tb (.slice none 0 0) fid caps [] false ∧ Upd [] w w' ∧ w.heap.size ≤ tb ∧ tb < w'.heap.size := by
  have e1 : (binOp .eql 54 (.func (.func fid) #[] caps) .nilFunc).run Tryd.prog w = .ok (.bool false) w := rfl
  go_enter Tryd.func12, Tryd.ntmps12
  go_wp2_with fail
  go_ret
  exact ⟨w.heap.size, rfl, ⟨⟨0, Blk.new _ _ _⟩, Ow.nil _ _ _ _, by simp⟩, (Upd.refl _ _).alloc _, Nat.le_refl _, by simp⟩
theorem tdone_ok {b0 tb : Nat} {lv : Value} {fid : FuncId} {caps : Array Value} {l : List En} {d : Bool} (w : World) (h : ThSt w b0 tb lv fid caps l d) :
    Calls Tryd.prog 18 #[.pointer (some ⟨tb, 0, none⟩)] w fun e w' => e = .returned (.bool d) ∧ w = w' := by
  obtain ⟨n, hn⟩ := h.hdr
  have f := hn.facts
  clear h hn
  go_enter Tryd.func18, Tryd.ntmps18
  go_wp2_with fail
  go_ret
  exact ⟨rfl, rfl⟩
theorem terr_ok {b0 tb : Nat} {lv : Value} {fid : FuncId} {caps : Array Value} {l : List En} {d : Bool} (w : World) (h : ThSt w b0 tb lv fid caps l d) :
    Calls Tryd.prog 27 #[.pointer (some ⟨tb, 0, none⟩)] w fun e w' => e = .returned .nilIface ∧ w = w' := by
  obtain ⟨n, hn⟩ := h.hdr
  have f := hn.facts
  clear h hn
  go_enter Tryd.func27, Tryd.ntmps27
  go_wp2_with fail
  go_ret
  exact ⟨rfl, rfl⟩
set_option maxRecDepth 20000 in
theorem tend_ok {b0 tb : Nat} {lv : Value} {fid : FuncId} {caps : Array Value} {l : List En} {d : Bool} (w : World) (h : ThSt w b0 tb lv fid caps l d) (hlv : lv.ownBlock ≠ some tb) :
    Calls Tryd.prog 30 #[.pointer (some ⟨tb, 0, none⟩), .nilIface] w fun e w' => e = .returned .nilIface ∧ ThSt w' b0 tb lv fid caps l true ∧ Upd [tb] w w' := by
  obtain ⟨n, hn⟩ := h.hdr
  have f := hn.facts
  have HN := Lib.hid hn
  have HS := Lib.hid h
  have HV := Lib.hid hlv
  clear h hn hlv
  go_enter Tryd.func30, Tryd.ntmps30
  go_wp2_with fail
  go_ret
  have hb := (HN.out.set_ 5 (.bool true)).set_ 6 .nilIface
  have hu : Upd [tb] w ((w.setCell ⟨tb, 5, none⟩ (.bool true)).setCell ⟨tb, 6, none⟩ .nilIface) := ((Upd.refl _ _).setCell (by simp) _).setCell (by simp) _
  exact ⟨rfl, ⟨⟨n, hb⟩, HS.out.log.upd hu (fun b hb' hm => by simp at hm; subst hm; exact HV.out hb'), HS.out.lwd⟩, hu⟩
/-- What a body answers: none, or that the step is over. -/
def BdV {α : Type} (w' : World) (B : Nat) (v : Value) : Option α → Prop
  | some _ => v = .nilIface
  | none => ErK 2 w' B v 11
section
variable {α : Type}
/-- A body's own memory, in blocks S; what it came to last. -/
structure MemOk (M : World → List Nat → Option α → Prop) : Prop where
  fr : ∀ w w' T S r, M w S r → Upd T w w' → (∀ x ∈ T, x ∉ S) → M w' S r
  lt : ∀ w S r, M w S r → ∀ x ∈ S, x < w.heap.size
/-- A closure that is a body. -/
structure BodyOk (fid : FuncId) (caps : Array Value) (p : Pg α) (Bad : α → Prop) (J : BS → Prop) (M : World → List Nat → Option α → Prop) : Prop where
  ent : ∀ args w, (callFunc fid args).run Tryd.prog w = .ok (.enter fid args) w
  run : ∀ (w : World) (F : BFp) (cb : Nat) (lv : Value) (c : CS) (S : List Nat) (r0 : Option α), CSt w F cb lv c → c.next = 0 → c.did = false → J c.B → Ready p c → M w S r0 → (∀ x ∈ S, x ∉ SS F cb lv) → (∀ a, (Th.run p c).1 = some a → ¬ Bad a) →
    Calls Tryd.prog fid (#[.pointer (some ⟨cb, 0, none⟩), .int .i64 0] ++ caps) w fun e w' => ∃ F' lv' S' v, e = .returned v ∧ CSt w' F' cb lv' (Th.run p c).2 ∧ F'.b0 = F.b0 ∧ Upd (S ++ SS F cb lv) w w' ∧ (∀ x ∈ S' ++ SS F' cb lv', x ∈ S ++ SS F cb lv ∨ w.heap.size ≤ x) ∧ (∀ x ∈ S', x ∉ SS F' cb lv') ∧ M w' S' (Th.run p c).1 ∧ BdV w' w.heap.size v (Th.run p c).1
end
/-- The blocks of a thread. -/
def TB (tb : Nat) (lv : Value) : List Nat := tb :: lv.ownBlock.toList
section
variable {α : Type} {fid : FuncId} {caps : Array Value} {p : Pg α} {Bad : α → Prop} {J : BS → Prop} {M : World → List Nat → Option α → Prop}
set_option maxRecDepth 20000 in
set_option maxHeartbeats 2000000 in
theorem tstep_ok (BO : BodyOk fid caps p Bad J M) (MO : MemOk M) {F : BFp} {B : BS} {tb : Nat} {lv : Value} {l : List En} {t : TS α} {S : List Nat} {r0 : Option α} (w : World)
    (h : ThSt w F.b0 tb lv fid caps l t.done) (hB : BSt w F B) (hJ : J B) (ht : ThOk p B l t) (hM : M w S r0) (hlen : l.length < 6000)
    (a1 : ∀ x ∈ TB tb lv, x ∉ F.l) (a2 : ∀ x ∈ S, x ∉ F.l) (a3 : ∀ x ∈ S, x ∉ TB tb lv) (hbad : ∀ a, (Th.stepT t B).1.p = .ret a → ¬ Bad a) (hr0 : t.done = true → r0 = outP t.p) :
    Calls Tryd.prog 20 #[.pointer (some ⟨tb, 0, none⟩)] w fun e w' => ∃ F' lv' S' l' r', e = .returned .nilIface ∧ ThSt w' F'.b0 tb lv' fid caps l' (Th.stepT t B).1.done ∧ F'.b0 = F.b0 ∧ BSt w' F' (Th.stepT t B).2 ∧ ThOk p (Th.stepT t B).2 l' (Th.stepT t B).1 ∧ M w' S' r' ∧
      ((Th.stepT t B).1.done = true → r' = outP (Th.stepT t B).1.p) ∧ l'.length ≤ l.length + 1 ∧ Upd (F.l ++ TB tb lv ++ S) w w' ∧ (∀ x ∈ F'.l ++ TB tb lv' ++ S', x ∈ F.l ++ TB tb lv ++ S ∨ w.heap.size ≤ x) ∧
      (∀ x ∈ TB tb lv', x ∉ F'.l) ∧ (∀ x ∈ S', x ∉ F'.l) ∧ (∀ x ∈ S', x ∉ TB tb lv') ∧ ∀ q, q ∈ B.sz → q ∈ (Th.stepT t B).2.sz := by
  by_cases hd : t.done = true
  · rw [stepT_done hd]
    obtain ⟨n, hn⟩ := h.hdr
    rw [hd] at hn
    have f := hn.facts
    have HH : Hid (_ ∧ _ ∧ _ ∧ _) := Lib.hid ⟨h, hB, ht, hM⟩
    have HA : Hid (_ ∧ _ ∧ _ ∧ _) := Lib.hid ⟨a1, a2, a3, hr0⟩
    clear h hn hB hJ ht hM hlen a1 a2 a3 hbad hr0 hd BO MO
    go_enter Tryd.func20, Tryd.ntmps20
    go_wp2_with fail
    go_ret
    exact ⟨F, lv, S, l, r0, rfl, HH.out.1, rfl, HH.out.2.1, HH.out.2.2.1, HH.out.2.2.2, HA.out.2.2.2, by omega, .refl _ _, fun x hx => .inl hx, HA.out.1, HA.out.2.1, HA.out.2.2.1, fun _ h => h⟩
  · have hd : t.done = false := by simpa using hd
    obtain ⟨n, hn⟩ := h.hdr
    obtain ⟨A, cap, rfl, _, _⟩ := h.log.form
    rw [hd] at hn
    have f := hn.facts
    have HN := Lib.hid hn
    have HH : Hid (_ ∧ _ ∧ _ ∧ _ ∧ _) := Lib.hid ⟨h, hB, ht, hM, hJ⟩
    have HA : Hid (_ ∧ _ ∧ _) := Lib.hid ⟨a1, a2, a3⟩
    have HBad := Lib.hid hbad
    have HL := Lib.hid hlen
    have HD := Lib.hid hd
    have HST := Lib.hid (ht.step hd)
    have HRD := Lib.hid ht.ready
    have HBO := Lib.hid BO
    have HMO := Lib.hid MO
    clear h hn hB hJ ht hM hlen a1 a2 a3 hbad hr0 hd BO MO
    go_enter Tryd.func20, Tryd.ntmps20
    go_wp2_with fail
    go_region
    obtain ⟨w2, hw2⟩ : ∃ w2, w2 = ((w.setCell ⟨tb, 4, none⟩ (.int .i64 (wrap64 (n + 1)))).alloc (Obj.cells #[.pointer (some ⟨F.b0, 0, none⟩), .slice A l.length cap, .int .i64 0, .bool false] 79)).drew := ⟨_, rfl⟩
    have hu2 : Upd [tb] w w2 := by rw [hw2]; exact (((Upd.refl _ _).setCell (by simp) _).alloc _).drew
    have T2 : Hid (Blk w2 tb 70 #[.pointer (some ⟨F.b0, 0, none⟩), .func (.func fid) #[] caps, .slice A l.length cap, .int .i64 0, .int .i64 (wrap64 (n + 1)), .bool false, .nilIface]) := Lib.hid (by rw [hw2]; exact ((HN.out.set_ 4 _).alloc _).drew)
    have C2 : Hid (Blk w2 w.heap.size 79 #[.pointer (some ⟨F.b0, 0, none⟩), .slice A l.length cap, .int .i64 0, .bool false]) := Lib.hid (by rw [hw2]; exact (Blk.newAt _ _ (by simp)).drew)
    rw [← hw2]
    clear hw2
    have U2 := Lib.hid hu2
    have hlt : tb < w.heap.size := HN.out.lt
    clear hu2 f hd
    go_wp2_with fail
    have CT : Hid (∀ W, Upd [] w2.drew W → W.cell? ⟨tb, 1, none⟩ = some (.func (.func fid) #[] caps) ∧ W.cell? ⟨tb, 3, none⟩ = some (.int .i64 0)) := Lib.hid (fun W hW => by
      have hx := T2.out.upd ((Upd.refl _ _).drew.trans hW) (by simp)
      exact ⟨hx.cell 1, hx.cell 3⟩)
    refine wp_invNT0 9 [] (by kernel_rfl) (by simp) (by kernel_rfl) (by kernel_rfl) trivial ?_
    simp only [List.take_succ_cons, List.take_zero, List.drop_succ_cons, List.drop_zero]
    with_reducible apply wpV_light
    · simp only [lightOp]
    · intro W hU hF
      have f0 := CT.out W hU
      clear hU hF
      go_simp
      exact rfl
    simp only [Act.put, List.setIfInBounds_toArray, List.set_cons_zero, List.set_cons_succ]
    with_reducible apply wpV_light
    · simp only [lightOp]
    · intro W hU hF
      have f0 := CT.out W hU
      clear hU hF
      go_simp
      exact rfl
    simp only [Act.put, List.setIfInBounds_toArray, List.set_cons_zero, List.set_cons_succ]
    with_reducible apply wpV_light
    · simp only [lightOp]
    · intro W hU hF
      have f0 := CT.out W hU
      clear hU hF
      go_simp
      exact rfl
    simp only [Act.put, List.setIfInBounds_toArray, List.set_cons_zero, List.set_cons_succ]
    with_reducible apply wpV_light
    · simp only [lightOp]
    · intro W hU hF
      have f0 := CT.out W hU
      clear hU hF
      go_simp
      exact rfl
    simp only [Act.put, List.setIfInBounds_toArray, List.set_cons_zero, List.set_cons_succ]
    with_reducible apply wpV_light
    · simp only [lightOp]
    · intro W hU hF
      have f0 := CT.out W hU
      clear hU hF
      go_simp
      exact rfl
    simp only [Act.put, List.setIfInBounds_toArray, List.set_cons_zero, List.set_cons_succ]
    with_reducible apply wpV_light
    · simp only [lightOp]
    · intro W hU hF
      have f0 := CT.out W hU
      clear hU hF
      go_simp
      exact rfl
    simp only [Act.put, List.setIfInBounds_toArray, List.set_cons_zero, List.set_cons_succ]
    with_reducible apply wpV_light
    · simp only [lightOp]
    · intro W hU hF
      have f0 := CT.out W hU
      clear hU hF
      go_simp
      exact rfl
    simp only [Act.put, List.setIfInBounds_toArray, List.set_cons_zero, List.set_cons_succ]
    with_reducible apply wpV_light
    · simp only [lightOp]
    · intro W hU hF
      have f0 := CT.out W hU
      clear hU hF
      go_simp
      exact rfl
    simp only [Act.put, List.setIfInBounds_toArray, List.set_cons_zero, List.set_cons_succ]
    with_reducible apply wpV_light
    · simp only [lightOp]
    · intro W hU hF
      have f0 := CT.out W hU
      clear hU hF
      go_simp
      exact rfl
    simp only [Act.put, List.setIfInBounds_toArray, List.set_cons_zero, List.set_cons_succ]
    refine wpV_end (fun W hU _ hF => ?_)
    have U3 : Hid (Upd [] w2 W) := Lib.hid ((Upd.refl _ _).drew.trans hU)
    clear hU hF
    refine wpT_op (by rfl) (fun K hK => ?_)
    have ent := HBO.out.ent
    go_wp2_with fail
    have UW : Hid (Upd [tb] w W) := Lib.hid (U2.out.trans' U3.out (by simp))
    have htb : Hid (tb ∉ F.l ∧ tb ∉ S ∧ (Value.slice A l.length cap).ownBlock ≠ some tb) := Lib.hid ⟨HA.out.1 _ (by simp [TB]), fun hm => HA.out.2.2 _ hm (by simp [TB]), own_type HH.out.1.log HN.out (by decide)⟩
    have hcs : CSt W F w.heap.size (.slice A l.length cap) ⟨l, 0, false, B⟩ := by
      obtain ⟨h1, h2, h3, h4, h5⟩ := HH.out
      refine ⟨C2.out.upd U3.out (by simp), h1.log.upd UW.out (fun b hb hm => by simp at hm; subst hm; exact htb.out.2.2 hb), h2.upd UW.out (fun x hx hm => by simp at hx; subst hx; exact htb.out.1 hm), fun hm => by have := h2.lt _ hm; omega, fun b hb hm => HA.out.1 b (by simp [TB, hb]) hm, h1.lwd, ⟨Nat.zero_le _, .inr HL.out⟩, Nat.le_of_lt HL.out⟩
    have hss : ∀ x ∈ S, x ∉ SS F w.heap.size (.slice A l.length cap) := by
      intro x hx hm
      simp only [SS, List.mem_append, List.mem_cons] at hm
      rcases hm with hm | hm | hm
      · exact HA.out.2.1 x hx hm
      · have := HMO.out.lt _ _ _ HH.out.2.2.2.1 x hx; omega
      · exact HA.out.2.2 x hx (by simp only [TB]; exact List.mem_cons_of_mem _ hm)
    refine (HBO.out.run W F w.heap.size _ ⟨l, 0, false, B⟩ S r0 hcs rfl rfl HH.out.2.2.2.2 HRD.out (HMO.out.fr _ _ _ _ _ HH.out.2.2.2.1 UW.out (by intro x hx; simp at hx; subst hx; exact htb.out.2.1)) hss (fun a ha => HBad.out a (by
      have := HST.out.1
      rw [ha] at this
      cases hp : (Th.stepT t B).1.p with
      | ret b => rw [hp] at this; simp [outP] at this; rw [this]
      | acc a k => rw [hp] at this; simp [outP] at this))).mono ?_
    rintro e W2 ⟨F', lv', S', v, rfl, g1, g2, g3, g4, g5, g6, g7⟩
    clear hcs hss
    obtain ⟨A2, cap2, rfl, _, _⟩ := g1.log.form
    have htb2 : tb ∉ S ++ SS F w.heap.size (.slice A l.length cap) := by
      intro hm
      simp only [SS, List.mem_append, List.mem_cons] at hm
      rcases hm with hm | hm | hm | hm
      · exact htb.out.2.1 hm
      · exact htb.out.1 hm
      · omega
      · exact htb.out.2.2 (by simpa using hm)
    have T4b := (T2.out.upd U3.out (by simp)).upd g3 htb2
    have T4 := Lib.hid T4b
    have C4b := g1.hdr
    have C4 := Lib.hid C4b
    have f1 := T4b.facts
    have f2 := C4b.facts
    have G : Hid (_ ∧ _ ∧ _ ∧ _ ∧ _ ∧ _ ∧ _) := Lib.hid ⟨g1, g2, g3, g4, g5, g6, g7⟩
    have HT2 := Lib.hid htb2
    have hor : (∃ a, (run p ⟨l, 0, false, B⟩).1 = some a ∧ v = .nilIface) ∨ ((run p ⟨l, 0, false, B⟩).1 = none ∧ ErK 2 W2 W.heap.size v 11) := by
      cases hr : (run p ⟨l, 0, false, B⟩).1 with
      | some a => rw [hr] at g7; exact .inl ⟨a, rfl, g7⟩
      | none => rw [hr] at g7; exact .inr ⟨rfl, g7⟩
    clear g1 g2 g3 g4 g5 g6 g7 T4b C4b htb2
    have hdr : (Th.stepT t B).1.done = (run p ⟨l, 0, false, B⟩).1.isSome := HST.out.2.2.2.1
    have hwW : w.heap.size ≤ W.heap.size := UW.out.size
    have htn : tb ∉ S' ++ SS F' w.heap.size (.slice A2 (run p ⟨l, 0, false, B⟩).2.log.length cap2) := fun hm => by
      rcases G.out.2.2.2.1 _ hm with h | h
      · exact HT2.out h
      · omega
    have hold : ∀ x, x ∈ S ++ SS F w.heap.size (.slice A l.length cap) ∨ W.heap.size ≤ x → x ∈ F.l ++ TB tb (.slice A l.length cap) ++ S ∨ w.heap.size ≤ x := by
      intro x hx
      rcases hx with hx | hx
      · simp only [SS, List.mem_append, List.mem_cons] at hx
        simp only [TB, List.mem_append, List.mem_cons]
        rcases hx with hx | hx | hx | hx
        · exact .inl (.inr hx)
        · exact .inl (.inl (.inl hx))
        · exact .inr (by omega)
        · exact .inl (.inl (.inr (.inr hx)))
      · exact .inr (by omega)
    have FIN : Hid (∀ Z, ThSt Z F.b0 tb (.slice A2 (run p ⟨l, 0, false, B⟩).2.log.length cap2) fid caps (run p ⟨l, 0, false, B⟩).2.log (Th.stepT t B).1.done → Upd [tb] W2 Z →
      ∃ F' lv' S' l' r', ThSt Z F'.b0 tb lv' fid caps l' (Th.stepT t B).1.done ∧ F'.b0 = F.b0 ∧ BSt Z F' (Th.stepT t B).2 ∧ ThOk p (Th.stepT t B).2 l' (Th.stepT t B).1 ∧ M Z S' r' ∧
      ((Th.stepT t B).1.done = true → r' = outP (Th.stepT t B).1.p) ∧ l'.length ≤ l.length + 1 ∧ Upd (F.l ++ TB tb (.slice A l.length cap) ++ S) w Z ∧ (∀ x ∈ F'.l ++ TB tb lv' ++ S', x ∈ F.l ++ TB tb (.slice A l.length cap) ++ S ∨ w.heap.size ≤ x) ∧
      (∀ x ∈ TB tb lv', x ∉ F'.l) ∧ (∀ x ∈ S', x ∉ F'.l) ∧ (∀ x ∈ S', x ∉ TB tb lv') ∧ ∀ q, q ∈ B.sz → q ∈ (Th.stepT t B).2.sz) := Lib.hid (by
      intro Z hz hu
      obtain ⟨g1, g2, g3, g4, g5, g6, g7⟩ := G.out
      have t1 : tb ∉ F'.l := fun hm => htn (by simp [SS, hm])
      have t2 : tb ∉ S' := fun hm => htn (by simp [hm])
      have t3 : (Value.slice A2 (run p ⟨l, 0, false, B⟩).2.log.length cap2).ownBlock ≠ some tb := fun e => htn (by simp [SS, e])
      refine ⟨F', _, S', _, _, by rw [g2]; exact hz, g2, ?_, HST.out.2.2.1, HMO.out.fr _ _ _ _ _ g6 hu (by intro x hx; simp at hx; subst hx; exact t2), fun _ => HST.out.1, HST.out.2.2.2.2.1, ?_, ?_, ?_, ?_, ?_, HST.out.2.2.2.2.2⟩
      · have := g1.st
        rw [HST.out.2.1] at this
        exact this.upd hu (by intro x hx; simp at hx; subst hx; exact t1)
      · refine ((UW.out.mono (fun x hx => .inl ?_)).trans' g3 (fun x hx => ?_)).trans' hu (fun x hx => ?_)
        · simp at hx; subst hx; simp [TB]
        · exact hold x (.inl hx)
        · simp at hx; subst hx; exact .inl (by simp [TB])
      · intro x hx
        simp only [TB, List.mem_append, List.mem_cons] at hx
        rcases hx with (hx | hx | hx) | hx
        · exact hold x (g4 x (by simp [SS, hx]))
        · subst hx; exact .inl (by simp [TB])
        · exact hold x (g4 x (by simp only [SS, List.mem_append, List.mem_cons]; exact .inr (.inr (.inr hx))))
        · exact hold x (g4 x (by simp [hx]))
      · intro x hx
        simp only [TB, List.mem_cons] at hx
        rcases hx with hx | hx
        · subst hx; exact t1
        · exact g1.nlv x (by simpa using hx)
      · intro x hx hm
        exact g5 x hx (by simp [SS, hm])
      · intro x hx hm
        simp only [TB, List.mem_cons] at hm
        rcases hm with hm | hm
        · subst hm; exact t2 hx
        · exact g5 x hx (by simp only [SS, List.mem_append, List.mem_cons]; exact .inr (.inr hm)))
    have htn' := Lib.hid htn
    have LG : Hid (Ow EnE 91 W2 0 (.slice A2 (run p ⟨l, 0, false, B⟩).2.log.length cap2) (run p ⟨l, 0, false, B⟩).2.log ∧ (∀ e, e ∈ (run p ⟨l, 0, false, B⟩).2.log → 0 ≤ e.word ∧ e.word < 18446744073709551616)) := Lib.hid ⟨G.out.1.log, G.out.1.lwd⟩
    have htn3 : Hid ((Value.slice A2 (run p ⟨l, 0, false, B⟩).2.log.length cap2).ownBlock ≠ some tb) := Lib.hid (fun e => htn (by simp [SS, e]))
    have HDr := Lib.hid hdr
    clear htn hold hdr
    generalize (run p ⟨l, 0, false, B⟩).2.log = lg at *
    rcases hor with ⟨a, ha, rfl⟩ | ⟨ha, hv⟩
    · have HAa := Lib.hid ha
      clear ha
      go_wp2_with fail
      refine hK.out _ _ ?_
      clear hK K
      try simp only [Act.put, List.setIfInBounds_toArray, List.set_cons_zero, List.set_cons_succ]
      refine wpT_op (by rfl) (fun K hK => ?_)
      go_wp2_with fail
      refine hK.out _ _ ?_
      clear hK K
      try simp only [Act.put, List.setIfInBounds_toArray, List.set_cons_zero, List.set_cons_succ]
      refine wpT_end ?_
      go_wp2_with fail
      obtain ⟨W3, hW3⟩ : ∃ W3, W3 = W2.setCell ⟨tb, 2, none⟩ (.slice A2 lg.length cap2) := ⟨_, rfl⟩
      have T5 : Hid (ThSt W3 F.b0 tb (.slice A2 lg.length cap2) fid caps lg false) := Lib.hid (by
        rw [hW3]
        exact ⟨⟨_, T4.out.set_ 2 _⟩, LG.out.1.upd ((Upd.refl [tb] _).setCell (by simp) _) (fun b hb hm => by simp at hm; subst hm; exact htn3.out hb), LG.out.2⟩)
      have U5 : Hid (Upd [tb] W2 W3) := Lib.hid (by rw [hW3]; exact (Upd.refl _ _).setCell (by simp) _)
      rw [← hW3]
      clear hW3 f1 f2
      refine (is_nil _ _).mono ?_; rintro e w' ⟨rfl, rfl⟩
      go_wp2_with fail
      refine (is_nil _ _).mono ?_; rintro e w' ⟨rfl, rfl⟩
      go_wp2_with fail
      refine (tend_ok _ T5.out htn3.out).mono ?_; rintro e w' ⟨rfl, h6, u6⟩
      have T6 := Lib.hid h6
      have U6 := Lib.hid u6
      clear h6 u6
      go_wp2_with fail
      go_ret
      have hd1 : (Th.stepT t B).1.done = true := by rw [HDr.out, HAa.out]; rfl
      obtain ⟨F1, lv1, S1, l1, r1, q⟩ := FIN.out _ (by rw [hd1]; exact T6.out) (U5.out.trans U6.out)
      exact ⟨F1, lv1, S1, l1, r1, rfl, q⟩
    · have HAa := Lib.hid ha
      have HV := Lib.hid hv
      rcases hv.form with ⟨_, h⟩ | h
      · omega
      · clear ha hv
        rcases h with ⟨m, rfl⟩ | ⟨g, rfl⟩
        all_goals
          go_wp2_with fail
          refine hK.out _ _ ?_
          clear hK K
          try simp only [Act.put, List.setIfInBounds_toArray, List.set_cons_zero, List.set_cons_succ]
          refine wpT_op (by rfl) (fun K hK => ?_)
          go_wp2_with fail
          refine hK.out _ _ ?_
          clear hK K
          try simp only [Act.put, List.setIfInBounds_toArray, List.set_cons_zero, List.set_cons_succ]
          refine wpT_end ?_
          go_wp2_with fail
          obtain ⟨W3, hW3⟩ : ∃ W3, W3 = W2.setCell ⟨tb, 2, none⟩ (.slice A2 lg.length cap2) := ⟨_, rfl⟩
          have T5 : Hid (ThSt W3 F.b0 tb (.slice A2 lg.length cap2) fid caps lg false) := Lib.hid (by
            rw [hW3]
            exact ⟨⟨_, T4.out.set_ 2 _⟩, LG.out.1.upd ((Upd.refl [tb] _).setCell (by simp) _) (fun b hb hm => by simp at hm; subst hm; exact htn3.out hb), LG.out.2⟩)
          have U5 : Hid (Upd [tb] W2 W3) := Lib.hid (by rw [hW3]; exact (Upd.refl _ _).setCell (by simp) _)
          have E5 := Lib.hid ((HV.out.upd U5.out (by intro x hx; simp at hx; subst hx; omega)).er (by omega))
          rw [← hW3]
          clear hW3 f1 f2
          refine (is_er E5.out _ (by omega)).mono ?_; rintro e w' ⟨rfl, rfl⟩
          go_wp2_with fail
          go_ret
          have hd1 : (Th.stepT t B).1.done = false := by rw [HDr.out, HAa.out]; rfl
          obtain ⟨F1, lv1, S1, l1, r1, q⟩ := FIN.out _ (by rw [hd1]; exact T5.out) U5.out
          exact ⟨F1, lv1, S1, l1, r1, rfl, q⟩
end
end Go.Proofs.YtkldpdldjalpeaaDoor

namespace Go.Proofs.YtkldpdldjalpeaaDoor
open Go.RowKit Th
attribute [local go_sem] litStep_value

section
variable {α : Type} (fid : FuncId) (caps : Array Value) (p : Pg α) (M : World → List Nat → Option α → Prop)
/-- A thread, its body's memory, the blocks. -/
structure TAll (w : World) (F : BFp) (B : BS) (tb : Nat) (lv : Value) (S : List Nat) (l : List En) (r : Option α) (t : TS α) : Prop where
  st : ThSt w F.b0 tb lv fid caps l t.done
  bs : BSt w F B
  ok : ThOk p B l t
  m : M w S r
  a1 : ∀ x ∈ TB tb lv, x ∉ F.l
  a2 : ∀ x ∈ S, x ∉ F.l
  a3 : ∀ x ∈ S, x ∉ TB tb lv
  r0 : t.done = true → r = outP t.p
end
/-- What may have turned. -/
structure TNx (w w' : World) (F F' : BFp) (tb : Nat) (lv lv' : Value) (S S' : List Nat) : Prop where
  up : Upd (F.l ++ TB tb lv ++ S) w w'
  gr : ∀ x ∈ F'.l ++ TB tb lv' ++ S', x ∈ F.l ++ TB tb lv ++ S ∨ w.heap.size ≤ x
  b0 : F'.b0 = F.b0
theorem TNx.refl (w : World) (F : BFp) (tb : Nat) (lv : Value) (S : List Nat) : TNx w w F F tb lv lv S S := ⟨.refl _ _, fun _ h => .inl h, rfl⟩
theorem TNx.trans {w w1 w2 : World} {F F1 F2 : BFp} {tb : Nat} {lv lv1 lv2 : Value} {S S1 S2 : List Nat} (h : TNx w w1 F F1 tb lv lv1 S S1) (k : TNx w1 w2 F1 F2 tb lv1 lv2 S1 S2) : TNx w w2 F F2 tb lv lv2 S S2 :=
  ⟨h.up.trans' k.up h.gr, fun x hx => (k.gr x hx).elim (h.gr x) (fun e => .inr (Nat.le_trans h.up.size e)), k.b0.trans h.b0⟩
section
variable {α : Type} {fid : FuncId} {caps : Array Value} {p : Pg α} {Bad : α → Prop} {J : BS → Prop} {M : World → List Nat → Option α → Prop}
theorem tstep' (BO : BodyOk fid caps p Bad J M) (MO : MemOk M) {F : BFp} {B : BS} {tb : Nat} {lv : Value} {l : List En} {t : TS α} {S : List Nat} {r0 : Option α} (w : World)
    (h : TAll fid caps p M w F B tb lv S l r0 t) (hJ : J B) (hlen : l.length < 6000) (hbad : ∀ a, (Th.stepT t B).1.p = .ret a → ¬ Bad a) :
    Calls Tryd.prog 20 #[.pointer (some ⟨tb, 0, none⟩)] w fun e w' => e = .returned .nilIface ∧ ∃ F' lv' S' l' r', TAll fid caps p M w' F' (Th.stepT t B).2 tb lv' S' l' r' (Th.stepT t B).1 ∧ TNx w w' F F' tb lv lv' S S' ∧ l'.length ≤ l.length + 1 ∧ ∀ q, q ∈ B.sz → q ∈ (Th.stepT t B).2.sz := by
  refine (tstep_ok BO MO w h.st h.bs hJ h.ok h.m hlen h.a1 h.a2 h.a3 hbad h.r0).mono ?_
  rintro e w' ⟨F', lv', S', l', r', rfl, b1, b2, b3, b4, b5, b6, b7, b8, b9, c1, c2, c3, c4⟩
  exact ⟨rfl, F', lv', S', l', r', ⟨b1, b3, b4, b5, c1, c2, c3, b6⟩, ⟨b8, b9, b2⟩, b7, c4⟩
/-- What holds along a run of one thread. -/
structure Going (Bad : α → Prop) (J : BS → Prop) (G : TS α → BS → Prop) : Prop where
  step : ∀ t B, G t B → t.done = false → G (Th.stepT t B).1 (Th.stepT t B).2
  bad : ∀ t B a, G t B → t.p = .ret a → ¬ Bad a
  j : ∀ t B, G t B → J B
theorem solo_succ {n : Nat} {t : TS α} {B : BS} (h : t.done = false) : soloT (n + 1) t B = soloT n (Th.stepT t B).1 (Th.stepT t B).2 := by
  rw [soloT.eq_def]
  simp only [h]
  rfl
theorem solo_isdone : ∀ {n : Nat} {t : TS α} {B : BS}, t.done = true → soloT n t B = (t, B)
  | 0, _, _, _ => rfl
  | n + 1, t, B, h => by rw [soloT.eq_def]; simp only [h, if_true]
/-- What a run leaves. -/
def RunPost (fid : FuncId) (caps : Array Value) (p : Pg α) (M : World → List Nat → Option α → Prop) (G : TS α → BS → Prop) (w : World) (F : BFp) (B : BS) (tb : Nat) (lv : Value) (S : List Nat) (l : List En) (t : TS α) (n : Nat) (w' : World) : Prop :=
  ∃ F' lv' S' l' r', TAll fid caps p M w' F' (soloT n t B).2 tb lv' S' l' r' (soloT n t B).1 ∧ TNx w w' F F' tb lv lv' S S' ∧ l'.length ≤ l.length + n ∧ (G (soloT n t B).1 (soloT n t B).2) ∧ ∀ q, q ∈ B.sz → q ∈ (soloT n t B).2.sz
set_option maxRecDepth 20000 in
set_option maxHeartbeats 2000000 in
theorem trun_ok (BO : BodyOk fid caps p Bad J M) (MO : MemOk M) {G : TS α → BS → Prop} (HG : Going Bad J G) {F : BFp} {B : BS} {tb : Nat} {lv : Value} {l : List En} {t : TS α} {S : List Nat} {r0 : Option α} (w : World) (n : Nat)
    (h : TAll fid caps p M w F B tb lv S l r0 t) (hg : G t B) (hlen : l.length + n < 6000) :
    Calls Tryd.prog 17 #[.pointer (some ⟨tb, 0, none⟩), .int .i64 n] w fun e w' => e = .returned .nilIface ∧ RunPost fid caps p M G w F B tb lv S l t n w' := by
  have H0 := Lib.hid h
  have HBO := Lib.hid BO
  have HMO := Lib.hid MO
  have HGG := Lib.hid HG
  have Hg := Lib.hid hg
  have HL := Lib.hid hlen
  have hn6 : (n : Int) < 6000 := by omega
  clear BO MO HG h hg hlen
  go_enter Tryd.func17, Tryd.ntmps17
  go_wp2_with fail
  refine (terr_ok w H0.out.st).mono ?_; rintro e w' ⟨rfl, rfl⟩
  go_wp2_with fail
  go_loopw [5, 6] (fun ev u wr => ∃ (j : Nat) (tj : TS α) (Bj : BS) (Fj : BFp) (lj : Value) (Sj : List Nat) (gj : List En) (rj : Option α), ev = .nilIface ∧ u = .int .i64 j ∧ j ≤ n ∧ Hid (TAll fid caps p M wr Fj Bj tb lj Sj gj rj tj) ∧ Hid (TNx w wr F Fj tb lv lj S Sj) ∧ Hid (soloT (n - j) tj Bj = soloT n t B ∧ G tj Bj ∧ gj.length ≤ l.length + j ∧ ∀ q, q ∈ B.sz → q ∈ Bj.sz)) (fun _ u _ => n - (intOf u).toNat)
  case atStart => exact ⟨0, t, B, F, lv, S, l, r0, rfl, rfl, by omega, H0, Lib.hid (.refl _ _ _ _ _), Lib.hid ⟨rfl, Hg.out, by omega, fun _ h => h⟩⟩
  case round =>
    obtain ⟨j, tj, Bj, Fj, lj, Sj, gj, rj, rfl, rfl, hj, KA, KN, KR⟩ := hrel
    have HJ := Lib.hid hj
    by_cases hlt : j < n
    · have hji : (j : Int) < n := by omega
      have hdc : decide ((j : Int) < n) = true := by simpa using hlt
      clear hj hlt
      go_wp2_with fail
      refine (tdone_ok wr KA.out.st).mono ?_; rintro e w' ⟨rfl, rfl⟩
      cases hd : tj.done with
      | false =>
        have HD := Lib.hid hd
        clear hd
        go_wp2_with fail
        have hst := HGG.out.step _ _ KR.out.2.1 HD.out
        refine (tstep' HBO.out HMO.out wr KA.out (HGG.out.j _ _ KR.out.2.1) (by have := KR.out.2.2.1; have := HL.out; omega) (fun a ha => HGG.out.bad _ _ a hst ha)).mono ?_
        rintro e w2 ⟨rfl, F', lv', S', l', r', g1, g2, g3, g4⟩
        have G1 := Lib.hid g1
        have G2 := Lib.hid (KN.out.trans g2)
        have GR : Hid (soloT (n - (j + 1)) (Th.stepT tj Bj).1 (Th.stepT tj Bj).2 = soloT n t B ∧ G (Th.stepT tj Bj).1 (Th.stepT tj Bj).2 ∧ l'.length ≤ l.length + (j + 1) ∧ ∀ q, q ∈ B.sz → q ∈ (Th.stepT tj Bj).2.sz) := Lib.hid ⟨by
          rw [← solo_succ HD.out, show n - (j + 1) + 1 = n - j by omega]; exact KR.out.1, hst, by have := KR.out.2.2.1; omega, fun q hq => g4 q (KR.out.2.2.2 q hq)⟩
        clear g1 g2 g3 g4 hst
        go_wp2_with fail
        go_round
        case rel => exact ⟨j + 1, _, _, F', lv', S', l', r', rfl, by simp, by omega, G1, G2, GR⟩
        case measure => simp [intOf]; omega
      | true =>
        have HD := Lib.hid hd
        have fb := (KA.out.st.hdr.choose_spec).facts
        have hb0 : Fj.b0 = Fj.b0 := rfl
        clear hd hb0
        go_wp2_with fail
        go_ret
        have hs := KR.out.1
        rw [solo_isdone HD.out] at hs
        have e1 : tj = (soloT n t B).1 := congrArg Prod.fst hs
        have e2 : Bj = (soloT n t B).2 := congrArg Prod.snd hs
        refine ⟨rfl, ?_⟩
        unfold RunPost
        rw [← e1, ← e2]
        exact ⟨Fj, lj, Sj, gj, rj, KA.out, KN.out, by have := KR.out.2.2.1; omega, KR.out.2.1, KR.out.2.2.2⟩
    · have hji : ¬ ((j : Int) < n) := by omega
      have e : j = n := by omega
      have fb := (KA.out.st.hdr.choose_spec).facts
      clear hj hlt
      go_wp2_with fail
      go_ret
      have hs := KR.out.1
      rw [show n - j = 0 by omega] at hs
      have e1 : tj = (soloT n t B).1 := congrArg Prod.fst hs
      have e2 : Bj = (soloT n t B).2 := congrArg Prod.snd hs
      refine ⟨rfl, ?_⟩
      unfold RunPost
      rw [← e1, ← e2]
      exact ⟨Fj, lj, Sj, gj, rj, KA.out, KN.out, by have := KR.out.2.2.1; omega, KR.out.2.1, KR.out.2.2.2⟩
end
end Go.Proofs.YtkldpdldjalpeaaDoor

namespace Go.Proofs.YtkldpdldjalpeaaDoor
open Go.RowKit Th
attribute [local go_sem] litStep_value

/-- One thread: its block, its log's value, its body, its log. -/
structure TD (α : Type) where
  tb : Nat
  lv : Value
  fid : FuncId
  caps : Array Value
  p : Pg α
  l : List En
def TD.own {α : Type} (d : TD α) : List Nat := TB d.tb d.lv
def foot {α : Type} (F : BFp) (S : List Nat) (ds : List (TD α)) : List Nat := F.l ++ S ++ ds.flatMap TD.own
theorem mem_foot {α : Type} {F : BFp} {S : List Nat} {ds : List (TD α)} {x : Nat} : x ∈ foot F S ds ↔ x ∈ F.l ∨ x ∈ S ∨ ∃ (i : Nat) (d : TD α), ds[i]? = some d ∧ x ∈ d.own := by
  simp only [foot, List.mem_append, List.mem_flatMap]
  constructor
  · rintro ((h | h) | ⟨d, hd, h⟩)
    · exact .inl h
    · exact .inr (.inl h)
    · obtain ⟨i, hi⟩ := List.getElem?_of_mem hd
      exact .inr (.inr ⟨i, d, hi, h⟩)
  · rintro (h | h | ⟨i, d, hi, h⟩)
    · exact .inl (.inl h)
    · exact .inl (.inr h)
    · exact .inr ⟨d, List.mem_of_getElem? hi, h⟩
section
variable {α : Type}
/-- What the bodies keep, all together. -/
structure MemAll (M : World → List Nat → List (Option α) → Prop) : Prop where
  fr : ∀ w w' T S rs, M w S rs → Upd T w w' → (∀ x ∈ T, x ∉ S) → M w' S rs
  lt : ∀ w S rs, M w S rs → ∀ x ∈ S, x < w.heap.size
theorem MemAll.at_ {M : World → List Nat → List (Option α) → Prop} (h : MemAll M) (rs : List (Option α)) (i : Nat) : MemOk (fun w S r => M w S (rs.set i r)) :=
  ⟨fun w w' T S r => h.fr w w' T S _, fun w S r => h.lt w S _⟩
structure SysSt (M : World → List Nat → List (Option α) → Prop) (w : World) (F : BFp) (B : BS) (S : List Nat) (ds : List (TD α)) (ts : List (TS α)) (rs : List (Option α)) : Prop where
  n1 : ds.length = ts.length
  n2 : rs.length = ts.length
  bs : BSt w F B
  m : M w S rs
  a2 : ∀ x ∈ S, x ∉ F.l
  st : ∀ (i : Nat) d t, ds[i]? = some d → ts[i]? = some t → ThSt w F.b0 d.tb d.lv d.fid d.caps d.l t.done
  ok : ∀ (i : Nat) d t, ds[i]? = some d → ts[i]? = some t → ThOk d.p B d.l t
  a1 : ∀ (i : Nat) d, ds[i]? = some d → ∀ x ∈ d.own, x ∉ F.l ∧ x ∉ S
  r0 : ∀ (i : Nat) t, ts[i]? = some t → t.done = true → rs[i]? = some (outP t.p)
  ap : ∀ (i j : Nat) d e, i ≠ j → ds[i]? = some d → ds[j]? = some e → ∀ x ∈ d.own, x ∉ e.own
variable {M : World → List Nat → List (Option α) → Prop}
theorem SysSt.one {w : World} {F : BFp} {B : BS} {S : List Nat} {ds : List (TD α)} {ts : List (TS α)} {rs : List (Option α)} (h : SysSt M w F B S ds ts rs) {i : Nat} {d : TD α} {t : TS α} (hd : ds[i]? = some d) (ht : ts[i]? = some t) :
    ∃ r, rs[i]? = some r ∧ TAll d.fid d.caps d.p (fun w S r => M w S (rs.set i r)) w F B d.tb d.lv S d.l r t := by
  have hl : i < rs.length := by rw [h.n2]; exact (List.getElem?_eq_some_iff.1 ht).1
  refine ⟨rs[i], List.getElem?_eq_getElem hl, h.st i d t hd ht, h.bs, h.ok i d t hd ht, ?_, fun x hx => (h.a1 i d hd x hx).1, h.a2, fun x hx hm => (h.a1 i d hd x hm).2 hx, fun hdn => ?_⟩
  · simp only [List.set_getElem_self]; exact h.m
  · have := h.r0 i t ht hdn
    rw [List.getElem?_eq_getElem hl] at this
    injection this
/-- What may have turned; who was there is there yet. -/
structure SNx (w w' : World) (F F' : BFp) (S S' : List Nat) (ds ds' : List (TD α)) : Prop where
  up : Upd (foot F S ds) w w'
  gr : ∀ x ∈ foot F' S' ds', x ∈ foot F S ds ∨ w.heap.size ≤ x
  b0 : F'.b0 = F.b0
  len : ds'.length = ds.length
  same : ∀ (i : Nat) d d', ds[i]? = some d → ds'[i]? = some d' → d'.tb = d.tb ∧ d'.fid = d.fid ∧ d'.caps = d.caps ∧ d'.p = d.p
theorem SNx.refl (w : World) (F : BFp) (S : List Nat) (ds : List (TD α)) : SNx w w F F S S ds ds := ⟨.refl _ _, fun _ h => .inl h, rfl, rfl, fun i d d' h h' => by rw [h] at h'; injection h' with h'; subst h'; exact ⟨rfl, rfl, rfl, rfl⟩⟩
theorem SNx.trans {w w1 w2 : World} {F F1 F2 : BFp} {S S1 S2 : List Nat} {ds ds1 ds2 : List (TD α)} (h : SNx w w1 F F1 S S1 ds ds1) (k : SNx w1 w2 F1 F2 S1 S2 ds1 ds2) : SNx w w2 F F2 S S2 ds ds2 := by
  refine ⟨h.up.trans' k.up h.gr, fun x hx => (k.gr x hx).elim (h.gr x) (fun e => .inr (Nat.le_trans h.up.size e)), k.b0.trans h.b0, k.len.trans h.len, fun i d d' hd hd' => ?_⟩
  have hl : i < ds1.length := by rw [h.len]; exact (List.getElem?_eq_some_iff.1 hd).1
  have e1 := h.same i d _ hd (List.getElem?_eq_getElem hl)
  have e2 := k.same i _ d' (List.getElem?_eq_getElem hl) hd'
  exact ⟨e2.1.trans e1.1, e2.2.1.trans e1.2.1, e2.2.2.1.trans e1.2.2.1, e2.2.2.2.trans e1.2.2.2⟩
theorem SNx.upd {w w1 w2 : World} {F F1 : BFp} {S S1 : List Nat} {ds ds1 : List (TD α)} (h : SNx w w1 F F1 S S1 ds ds1) (k : Upd [] w1 w2) : SNx w w2 F F1 S S1 ds ds1 := ⟨h.up.trans' k (by simp), h.gr, h.b0, h.len, h.same⟩
theorem SysSt.lt (MO : MemAll M) {w : World} {F : BFp} {B : BS} {S : List Nat} {ds : List (TD α)} {ts : List (TS α)} {rs : List (Option α)} (h : SysSt M w F B S ds ts rs) : ∀ x ∈ foot F S ds, x < w.heap.size := by
  intro x hx
  rcases mem_foot.1 hx with hx | hx | ⟨i, d, hd, hx⟩
  · exact h.bs.lt x hx
  · exact MO.lt _ _ _ h.m x hx
  · have hl : i < ts.length := by rw [← h.n1]; exact (List.getElem?_eq_some_iff.1 hd).1
    have hs := h.st i d _ hd (List.getElem?_eq_getElem hl)
    obtain ⟨n, hn⟩ := hs.hdr
    simp only [TD.own, TB, List.mem_cons] at hx
    rcases hx with rfl | hx
    · exact hn.lt
    · exact (own_lt hs.log (b := x) (by simpa using hx)).2
/-- What is new elsewhere leaves all as it is. -/
theorem SysSt.far (MO : MemAll M) {w w' : World} {F : BFp} {B : BS} {S : List Nat} {ds : List (TD α)} {ts : List (TS α)} {rs : List (Option α)} {T : List Nat} (h : SysSt M w F B S ds ts rs) (hu : Upd T w w') (hT : ∀ x ∈ T, x ∉ foot F S ds) : SysSt M w' F B S ds ts rs := by
  refine ⟨h.n1, h.n2, h.bs.upd hu (fun x hx hm => hT x hx (mem_foot.2 (.inl hm))), MO.fr _ _ _ _ _ h.m hu (fun x hx hm => hT x hx (mem_foot.2 (.inr (.inl hm)))), h.a2, fun i d t hd ht => ?_, h.ok, h.a1, h.r0, h.ap⟩
  refine (h.st i d t hd ht).upd hu (fun hm => hT _ hm (mem_foot.2 (.inr (.inr ⟨i, d, hd, by simp [TD.own, TB]⟩)))) (fun b hb hm => hT _ hm (mem_foot.2 (.inr (.inr ⟨i, d, hd, by simp [TD.own, TB, hb]⟩))))
/-- One of them has gone on. -/
theorem SysSt.put (MO : MemAll M) {w w' : World} {F F' : BFp} {B B' : BS} {S S' : List Nat} {ds : List (TD α)} {ts : List (TS α)} {rs : List (Option α)} {i : Nat} {d : TD α} {t t' : TS α} {lv' : Value} {l' : List En} {r' : Option α}
    (h : SysSt M w F B S ds ts rs) (hd : ds[i]? = some d) (ht : ts[i]? = some t) (k : TAll d.fid d.caps d.p (fun w S r => M w S (rs.set i r)) w' F' B' d.tb lv' S' l' r' t') (kn : TNx w w' F F' d.tb d.lv lv' S S') (hsz : ∀ q, q ∈ B.sz → q ∈ B'.sz) :
    SysSt M w' F' B' S' (ds.set i { d with lv := lv', l := l' }) (ts.set i t') (rs.set i r') ∧ SNx w w' F F' S S' ds (ds.set i { d with lv := lv', l := l' }) := by
  have hid := (List.getElem?_eq_some_iff.1 hd).1
  have hit := (List.getElem?_eq_some_iff.1 ht).1
  have hlt := h.lt MO
  have hsub : ∀ x, x ∈ F.l ++ TB d.tb d.lv ++ S → x ∈ foot F S ds := fun x hx => by
    simp only [List.mem_append] at hx
    rcases hx with (hx | hx) | hx
    · exact mem_foot.2 (.inl hx)
    · exact mem_foot.2 (.inr (.inr ⟨i, d, hd, hx⟩))
    · exact mem_foot.2 (.inr (.inl hx))
  -- another one's blocks are not touched
  have hoth : ∀ j e, j ≠ i → ds[j]? = some e → ∀ x ∈ e.own, x ∉ F.l ++ TB d.tb d.lv ++ S := fun j e hj he x hx hm => by
    simp only [List.mem_append] at hm
    rcases hm with (hm | hm) | hm
    · exact (h.a1 j e he x hx).1 hm
    · exact h.ap j i e d hj he hd x hx hm
    · exact (h.a1 j e he x hx).2 hm
  have hoth' : ∀ j e, j ≠ i → ds[j]? = some e → ∀ x ∈ e.own, x ∉ F'.l ++ TB d.tb lv' ++ S' := fun j e hj he x hx hm => by
    rcases kn.gr x hm with hm | hm
    · exact hoth j e hj he x hx hm
    · have := hlt x (mem_foot.2 (.inr (.inr ⟨j, e, he, hx⟩))); omega
  have get : ∀ (j : Nat) e, (ds.set i { d with lv := lv', l := l' })[j]? = some e → (j = i ∧ e = { d with lv := lv', l := l' }) ∨ (j ≠ i ∧ ds[j]? = some e) := fun j e he => by
    rw [List.getElem?_set] at he
    split at he
    · next e1 => simp only [hid, if_true, Option.some.injEq] at he; exact .inl ⟨e1.symm, he.symm⟩
    · next e1 => exact .inr ⟨fun e2 => e1 e2.symm, he⟩
  have gett : ∀ (j : Nat) u, (ts.set i t')[j]? = some u → (j = i ∧ u = t') ∨ (j ≠ i ∧ ts[j]? = some u) := fun j e he => by
    rw [List.getElem?_set] at he
    split at he
    · next e1 => simp only [hit, if_true, Option.some.injEq] at he; exact .inl ⟨e1.symm, he.symm⟩
    · next e1 => exact .inr ⟨fun e2 => e1 e2.symm, he⟩
  refine ⟨⟨by simp [h.n1], by simp [h.n2], k.bs, k.m, k.a2, fun j e u he hu => ?_, fun j e u he hu => ?_, fun j e he => ?_, fun j u hu hdn => ?_, fun j1 j2 e1 e2 hj h1 h2 x hx => ?_⟩, ⟨kn.up.mono (fun x hx => .inl (hsub x hx)), fun x hx => ?_, kn.b0, by simp, fun j e e' he he' => ?_⟩⟩
  · rcases get j e he with ⟨rfl, rfl⟩ | ⟨hj, he⟩
    · rcases gett j u hu with ⟨_, rfl⟩ | ⟨hj, _⟩
      · exact k.st
      · exact absurd rfl hj
    · rcases gett j u hu with ⟨hj', _⟩ | ⟨_, hu⟩
      · exact absurd hj' hj
      · rw [kn.b0]
        exact (h.st j e u he hu).upd kn.up (hoth j e hj he _ (by simp [TD.own, TB])) (fun b hb => hoth j e hj he _ (by simp [TD.own, TB, hb]))
  · rcases get j e he with ⟨rfl, rfl⟩ | ⟨hj, he⟩
    · rcases gett j u hu with ⟨_, rfl⟩ | ⟨hj, _⟩
      · exact k.ok
      · exact absurd rfl hj
    · rcases gett j u hu with ⟨hj', _⟩ | ⟨_, hu⟩
      · exact absurd hj' hj
      · exact (h.ok j e u he hu).mono hsz
  · rcases get j e he with ⟨rfl, rfl⟩ | ⟨hj, he⟩
    · exact fun x hx => ⟨k.a1 x hx, fun hm => k.a3 x hm hx⟩
    · intro x hx
      have := hoth' j e hj he x hx
      simp only [List.mem_append, not_or] at this
      exact ⟨this.1.1, this.2⟩
  · rcases gett j u hu with ⟨rfl, rfl⟩ | ⟨hj, hu⟩
    · rw [List.getElem?_set_self (by rw [h.n2]; exact hit), k.r0 hdn]
    · rw [List.getElem?_set_ne (fun e => hj e.symm)]
      exact h.r0 j u hu hdn
  · rcases get j1 e1 h1 with ⟨rfl, rfl⟩ | ⟨hj1, h1⟩
    · rcases get j2 e2 h2 with ⟨e, _⟩ | ⟨hj2, h2⟩
      · exact absurd e.symm hj
      · intro hm
        have := hoth' j2 e2 hj2 h2 x hm
        simp only [List.mem_append, not_or] at this
        exact this.1.2 hx
    · rcases get j2 e2 h2 with ⟨e0, e00⟩ | ⟨hj2, h2⟩
      · have := hoth' j1 e1 hj1 h1 x hx
        rw [e00]
        simp only [List.mem_append, not_or] at this
        exact this.1.2
      · exact h.ap j1 j2 e1 e2 hj h1 h2 x hx
  · rcases mem_foot.1 hx with hx | hx | ⟨j, e, he, hx⟩
    · exact (kn.gr x (by simp [hx])).imp (hsub x) id
    · exact (kn.gr x (by simp [hx])).imp (hsub x) id
    · rcases get j e he with ⟨rfl, rfl⟩ | ⟨hj, he⟩
      · exact (kn.gr x (by simp only [List.mem_append]; exact .inl (.inr hx))).imp (hsub x) id
      · exact .inl (mem_foot.2 (.inr (.inr ⟨j, e, he, hx⟩)))
  · rcases get j e' he' with ⟨rfl, rfl⟩ | ⟨hj, he'⟩
    · rw [hd] at he; injection he with he; subst he; exact ⟨rfl, rfl, rfl, rfl⟩
    · rw [he] at he'; injection he' with he'; subst he'; exact ⟨rfl, rfl, rfl, rfl⟩
/-- One more, that has done nothing yet. -/
theorem SysSt.push (MO : MemAll M) {M' : World → List Nat → List (Option α) → Prop} {w w' : World} {F : BFp} {B : BS} {S S' : List Nat} {ds : List (TD α)} {ts : List (TS α)} {rs : List (Option α)} (d : TD α) (h : SysSt M w F B S ds ts rs) (hu : Upd [] w w')
    (hst : ThSt w' F.b0 d.tb d.lv d.fid d.caps [] false) (hl : d.l = []) (hown : ∀ x ∈ d.own, w.heap.size ≤ x) (hm : M' w' S' (rs ++ [none])) (hS : ∀ x ∈ S', x ∈ S ∨ (w.heap.size ≤ x ∧ x ∉ d.own)) :
    SysSt M' w' F B S' (ds ++ [d]) (ts ++ [⟨d.p, false⟩]) (rs ++ [none]) := by
  have hlt := h.lt MO
  have get : ∀ (j : Nat) e, (ds ++ [d])[j]? = some e → (j = ds.length ∧ e = d) ∨ (j < ds.length ∧ ds[j]? = some e) := fun j e he => by
    by_cases hj : j < ds.length
    · rw [List.getElem?_append_left hj] at he; exact .inr ⟨hj, he⟩
    · rw [List.getElem?_append_right (by omega)] at he
      have : j - ds.length = 0 := by
        cases hk : j - ds.length with
        | zero => rfl
        | succ k => rw [hk] at he; simp at he
      rw [this] at he
      simp at he
      exact .inl ⟨by omega, he.symm⟩
  have gett : ∀ (j : Nat) e, (ts ++ [⟨d.p, false⟩])[j]? = some e → (j = ts.length ∧ e = ⟨d.p, false⟩) ∨ (j < ts.length ∧ ts[j]? = some e) := fun j e he => by
    by_cases hj : j < ts.length
    · rw [List.getElem?_append_left hj] at he; exact .inr ⟨hj, he⟩
    · rw [List.getElem?_append_right (by omega)] at he
      have : j - ts.length = 0 := by
        cases hk : j - ts.length with
        | zero => rfl
        | succ k => rw [hk] at he; simp at he
      rw [this] at he
      simp at he
      exact .inl ⟨by omega, he.symm⟩
  have holdlt : ∀ (j : Nat) e, ds[j]? = some e → ∀ x ∈ e.own, x < w.heap.size := fun j e he x hx => hlt x (mem_foot.2 (.inr (.inr ⟨j, e, he, hx⟩)))
  refine ⟨by simp [h.n1], by simp [h.n2], h.bs.upd hu (by simp), hm, fun x hx hmm => ?_, fun j e u he hu2 => ?_, fun j e u he hu2 => ?_, fun j e he x hx => ?_, fun j u hu2 hdn => ?_, fun j1 j2 e1 e2 hj h1 h2 x hx => ?_⟩
  · rcases hS x hx with hx | hx
    · exact h.a2 x hx hmm
    · have := h.bs.lt x hmm; omega
  · rcases get j e he with ⟨hj, rfl⟩ | ⟨hj, he⟩
    · rcases gett j u hu2 with ⟨_, rfl⟩ | ⟨hj', _⟩
      · rw [hl]; exact hst
      · rw [h.n1] at hj; omega
    · rcases gett j u hu2 with ⟨hj', rfl⟩ | ⟨_, hu2⟩
      · rw [h.n1] at hj; omega
      · exact (h.st j e u he hu2).upd hu (by simp) (by simp)
  · rcases get j e he with ⟨hj, rfl⟩ | ⟨hj, he⟩
    · rcases gett j u hu2 with ⟨_, rfl⟩ | ⟨hj', _⟩
      · rw [hl]; exact ThOk.start _ _
      · rw [h.n1] at hj; omega
    · rcases gett j u hu2 with ⟨hj', rfl⟩ | ⟨_, hu2⟩
      · rw [h.n1] at hj; omega
      · exact h.ok j e u he hu2
  · rcases get j e he with ⟨hj, rfl⟩ | ⟨hj, he⟩
    · have h1 := hown x hx
      refine ⟨fun hmm => by have := h.bs.lt x hmm; omega, fun hmm => ?_⟩
      rcases hS x hmm with hmm | hmm
      · have := MO.lt _ _ _ h.m x hmm; omega
      · exact hmm.2 hx
    · refine ⟨(h.a1 j e he x hx).1, fun hmm => ?_⟩
      rcases hS x hmm with hmm | hmm
      · exact (h.a1 j e he x hx).2 hmm
      · have := holdlt j e he x hx; omega
  · rcases gett j u hu2 with ⟨hj, rfl⟩ | ⟨hj, hu2⟩
    · cases hdn
    · rw [List.getElem?_append_left (by rw [h.n2]; exact hj)]
      exact h.r0 j u hu2 hdn
  · rcases get j1 e1 h1 with ⟨hj1, rfl⟩ | ⟨hj1, h1⟩
    · rcases get j2 e2 h2 with ⟨hj2, _⟩ | ⟨hj2, h2⟩
      · omega
      · intro hmm
        have := holdlt j2 e2 h2 x hmm
        have := hown x hx
        omega
    · rcases get j2 e2 h2 with ⟨hj2, e00⟩ | ⟨hj2, h2⟩
      · intro hmm
        rw [e00] at hmm
        have := holdlt j1 e1 h1 x hx
        have := hown x hmm
        omega
      · exact h.ap j1 j2 e1 e2 hj h1 h2 x hx
/-- The same, kept in another way. -/
theorem SysSt.re {M' : World → List Nat → List (Option α) → Prop} {w : World} {F : BFp} {B : BS} {S : List Nat} {ds : List (TD α)} {ts : List (TS α)} {rs : List (Option α)} (h : SysSt M w F B S ds ts rs) (hm : M' w S rs) : SysSt M' w F B S ds ts rs :=
  ⟨h.n1, h.n2, h.bs, hm, h.a2, h.st, h.ok, h.a1, h.r0, h.ap⟩
/-- The bodies of all. -/
def Bodies (Bad : α → Prop) (J : BS → Prop) (M : World → List Nat → List (Option α) → Prop) (ds : List (TD α)) : Prop :=
  ∀ (i : Nat) (d : TD α), ds[i]? = some d → ∀ rs : List (Option α), rs.length = ds.length → BodyOk d.fid d.caps d.p Bad J (fun w S r => M w S (rs.set i r))
theorem Bodies.same {Bad : α → Prop} {J : BS → Prop} {w w' : World} {F F' : BFp} {S S' : List Nat} {ds ds' : List (TD α)} (h : Bodies Bad J M ds) (k : SNx w w' F F' S S' ds ds') : Bodies Bad J M ds' := by
  intro i d hd rs hr
  have hl : i < ds.length := by rw [← k.len]; exact (List.getElem?_eq_some_iff.1 hd).1
  obtain ⟨_, e2, e3, e4⟩ := k.same i _ d (List.getElem?_eq_getElem hl) hd
  rw [e2, e3, e4]
  exact h i _ (List.getElem?_eq_getElem hl) rs (by rw [hr, k.len])
/-- What holds along all steps. -/
structure SGo (Bad : α → Prop) (J : BS → Prop) (Good : List (TS α) × BS → Prop) : Prop where
  step : ∀ x k, Good x → Good (sysStep x.1 x.2 k)
  bad : ∀ (x : List (TS α) × BS) (i : Nat) t a, Good x → x.1[i]? = some t → t.p = .ret a → ¬ Bad a
  j : ∀ x, Good x → J x.2
def LenLe (n : Nat) (ds ds' : List (TD α)) : Prop := ∀ (i : Nat) d d', ds[i]? = some d → ds'[i]? = some d' → d'.l.length ≤ d.l.length + n
theorem LenLe.refl (ds : List (TD α)) : LenLe 0 ds ds := fun i d d' h h' => by rw [h] at h'; injection h' with h'; subst h'; exact Nat.le_refl _
theorem LenLe.trans {n m : Nat} {ds ds1 ds2 : List (TD α)} (h : LenLe n ds ds1) (k : LenLe m ds1 ds2) (hl : ds1.length = ds.length) : LenLe (n + m) ds ds2 := fun i d d' hd hd' => by
  have hi : i < ds1.length := by rw [hl]; exact (List.getElem?_eq_some_iff.1 hd).1
  have := h i d _ hd (List.getElem?_eq_getElem hi)
  have := k i _ d' (List.getElem?_eq_getElem hi) hd'
  omega
theorem lenLe_set {n : Nat} {ds : List (TD α)} {i : Nat} {d : TD α} {lv' : Value} {l' : List En} (hd : ds[i]? = some d) (hl : l'.length ≤ d.l.length + n) : LenLe n ds (ds.set i { d with lv := lv', l := l' }) := fun j e e' he he' => by
  have hid := (List.getElem?_eq_some_iff.1 hd).1
  rw [List.getElem?_set] at he'
  split at he'
  · next e1 =>
    subst e1
    simp only [hid, if_true, Option.some.injEq] at he'
    rw [hd] at he
    injection he with he
    subst he he'
    exact hl
  · rw [he] at he'; injection he' with he'; subst he'; omega
variable {Bad : α → Prop} {J : BS → Prop} {Good : List (TS α) × BS → Prop}
def SPost (M : World → List Nat → List (Option α) → Prop) (w : World) (F : BFp) (S : List Nat) (ds : List (TD α)) (n : Nat) (x : List (TS α) × BS) (w' : World) : Prop :=
  ∃ F' S' ds' rs', SysSt M w' F' x.2 S' ds' x.1 rs' ∧ SNx w w' F F' S S' ds ds' ∧ LenLe n ds ds'
theorem sstep_ok (MO : MemAll M) (HG : SGo Bad J Good) (w : World) {F : BFp} {B : BS} {S : List Nat} {ds : List (TD α)} {ts : List (TS α)} {rs : List (Option α)} (h : SysSt M w F B S ds ts rs) (i : Nat) (d : TD α) (hd : ds[i]? = some d) (hb : BodyOk d.fid d.caps d.p Bad J (fun w S r => M w S (rs.set i r))) (hg : Good (ts, B)) (hlen : d.l.length < 6000) :
    Calls Tryd.prog 20 #[.pointer (some ⟨d.tb, 0, none⟩)] w fun e w' => e = .returned .nilIface ∧ SPost M w F S ds 1 (sysStep ts B i) w' := by
  have hl : i < ts.length := by rw [← h.n1]; exact (List.getElem?_eq_some_iff.1 hd).1
  have ht : ts[i]? = some ts[i] := List.getElem?_eq_getElem hl
  obtain ⟨r, hr, ha⟩ := h.one hd ht
  have hst := sysStep_at (B := B) ht
  have hg2 := HG.step _ i hg
  simp only [hst] at hg2
  refine (tstep' hb (MO.at_ rs i) w ha (HG.j _ hg) hlen (fun a hp => HG.bad _ i (Th.stepT ts[i] B).1 a hg2 (by simp [hl]) hp)).mono ?_
  rintro e w' ⟨rfl, F', lv', S', l', r', g1, g2, g3, g4⟩
  obtain ⟨k1, k2⟩ := h.put MO hd ht g1 g2 g4
  rw [hst]
  exact ⟨rfl, F', S', _, _, k1, k2, lenLe_set hd g3⟩
theorem srun_ok (MO : MemAll M) (HG : SGo Bad J Good) (w : World) {F : BFp} {B : BS} {S : List Nat} {ds : List (TD α)} {ts : List (TS α)} {rs : List (Option α)} (h : SysSt M w F B S ds ts rs) (i n : Nat) (d : TD α) (hd : ds[i]? = some d) (hb : BodyOk d.fid d.caps d.p Bad J (fun w S r => M w S (rs.set i r))) (hg : Good (ts, B)) (hlen : d.l.length + n < 6000) :
    Calls Tryd.prog 17 #[.pointer (some ⟨d.tb, 0, none⟩), .int .i64 n] w fun e w' => e = .returned .nilIface ∧ SPost M w F S ds n (sysRun n ts B i) w' ∧ Good (sysRun n ts B i) := by
  have hl : i < ts.length := by rw [← h.n1]; exact (List.getElem?_eq_some_iff.1 hd).1
  have ht : ts[i]? = some ts[i] := List.getElem?_eq_getElem hl
  obtain ⟨r, hr, ha⟩ := h.one hd ht
  have hst : sysRun n ts B i = (ts.set i (soloT n ts[i] B).1, (soloT n ts[i] B).2) := by unfold sysRun; rw [ht]
  have HGo : Going Bad J (fun t B' => Good (ts.set i t, B')) := ⟨fun t B' hx _ => by
      have := HG.step _ i hx
      rw [show sysStep (ts.set i t, B').1 (ts.set i t, B').2 i = _ from sysStep_at (B := B') (t := t) (by simp [hl])] at this
      simpa using this, fun t B' a hx hp => HG.bad _ i t a hx (by simp [hl]) hp, fun t B' hx => HG.j _ hx⟩
  refine (trun_ok hb (MO.at_ rs i) HGo w n ha (by simpa using hg) hlen).mono ?_
  rintro e w' ⟨rfl, F', lv', S', l', r', g1, g2, g3, g5, g4⟩
  obtain ⟨k1, k2⟩ := h.put MO hd ht g1 g2 g4
  rw [hst]
  exact ⟨rfl, ⟨F', S', _, _, k1, k2, lenLe_set hd g3⟩, g5⟩
end
end Go.Proofs.YtkldpdldjalpeaaDoor

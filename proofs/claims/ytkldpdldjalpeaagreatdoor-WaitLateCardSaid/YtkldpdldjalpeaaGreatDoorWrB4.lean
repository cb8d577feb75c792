/-
  Package bits' Pack and Unpack; package meta by contracts: in, Now, Peek.
  Package meta by contracts: Tick.
  Package meta by contracts: Peek, Read.
  Package meta by contracts: turn.
  Package meta by contracts: Lock, Await, locked, put.
  Package meta by contracts: put, Commit, Release.
  Bodies beside one another: a ghost of what is there, which others may turn; whatever the order of their steps. No program in sight.
  Threads: what a step of a body makes of its log, and of what it wants. No program in sight.
  The scene: a clock and some cells, as a body. No program in sight.
-/
import Derived.Test.YtkldpdldjalpeaaGreatDoorWrB3
import Derived.Test.YtkldpdldjalpeaaGreatDoorWrB1
import Derived.WalkMore
import Derived.ScopeJumps
import Derived.Deep.RegionHeld3
set_option linter.unusedVariables false
namespace Go.Proofs.YtkldpdldjalpeaaGreatDoor
open Go.RowKit Th
attribute [local go_sem] litStep_value

def encM (m : Mt) : Array Value := #[.int .i64 m.ver, .int .i64 m.own, .bool m.ch, .bool m.wt]
set_option maxRecDepth 20000 in
set_option maxHeartbeats 1000000 in
theorem unpack_ok (x : Int) (w : World) (h0 : 0 ≤ x) (h1 : x < 18446744073709551616) :
    Calls Tryz.prog 68 #[.int .u64 x] w fun e w' => e = .returned (.agg (encM (unp x))) ∧ Upd [] w w' := by
  have e1 : bits .and .u64 (x / 256) 255 = x / 256 % 256 := and_8 (by omega) (by omega)
  have e2 : bits .and .u64 x 1 = x % 2 := and_1 h0 h1
  have e3 : bits .and .u64 x 2 = x / 2 % 2 * 2 := and_2 h0 h1
  have b1 : 0 ≤ x / 65536 ∧ x / 65536 < 281474976710656 := by omega
  have b2 : 0 ≤ x / 256 % 256 ∧ x / 256 % 256 < 256 := by omega
  go_enter Tryz.func68, Tryz.ntmps68
  go_wp2_with fail
  have t1 : (x % 2 != 0) = (x % 2 == 1) := by
    have : x % 2 = 0 ∨ x % 2 = 1 := by omega
    rcases this with e | e <;> rw [e] <;> rfl
  have t2 : (x / 2 % 2 * 2 != 0) = (x / 2 % 2 == 1) := by
    have : x / 2 % 2 = 0 ∨ x / 2 % 2 = 1 := by omega
    rcases this with e | e <;> rw [e] <;> rfl
  rw [t1, t2]
  refine bodyPost_ret (v := .agg (encM (unp x))) (by simp [results, Tryz.results68, go_sem, Act.put, encM, unp]) rfl ⟨rfl, ?_⟩
  exact (Upd.refl _ _).alloc _
theorem pk_ff (v o : Int) : pk ⟨v, o, false, false⟩ = v * 65536 + o * 256 := by simp [pk]
set_option maxRecDepth 20000 in
set_option maxHeartbeats 2000000 in
theorem pack_ok (m : Mt) (w : World) (h : Fit m) :
    Calls Tryz.prog 56 #[.agg (encM m)] w fun e w' => e = .returned (.tuple #[.int .u64 (pk m), .nilIface]) ∧ Upd [] w w' := by
  obtain ⟨v, o, c, t⟩ := m
  obtain ⟨h1, h2, h3, h4⟩ := h
  simp only at h1 h2 h3 h4
  have e1 : bits .or .u64 (v * 65536) (o * 256) = v * 65536 + o * 256 := or_16 (by omega) (by omega) (by omega) (by omega) (by omega)
  have e2 : bits .or .u64 (v * 65536 + o * 256) 2 = v * 65536 + o * 256 + 2 := or_8 (by omega) (by omega) (by omega) (by omega) (by omega)
  have e3 : bits .or .u64 (v * 65536 + o * 256) 1 = v * 65536 + o * 256 + 1 := or_8 (by omega) (by omega) (by omega) (by omega) (by omega)
  have e4 : bits .or .u64 (v * 65536 + o * 256 + 2) 1 = v * 65536 + o * 256 + 2 + 1 := or_1 (by omega) (by omega) (by omega) (by omega) (by omega)
  unfold encM
  cases c <;> cases t
  all_goals
    go_enter Tryz.func56, Tryz.ntmps56
    go_wp2_with fail
    go_ret2
    refine ⟨?_, (Upd.refl _ _).alloc _⟩
    simp [pk]
theorem ErW.mono {w : World} {B k : Nat} {v : Value} {no : Int} (h : ErW w B k v no) : ∃ t x, v = .iface t x := by cases h <;> exact ⟨_, _, rfl⟩
/-- An error that is wrapped at most k times. -/
def ErK (k : Nat) (w : World) (B : Nat) (v : Value) (no : Int) : Prop := (v = .nilIface ∧ no = 0) ∨ ∃ j, j ≤ k ∧ ErW w B j v no
theorem ErK.er {k : Nat} {w : World} {B : Nat} {v : Value} {no : Int} (h : ErK k w B v no) (hk : k ≤ 2) : Er w B v no := h.elim .inl (fun ⟨j, h1, h2⟩ => .inr ⟨j, by omega, h2⟩)
theorem ErK.up {k k' : Nat} {w : World} {B : Nat} {v : Value} {no : Int} (h : ErK k w B v no) (hk : k ≤ k') : ErK k' w B v no := h.elim .inl (fun ⟨j, h1, h2⟩ => .inr ⟨j, by omega, h2⟩)
theorem ErK.upd {k : Nat} {w w' : World} {B : Nat} {v : Value} {no : Int} {S : List Nat} (h : ErK k w B v no) (hu : Upd S w w') (hS : ∀ x ∈ S, x < B) : ErK k w' B v no := h.elim .inl (fun ⟨j, h1, h2⟩ => .inr ⟨j, h1, h2.upd hu hS⟩)
theorem ErK.base {k : Nat} {w : World} {B B' : Nat} {v : Value} {no : Int} (h : ErK k w B v no) (hb : B' ≤ B) : ErK k w B' v no := h.elim .inl (fun ⟨j, h1, h2⟩ => .inr ⟨j, h1, h2.base hb⟩)
theorem ErK.num (k : Nat) (w : World) (B : Nat) (no : Int) (h : 1 ≤ no ∧ no ≤ 17) : ErK k w B (.iface 65 (.int .i64 no)) no := .inr ⟨0, by omega, .num no h⟩
theorem ErK.nil (k : Nat) (w : World) (B : Nat) : ErK k w B .nilIface 0 := .inl ⟨rfl, rfl⟩
theorem ErK.cases {k : Nat} {w : World} {B : Nat} {v : Value} {no : Int} (h : ErK k w B v no) : (v = .nilIface ∧ no = 0) ∨ ((∃ t x, v = .iface t x) ∧ 1 ≤ no ∧ no ≤ 17) := h.elim .inl (fun ⟨j, h1, h2⟩ => .inr ⟨h2.mono, h2.no_range⟩)
theorem in_ok {k B : Nat} {v : Value} {no : Int} (s : ByteArray) (w : World) (h : ErK k w B v no) (hB : B ≤ w.heap.size) :
    Calls Tryz.prog 44 #[.string s, v] w fun e w' => ∃ v', e = .returned v' ∧ ErK (k + 1) w' B v' no ∧ Upd [] w w' := by
  have H := Lib.hid h
  rcases h with ⟨rfl, rfl⟩ | ⟨j, hj, h⟩
  · go_enter Tryz.func44, Tryz.ntmps44
    go_wp2_with fail
    go_ret
    exact ⟨_, rfl, .inl ⟨rfl, rfl⟩, .refl _ _⟩
  · have HE := Lib.hid h
    have hv : (∃ n, v = .iface 65 (.int .i64 n)) ∨ ∃ g, v = .iface 99 (.pointer (some ⟨g, 0, none⟩)) := by
      cases h with
      | num no h => exact .inl ⟨_, rfl⟩
      | wrap => exact .inr ⟨_, rfl⟩
    clear h
    rcases hv with ⟨n, rfl⟩ | ⟨g, rfl⟩
    all_goals
      go_enter Tryz.func44, Tryz.ntmps44
      go_wp2_with fail
      go_ret
      refine ⟨_, rfl, .inr ⟨j + 1, by omega, .wrap j w.heap.size (.string s) _ no hB (Blk.new _ _ _) (HE.out.upd ((Upd.refl [] _).alloc _) (by simp))⟩, (Upd.refl _ _).alloc _⟩
/-- What a run comes to, as an answer. -/
def resA : Option An → An
  | some a => a
  | none => ⟨11, 0, 0⟩
theorem acc_word {w : World} {F : BFp} {cb : Nat} {lv : Value} {c c' : CS} {a : Ac} {e : En} (ha : access c a = (some e, c')) (h : CSt w F cb lv c') : 0 ≤ e.word ∧ e.word < 18446744073709551616 := by
  refine h.lwd e ?_
  unfold access at ha
  cases hl : c.log[c.next]? with
  | some x =>
    rw [hl] at ha
    injection ha with h1 h2
    injection h1 with h1
    subst h1 h2
    exact List.mem_of_getElem? hl
  | none =>
    rw [hl] at ha
    simp only at ha
    split at ha
    · injection ha with h1; cases h1
    · injection ha with h1 h2
      injection h1 with h1
      subst h1 h2
      simp
set_option maxRecDepth 20000 in
set_option maxHeartbeats 1000000 in
theorem now_ok {F : BFp} {cb : Nat} {lv : Value} {c : CS} (w : World) (h : CSt w F cb lv c) (ck : Nat) (hm : (ck, 1) ∈ c.B.sz) :
    Calls Tryz.prog 37 #[.pointer (some ⟨cb, 0, none⟩), .int .u64 ck] w fun e w' => ∃ lv' v, e = .returned (.tuple #[.int .i64 (resA (run (nowT ck) c).1).n, v]) ∧ CSt w' F cb lv' (run (nowT ck) c).2 ∧ CNx w w' F F cb lv lv' ∧ ErK 1 w' w.heap.size v (resA (run (nowT ck) c).1).err := by
  have HL := Lib.hid (cload_ok w h ck 1 0 hm (by omega))
  clear h hm
  go_enter Tryz.func37, Tryz.ntmps37
  go_wp2_with fail
  refine HL.out.mono ?_; rintro e w1 ⟨lv', x, v, rfl, h1, h2, h3⟩
  cases ha : access c (.load ck 0) with
  | mk o c1 =>
    rw [ha] at h1 h3
    have H2 := Lib.hid h2
    have hB := h2.up.size
    cases o with
    | none =>
      obtain ⟨rfl, rfl⟩ := h3
      have hr : run (nowT ck) c = (none, c1) := run_none ha
      have HR := Lib.hid hr
      have H1 := Lib.hid h1
      clear h1 h2 ha hr
      go_wp2_with fail
      refine (in_ok (k := 0) (B := w.heap.size) _ w1 (.num 0 w1 _ 11 (by omega)) hB).mono ?_; rintro e w2 ⟨v', rfl, he, hu⟩
      have HE := Lib.hid he
      have HU := Lib.hid hu
      clear he hu
      go_wp2_with fail
      go_ret2
      rw [HR.out]
      exact ⟨lv', v', rfl, H1.out.upd0 HU.out, H2.out.upd HU.out, HE.out⟩
    | some en =>
      obtain ⟨rfl, rfl⟩ := h3
      have hr : run (nowT ck) c = (some ⟨0, 0, s64 en.word⟩, c1) := run_some ha
      have hw := acc_word ha h1
      have HR := Lib.hid hr
      have H1 := Lib.hid h1
      have hs : wrap64 en.word = s64 en.word := by simp only [wrap64, s64]
      have HS := Lib.hid hs
      clear h1 h2 ha hr hs
      go_wp2_with fail
      refine (in_ok (k := 0) (B := w.heap.size) _ w1 (.nil 0 w1 _) hB).mono ?_; rintro e w2 ⟨v', rfl, he, hu⟩
      have HE := Lib.hid he
      have HU := Lib.hid hu
      clear he hu
      go_wp2_with fail
      go_ret2
      rw [HR.out]
      refine ⟨lv', v', ?_, H1.out.upd0 HU.out, H2.out.upd HU.out, HE.out⟩
      show Ending.returned (.tuple #[.int .i64 (wrap64 en.word), v']) = .returned (.tuple #[.int .i64 (s64 en.word), v'])
      rw [HS.out]
end Go.Proofs.YtkldpdldjalpeaaGreatDoor

namespace Go.Proofs.YtkldpdldjalpeaaGreatDoor
open Go.RowKit Th
attribute [local go_sem] litStep_value

set_option maxRecDepth 20000 in
set_option maxHeartbeats 2000000 in
theorem tick_ok {F : BFp} {cb : Nat} {lv : Value} {c : CS} (w : World) (h : CSt w F cb lv c) (ck : Nat) (hm : (ck, 1) ∈ c.B.sz) :
    Calls Tryz.prog 38 #[.pointer (some ⟨cb, 0, none⟩), .int .u64 ck] w fun e w' => ∃ lv' v, e = .returned (.tuple #[.int .i64 (resA (run (tickT ck 8) c).1).n, v]) ∧ CSt w' F cb lv' (run (tickT ck 8) c).2 ∧ CNx w w' F F cb lv lv' ∧ ErK 1 w' w.heap.size v (resA (run (tickT ck 8) c).1).err := by
  have H0 := Lib.hid h
  have HM := Lib.hid hm
  clear h hm
  go_enter Tryz.func38, Tryz.ntmps38
  go_wp2_with fail
  go_loopw [9] (fun u wr => ∃ (j : Nat) (cj : CS) (lj : Value), u = .int .i64 j ∧ j ≤ 8 ∧ Hid (CSt wr F cb lj cj) ∧ Hid (CNx w wr F F cb lv lj) ∧ Hid (run (tickT ck (8 - j)) cj = run (tickT ck 8) c) ∧ Hid ((ck, 1) ∈ cj.B.sz)) (fun u _ => 8 - (intOf u).toNat)
  case atStart => exact ⟨0, c, lv, rfl, by omega, H0, Lib.hid (.refl _ _ _ _), Lib.hid rfl, HM⟩
  case round =>
    obtain ⟨j, cj, lj, rfl, hj, KS, KN, KR, KM⟩ := hrel
    have hBr : w.heap.size ≤ wr.heap.size := KN.out.up.size
    by_cases hj8 : j < 8
    · have hji : (j : Int) < 8 := by omega
      have HL := Lib.hid (cload_ok wr KS.out ck 1 0 KM.out (by omega))
      obtain ⟨m, hm⟩ : ∃ m, 8 - j = m + 1 := ⟨7 - j, by omega⟩
      have HMJ := Lib.hid hm
      clear hj hm
      go_wp2_with fail
      refine HL.out.mono ?_; rintro e w1 ⟨lv1, x, v, rfl, h1, h2, h3⟩
      cases ha : access cj (.load ck 0) with
      | mk o c1 =>
        rw [ha] at h1 h3
        have H2 := Lib.hid (KN.out.trans h2)
        have hB := Nat.le_trans hBr h2.up.size
        have HR := KR.out
        rw [HMJ.out] at HR
        cases o with
        | none =>
          obtain ⟨rfl, rfl⟩ := h3
          have hr : run (tickT ck (m + 1)) cj = (none, c1) := run_none ha
          rw [hr] at HR
          have HR' := Lib.hid HR
          have H1 := Lib.hid h1
          clear h1 h2 ha hr HR
          go_wp2_with fail
          refine (in_ok (k := 0) (B := w.heap.size) _ w1 (.num 0 w1 _ 11 (by omega)) hB).mono ?_; rintro e w2 ⟨v', rfl, he, hu⟩
          have HE := Lib.hid he
          have HU := Lib.hid hu
          clear he hu
          go_wp2_with fail
          go_ret2
          rw [← HR'.out]
          exact ⟨lv1, v', rfl, H1.out.upd0 HU.out, H2.out.upd HU.out, HE.out⟩
        | some en =>
          obtain ⟨rfl, rfl⟩ := h3
          have hr : run (tickT ck (m + 1)) cj = run (.acc (.cas ck 0 en.word (u64 (en.word + 1))) fun d => if d.done = true then .ret ⟨0, 0, s64 (u64 (en.word + 1))⟩ else tickT ck m) c1 := run_some ha
          rw [hr] at HR
          have hw := acc_word ha h1
          have hmm : (ck, 1) ∈ c1.B.sz := access_mem ha KM.out
          have hu64 : 0 ≤ u64 (en.word + 1) ∧ u64 (en.word + 1) < 18446744073709551616 := by unfold u64; omega
          have e64 : IntKind.u64.wrap (en.word + 1) = u64 (en.word + 1) := by rw [IntKind.wrap_u64]; rfl
          have HC := Lib.hid (ccas_ok w1 h1 ck 1 0 en.word (u64 (en.word + 1)) hu64 hmm (by omega))
          have HR' := Lib.hid HR
          have HMM := Lib.hid hmm
          generalize u64 (en.word + 1) = uw at e64 HC HR' hu64
          clear h1 h2 ha hr HR hmm
          go_wp2_with fail
          refine HC.out.mono ?_; rintro e w2 ⟨lv2, d, v, rfl, h1, h2, h3⟩
          cases hb : access c1 (.cas ck 0 en.word uw) with
          | mk o2 c2 =>
            rw [hb] at h1 h3
            have H3 := Lib.hid (H2.out.trans h2)
            have hB2 := Nat.le_trans hB h2.up.size
            have HR := HR'.out
            cases o2 with
            | none =>
              obtain ⟨rfl, rfl⟩ := h3
              rw [run_none hb] at HR
              have HRR := Lib.hid HR
              have H1 := Lib.hid h1
              clear h1 h2 hb HR
              go_wp2_with fail
              refine (in_ok (k := 0) (B := w.heap.size) _ w2 (.num 0 w2 _ 11 (by omega)) hB2).mono ?_; rintro e w3 ⟨v', rfl, he, hu⟩
              have HE := Lib.hid he
              have HU := Lib.hid hu
              clear he hu
              go_wp2_with fail
              go_ret2
              rw [← HRR.out]
              exact ⟨lv2, v', rfl, H1.out.upd0 HU.out, H3.out.upd HU.out, HE.out⟩
            | some dn =>
              obtain ⟨rfl, rfl⟩ := h3
              rw [run_some hb] at HR
              have H1 := Lib.hid h1
              by_cases hd : dn.done = true
              · rw [if_pos hd] at HR
                have HRR := Lib.hid HR
                clear h1 h2 hb HR
                have HS : Hid (wrap64 uw = s64 uw) := Lib.hid (by simp only [wrap64, s64])
                rw [hd]
                clear hd
                go_wp2_with fail
                go_ret2
                rw [← HRR.out]
                refine ⟨lv2, .nilIface, ?_, H1.out, H3.out, .nil _ _ _⟩
                show Ending.returned (.tuple #[.int .i64 (wrap64 uw), .nilIface]) = .returned (.tuple #[.int .i64 (s64 uw), .nilIface])
                rw [HS.out]
              · have hd' : dn.done = false := by simpa using hd
                rw [if_neg hd] at HR
                have HRR := Lib.hid HR
                have HMM2 := Lib.hid (access_mem hb HMM.out)
                clear h1 h2 hb HR
                rw [hd']
                clear hd hd'
                go_wp2_with fail
                go_round
                case rel => exact ⟨j + 1, c2, lv2, by simp, by omega, H1, H3, Lib.hid (by rw [show 8 - (j + 1) = m by have := HMJ.out; omega]; exact HRR.out), HMM2⟩
                case measure => simp [intOf]; omega
    · have e : j = 8 := by omega
      subst e
      clear hj hj8
      go_wp2_with fail
      refine (in_ok (k := 0) (B := w.heap.size) _ wr (.num 0 wr _ 12 (by omega)) hBr).mono ?_; rintro e w3 ⟨v', rfl, he, hu⟩
      have HE := Lib.hid he
      have HU := Lib.hid hu
      clear he hu
      go_wp2_with fail
      go_ret2
      rw [← KR.out]
      exact ⟨lj, v', rfl, KS.out.upd0 HU.out, KN.out.upd HU.out, HE.out⟩
end Go.Proofs.YtkldpdldjalpeaaGreatDoor

namespace Go.Proofs.YtkldpdldjalpeaaGreatDoor
open Go.RowKit Th
attribute [local go_sem] litStep_value

theorem SS_lt {w : World} {F : BFp} {cb : Nat} {lv : Value} {c : CS} (h : CSt w F cb lv c) : ∀ x, x ∈ SS F cb lv → x < w.heap.size := by
  intro x hm
  simp only [SS, List.mem_append, List.mem_cons] at hm
  rcases hm with hm | hm | hm
  · exact h.st.lt _ hm
  · subst hm; exact h.hdr.lt
  · exact (own_lt h.log (b := x) (by simpa using hm)).2
theorem CSt.far {w w' : World} {F : BFp} {cb : Nat} {lv : Value} {c : CS} {S : List Nat} (h : CSt w F cb lv c) (hu : Upd S w w') (hS : ∀ x, x ∈ S → x ∉ SS F cb lv) : CSt w' F cb lv c := by
  refine ⟨h.hdr.upd hu (fun hm => hS _ hm (by simp [SS])), h.log.upd hu (fun b hb hm => hS _ hm (by simp [SS, hb])), h.st.upd hu (fun x hx hm => hS _ hx (by simp [SS, hm])), h.ncb, h.nlv, h.lwd, h.room, h.len⟩
theorem CNx.far {w w1 w2 : World} {F F1 : BFp} {cb : Nat} {lv lv1 : Value} {S : List Nat} (h : CNx w w1 F F1 cb lv lv1) (k : Upd S w1 w2) (hS : ∀ x, x ∈ S → w.heap.size ≤ x) : CNx w w2 F F1 cb lv lv1 :=
  ⟨h.up.trans' k (fun x hx => .inr (hS x hx)), h.gr⟩
/-- A block that was made behind the start, ahead of what has grown since. -/
theorem SS_new {w w1 w2 : World} {F F1 : BFp} {cb g : Nat} {lv lv1 : Value} {c : CS} (h0 : CSt w F cb lv c) (h : CNx w1 w2 F F1 cb lv lv1) (hg : w.heap.size ≤ g) (hg1 : g < w1.heap.size) : g ∉ SS F1 cb lv1 := by
  intro hm
  rcases h.gr g hm with h | h
  · have := SS_lt h0 g h; omega
  · omega
theorem set4 {w : World} {g : Nat} {t : TypeId} {a b c d : Value} (h : Blk w g t #[a, b, c, d]) (x0 x1 x2 x3 : Value) :
    Blk ((((w.setCell ⟨g, 0, none⟩ x0).setCell ⟨g, 1, none⟩ x1).setCell ⟨g, 2, none⟩ x2).setCell ⟨g, 3, none⟩ x3) g t #[x0, x1, x2, x3] ∧ Upd [g] w ((((w.setCell ⟨g, 0, none⟩ x0).setCell ⟨g, 1, none⟩ x1).setCell ⟨g, 2, none⟩ x2).setCell ⟨g, 3, none⟩ x3) :=
  ⟨(((h.set_ 0 x0).set_ 1 x1).set_ 2 x2).set_ 3 x3, ((((Upd.refl _ _).setCell (by simp) _).setCell (by simp) _).setCell (by simp) _).setCell (by simp) _⟩
/-- What a peek tells. -/
def PkV (w' : World) (B : Nat) (m : Mt) (v : Value) : Option En → Prop
  | some en => m = unp en.word ∧ v = .nilIface
  | none => ErK 1 w' B v 11
set_option maxRecDepth 20000 in
set_option maxHeartbeats 1000000 in
theorem peek_ok {F : BFp} {cb : Nat} {lv : Value} {c : CS} (w : World) (h : CSt w F cb lv c) (cl n : Nat) (hm : (cl, n) ∈ c.B.sz) (hn : 1 ≤ n) :
    Calls Tryz.prog 55 #[.pointer (some ⟨cb, 0, none⟩), .int .u64 cl] w fun e w' => ∃ lv' m v, e = .returned (.tuple #[.agg (encM m), v]) ∧ CSt w' F cb lv' (access c (.load cl 0)).2 ∧ CNx w w' F F cb lv lv' ∧ PkV w' w.heap.size m v (access c (.load cl 0)).1 := by
  have H0 := Lib.hid h
  have HM := Lib.hid hm
  clear h hm
  go_enter Tryz.func55, Tryz.ntmps55
  go_wp2_with fail
  obtain ⟨w1, hw1⟩ : ∃ w1, w1 = w.alloc (Obj.cells #[.int .i64 0, .int .i64 0, .bool false, .bool false] 74) := ⟨_, rfl⟩
  have U1 : Hid (Upd [] w w1) := Lib.hid (by rw [hw1]; exact (Upd.refl _ _).alloc _)
  have X1 : Hid (Blk w1 w.heap.size 74 #[.int .i64 0, .int .i64 0, .bool false, .bool false]) := Lib.hid (by rw [hw1]; exact Blk.new _ _ _)
  rw [← hw1]
  clear hw1
  refine (cload_ok w1 (H0.out.upd0 U1.out) cl n 0 HM.out (by omega)).mono ?_
  rintro e w2 ⟨lv', x, v, rfl, h1, h2, h3⟩
  have HN := Lib.hid (h2.upd0 U1.out)
  have HG : Hid (w.heap.size ∉ SS F cb lv') := Lib.hid (SS_new H0.out h2 (Nat.le_refl _) X1.out.lt)
  have X2 : Hid (Blk w2 w.heap.size 74 #[.int .i64 0, .int .i64 0, .bool false, .bool false]) := Lib.hid (X1.out.upd h2.up (fun hm => by
    simp only [SS, List.mem_append, List.mem_cons] at hm
    rcases hm with hm | hm | hm
    · have := H0.out.st.lt _ hm; omega
    · have := H0.out.hdr.lt; omega
    · have := (own_lt H0.out.log (b := w.heap.size) (by simpa using hm)).2; omega))
  have hB : w.heap.size + 1 ≤ w2.heap.size := X2.out.lt
  cases ha : access c (.load cl 0) with
  | mk o c1 =>
    rw [ha] at h1 h3
    have HA := Lib.hid ha
    have H1 := Lib.hid h1
    cases o with
    | none =>
      obtain ⟨rfl, rfl⟩ := h3
      clear h1 h2 ha
      go_wp2_with fail
      refine (in_ok (k := 0) (B := w.heap.size + 1) _ w2 (.num 0 w2 _ 11 (by omega)) hB).mono ?_; rintro e w3 ⟨v', rfl, he, hu⟩
      have X3 := X2.out.upd hu (by simp)
      have HX := Lib.hid X3
      have hs3 := hu.size
      have f := X3.facts
      have HE := Lib.hid he
      have HU := Lib.hid hu
      clear he hu X3
      go_wp2_with fail
      obtain ⟨HRf, UFf⟩ := set4 HX.out (.int .i64 0) (.int .i64 0) (.bool false) (.bool false)
      generalize (((w3.setCell ⟨w.heap.size, 0, none⟩ (.int .i64 0)).setCell ⟨w.heap.size, 1, none⟩ (.int .i64 0)).setCell ⟨w.heap.size, 2, none⟩ (.bool false)).setCell ⟨w.heap.size, 3, none⟩ (.bool false) = W7 at HRf UFf ⊢
      have d0 : W7.cell? ⟨w.heap.size, 0, none⟩ = some (.int .i64 0) := HRf.cell 0
      have d1 : W7.cell? ⟨w.heap.size, 1, none⟩ = some (.int .i64 0) := HRf.cell 1
      have d2 : W7.cell? ⟨w.heap.size, 2, none⟩ = some (.bool false) := HRf.cell 2
      have d3 : W7.cell? ⟨w.heap.size, 3, none⟩ = some (.bool false) := HRf.cell 3
      rw [HA.out]
      exact bodyPost_ret (v := .tuple #[.agg (encM ⟨0, 0, false, false⟩), v']) (by simp [results, Tryz.results55, go_sem, encM, d0, d1, d2, d3]) rfl ⟨lv', _, v', rfl, (H1.out.upd0 HU.out).far UFf (by simpa using HG.out), (HN.out.upd HU.out).far UFf (by simp), (HE.out.upd UFf (by simp)).base (Nat.le_succ _)⟩
    | some en =>
      obtain ⟨rfl, rfl⟩ := h3
      have hw := acc_word ha h1
      have HP := Lib.hid (fun (W : World) => unpack_ok en.word W hw.1 hw.2)
      clear h1 h2 ha
      go_wp2_with fail
      refine (HP.out _).mono ?_; rintro e w3 ⟨rfl, hu⟩
      have X3 := X2.out.upd hu (by simp)
      have HX := Lib.hid X3
      have f := X3.facts
      have HU := Lib.hid hu
      clear hu X3
      simp only [encM]
      go_wp2_with fail
      obtain ⟨HRf, UFf⟩ := set4 HX.out (.int .i64 (unp en.word).ver) (.int .i64 (unp en.word).own) (.bool (unp en.word).ch) (.bool (unp en.word).wt)
      generalize (((w3.setCell ⟨w.heap.size, 0, none⟩ (.int .i64 (unp en.word).ver)).setCell ⟨w.heap.size, 1, none⟩ (.int .i64 (unp en.word).own)).setCell ⟨w.heap.size, 2, none⟩ (.bool (unp en.word).ch)).setCell ⟨w.heap.size, 3, none⟩ (.bool (unp en.word).wt) = W7 at HRf UFf ⊢
      have d0 : W7.cell? ⟨w.heap.size, 0, none⟩ = some (.int .i64 (unp en.word).ver) := HRf.cell 0
      have d1 : W7.cell? ⟨w.heap.size, 1, none⟩ = some (.int .i64 (unp en.word).own) := HRf.cell 1
      have d2 : W7.cell? ⟨w.heap.size, 2, none⟩ = some (.bool (unp en.word).ch) := HRf.cell 2
      have d3 : W7.cell? ⟨w.heap.size, 3, none⟩ = some (.bool (unp en.word).wt) := HRf.cell 3
      rw [HA.out]
      exact bodyPost_ret (v := .tuple #[.agg (encM (unp en.word)), .nilIface]) (by simp [results, Tryz.results55, go_sem, encM, d0, d1, d2, d3]) rfl ⟨lv', _, .nilIface, rfl, (H1.out.upd0 HU.out).far UFf (by simpa using HG.out), (HN.out.upd HU.out).far UFf (by simp), rfl, rfl⟩
end Go.Proofs.YtkldpdldjalpeaaGreatDoor

namespace Go.Proofs.YtkldpdldjalpeaaGreatDoor
open Go.RowKit Th
attribute [local go_sem] litStep_value

theorem wp_scope_label {P : Program} {a : Act} {w : World} {Q : Exit → Act → World → Prop} {pre X : Code} (l : Nat) (J : Act → World → Prop) (μ : Act → World → Nat) (hf : findLabel (pre.seq ((Code.label l).seq X)) l = some (Code.skip.seq X)) (a0 : Act) (w0 : World)
    (hpre : ∀ (K : Act → World → Prop) (R : Exit → Act → World → Prop), K a0 w0 → pre.wp P (Exit.then K R) a w) (hJ : J a0 w0)
    (pass : ∀ a w, J a w → X.wp P (Exit.jump l (fun a' w' => J a' w' ∧ μ a' w' < μ a w) Q) a w) : (Code.scope (pre.seq ((Code.label l).seq X))).wp P Q a w := by
  refine wp_scope_jumps l J μ hf (wp_seq (hpre _ _ (wp_seq (wp_label ?_)))) (fun a w hj => wp_seq (wp_skip (pass a w hj)))
  refine Code.wp_mono (fun e a1 w1 h => ?_) (pass a0 w0 hJ)
  cases e with
  | goto l' => exact ⟨h.1, h.2.1⟩
  | normal => exact h
  | exit => exact h
  | ret => exact h
  | panic => exact h
  | outgrown => exact h
theorem ErK.form {k : Nat} {w : World} {B : Nat} {v : Value} {no : Int} (h : ErK k w B v no) : (v = .nilIface ∧ no = 0) ∨ ((∃ n, v = .iface 65 (.int .i64 n)) ∨ ∃ g, v = .iface 99 (.pointer (some ⟨g, 0, none⟩))) := by
  rcases h with h | ⟨j, _, h⟩
  · exact .inl h
  · cases h with
    | num no h => exact .inr (.inl ⟨_, rfl⟩)
    | wrap => exact .inr (.inr ⟨_, rfl⟩)
/-- Where 'again' stands: how often, and what the run comes to from there. -/
def TurnJ (F : BFp) (cb : Nat) (lv : Value) (c : CS) (w : World) (s : ByteArray) (cl : Nat) (ver : Int) (tf : Mt → Mt) (fid : FuncId) (caps : Array Value) (T : World → Prop) (a' : Act) (wr : World) : Prop :=
  ∃ (j : Nat) (cj : CS) (lj : Value) (us : Nat → Value), a' = { tmps := #[.pointer (some ⟨cb, 0, none⟩), .string s, .int .u64 cl, .int .i64 ver, .func (.func fid) #[] caps, us 5, us 6, us 7, us 8, us 9, .nilIface, .int .i64 j, us 12, us 13, us 14, us 15, us 16, us 17, us 18, us 19, us 20, us 21, us 22, us 23, us 24, us 25, us 26, us 27, us 28, us 29, us 30, us 31, us 32, us 33, us 34, us 35, us 36, us 37, us 38, us 39, us 40, us 41, us 42, us 43, us 44, us 45, us 46, us 47, us 48, us 49, us 50, us 51, us 52, us 53, us 54, us 55, us 56, us 57, us 58, us 59, us 60, us 61, us 62, us 63, us 64, us 65, us 66, us 67, us 68, us 69, us 70, us 71, us 72, us 73, us 74, us 75, us 76, us 77, us 78, us 79, us 80, us 81, us 82, us 83, us 84, us 85, us 86, us 87], defers := [] } ∧ j ≤ 8 ∧ CSt wr F cb lj cj ∧ CNx w wr F F cb lv lj ∧ run (turnT cl ver tf (8 - j)) cj = run (turnT cl ver tf 8) c ∧ (cl, 2) ∈ cj.B.sz ∧ T wr
theorem turnJ_of {F : BFp} {cb : Nat} {lv : Value} {c : CS} {w : World} {s : ByteArray} {cl : Nat} {ver : Int} {tf : Mt → Mt} {fid : FuncId} {caps : Array Value} {T : World → Prop} {a' : Act} {wr : World} (j : Nat) (cj : CS) (lj : Value)
    (h : a' = { tmps := #[.pointer (some ⟨cb, 0, none⟩), .string s, .int .u64 cl, .int .i64 ver, .func (.func fid) #[] caps, a'.tmps.getD 5 undef, a'.tmps.getD 6 undef, a'.tmps.getD 7 undef, a'.tmps.getD 8 undef, a'.tmps.getD 9 undef, .nilIface, .int .i64 j, a'.tmps.getD 12 undef, a'.tmps.getD 13 undef, a'.tmps.getD 14 undef, a'.tmps.getD 15 undef, a'.tmps.getD 16 undef, a'.tmps.getD 17 undef, a'.tmps.getD 18 undef, a'.tmps.getD 19 undef, a'.tmps.getD 20 undef, a'.tmps.getD 21 undef, a'.tmps.getD 22 undef, a'.tmps.getD 23 undef, a'.tmps.getD 24 undef, a'.tmps.getD 25 undef, a'.tmps.getD 26 undef, a'.tmps.getD 27 undef, a'.tmps.getD 28 undef, a'.tmps.getD 29 undef, a'.tmps.getD 30 undef, a'.tmps.getD 31 undef, a'.tmps.getD 32 undef, a'.tmps.getD 33 undef, a'.tmps.getD 34 undef, a'.tmps.getD 35 undef, a'.tmps.getD 36 undef, a'.tmps.getD 37 undef, a'.tmps.getD 38 undef, a'.tmps.getD 39 undef, a'.tmps.getD 40 undef, a'.tmps.getD 41 undef, a'.tmps.getD 42 undef, a'.tmps.getD 43 undef, a'.tmps.getD 44 undef, a'.tmps.getD 45 undef, a'.tmps.getD 46 undef, a'.tmps.getD 47 undef, a'.tmps.getD 48 undef, a'.tmps.getD 49 undef, a'.tmps.getD 50 undef, a'.tmps.getD 51 undef, a'.tmps.getD 52 undef, a'.tmps.getD 53 undef, a'.tmps.getD 54 undef, a'.tmps.getD 55 undef, a'.tmps.getD 56 undef, a'.tmps.getD 57 undef, a'.tmps.getD 58 undef, a'.tmps.getD 59 undef, a'.tmps.getD 60 undef, a'.tmps.getD 61 undef, a'.tmps.getD 62 undef, a'.tmps.getD 63 undef, a'.tmps.getD 64 undef, a'.tmps.getD 65 undef, a'.tmps.getD 66 undef, a'.tmps.getD 67 undef, a'.tmps.getD 68 undef, a'.tmps.getD 69 undef, a'.tmps.getD 70 undef, a'.tmps.getD 71 undef, a'.tmps.getD 72 undef, a'.tmps.getD 73 undef, a'.tmps.getD 74 undef, a'.tmps.getD 75 undef, a'.tmps.getD 76 undef, a'.tmps.getD 77 undef, a'.tmps.getD 78 undef, a'.tmps.getD 79 undef, a'.tmps.getD 80 undef, a'.tmps.getD 81 undef, a'.tmps.getD 82 undef, a'.tmps.getD 83 undef, a'.tmps.getD 84 undef, a'.tmps.getD 85 undef, a'.tmps.getD 86 undef, a'.tmps.getD 87 undef], defers := [] })
    (hj : j ≤ 8 ∧ CSt wr F cb lj cj ∧ CNx w wr F F cb lv lj ∧ run (turnT cl ver tf (8 - j)) cj = run (turnT cl ver tf 8) c ∧ (cl, 2) ∈ cj.B.sz ∧ T wr) : TurnJ F cb lv c w s cl ver tf fid caps T a' wr :=
  ⟨j, cj, lj, fun k => a'.tmps.getD k undef, h, hj⟩
def turnM (a' : Act) : Nat := 8 - (intOf (a'.tmps.getD 11 undef)).toNat
set_option maxRecDepth 20000 in
set_option maxHeartbeats 4000000 in
theorem turn_ok {F : BFp} {cb : Nat} {lv : Value} {c : CS} (w : World) (h : CSt w F cb lv c) (s : ByteArray) (cl : Nat) (hm : (cl, 2) ∈ c.B.sz) (ver : Int) (tf : Mt → Mt) (fid : FuncId) (caps : Array Value) (T : World → Prop)
    (hto : ∀ m, Fit m → Fit (tf m)) (ent : ∀ args w, (callFunc fid args).run Tryz.prog w = .ok (.enter fid args) w)
    (hT0 : T w) (hT : ∀ W W' S, T W → Upd S W W' → (∀ x, x ∈ S → x ∈ SS F cb lv ∨ w.heap.size ≤ x) → T W')
    (TO : ∀ W m, T W → Calls Tryz.prog fid (#[.agg (encM m)] ++ caps) W fun e w' => e = .returned (.agg (encM (tf m))) ∧ Upd [] W w') :
    Calls Tryz.prog 40 #[.pointer (some ⟨cb, 0, none⟩), .string s, .int .u64 cl, .int .i64 ver, .func (.func fid) #[] caps] w fun e w' => ∃ lv' v, e = .returned v ∧ CSt w' F cb lv' (run (turnT cl ver tf 8) c).2 ∧ CNx w w' F F cb lv lv' ∧ ErK 2 w' w.heap.size v (resA (run (turnT cl ver tf 8) c).1).err := by
  have H0 := Lib.hid h
  have HM := Lib.hid hm
  have HTO := Lib.hid hto
  have HT0 := Lib.hid hT0
  have HT := Lib.hid hT
  have TT := Lib.hid TO
  clear h hm hto hT0 hT TO
  go_enter Tryz.func40, Tryz.ntmps40
  go_wp2_with fail
  refine wp_scope_label 0 (TurnJ F cb lv c w s cl ver tf fid caps T) (fun a' _ => turnM a') rfl { tmps := #[.pointer (some ⟨cb, 0, none⟩), .string s, .int .u64 cl, .int .i64 ver, .func (.func fid) #[] caps, undef, undef, undef, undef, undef, .nilIface, .int .i64 0, undef, undef, undef, undef, undef, undef, undef, undef, undef, undef, undef, undef, undef, undef, undef, undef, undef, undef, undef, undef, undef, undef, undef, undef, undef, undef, undef, undef, undef, undef, undef, undef, undef, undef, undef, undef, undef, undef, undef, undef, undef, undef, undef, undef, undef, undef, undef, undef, undef, undef, undef, undef, undef, undef, undef, undef, undef, undef, undef, undef, undef, undef, undef, undef, undef, undef, undef, undef, undef, undef, undef, undef, undef, undef, undef, undef], defers := [] } w ?_ ?_ ?_
  · intro K R hK
    go_wp2_with fail
    exact hK
  · exact ⟨0, c, lv, fun _ => undef, rfl, by omega, H0.out, .refl _ _ _ _, rfl, HM.out, HT0.out⟩
  · rintro a wr ⟨j, cj, lj, us, rfl, hj, ks, kn, kr, km, kt⟩
    generalize hM : turnM _ = M
    have HMM : Hid (M = 8 - j) := Lib.hid (by rw [← hM]; simp [turnM, intOf])
    clear hM
    have KS := Lib.hid ks
    have KN := Lib.hid kn
    have KR := Lib.hid kr
    have KM := Lib.hid km
    have KT := Lib.hid kt
    clear ks kn kr km kt
    have hBr : w.heap.size ≤ wr.heap.size := KN.out.up.size
    by_cases hj8 : j = 8
    · subst hj8
      clear hj
      go_wp2_with fail
      refine (in_ok (k := 0) (B := w.heap.size) _ wr (.num 0 wr _ 12 (by omega)) hBr).mono ?_; rintro e w2 ⟨v', rfl, he, hu⟩
      have HE := Lib.hid he
      have HU := Lib.hid hu
      clear he hu
      go_wp2_with fail
      simp only [Exit.jump]
      go_ret
      rw [← KR.out]
      exact ⟨lj, v', rfl, KS.out.upd0 HU.out, KN.out.upd HU.out, HE.out.up (by omega)⟩
    · have hji : ¬ ((j : Int) = 8) := by omega
      have hji2 : (j : Int) < 8 := by omega
      obtain ⟨m, hm⟩ : ∃ m, 8 - j = m + 1 := ⟨7 - j, by omega⟩
      have HMJ := Lib.hid hm
      have HJ := Lib.hid hj
      have hR := KR.out
      rw [hm] at hR
      have HR := Lib.hid hR
      clear hj hj8 hm hR
      go_wp2_with fail
      refine (peek_ok wr KS.out cl 2 KM.out (by omega)).mono ?_
      rintro e w1 ⟨lv1, pm, pv, rfl, h1, h2, h3⟩
      have N1 := Lib.hid (KN.out.trans h2)
      have T1 : Hid (T w1) := Lib.hid (HT.out wr w1 _ KT.out h2.up KN.out.gr)
      have hB1 : w.heap.size ≤ w1.heap.size := Nat.le_trans hBr h2.up.size
      cases ha : access cj (.load cl 0) with
      | mk o c1 =>
        rw [ha] at h1 h3
        have H1 := Lib.hid h1
        cases o with
        | none =>
          have h3' : ErK 1 w1 wr.heap.size pv 11 := h3
          have H3 := Lib.hid h3'
          have HRR := Lib.hid (HR.out.symm.trans (run_none ha))
          rcases h3'.form with ⟨_, h⟩ | h
          · omega
          · obtain ⟨q1, q2, q3, q4⟩ := pm
            simp only [encM]
            clear h1 h2 h3 h3' ha
            rcases h with ⟨n, rfl⟩ | ⟨g, rfl⟩
            all_goals
              go_wp2_with fail
              refine (in_ok (k := 1) (B := w.heap.size) _ _ ((H3.out.base hBr).upd ((Upd.refl [] _).alloc _) (by simp)) (by simp; omega)).mono ?_; rintro e w2 ⟨v', rfl, he, hu⟩
              have HE := Lib.hid he
              have HU : Hid (Upd [] w1 w2) := Lib.hid (((Upd.refl _ _).alloc _).trans hu)
              clear he hu
              go_wp2_with fail
              simp only [Exit.jump]
              go_ret
              rw [HRR.out]
              exact ⟨lv1, v', rfl, H1.out.upd0 HU.out, N1.out.upd HU.out, HE.out⟩
        | some en =>
          obtain ⟨rfl, rfl⟩ := h3
          have hR := HR.out.symm.trans (run_some ha)
          have HFit := Lib.hid (unp_fit (acc_word ha h1))
          have HM1 := Lib.hid (access_mem ha KM.out)
          clear h1 h2 ha
          generalize unp en.word = P at hR HFit
          obtain ⟨pv, po, pc, pt⟩ := P
          simp only [encM] at *
          by_cases hc : pc = true ∨ pv ≠ ver
          · rw [if_pos hc] at hR
            have HRR := Lib.hid hR
            clear hR
            have hc2 : pc = true ∨ (pc = false ∧ (pv == ver) = false ∧ (pv != ver) = true) := by
              cases pc with
              | true => exact .inl rfl
              | false =>
                refine .inr ⟨rfl, ?_⟩
                have := hc.resolve_left (by decide)
                simp [this]
            clear hc
            rcases hc2 with rfl | ⟨rfl, he1, he2⟩
            all_goals
              go_wp2_with fail
              refine (in_ok (k := 0) (B := w.heap.size) _ _ (.num 0 _ _ 12 (by omega)) (by simp; omega)).mono ?_; rintro e w2 ⟨v', rfl, he, hu⟩
              have HE := Lib.hid he
              have HU : Hid (Upd [] w1 w2) := Lib.hid (((Upd.refl _ _).alloc _).trans hu)
              clear he hu
              go_wp2_with fail
              simp only [Exit.jump]
              go_ret
              rw [HRR.out]
              exact ⟨lv1, v', rfl, H1.out.upd0 HU.out, N1.out.upd HU.out, HE.out.up (by omega)⟩
          · rw [if_neg hc] at hR
            have hpc : pc = false := by cases pc with | true => exact absurd (.inl rfl) hc | false => rfl
            have hpv : pv = ver := Decidable.byContradiction (fun e => hc (.inr e))
            subst hpc
            subst hpv
            have hvv : (pv == pv) = true := by simp
            have hvn : (pv != pv) = false := by simp
            have HR1 := Lib.hid hR
            clear hR hc
            go_wp2_with fail
            obtain ⟨w2, hw2⟩ : ∃ w2, w2 = w1.alloc (Obj.cells #[.int .i64 pv, .int .i64 po, .bool false, .bool pt] 74) := ⟨_, rfl⟩
            have U2 : Hid (Upd [] w1 w2) := Lib.hid (by rw [hw2]; exact (Upd.refl _ _).alloc _)
            have X2 : Hid (Blk w2 w1.heap.size 74 #[.int .i64 pv, .int .i64 po, .bool false, .bool pt]) := Lib.hid (by rw [hw2]; exact Blk.new _ _ _)
            rw [← hw2]
            clear hw2
            refine (TT.out w2 ⟨pv, po, false, pt⟩ (HT.out w1 w2 [] T1.out U2.out (by simp))).mono ?_
            rintro e w3 ⟨rfl, hu⟩
            have HTF := Lib.hid (HTO.out _ HFit.out)
            have HR2 := HR1.out
            generalize tf ⟨pv, po, false, pt⟩ = tm at HTF HR2 ⊢
            obtain ⟨qv, qo, qc, qt⟩ := tm
            have U3 : Hid (Upd [] w1 w3) := Lib.hid (U2.out.trans hu)
            have X3 : Hid (Blk w3 w1.heap.size 74 #[.int .i64 pv, .int .i64 po, .bool false, .bool pt]) := Lib.hid (X2.out.upd hu (by simp))
            have HR3 := Lib.hid HR2
            have f3 := X3.out.facts
            clear hu HR2
            have hpp : (po == po) = true := by simp
            have htt : (pt == pt) = true := by simp
            by_cases heq : (⟨qv, qo, qc, qt⟩ : Mt) = ⟨pv, po, false, pt⟩
            · have HRR := HR3.out
              rw [if_pos heq] at HRR
              injection heq with e1 e2 e3 e4
              subst e1 e2 e3 e4
              have HR4 := Lib.hid HRR
              clear HRR
              go_wp2_with fail
              simp only [Exit.jump]
              go_ret
              rw [HR4.out]
              exact ⟨lv1, .nilIface, rfl, H1.out.upd0 (U3.out.trans ((Upd.refl _ _).alloc _)), N1.out.upd (U3.out.trans ((Upd.refl _ _).alloc _)), .nil _ _ _⟩
            · have HR4 := HR3.out
              rw [if_neg heq] at HR4
              have HRR := Lib.hid HR4
              have hc4 : (qv == pv) = false ∨ (pv = qv ∧ (qo == po) = false) ∨ (pv = qv ∧ po = qo ∧ qc = true) ∨ (pv = qv ∧ po = qo ∧ qc = false ∧ (qt == pt) = false) := by
                by_cases a1 : pv = qv
                · by_cases a2 : po = qo
                  · cases qc with
                    | true => exact .inr (.inr (.inl ⟨a1, a2, rfl⟩))
                    | false =>
                      refine .inr (.inr (.inr ⟨a1, a2, rfl, ?_⟩))
                      by_cases a4 : qt = pt
                      · exact absurd (by rw [a1, a2, a4]) heq
                      · simpa using a4
                  · exact .inr (.inl ⟨a1, by simpa using fun e => a2 e.symm⟩)
                · exact .inl (by simpa using fun e => a1 e.symm)
              clear HR4 heq
              have hpk := pk_range HTF.out
              have HPK := Lib.hid hpk
              clear hpk
              rcases hc4 with h1 | ⟨h2, h1⟩ | ⟨h2, h3, h4⟩ | ⟨h2, h3, h4, h1⟩
              all_goals
                try subst h2
                try subst h3
                try subst h4
                go_wp2_with fail
                refine (pack_ok ⟨_, _, _, _⟩ _ HFit.out).mono ?_
                rintro e w5 ⟨rfl, hu⟩
                have X5 := Lib.hid ((Blk.new w3 74 _).upd hu (by simp))
                have U5 : Hid (Upd [] w1 w5) := Lib.hid (U3.out.trans (((Upd.refl _ _).alloc _).trans hu))
                have f5 := X5.out.facts
                clear hu f3
                go_wp2_with fail
                refine (pack_ok ⟨_, _, _, _⟩ _ HTF.out).mono ?_
                rintro e w6 ⟨rfl, hu⟩
                have U6 : Hid (Upd [] w1 w6) := Lib.hid (U5.out.trans hu)
                clear hu f5
                have HR5 := HRR.out
                have HPK2 := HPK.out
                generalize pk ⟨_, _, _, _⟩ = xo at HR5 ⊢
                generalize pk ⟨_, _, _, _⟩ = xn at HR5 HPK2 ⊢
                go_wp2_with fail
                refine (ccas_ok w6 (H1.out.upd0 U6.out) cl 2 0 xo xn HPK2 HM1.out (by omega)).mono ?_
                rintro e w7 ⟨lv2, d, v, rfl, g1, g2, g3⟩
                have N7 := Lib.hid ((N1.out.upd U6.out).trans g2)
                have hB7 : w.heap.size ≤ w7.heap.size := N7.out.up.size
                have T7 : Hid (T w7) := Lib.hid (HT.out _ w7 _ (HT.out w1 w6 [] T1.out U6.out (by simp)) g2.up (N1.out.upd U6.out).gr)
                cases hb : access c1 (.cas cl 0 xo xn) with
                | mk o2 c2 =>
                  rw [hb] at g1 g3
                  have H7 := Lib.hid g1
                  cases o2 with
                  | none =>
                    obtain ⟨rfl, rfl⟩ := g3
                    have HR6 := Lib.hid (HR5.trans (run_none hb))
                    clear g1 g2 hb HR5 HPK2 HRR
                    go_wp2_with fail
                    refine (in_ok (k := 0) (B := w.heap.size) _ _ (.num 0 _ _ 11 (by omega)) hB7).mono ?_; rintro e w8 ⟨v', rfl, he, hu⟩
                    have HE := Lib.hid he
                    have HU := Lib.hid hu
                    clear he hu
                    go_wp2_with fail
                    simp only [Exit.jump]
                    go_ret
                    rw [HR6.out]
                    exact ⟨lv2, v', rfl, H7.out.upd0 HU.out, N7.out.upd HU.out, HE.out.up (by omega)⟩
                  | some dn =>
                    obtain ⟨rfl, rfl⟩ := g3
                    have HR6 := HR5.trans (run_some hb)
                    have HM7 := Lib.hid (access_mem hb HM1.out)
                    cases hd : dn.done with
                    | true =>
                      rw [hd, if_pos rfl] at HR6
                      have HR7 := Lib.hid HR6
                      clear g1 g2 hb HR5 HR6 HPK2 HRR hd
                      go_wp2_with fail
                      simp only [Exit.jump]
                      go_ret
                      rw [HR7.out]
                      exact ⟨lv2, .nilIface, rfl, H7.out, N7.out, .nil _ _ _⟩
                    | false =>
                      rw [hd, if_neg (by decide)] at HR6
                      have HR7 := Lib.hid HR6
                      clear g1 g2 hb HR5 HR6 HPK2 HRR hd
                      go_wp2_with fail
                      have := HMJ.out
                      have := HMM.out
                      refine wp_goto ?_
                      refine ⟨rfl, turnJ_of (j + 1) c2 lv2 ?_ ⟨by omega, H7.out, N7.out, ?_, HM7.out, T7.out⟩, ?_⟩
                      · rfl
                      · rw [show 8 - (j + 1) = m by omega]; exact HR7.out.symm
                      · simp [turnM, intOf]; omega
end Go.Proofs.YtkldpdldjalpeaaGreatDoor

namespace Go.Proofs.YtkldpdldjalpeaaGreatDoor
open Go.RowKit Th
attribute [local go_sem] litStep_value

theorem Blk.one {w : World} {g : Nat} {t : TypeId} {a : Value} (h : Blk w g t #[a]) : w.cell? ⟨g, 0, none⟩ = some a := h.cell 0
set_option maxRecDepth 20000 in
theorem lock1_ok (W : World) (m : Mt) (b : Nat) (own : Int) (hb : Blk W b 3 #[.int .i64 own]) :
    Calls Tryz.prog 41 (#[.agg (encM m)] ++ #[.pointer (some ⟨b, 0, none⟩)]) W fun e w' => e = .returned (.agg (encM (lockTo own m))) ∧ Upd [] W w' := by
  have hlt := hb.lt
  have f := hb.facts
  have HB := Lib.hid hb
  simp only [List.append_toArray, encM, List.cons_append, List.nil_append]
  clear hb
  go_enter Tryz.func41, Tryz.ntmps41
  go_wp2_with fail
  refine bodyPost_ret (v := .agg (encM (lockTo own m))) (by simp [results, Tryz.results41, go_sem, Act.put, encM, lockTo]) rfl ⟨rfl, ?_⟩
  exact ((Upd.refl _ _).alloc _).alloc _
set_option maxRecDepth 20000 in
theorem await1_ok (W : World) (m : Mt) :
    Calls Tryz.prog 54 (#[.agg (encM m)] ++ #[]) W fun e w' => e = .returned (.agg (encM (waitTo m))) ∧ Upd [] W w' := by
  simp only [List.append_toArray, encM, List.cons_append, List.nil_append, Array.append_empty]
  go_enter Tryz.func54, Tryz.ntmps54
  go_wp2_with fail
  refine bodyPost_ret (v := .agg (encM (waitTo m))) (by simp [results, Tryz.results54, go_sem, Act.put, encM, waitTo]) rfl ⟨rfl, ?_⟩
  exact ((Upd.refl _ _).alloc _).alloc _
theorem lock_fit {own : Int} (h : 0 ≤ own ∧ own < 256) (m : Mt) (hm : Fit m) : Fit (lockTo own m) := ⟨hm.1, hm.2.1, h.1, h.2⟩
theorem wait_fit (m : Mt) (hm : Fit m) : Fit (waitTo m) := hm
set_option maxRecDepth 20000 in
set_option maxHeartbeats 1000000 in
theorem mlock_ok {F : BFp} {cb : Nat} {lv : Value} {c : CS} (w : World) (h : CSt w F cb lv c) (cl : Nat) (hm : (cl, 2) ∈ c.B.sz) (ver own : Int) (ho : 0 ≤ own ∧ own < 256) :
    Calls Tryz.prog 22 #[.pointer (some ⟨cb, 0, none⟩), .int .u64 cl, .int .i64 ver, .int .i64 own] w fun e w' => ∃ lv' v, e = .returned v ∧ CSt w' F cb lv' (run (turnT cl ver (lockTo own) 8) c).2 ∧ CNx w w' F F cb lv lv' ∧ ErK 2 w' w.heap.size v (resA (run (turnT cl ver (lockTo own) 8) c).1).err := by
  have HS := Lib.hid h
  have HM := Lib.hid hm
  have HO := Lib.hid ho
  clear h hm ho
  go_enter Tryz.func22, Tryz.ntmps22
  go_wp2_with fail
  obtain ⟨w1, hw1⟩ : ∃ w1, w1 = w.alloc (Obj.cells #[.int .i64 own] 3) := ⟨_, rfl⟩
  have U1 : Hid (Upd [] w w1) := Lib.hid (by rw [hw1]; exact (Upd.refl _ _).alloc _)
  have X1 : Hid (Blk w1 w.heap.size 3 #[.int .i64 own]) := Lib.hid (by rw [hw1]; exact Blk.new _ _ _)
  rw [← hw1]
  clear hw1
  refine (turn_ok w1 (HS.out.upd0 U1.out) _ cl HM.out ver (lockTo own) 41 #[.pointer (some ⟨w.heap.size, 0, none⟩)] (fun W => Blk W w.heap.size 3 #[.int .i64 own]) (lock_fit HO.out) (fun _ _ => rfl) X1.out (fun W W' S hW hu hS => hW.upd hu (fun hm => ?_)) (fun W m hW => lock1_ok W m _ own hW)).mono ?_
  · have hl := X1.out.lt
    rcases hS _ hm with h | h
    · have := SS_lt HS.out _ h; omega
    · omega
  rintro e w2 ⟨lv', v, rfl, h1, h2, h3⟩
  have H1 := Lib.hid h1
  have H2 := Lib.hid (h2.upd0 U1.out)
  have H3 := Lib.hid (h3.base U1.out.size)
  clear h1 h2 h3
  go_wp2_with fail
  go_ret
  exact ⟨lv', v, rfl, H1.out, H2.out, H3.out⟩
set_option maxRecDepth 20000 in
set_option maxHeartbeats 1000000 in
theorem mawait_ok {F : BFp} {cb : Nat} {lv : Value} {c : CS} (w : World) (h : CSt w F cb lv c) (cl : Nat) (hm : (cl, 2) ∈ c.B.sz) (ver : Int) :
    Calls Tryz.prog 39 #[.pointer (some ⟨cb, 0, none⟩), .int .u64 cl, .int .i64 ver] w fun e w' => ∃ lv' v, e = .returned v ∧ CSt w' F cb lv' (run (turnT cl ver waitTo 8) c).2 ∧ CNx w w' F F cb lv lv' ∧ ErK 2 w' w.heap.size v (resA (run (turnT cl ver waitTo 8) c).1).err := by
  have HT := Lib.hid (fun s => turn_ok w h s cl hm ver waitTo 54 #[] (fun _ => True) wait_fit (fun _ _ => rfl) trivial (fun _ _ _ _ _ _ => trivial) (fun W m _ => await1_ok W m))
  clear h hm
  go_enter Tryz.func39, Tryz.ntmps39
  go_wp2_with fail
  refine (HT.out _).mono ?_
  rintro e w2 ⟨lv', v, rfl, h1, h2, h3⟩
  have H1 := Lib.hid h1
  have H2 := Lib.hid h2
  have H3 := Lib.hid h3
  clear h1 h2 h3
  go_wp2_with fail
  go_ret
  exact ⟨lv', v, rfl, H1.out, H2.out, H3.out⟩
/-- What locked tells. -/
def LkV (w' : World) (B : Nat) (m : Mt) (v : Value) : Option En → Prop
  | some en => m = unp en.word ∧ (if (unp en.word).ch = true then v = .nilIface else ErK 1 w' B v 2)
  | none => ErK 2 w' B v 11
theorem LkV.locked {w' : World} {B : Nat} {m : Mt} {en : En} (h : m = unp en.word) (hc : m.ch = true) : LkV w' B m .nilIface (some en) := ⟨h, by rw [← h, if_pos hc]⟩
theorem LkV.free {w' : World} {B : Nat} {m : Mt} {v : Value} {en : En} (h : m = unp en.word) (hc : m.ch = false) (he : ErK 1 w' B v 2) : LkV w' B m v (some en) := ⟨h, by rw [← h, if_neg (by rw [hc]; decide)]; exact he⟩
def erSpec (k B : Nat) (no : Int) : Spec := ⟨fun _ => [], fun v w => ErK k w B v no, fun _ => True⟩
theorem lasts_er {w0 : World} (k B : Nat) (no : Int) : Lasts0 w0 (erSpec k B no) := ⟨fun v w w' _ h hu => ErK.upd h hu (by simp), ⟨undef, trivial⟩, fun _ _ _ => trivial⟩
set_option maxRecDepth 20000 in
set_option maxHeartbeats 2000000 in
theorem locked_ok {F : BFp} {cb : Nat} {lv : Value} {c : CS} (w : World) (h : CSt w F cb lv c) (s : ByteArray) (cl : Nat) (hm : (cl, 2) ∈ c.B.sz) :
    Calls Tryz.prog 42 #[.pointer (some ⟨cb, 0, none⟩), .string s, .int .u64 cl] w fun e w' => ∃ lv' m v, e = .returned (.tuple #[.agg (encM m), v]) ∧ CSt w' F cb lv' (access c (.load cl 0)).2 ∧ CNx w w' F F cb lv lv' ∧ LkV w' w.heap.size m v (access c (.load cl 0)).1 := by
  have H0 := Lib.hid h
  have HM := Lib.hid hm
  clear h hm
  go_enter Tryz.func42, Tryz.ntmps42
  go_wp2_with fail
  obtain ⟨w1, hw1⟩ : ∃ w1, w1 = w.alloc (Obj.cells #[.int .i64 0, .int .i64 0, .bool false, .bool false] 74) := ⟨_, rfl⟩
  have U1 : Hid (Upd [] w w1) := Lib.hid (by rw [hw1]; exact (Upd.refl _ _).alloc _)
  have X1 : Hid (Blk w1 w.heap.size 74 #[.int .i64 0, .int .i64 0, .bool false, .bool false]) := Lib.hid (by rw [hw1]; exact Blk.new _ _ _)
  rw [← hw1]
  clear hw1
  refine (peek_ok w1 (H0.out.upd0 U1.out) cl 2 HM.out (by omega)).mono ?_
  rintro e w2 ⟨lv', m, v, rfl, h1, h2, h3⟩
  have HN := Lib.hid (h2.upd0 U1.out)
  have HG : Hid (w.heap.size ∉ SS F cb lv') := Lib.hid (SS_new H0.out h2 (Nat.le_refl _) X1.out.lt)
  have X2 : Hid (Blk w2 w.heap.size 74 #[.int .i64 0, .int .i64 0, .bool false, .bool false]) := Lib.hid (X1.out.upd h2.up (fun hm => by
    have := SS_lt H0.out _ hm; omega))
  have hB : w.heap.size + 1 ≤ w2.heap.size := X2.out.lt
  have X1s : Hid (w.heap.size + 1 ≤ w1.heap.size) := Lib.hid X1.out.lt
  have H1 := Lib.hid h1
  obtain ⟨q1, q2, q3, q4⟩ := m
  cases ha : access c (.load cl 0) with
  | mk o c1 =>
    rw [ha] at h1 h3 H1
    have HA := Lib.hid ha
    simp only [encM]
    cases o with
    | none =>
      have h3' : ErK 1 w2 w1.heap.size v 11 := h3
      have H3 := Lib.hid h3'
      rcases h3'.form with ⟨_, h⟩ | h
      · omega
      · clear h1 h2 h3 h3' ha
        rcases h with ⟨n, rfl⟩ | ⟨g, rfl⟩
        all_goals
          go_wp2_with fail
          obtain ⟨w3, hw3⟩ : ∃ w3, w3 = w2.alloc (Obj.cells #[.int .i64 q1, .int .i64 q2, .bool q3, .bool q4] 74) := ⟨_, rfl⟩
          have U3 : Hid (Upd [] w2 w3) := Lib.hid (by rw [hw3]; exact (Upd.refl _ _).alloc _)
          have X3 : Hid (Blk w3 w2.heap.size 74 #[.int .i64 q1, .int .i64 q2, .bool q3, .bool q4]) := Lib.hid (by rw [hw3]; exact Blk.new _ _ _)
          rw [← hw3]
          clear hw3
          have CT : Hid (∀ W, Upd [] w3.drew W → W.cell? ⟨w2.heap.size, 0, none⟩ = some (.int .i64 q1) ∧ W.cell? ⟨w2.heap.size, 1, none⟩ = some (.int .i64 q2) ∧ W.cell? ⟨w2.heap.size, 2, none⟩ = some (.bool q3) ∧ W.cell? ⟨w2.heap.size, 3, none⟩ = some (.bool q4)) := Lib.hid (fun W hW => by
            have hx := X3.out.upd ((Upd.refl _ _).drew.trans hW) (by simp)
            exact ⟨hx.cell 0, hx.cell 1, hx.cell 2, hx.cell 3⟩)
          refine wp_invNT0 4 [(3, erSpec (1 + 1) (w.heap.size + 1) 11)] (by kernel_rfl) (by simp) (by kernel_rfl) (by kernel_rfl) ⟨lasts_er _ _ _, trivial⟩ ?_
          simp only [List.take_succ_cons, List.take_zero, List.drop_succ_cons, List.drop_zero]
          with_reducible apply wpV_light
          · simp only [lightOp]
          · intro W hU hF
            have f0 := CT.out W hU
            clear hU hF
            go_simp
            exact rfl
          simp only [Act.put, List.setIfInBounds_toArray, List.set_cons_zero, List.set_cons_succ]
          with_reducible apply wpV_light
          · simp only [lightOp]
          · intro W hU hF
            have f0 := CT.out W hU
            clear hU hF
            go_simp
            exact rfl
          simp only [Act.put, List.setIfInBounds_toArray, List.set_cons_zero, List.set_cons_succ]
          with_reducible apply wpV_light
          · simp only [lightOp]
          · intro W hU hF
            have f0 := CT.out W hU
            clear hU hF
            go_simp
            exact rfl
          simp only [Act.put, List.setIfInBounds_toArray, List.set_cons_zero, List.set_cons_succ]
          refine wpV_heavy (by simp only [lightOp]) (by rfl) (fun W hU hk hF K hK => ?_) ?_
          · go_wp2_with fail
            refine (in_ok (k := 1) (B := w.heap.size + 1) _ W ((H3.out.base X1s.out).upd (U3.out.trans ((Upd.refl _ _).drew.trans hU)) (by simp)) (Nat.le_trans hB (U3.out.trans ((Upd.refl _ _).drew.trans hU)).size)).mono ?_
            rintro e w4 ⟨v4, rfl, he4, hu4⟩
            go_wp2_with fail
            exact hK.out _ _ (outV_new rfl he4 (by intro b hb; cases hb) hu4)
          rintro _ trivial
          simp only [Act.put, List.setIfInBounds_toArray, List.set_cons_zero, List.set_cons_succ]
          refine wpV_end (fun W hU _ hF => ?_)
          have h4 := hF.out.1 (by kernel_rfl)
          have U4 : Hid (Upd [] w2 W) := Lib.hid (U3.out.trans ((Upd.refl _ _).drew.trans hU))
          have X4 := X2.out.upd U4.out (by simp)
          have HX4 := Lib.hid X4
          have x4 := X4.facts
          have H4 := Lib.hid h4
          clear hU hF h4 X4
          refine wpT_op (by rfl) (fun K hK => ?_)
          go_wp2_with fail
          refine hK.out _ _ ?_
          clear hK K
          try simp only [Act.put, List.setIfInBounds_toArray, List.set_cons_zero, List.set_cons_succ]
          refine wpT_op (by rfl) (fun K hK => ?_)
          go_wp2_with fail
          refine hK.out _ _ ?_
          clear hK K
          try simp only [Act.put, List.setIfInBounds_toArray, List.set_cons_zero, List.set_cons_succ]
          refine wpT_end ?_
          go_wp2_with fail
          obtain ⟨HRf, UFf⟩ := set4 HX4.out (.int .i64 q1) (.int .i64 q2) (.bool q3) (.bool q4)
          generalize (((W.setCell ⟨w.heap.size, 0, none⟩ (.int .i64 q1)).setCell ⟨w.heap.size, 1, none⟩ (.int .i64 q2)).setCell ⟨w.heap.size, 2, none⟩ (.bool q3)).setCell ⟨w.heap.size, 3, none⟩ (.bool q4) = W7 at HRf UFf ⊢
          have d0 : W7.cell? ⟨w.heap.size, 0, none⟩ = some (.int .i64 q1) := HRf.cell 0
          have d1 : W7.cell? ⟨w.heap.size, 1, none⟩ = some (.int .i64 q2) := HRf.cell 1
          have d2 : W7.cell? ⟨w.heap.size, 2, none⟩ = some (.bool q3) := HRf.cell 2
          have d3 : W7.cell? ⟨w.heap.size, 3, none⟩ = some (.bool q4) := HRf.cell 3
          rw [HA.out]
          refine bodyPost_ret (v := .tuple #[.agg (encM ⟨q1, q2, q3, q4⟩), _]) (by simp [results, Tryz.results42, go_sem, encM, d0, d1, d2, d3]; rfl) rfl ⟨lv', _, _, rfl, (H1.out.upd0 U4.out).far UFf (by simpa using HG.out), (HN.out.upd U4.out).far UFf (by simp), ?_⟩
          exact (H4.out.upd UFf (by simp)).base (Nat.le_succ _)
    | some en =>
      obtain ⟨hm, rfl⟩ := h3
      clear h1 h2 ha
      have HMm := Lib.hid hm
      clear hm
      cases q3 with
      | true =>
        have hx3 := X2.out.alloc (.cells #[.int .i64 q1, .int .i64 q2, .bool true, .bool q4] 74)
        have HX3 := Lib.hid hx3
        have f3 := hx3.facts
        have U3 : Hid (Upd [] w2 (w2.alloc (.cells #[.int .i64 q1, .int .i64 q2, .bool true, .bool q4] 74))) := Lib.hid ((Upd.refl _ _).alloc _)
        clear hx3
        go_wp2_with fail
        generalize hw3 : w2.alloc (.cells #[.int .i64 q1, .int .i64 q2, .bool true, .bool q4] 74) = w3 at HX3 U3 ⊢
        obtain ⟨HRf, UFf⟩ := set4 HX3.out (.int .i64 q1) (.int .i64 q2) (.bool true) (.bool q4)
        generalize (((w3.setCell ⟨w.heap.size, 0, none⟩ (.int .i64 q1)).setCell ⟨w.heap.size, 1, none⟩ (.int .i64 q2)).setCell ⟨w.heap.size, 2, none⟩ (.bool true)).setCell ⟨w.heap.size, 3, none⟩ (.bool q4) = W7 at HRf UFf ⊢
        have d0 : W7.cell? ⟨w.heap.size, 0, none⟩ = some (.int .i64 q1) := HRf.cell 0
        have d1 : W7.cell? ⟨w.heap.size, 1, none⟩ = some (.int .i64 q2) := HRf.cell 1
        have d2 : W7.cell? ⟨w.heap.size, 2, none⟩ = some (.bool true) := HRf.cell 2
        have d3 : W7.cell? ⟨w.heap.size, 3, none⟩ = some (.bool q4) := HRf.cell 3
        rw [HA.out]
        refine bodyPost_ret (v := .tuple #[.agg (encM ⟨q1, q2, true, q4⟩), _]) (by simp [results, Tryz.results42, go_sem, encM, d0, d1, d2, d3]; rfl) rfl ⟨lv', _, _, rfl, (H1.out.upd0 U3.out).far UFf (by simpa using HG.out), (HN.out.upd U3.out).far UFf (by simp), ?_⟩
        exact LkV.locked HMm.out rfl
      | false =>
        go_wp2_with fail
        obtain ⟨w3, hw3⟩ : ∃ w3, w3 = w2.alloc (Obj.cells #[.int .i64 q1, .int .i64 q2, .bool false, .bool q4] 74) := ⟨_, rfl⟩
        have U3 : Hid (Upd [] w2 w3) := Lib.hid (by rw [hw3]; exact (Upd.refl _ _).alloc _)
        have X3 : Hid (Blk w3 w2.heap.size 74 #[.int .i64 q1, .int .i64 q2, .bool false, .bool q4]) := Lib.hid (by rw [hw3]; exact Blk.new _ _ _)
        rw [← hw3]
        clear hw3
        have CT : Hid (∀ W, Upd [] w3.drew W → W.cell? ⟨w2.heap.size, 0, none⟩ = some (.int .i64 q1) ∧ W.cell? ⟨w2.heap.size, 1, none⟩ = some (.int .i64 q2) ∧ W.cell? ⟨w2.heap.size, 2, none⟩ = some (.bool false) ∧ W.cell? ⟨w2.heap.size, 3, none⟩ = some (.bool q4)) := Lib.hid (fun W hW => by
          have hx := X3.out.upd ((Upd.refl _ _).drew.trans hW) (by simp)
          exact ⟨hx.cell 0, hx.cell 1, hx.cell 2, hx.cell 3⟩)
        refine wp_invNT0 4 [(3, erSpec (0 + 1) (w.heap.size + 1) 2)] (by kernel_rfl) (by simp) (by kernel_rfl) (by kernel_rfl) ⟨lasts_er _ _ _, trivial⟩ ?_
        simp only [List.take_succ_cons, List.take_zero, List.drop_succ_cons, List.drop_zero]
        with_reducible apply wpV_light
        · simp only [lightOp]
        · intro W hU hF
          have f0 := CT.out W hU
          clear hU hF
          go_simp
          exact rfl
        simp only [Act.put, List.setIfInBounds_toArray, List.set_cons_zero, List.set_cons_succ]
        with_reducible apply wpV_light
        · simp only [lightOp]
        · intro W hU hF
          have f0 := CT.out W hU
          clear hU hF
          go_simp
          exact rfl
        simp only [Act.put, List.setIfInBounds_toArray, List.set_cons_zero, List.set_cons_succ]
        with_reducible apply wpV_light
        · simp only [lightOp]
        · intro W hU hF
          have f0 := CT.out W hU
          clear hU hF
          go_simp
          exact rfl
        simp only [Act.put, List.setIfInBounds_toArray, List.set_cons_zero, List.set_cons_succ]
        refine wpV_heavy (by simp only [lightOp]) (by rfl) (fun W hU hk hF K hK => ?_) ?_
        · go_wp2_with fail
          refine (in_ok (k := 0) (B := w.heap.size + 1) _ W (.num 0 _ _ 2 (by omega)) (Nat.le_trans hB (U3.out.trans ((Upd.refl _ _).drew.trans hU)).size)).mono ?_
          rintro e w4 ⟨v4, rfl, he4, hu4⟩
          go_wp2_with fail
          exact hK.out _ _ (outV_new rfl he4 (by intro b hb; cases hb) hu4)
        rintro _ trivial
        simp only [Act.put, List.setIfInBounds_toArray, List.set_cons_zero, List.set_cons_succ]
        refine wpV_end (fun W hU _ hF => ?_)
        have h4 := hF.out.1 (by kernel_rfl)
        have U4 : Hid (Upd [] w2 W) := Lib.hid (U3.out.trans ((Upd.refl _ _).drew.trans hU))
        have X4 := X2.out.upd U4.out (by simp)
        have HX4 := Lib.hid X4
        have x4 := X4.facts
        have H4 := Lib.hid h4
        clear hU hF h4 X4
        refine wpT_op (by rfl) (fun K hK => ?_)
        go_wp2_with fail
        refine hK.out _ _ ?_
        clear hK K
        try simp only [Act.put, List.setIfInBounds_toArray, List.set_cons_zero, List.set_cons_succ]
        refine wpT_op (by rfl) (fun K hK => ?_)
        go_wp2_with fail
        refine hK.out _ _ ?_
        clear hK K
        try simp only [Act.put, List.setIfInBounds_toArray, List.set_cons_zero, List.set_cons_succ]
        refine wpT_end ?_
        go_wp2_with fail
        obtain ⟨HRf, UFf⟩ := set4 HX4.out (.int .i64 q1) (.int .i64 q2) (.bool false) (.bool q4)
        generalize (((W.setCell ⟨w.heap.size, 0, none⟩ (.int .i64 q1)).setCell ⟨w.heap.size, 1, none⟩ (.int .i64 q2)).setCell ⟨w.heap.size, 2, none⟩ (.bool false)).setCell ⟨w.heap.size, 3, none⟩ (.bool q4) = W7 at HRf UFf ⊢
        have d0 : W7.cell? ⟨w.heap.size, 0, none⟩ = some (.int .i64 q1) := HRf.cell 0
        have d1 : W7.cell? ⟨w.heap.size, 1, none⟩ = some (.int .i64 q2) := HRf.cell 1
        have d2 : W7.cell? ⟨w.heap.size, 2, none⟩ = some (.bool false) := HRf.cell 2
        have d3 : W7.cell? ⟨w.heap.size, 3, none⟩ = some (.bool q4) := HRf.cell 3
        rw [HA.out]
        refine bodyPost_ret (v := .tuple #[.agg (encM ⟨q1, q2, false, q4⟩), _]) (by simp [results, Tryz.results42, go_sem, encM, d0, d1, d2, d3]; rfl) rfl ⟨lv', _, _, rfl, (H1.out.upd0 U4.out).far UFf (by simpa using HG.out), (HN.out.upd U4.out).far UFf (by simp), ?_⟩
        exact LkV.free HMm.out rfl ((H4.out.upd UFf (by simp)).base (Nat.le_succ _))
end Go.Proofs.YtkldpdldjalpeaaGreatDoor

namespace Go.Proofs.YtkldpdldjalpeaaGreatDoor
open Go.RowKit Th
attribute [local go_sem] litStep_value

/-- What put tells. -/
def PuV (w' : World) (B : Nat) (v : Value) : Option En → Prop
  | some en => v = .nilIface
  | none => ErK 1 w' B v 11
set_option maxRecDepth 20000 in
set_option maxHeartbeats 1000000 in
theorem mput_ok {F : BFp} {cb : Nat} {lv : Value} {c : CS} (w : World) (h : CSt w F cb lv c) (s : ByteArray) (cl : Nat) (hm : (cl, 2) ∈ c.B.sz) (m : Mt) (hf : Fit m) :
    Calls Tryz.prog 45 #[.pointer (some ⟨cb, 0, none⟩), .string s, .int .u64 cl, .agg (encM m)] w fun e w' => ∃ lv' v, e = .returned v ∧ CSt w' F cb lv' (access c (.store cl 0 (pk m))).2 ∧ CNx w w' F F cb lv lv' ∧ PuV w' w.heap.size v (access c (.store cl 0 (pk m))).1 := by
  have HS := Lib.hid h
  have HM := Lib.hid hm
  have HF := Lib.hid hf
  have HPK := Lib.hid (pk_range hf)
  obtain ⟨q1, q2, q3, q4⟩ := m
  simp only [encM]
  clear h hm hf
  go_enter Tryz.func45, Tryz.ntmps45
  go_wp2_with fail
  obtain ⟨w1, hw1⟩ : ∃ w1, w1 = w.alloc (Obj.cells #[.int .i64 q1, .int .i64 q2, .bool q3, .bool q4] 74) := ⟨_, rfl⟩
  have U1 : Hid (Upd [] w w1) := Lib.hid (by rw [hw1]; exact (Upd.refl _ _).alloc _)
  rw [← hw1]
  clear hw1
  refine (pack_ok ⟨_, _, _, _⟩ _ HF.out).mono ?_
  rintro e w2 ⟨rfl, hu⟩
  have U2 : Hid (Upd [] w w2) := Lib.hid (U1.out.trans hu)
  generalize hx : pk ⟨q1, q2, q3, q4⟩ = x at HPK ⊢
  have HX := Lib.hid hx
  clear hu hx
  go_wp2_with fail
  refine (cstore_ok w2 (HS.out.upd0 U2.out) cl 2 0 x HPK.out HM.out (by omega)).mono ?_
  rintro e w3 ⟨lv', v, rfl, h1, h2, h3⟩
  have H1 := Lib.hid h1
  have H2 := Lib.hid (h2.upd0 U2.out)
  have hB : w.heap.size ≤ w3.heap.size := H2.out.up.size
  cases ha : (access c (.store cl 0 x)).1 with
  | none =>
    rw [ha] at h3
    subst h3
    have HA := Lib.hid ha
    clear h1 h2 ha
    go_wp2_with fail
    refine (in_ok (k := 0) (B := w.heap.size) _ _ (.num 0 _ _ 11 (by omega)) hB).mono ?_; rintro e w4 ⟨v', rfl, he, hu⟩
    have HE := Lib.hid he
    have HU := Lib.hid hu
    clear he hu
    go_wp2_with fail
    go_ret
    rw [HX.out, HA.out]
    exact ⟨lv', v', rfl, H1.out.upd0 HU.out, H2.out.upd HU.out, HE.out⟩
  | some en =>
    rw [ha] at h3
    subst h3
    have HA := Lib.hid ha
    clear h1 h2 ha
    go_wp2_with fail
    refine (in_ok (k := 0) (B := w.heap.size) _ _ (.nil 0 _ _) hB).mono ?_; rintro e w4 ⟨v', rfl, he, hu⟩
    have HU := Lib.hid hu
    have hn : v' = .nilIface := by
      rcases he with h | ⟨j, _, h⟩
      · exact h.1
      · have := h.no_range; omega
    subst hn
    clear he hu
    go_wp2_with fail
    go_ret
    rw [HX.out, HA.out]
    exact ⟨lv', .nilIface, rfl, H1.out.upd0 HU.out, H2.out.upd HU.out, rfl⟩
set_option maxRecDepth 20000 in
set_option maxHeartbeats 2000000 in
theorem mcommit_ok {F : BFp} {cb : Nat} {lv : Value} {c : CS} (w : World) (h : CSt w F cb lv c) (cl : Nat) (hm : (cl, 2) ∈ c.B.sz) (val ver : Int) (hv : 0 ≤ val ∧ val < 18446744073709551616) (hr : 0 ≤ ver ∧ ver < 281474976710656) :
    Calls Tryz.prog 25 #[.pointer (some ⟨cb, 0, none⟩), .int .u64 cl, .int .u64 val, .int .i64 ver] w fun e w' => ∃ lv' v, e = .returned (.tuple #[.bool ((resA (run (commitT cl val ver) c).1).n == 1), v]) ∧ CSt w' F cb lv' (run (commitT cl val ver) c).2 ∧ CNx w w' F F cb lv lv' ∧ ErK 2 w' w.heap.size v (resA (run (commitT cl val ver) c).1).err := by
  have HL := Lib.hid (fun s => locked_ok w h s cl hm)
  have HM := Lib.hid hm
  have HV := Lib.hid hv
  have HF : Hid (Fit ⟨ver, 0, false, false⟩) := Lib.hid ⟨hr.1, hr.2, by simp, by simp⟩
  clear h hm hv hr
  go_enter Tryz.func25, Tryz.ntmps25
  go_wp2_with fail
  refine (HL.out _).mono ?_
  rintro e w1 ⟨lv1, m, v, rfl, h1, h2, h3⟩
  obtain ⟨q1, q2, q3, q4⟩ := m
  simp only [encM]
  have HN := Lib.hid h2
  have hB : w.heap.size ≤ w1.heap.size := h2.up.size
  cases ha : access c (.load cl 0) with
  | mk o c1 =>
    rw [ha] at h1 h3
    have H1 := Lib.hid h1
    cases o with
    | none =>
      have HR := Lib.hid (show run (commitT cl val ver) c = (none, c1) from run_none ha)
      have h3' : ErK 2 w1 w.heap.size v 11 := h3
      have H3 := Lib.hid h3'
      rcases h3'.form with ⟨_, h⟩ | h
      · omega
      · clear h1 h2 h3 h3' ha
        rcases h with ⟨n, rfl⟩ | ⟨g, rfl⟩
        all_goals
          go_wp2_with fail
          go_ret2
          rw [HR.out]
          exact ⟨lv1, _, rfl, H1.out.upd0 ((Upd.refl _ _).alloc _), HN.out.upd ((Upd.refl _ _).alloc _), H3.out.upd ((Upd.refl [] _).alloc _) (by simp)⟩
    | some en =>
      obtain ⟨hm, hc⟩ := h3
      have HMm := Lib.hid hm
      have hR : run (commitT cl val ver) c = _ := run_some ha
      rw [← hm] at hR hc
      have HM1 := Lib.hid (access_mem ha HM.out)
      clear h1 h2 ha hm
      cases q3 with
      | false =>
        rw [if_pos rfl] at hR
        rw [if_neg (by simp)] at hc
        have HR := Lib.hid hR
        have HC := Lib.hid hc
        rcases hc.form with ⟨_, h⟩ | h
        · omega
        · clear hc hR
          rcases h with ⟨n, rfl⟩ | ⟨g, rfl⟩
          all_goals
            go_wp2_with fail
            go_ret2
            rw [HR.out]
            exact ⟨lv1, _, rfl, H1.out.upd0 ((Upd.refl _ _).alloc _), HN.out.upd ((Upd.refl _ _).alloc _), (HC.out.upd ((Upd.refl [] _).alloc _) (by simp)).up (by omega)⟩
      | true =>
        rw [if_neg (by simp)] at hR
        rw [if_pos rfl] at hc
        subst hc
        have HR := Lib.hid hR
        clear hR
        go_wp2_with fail
        obtain ⟨w2, hw2⟩ : ∃ w2, w2 = w1.alloc (Obj.cells #[.int .i64 q1, .int .i64 q2, .bool true, .bool q4] 74) := ⟨_, rfl⟩
        have U2 : Hid (Upd [] w1 w2) := Lib.hid (by rw [hw2]; exact (Upd.refl _ _).alloc _)
        have X2 : Hid (Blk w2 w1.heap.size 74 #[.int .i64 q1, .int .i64 q2, .bool true, .bool q4]) := Lib.hid (by rw [hw2]; exact Blk.new _ _ _)
        rw [← hw2]
        clear hw2
        refine (cstore_ok w2 (H1.out.upd0 U2.out) cl 2 1 val HV.out HM1.out (by omega)).mono ?_
        rintro e w3 ⟨lv2, v, rfl, h1, h2, h3⟩
        have N3 := Lib.hid ((HN.out.upd U2.out).trans h2)
        have X3 : Hid (Blk w3 w1.heap.size 74 #[.int .i64 q1, .int .i64 q2, .bool true, .bool q4]) := Lib.hid (X2.out.upd h2.up (fun hm => by have := SS_lt H1.out _ hm; omega))
        have G3 : Hid (w1.heap.size ∉ SS F cb lv2) := Lib.hid (SS_new H1.out h2 (Nat.le_refl _) X2.out.lt)
        have hB3 : w.heap.size ≤ w3.heap.size := N3.out.up.size
        cases hb : access c1 (.store cl 1 val) with
        | mk o2 c2 =>
          rw [hb] at h1 h3
          have H3 := Lib.hid h1
          cases o2 with
          | none =>
            have h3' : v = _ := h3
            subst h3'
            have HR2 := Lib.hid (HR.out.trans (run_none hb))
            clear h1 h2 h3 hb
            go_wp2_with fail
            refine (in_ok (k := 0) (B := w.heap.size) _ _ (.num 0 _ _ 11 (by omega)) hB3).mono ?_; rintro e w4 ⟨v', rfl, he, hu⟩
            have HE := Lib.hid he
            have HU := Lib.hid hu
            clear he hu
            go_wp2_with fail
            go_ret2
            rw [HR2.out]
            exact ⟨lv2, v', rfl, H3.out.upd0 HU.out, N3.out.upd HU.out, HE.out.up (by omega)⟩
          | some sn =>
            have h3' : v = _ := h3
            subst h3'
            have HR2 := Lib.hid (HR.out.trans (run_some hb))
            have HM2 := Lib.hid (access_mem hb HM1.out)
            clear h1 h2 h3 hb
            go_wp2_with fail
            refine (mput_ok w3 H3.out _ cl HM2.out ⟨ver, 0, false, false⟩ HF.out).mono ?_
            rintro e w4 ⟨lv3, v, rfl, h1, h2, h3⟩
            have N4 := Lib.hid (N3.out.trans h2)
            have X4 : Hid (Blk w4 w1.heap.size 74 #[.int .i64 q1, .int .i64 q2, .bool true, .bool q4]) := Lib.hid (X3.out.upd h2.up G3.out)
            have hB4 : w.heap.size ≤ w4.heap.size := N4.out.up.size
            cases hb : access c2 (.store cl 0 (pk ⟨ver, 0, false, false⟩)) with
            | mk o3 c3 =>
              rw [hb] at h1 h3
              have H4 := Lib.hid h1
              cases o3 with
              | none =>
                have h3' : ErK 1 w4 w3.heap.size v 11 := h3
                have HE := Lib.hid ((h3'.base hB3).up (show 1 ≤ 2 by omega))
                have HR3 := Lib.hid (HR2.out.trans (run_none hb))
                rcases h3'.form with ⟨_, h⟩ | h
                · omega
                · clear h1 h2 h3 h3' hb
                  rcases h with ⟨n, rfl⟩ | ⟨g, rfl⟩
                  all_goals
                    go_wp2_with fail
                    go_ret2
                    rw [HR3.out]
                    exact ⟨lv3, _, rfl, H4.out, N4.out, HE.out⟩
              | some tn =>
                have h3' : v = _ := h3
                subst h3'
                have HR3 := Lib.hid (HR2.out.trans (run_some hb))
                have f4 := X4.out.facts
                clear h1 h2 h3 hb
                go_wp2_with fail
                go_ret2
                rw [HR3.out]
                refine ⟨lv3, .nilIface, ?_, H4.out, N4.out, .nil _ _ _⟩
                show _ = Ending.returned (.tuple #[.bool ((if q4 = true then (1 : Int) else 0) == 1), .nilIface])
                cases q4 <;> rfl
theorem rel_fit {w : Int} (h : 0 ≤ w ∧ w < 18446744073709551616) : Fit ⟨(unp w).ver, 0, false, (unp w).wt⟩ := ⟨(unp_fit h).1, (unp_fit h).2.1, by simp, by simp⟩
end Go.Proofs.YtkldpdldjalpeaaGreatDoor

namespace Go.Proofs.YtkldpdldjalpeaaGreatDoor.Th
section
variable {α β S : Type} (I : S → BS → Prop) (Rel : Nat → S → S → Prop)
/-- Body i goes well, whatever the others do. -/
def Safe (i : Nat) (Q : α → S → Prop) : Pg α → S → Prop
  | .ret a, s => Q a s
  | .acc a k, s => ∀ s', Rel i s s' → ∀ B, I s' B → ∃ s'', (∀ j, j ≠ i → Rel j s' s'') ∧ I s'' (ex B a).2 ∧ Safe i Q (k (ex B a).1) s''
variable {I Rel} {i : Nat}
theorem Safe.rel (ht : ∀ s s' s'', Rel i s s' → Rel i s' s'' → Rel i s s'') {Q : α → S → Prop} (hQ : ∀ a s s', Rel i s s' → Q a s → Q a s') {p : Pg α} {s s' : S} (h : Safe I Rel i Q p s) (hr : Rel i s s') : Safe I Rel i Q p s' := by
  cases p with
  | ret a => exact hQ a s s' hr h
  | acc a k => exact fun s2 h2 B hB => h s2 (ht _ _ _ hr h2) B hB
theorem Safe.bind {Q : α → S → Prop} {Q' : β → S → Prop} {f : α → Pg β} : ∀ {p : Pg α} {s : S}, Safe I Rel i Q p s → (∀ a s', Q a s' → Safe I Rel i Q' (f a) s') → Safe I Rel i Q' (p.bind f) s
  | .ret a, s, h, hf => hf a s h
  | .acc a k, s, h, hf => fun s' hr B hB => by
    obtain ⟨s2, h1, h2, h3⟩ := h s' hr B hB
    exact ⟨s2, h1, h2, Safe.bind h3 hf⟩
theorem Safe.mono {Q Q' : α → S → Prop} : ∀ {p : Pg α} {s : S}, Safe I Rel i Q p s → (∀ a s', Q a s' → Q' a s') → Safe I Rel i Q' p s
  | .ret a, s, h, hf => hf a s h
  | .acc a k, s, h, hf => fun s' hr B hB => by
    obtain ⟨s2, h1, h2, h3⟩ := h s' hr B hB
    exact ⟨s2, h1, h2, Safe.mono h3 hf⟩
/-- What others, and the body itself, leave as it is. -/
theorem Safe.frame {Q : α → S → Prop} {P : S → Prop} (h1 : ∀ s s', Rel i s s' → P s → P s') (h2 : ∀ s s', (∀ j, j ≠ i → Rel j s s') → P s → P s') : ∀ {p : Pg α} {s : S}, Safe I Rel i Q p s → P s → Safe I Rel i (fun a s => Q a s ∧ P s) p s
  | .ret a, s, h, hp => ⟨h, hp⟩
  | .acc a k, s, h, hp => fun s' hr B hB => by
    obtain ⟨s2, g1, g2, g3⟩ := h s' hr B hB
    exact ⟨s2, g1, g2, Safe.frame h1 h2 g3 (h2 _ _ g1 (h1 _ _ hr hp))⟩
end

/-- A thread: what it wants yet, and is it done? -/
structure TS (α : Type) where
  p : Pg α
  done : Bool
section
variable {α : Type}
def stepT (t : TS α) (B : BS) : TS α × BS :=
  if t.done = true then (t, B) else match t.p with
    | .ret a => (⟨.ret a, true⟩, B)
    | .acc a k => (⟨k (ex B a).1, isRet (k (ex B a).1)⟩, (ex B a).2)
def soloT : Nat → TS α → BS → TS α × BS
  | 0, t, B => (t, B)
  | n + 1, t, B => if t.done = true then (t, B) else soloT n (stepT t B).1 (stepT t B).2
def sysStep (ts : List (TS α)) (B : BS) (k : Nat) : List (TS α) × BS :=
  match ts[k]? with
  | none => (ts, B)
  | some t => (ts.set k (stepT t B).1, (stepT t B).2)
def sysRun (n : Nat) (ts : List (TS α)) (B : BS) (k : Nat) : List (TS α) × BS :=
  match ts[k]? with
  | none => (ts, B)
  | some t => (ts.set k (soloT n t B).1, (soloT n t B).2)
def picksT : List Nat → List (TS α) × BS → List (TS α) × BS
  | [], x => x
  | k :: r, x => picksT r (sysStep x.1 x.2 k)
def endsT (n : Nat) : List Nat → List (TS α) × BS → List (TS α) × BS
  | [], x => x
  | k :: r, x => endsT n r (sysRun n x.1 x.2 k)
/-- By picks, and then one after the other. -/
def wholeT (n : Nat) (ps : List (Pg α)) (B : BS) (picks : List Nat) : List (TS α) × BS :=
  endsT n (List.range ps.length) (picksT picks (ps.map fun p => ⟨p, false⟩, B))
end

section
variable {α S : Type} {I : S → BS → Prop} {Rel : Nat → S → S → Prop} {Q : Nat → α → S → Prop} {D : Nat}
/-- What holds between steps. -/
structure Sys (I : S → BS → Prop) (Rel : Nat → S → S → Prop) (Q : Nat → α → S → Prop) (D : Nat) (x : List (TS α) × BS) (s : S) : Prop where
  inv : I s x.2
  safe : ∀ (i : Nat) (t : TS α), x.1[i]? = some t → Safe I Rel i (Q i) t.p s
  done : ∀ (i : Nat) (t : TS α), x.1[i]? = some t → t.done = true → isRet t.p = true
  dep : ∀ (i : Nat) (t : TS α), x.1[i]? = some t → Dep t.p D
structure RelOk (Rel : Nat → S → S → Prop) (Q : Nat → α → S → Prop) : Prop where
  refl : ∀ i s, Rel i s s
  trans : ∀ i s s' s'', Rel i s s' → Rel i s' s'' → Rel i s s''
  post : ∀ i a s s', Rel i s s' → Q i a s → Q i a s'
theorem dep_step {p : Pg α} {a : Ac} {k : En → Pg α} {n : Nat} (h : Dep (.acc a k) n) (e : En) : Dep (k e) (n - 1) ∧ 1 ≤ n := by
  cases h with
  | acc _ _ m h => exact ⟨h e, by omega⟩
theorem Sys.step (RO : RelOk Rel Q) {x : List (TS α) × BS} {s : S} (h : Sys I Rel Q D x s) (k : Nat) : ∃ s', Sys I Rel Q D (sysStep x.1 x.2 k) s' := by
  unfold sysStep
  cases hk : x.1[k]? with
  | none => exact ⟨s, h⟩
  | some t =>
    have hlt := (List.getElem?_eq_some_iff.1 hk).1
    simp only
    unfold stepT
    by_cases hd : t.done = true
    · simp only [hd, if_true]
      refine ⟨s, ⟨h.inv, fun i u hi => ?_, fun i u hi => ?_, fun i u hi => ?_⟩⟩
      all_goals
        simp only [List.getElem?_set] at hi
        split at hi
        · next e =>
          simp only [hlt, if_true, Option.some.injEq] at hi
          subst e hi
          first | exact h.safe _ _ hk | exact h.done _ _ hk | exact h.dep _ _ hk
        · first | exact h.safe _ _ hi | exact h.done _ _ hi | exact h.dep _ _ hi
    · rw [if_neg hd]
      cases hp : t.p with
      | ret a =>
        simp only
        refine ⟨s, ⟨h.inv, fun i u hi => ?_, fun i u hi => ?_, fun i u hi => ?_⟩⟩
        all_goals
          simp only [List.getElem?_set] at hi
          split at hi
          · next e =>
            simp only [hlt, if_true, Option.some.injEq] at hi
            subst e hi
            first
              | (have := h.safe _ _ hk; rw [hp] at this; exact this)
              | exact fun _ => rfl
              | exact .ret _ _
          · first | exact h.safe _ _ hi | exact h.done _ _ hi | exact h.dep _ _ hi
      | acc a kk =>
        simp only
        have hs := h.safe _ _ hk
        rw [hp] at hs
        obtain ⟨s2, h1, h2, h3⟩ := hs s (RO.refl _ _) _ h.inv
        refine ⟨s2, ⟨h2, fun i u hi => ?_, fun i u hi => ?_, fun i u hi => ?_⟩⟩
        · simp only [List.getElem?_set] at hi
          split at hi
          · next e =>
            simp only [hlt, if_true, Option.some.injEq] at hi
            subst e hi
            exact h3
          · next e => exact (h.safe _ _ hi).rel (RO.trans i) (RO.post i) (h1 i (fun e' => e e'.symm))
        · simp only [List.getElem?_set] at hi
          split at hi
          · next e =>
            simp only [hlt, if_true, Option.some.injEq] at hi
            subst e hi
            exact id
          · exact h.done _ _ hi
        · simp only [List.getElem?_set] at hi
          split at hi
          · next e =>
            simp only [hlt, if_true, Option.some.injEq] at hi
            subst e hi
            have hd' := h.dep _ _ hk
            rw [hp] at hd'
            exact (dep_step (p := t.p) hd' _).1.mono (by omega)
          · exact h.dep _ _ hi
theorem sysStep_len (x : List (TS α)) (B : BS) (k : Nat) : (sysStep x B k).1.length = x.length := by
  unfold sysStep
  cases x[k]? <;> simp
theorem Sys.picks (RO : RelOk Rel Q) : ∀ (l : List Nat) {x : List (TS α) × BS} {s : S}, Sys I Rel Q D x s → ∃ s', Sys I Rel Q D (picksT l x) s' ∧ (picksT l x).1.length = x.1.length
  | [], x, s, h => ⟨s, h, rfl⟩
  | k :: r, x, s, h => by
    obtain ⟨s1, h1⟩ := h.step RO k
    obtain ⟨s2, h2, h3⟩ := Sys.picks RO r h1
    exact ⟨s2, h2, h3.trans (sysStep_len _ _ _)⟩
theorem sysStep_at {ts : List (TS α)} {B : BS} {k : Nat} {t : TS α} (hk : ts[k]? = some t) : sysStep ts B k = (ts.set k (stepT t B).1, (stepT t B).2) := by
  unfold sysStep
  rw [hk]
theorem Sys.solo (RO : RelOk Rel Q) : ∀ (n : Nat) {ts : List (TS α)} {B : BS} {s : S} {k : Nat} {t : TS α}, Sys I Rel Q D (ts, B) s → ts[k]? = some t → ∃ s', Sys I Rel Q D (ts.set k (soloT n t B).1, (soloT n t B).2) s'
  | 0, ts, B, s, k, t, h, hk => ⟨s, by
    have hl := (List.getElem?_eq_some_iff.1 hk)
    obtain ⟨hl, he⟩ := hl
    unfold soloT
    rw [← he, List.set_getElem_self]
    exact h⟩
  | n + 1, ts, B, s, k, t, h, hk => by
    obtain ⟨hl, he⟩ := List.getElem?_eq_some_iff.1 hk
    unfold soloT
    by_cases hd : t.done = true
    · simp only [hd, if_true]
      exact ⟨s, by rw [← he, List.set_getElem_self]; exact h⟩
    · rw [if_neg hd]
      obtain ⟨s1, h1⟩ := h.step RO k
      simp only [sysStep_at hk] at h1
      have := Sys.solo RO n h1 (k := k) (t := (stepT t B).1) (by simp [hl])
      simpa using this
theorem solo_done : ∀ (n : Nat) {t : TS α} {B : BS} {d : Nat}, Dep t.p d → d < n → (soloT n t B).1.done = true
  | 0, _, _, _, _, h => by omega
  | n + 1, t, B, d, hd, hn => by
    unfold soloT
    by_cases h : t.done = true
    · rw [if_pos h]; exact h
    · rw [if_neg h]
      unfold stepT
      rw [if_neg h]
      cases hp : t.p with
      | ret a =>
        simp only
        cases n with
        | zero => rfl
        | succ n => unfold soloT; rfl
      | acc a k =>
        simp only
        rw [hp] at hd
        obtain ⟨h1, h2⟩ := dep_step (p := t.p) hd (ex B a).1
        exact solo_done n h1 (by omega)
theorem sysRun_len (n : Nat) (x : List (TS α)) (B : BS) (k : Nat) : (sysRun n x B k).1.length = x.length := by
  unfold sysRun
  cases x[k]? <;> simp
theorem sysRun_far (n : Nat) (x : List (TS α)) (B : BS) (k j : Nat) (h : j ≠ k) : (sysRun n x B k).1[j]? = x[j]? := by
  unfold sysRun
  cases x[k]? with
  | none => rfl
  | some t => simp only; rw [List.getElem?_set_ne (by omega)]
theorem Sys.run (RO : RelOk Rel Q) {n : Nat} (hn : D < n) {x : List (TS α) × BS} {s : S} (h : Sys I Rel Q D x s) (k : Nat) : ∃ s', Sys I Rel Q D (sysRun n x.1 x.2 k) s' ∧ ∀ t, (sysRun n x.1 x.2 k).1[k]? = some t → t.done = true := by
  cases hk : x.1[k]? with
  | none =>
    refine ⟨s, ?_, ?_⟩
    · unfold sysRun; rw [hk]; exact h
    · unfold sysRun; rw [hk]; intro t ht; simp only at ht; rw [hk] at ht; cases ht
  | some t =>
    obtain ⟨s1, h1⟩ := Sys.solo RO n (ts := x.1) (B := x.2) h hk
    have hl := (List.getElem?_eq_some_iff.1 hk).1
    refine ⟨s1, ?_, ?_⟩
    · unfold sysRun; rw [hk]; exact h1
    · unfold sysRun; rw [hk]
      intro u hu
      simp only [List.getElem?_set, hl, if_true, Option.some.injEq] at hu
      subst hu
      exact solo_done n (h.dep _ _ hk) hn
theorem Sys.ends (RO : RelOk Rel Q) {n : Nat} (hn : D < n) : ∀ (l : List Nat) {x : List (TS α) × BS} {s : S} (P : Nat → Prop), Sys I Rel Q D x s → (∀ k t, P k → x.1[k]? = some t → t.done = true) →
    ∃ s', Sys I Rel Q D (endsT n l x) s' ∧ (endsT n l x).1.length = x.1.length ∧ ∀ k t, (k ∈ l ∨ P k) → (endsT n l x).1[k]? = some t → t.done = true
  | [], x, s, P, h, hP => ⟨s, h, rfl, fun k t hk ht => hk.elim (fun e => by cases e) (fun e => hP k t e ht)⟩
  | j :: r, x, s, P, h, hP => by
    obtain ⟨s1, h1, h2⟩ := h.run RO hn j
    obtain ⟨s2, h3, h4, h5⟩ := Sys.ends RO hn r (P := fun k => k = j ∨ P k) h1 (fun k t hk ht => by
      by_cases e : k = j
      · subst e; exact h2 t ht
      · rw [sysRun_far _ _ _ _ _ e] at ht
        exact hP k t (hk.resolve_left e) ht)
    refine ⟨s2, h3, h4.trans (sysRun_len _ _ _ _), fun k t hk ht => h5 k t ?_ ht⟩
    rcases hk with hk | hk
    · rcases List.mem_cons.1 hk with e | e
      · exact .inr (.inl e)
      · exact .inl e
    · exact .inr (.inr hk)
/-- All come to their end, with what each of them promises. -/
theorem whole_safe (RO : RelOk Rel Q) {n : Nat} (hn : D < n) {ps : List (Pg α)} {B : BS} {s : S} (hI : I s B) (hs : ∀ i p, ps[i]? = some p → Safe I Rel i (Q i) p s ∧ Dep p D) (picks : List Nat) :
    ∃ (as_ : List α) (s' : S), (wholeT n ps B picks).1 = as_.map (fun a => ⟨.ret a, true⟩) ∧ as_.length = ps.length ∧ I s' (wholeT n ps B picks).2 ∧ ∀ i a, as_[i]? = some a → Q i a s' := by
  have h0 : Sys I Rel Q D (ps.map (fun p => (⟨p, false⟩ : TS α)), B) s := by
    refine ⟨hI, fun i t hi => ?_, fun i t hi hd => ?_, fun i t hi => ?_⟩
    all_goals
      simp only [List.getElem?_map, Option.map_eq_some_iff] at hi
      obtain ⟨p, hp, rfl⟩ := hi
      first | exact (hs i p hp).1 | exact (hs i p hp).2 | (exact absurd hd (by simp))
  obtain ⟨s1, h1, h2⟩ := h0.picks RO picks
  obtain ⟨s2, h3, h4, h5⟩ := Sys.ends RO hn (List.range ps.length) (P := fun _ => False) h1 (fun _ _ h => h.elim)
  have hlen : (wholeT n ps B picks).1.length = ps.length := by
    unfold wholeT
    rw [h4, h2, List.length_map]
  have hall : ∀ k t, (wholeT n ps B picks).1[k]? = some t → ∃ a, t = ⟨.ret a, true⟩ ∧ Q k a s2 := by
    intro k t ht
    have hk : k < ps.length := by have := (List.getElem?_eq_some_iff.1 ht).1; omega
    have hd := h5 k t (.inl (List.mem_range.2 hk)) ht
    have hr := h3.done k t ht hd
    have hsf := h3.safe k t ht
    obtain ⟨p, d⟩ := t
    cases p with
    | ret a => exact ⟨a, by rw [show d = true from hd], hsf⟩
    | acc a k => cases hr
  have hex : ∃ as_ : List α, (wholeT n ps B picks).1 = as_.map (fun a => (⟨.ret a, true⟩ : TS α)) := by
    generalize (wholeT n ps B picks).1 = ts at hall
    clear hlen
    have : ∀ (ts : List (TS α)), (∀ t ∈ ts, ∃ a, t = ⟨.ret a, true⟩) → ∃ as_ : List α, ts = as_.map (fun a => (⟨.ret a, true⟩ : TS α)) := by
      intro ts
      induction ts with
      | nil => intro _; exact ⟨[], rfl⟩
      | cons t r ih =>
        intro h
        obtain ⟨a, rfl⟩ := h t (by simp)
        obtain ⟨as_, rfl⟩ := ih fun u hu => h u (by simp [hu])
        exact ⟨a :: as_, rfl⟩
    refine this ts fun t ht => ?_
    obtain ⟨k, hk⟩ := List.getElem?_of_mem ht
    obtain ⟨a, e, _⟩ := hall k t hk
    exact ⟨a, e⟩
  obtain ⟨as_, has⟩ := hex
  refine ⟨as_, s2, has, ?_, h3.inv, fun i a hi => ?_⟩
  · have := congrArg List.length has
    rw [hlen, List.length_map] at this
    exact this.symm
  · obtain ⟨b, e, hb⟩ := hall i ⟨.ret a, true⟩ (by rw [has]; simp [hi])
    injection e with e _
    injection e with e
    subst e
    exact hb
end
end Go.Proofs.YtkldpdldjalpeaaGreatDoor.Th

namespace Go.Proofs.YtkldpdldjalpeaaGreatDoor.Th
variable {α : Type}
/-- What was given out is there. -/
def Giv (B : BS) : Ac → En → Prop
  | .alloc n, e => 0 ≤ e.ref ∧ (e.ref.toNat, n) ∈ B.sz
  | _, _ => True
def LogGood (B : BS) : Pg α → List En → Prop
  | .acc a k, e :: l => Giv B a e ∧ LogGood B (k e) l
  | _, _ => True
theorem Giv.mono {B B' : BS} {a : Ac} {e : En} (h : Giv B a e) (hB : ∀ p, p ∈ B.sz → p ∈ B'.sz) : Giv B' a e := by
  cases a with
  | alloc n => exact ⟨h.1, hB _ h.2⟩
  | _ => trivial
theorem LogGood.mono {B B' : BS} (hB : ∀ p, p ∈ B.sz → p ∈ B'.sz) : ∀ {p : Pg α} {l : List En}, LogGood B p l → LogGood B' p l
  | .ret _, _, _ => by unfold LogGood; trivial
  | .acc _ _, [], _ => by unfold LogGood; trivial
  | .acc a k, e :: l, h => ⟨h.1.mono hB, LogGood.mono hB h.2⟩
theorem giv_ex (B : BS) (a : Ac) : Giv (ex B a).2 a (ex B a).1 := by
  cases a with
  | alloc n => exact ⟨by simp [ex], by simp [ex]⟩
  | _ => trivial
theorem LogGood.snoc {B : BS} {a : Ac} {k : En → Pg α} {e : En} (he : Giv B a e) : ∀ {l : List En} {p : Pg α}, LogGood B p l → resid p l = .acc a k → LogGood B p (l ++ [e])
  | [], .ret _, _, h => by simp [resid] at h
  | [], .acc b k', _, h => by
    simp only [resid] at h
    injection h with h1 h2
    subst h1
    exact ⟨he, by unfold LogGood; split <;> first | trivial | (rename_i h; cases h)⟩
  | x :: l, .ret _, _, h => by unfold LogGood; trivial
  | x :: l, .acc b k', h1, h => ⟨h1.1, LogGood.snoc he h1.2 h⟩
/-- Each access of a run gives what is there. -/
def Ready : Pg α → CS → Prop
  | .ret _, _ => True
  | .acc a k, c => ∀ e c', access c a = (some e, c') → Giv c'.B a e ∧ Ready (k e) c'
theorem ready_over (l : List En) (B : BS) : ∀ (p : Pg α), Ready p ⟨l, l.length, true, B⟩
  | .ret _ => trivial
  | .acc a k => fun e c' h => by rw [access_over] at h; cases h
theorem ready_of {B : BS} : ∀ (l pre : List En) (p : Pg α), Fits p l → LogGood B p l → Ready p ⟨pre ++ l, pre.length, false, B⟩
  | [], pre, .ret a, _, _ => trivial
  | [], pre, .acc a k, _, _ => fun e c' h => by
    simp only [List.append_nil] at h
    rw [access_end] at h
    injection h with h1 h2
    injection h1 with h1
    subst h1 h2
    refine ⟨giv_ex B a, ?_⟩
    have := ready_over (pre ++ [(ex B a).1]) (ex B a).2 (k (ex B a).1)
    rwa [List.length_append] at this
  | x :: l, pre, .ret a, h, _ => h.elim
  | x :: l, pre, .acc a k, h, hg => fun e c' ha => by
    have hx : access ⟨pre ++ x :: l, pre.length, false, B⟩ a = (some x, ⟨pre ++ x :: l, pre.length + 1, false, B⟩) := by
      unfold access
      simp
    rw [hx] at ha
    injection ha with h1 h2
    injection h1 with h1
    subst h1 h2
    refine ⟨hg.1, ?_⟩
    have := ready_of (B := B) l (pre ++ [x]) (k x) h hg.2
    simpa using this
/-- A thread's log and what it wants. -/
structure ThOk (p : Pg α) (B : BS) (l : List En) (t : TS α) : Prop where
  fits : Fits p l
  res : resid p l = t.p
  done : t.done = true → isRet t.p = true
  good : LogGood B p l
theorem ThOk.start (p : Pg α) (B : BS) : ThOk p B [] ⟨p, false⟩ := ⟨by unfold Fits; trivial, by unfold resid; rfl, fun h => (by cases h), by unfold LogGood; split <;> first | trivial | (rename_i h; cases h)⟩
theorem ThOk.mono {p : Pg α} {B B' : BS} {l : List En} {t : TS α} (h : ThOk p B l t) (hB : ∀ q, q ∈ B.sz → q ∈ B'.sz) : ThOk p B' l t := ⟨h.fits, h.res, h.done, h.good.mono hB⟩
theorem ThOk.ready {p : Pg α} {B : BS} {l : List En} {t : TS α} (h : ThOk p B l t) : Ready p ⟨l, 0, false, B⟩ := by
  simpa using ready_of l [] p h.fits h.good
theorem outP_isRet {p : Pg α} : (outP p).isSome = isRet p := by cases p <;> rfl
theorem ThOk.step {p : Pg α} {B : BS} {l : List En} {t : TS α} (h : ThOk p B l t) (hd : t.done = false) :
    (run p ⟨l, 0, false, B⟩).1 = outP (stepT t B).1.p ∧ (run p ⟨l, 0, false, B⟩).2.B = (stepT t B).2 ∧ ThOk p (stepT t B).2 (run p ⟨l, 0, false, B⟩).2.log (stepT t B).1 ∧
    (stepT t B).1.done = ((run p ⟨l, 0, false, B⟩).1).isSome ∧ (run p ⟨l, 0, false, B⟩).2.log.length ≤ l.length + 1 ∧ ∀ q, q ∈ B.sz → q ∈ (stepT t B).2.sz := by
  rw [run_step h.fits, h.res]
  unfold stepT
  rw [if_neg (by rw [hd]; simp)]
  cases hp : t.p with
  | ret a => exact ⟨rfl, rfl, ⟨h.fits, by rw [h.res, hp], fun _ => rfl, h.good⟩, rfl, by simp, fun _ h => h⟩
  | acc a k =>
    refine ⟨rfl, rfl, ⟨fits_snoc h.fits (by rw [h.res, hp]; rfl), resid_snoc h.fits (h.res.trans hp), id, ?_⟩, outP_isRet.symm, by simp, fun q hq => ex_sz hq⟩
    exact (h.good.mono (fun q hq => ex_sz hq)).snoc (giv_ex B a) (h.res.trans hp)
theorem stepT_done {t : TS α} {B : BS} (hd : t.done = true) : stepT t B = (t, B) := by unfold stepT; rw [if_pos hd]
theorem room_step {p : Pg α} {B : BS} {l : List En} (hl : l.length < 6000) : Room (run p ⟨l, 0, false, B⟩).2 := room_run (o := (run p ⟨l, 0, false, B⟩).1) (p := p) (c := ⟨l, 0, false, B⟩) rfl ⟨Nat.zero_le _, .inr hl⟩
end Go.Proofs.YtkldpdldjalpeaaGreatDoor.Th

namespace Go.Proofs.YtkldpdldjalpeaaGreatDoor.Th

/-- A new cell, as a body. -/
def cellT (v : Int) : Pg Int := .acc (.alloc 2) fun e => .acc (.store e.ref.toNat 1 v) fun _ => .ret e.ref
def scCells : Nat → Nat → List Int → Pg (List Int)
  | 0, _, l => .ret l
  | k + 1, i, l => (cellT (10 + i)).bind fun r => scCells k (i + 1) (l ++ [r])
def sceneT (n : Nat) : Pg (Int × List Int) := .acc (.alloc 1) fun e => (scCells n 0 []).bind fun l => .ret (e.ref, l)
/-- No block that is too large. -/
def SmallP {α : Type} : Pg α → Prop
  | .ret _ => True
  | .acc a k => (∀ n, a = .alloc n → n ≤ 64) ∧ ∀ e, SmallP (k e)
/-- How far blocks go, within a step. -/
def Near (B0 : BS) (c : CS) : Prop := c.B.ws.length = B0.ws.length ∧ ((c.did = false ∧ c.B.top = B0.top) ∨ (c.did = true ∧ c.B.top ≤ B0.top + 65))
theorem Near.access {B0 : BS} {c c' : CS} {a : Ac} {o : Option En} (h : Near B0 c) (ha : access c a = (o, c')) (hs : ∀ n, a = .alloc n → n ≤ 64) : Near B0 c' := by
  unfold Th.access at ha
  cases hl : c.log[c.next]? with
  | some e => rw [hl] at ha; injection ha with _ ha; subst ha; exact h
  | none =>
    rw [hl] at ha
    simp only at ha
    split at ha
    · injection ha with _ ha; subst ha; exact h
    · next hd =>
      injection ha with _ ha
      subst ha
      obtain ⟨h1, h2⟩ := h
      have h2 : c.B.top = B0.top := by
        rcases h2 with h2 | h2
        · exact h2.2
        · exact absurd h2.1 hd
      refine ⟨(ex_len _ _).trans h1, .inr ⟨rfl, ?_⟩⟩
      show (ex c.B a).2.top ≤ _
      cases a with
      | load => simp only [ex]; omega
      | store => simp only [ex]; omega
      | cas r i o x =>
        simp only [ex]
        split
        · simp only; omega
        · omega
      | alloc n => have := hs n rfl; simp only [ex]; omega
theorem Near.run {α : Type} {B0 : BS} : ∀ {p : Pg α} {c c' : CS} {o : Option α}, Near B0 c → SmallP p → run p c = (o, c') → Near B0 c'
  | .ret b, c, c', o, hn, hs, h => by rw [run_ret] at h; injection h with _ h; subst h; exact hn
  | .acc x k, c, c', o, hn, hs, h => by
    cases hx : Th.access c x with
    | mk o1 c1 =>
      cases o1 with
      | some e => rw [run_some hx] at h; exact Near.run (hn.access hx hs.1) (hs.2 e) h
      | none => rw [run_none hx] at h; injection h with _ h; subst h; exact hn.access hx hs.1
theorem small_cell (v : Int) : SmallP (cellT v) := ⟨fun n h => by injection h with h; omega, fun e => ⟨fun n h => (by cases h), fun e => trivial⟩⟩
theorem ready_bind {α β : Type} {f : α → Pg β} : ∀ {p : Pg α} {c : CS}, Ready (p.bind f) c → Ready p c ∧ ∀ a, (run p c).1 = some a → Ready (f a) (run p c).2
  | .ret a, c, h => ⟨trivial, fun b hb => by rw [run_ret] at hb ⊢; injection hb with hb; subst hb; exact h⟩
  | .acc x k, c, h => by
    have h' : ∀ e c', Th.access c x = (some e, c') → Giv c'.B x e ∧ Ready ((k e).bind f) c' := h
    refine ⟨fun e c' ha => ⟨(h' e c' ha).1, (ready_bind (h' e c' ha).2).1⟩, fun a ha => ?_⟩
    cases hx : Th.access c x with
    | mk o c1 =>
      cases o with
      | some e => rw [run_some hx] at ha ⊢; exact (ready_bind (h' e c1 hx).2).2 a ha
      | none => rw [run_none hx] at ha; cases ha
def B0 : BS := ⟨1, [], List.replicate 300 0⟩
/-- The scene's blocks. -/
def BN : Nat → BS
  | 1 => ⟨6, [(1, 1), (3, 2)], [0, 3, 0, 5, 0, 10] ++ List.replicate 294 0⟩
  | 2 => ⟨9, [(1, 1), (3, 2), (6, 2)], [0, 3, 0, 5, 0, 10, 5, 0, 11] ++ List.replicate 291 0⟩
  | _ => ⟨12, [(1, 1), (3, 2), (6, 2), (9, 2)], [0, 3, 0, 5, 0, 10, 5, 0, 11, 5, 0, 12] ++ List.replicate 288 0⟩
def refsN : Nat → List Int
  | 1 => [3]
  | 2 => [3, 6]
  | _ => [3, 6, 9]
def GSc (n : Nat) (t : TS (Int × List Int)) (B : BS) : Prop := ∃ k, k ≤ 9 ∧ (t, B) = soloT k ⟨sceneT n, false⟩ B0
theorem solo_snoc {α : Type} : ∀ (k : Nat) (t : TS α) (B : BS), (soloT k t B).1.done = false → soloT (k + 1) t B = stepT (soloT k t B).1 (soloT k t B).2
  | 0, t, B, h => by
    show (if t.done = true then _ else soloT 0 _ _) = _
    have h : t.done = false := h
    rw [if_neg (by rw [h]; simp)]
    rfl
  | k + 1, t, B, h => by
    by_cases hd : t.done = true
    · have : soloT (k + 1) t B = (t, B) := by unfold soloT; rw [if_pos hd]
      rw [this] at h
      simp only at h
      rw [hd] at h
      cases h
    · have e : ∀ m, soloT (m + 1) t B = soloT m (stepT t B).1 (stepT t B).2 := fun m => by rw [soloT.eq_def]; simp only [if_neg hd]
      rw [e k] at h ⊢
      rw [e (k + 1)]
      exact solo_snoc k _ _ h
def JT (B : BS) : Prop := B.top + 200 ≤ B.ws.length
set_option maxRecDepth 20000 in
theorem gsc_j {n k : Nat} (hn : 1 ≤ n ∧ n ≤ 3) (hk : k ≤ 9) : JT (soloT k ⟨sceneT n, false⟩ B0).2 := by
  have h1 : n = 1 ∨ n = 2 ∨ n = 3 := by omega
  have h2 : k = 0 ∨ k = 1 ∨ k = 2 ∨ k = 3 ∨ k = 4 ∨ k = 5 ∨ k = 6 ∨ k = 7 ∨ k = 8 ∨ k = 9 := by omega
  rcases h1 with rfl | rfl | rfl <;> rcases h2 with rfl | rfl | rfl | rfl | rfl | rfl | rfl | rfl | rfl | rfl <;> exact Nat.le_of_ble_eq_true rfl
set_option maxRecDepth 20000 in
theorem gsc_done {n : Nat} (hn : 1 ≤ n ∧ n ≤ 3) : (soloT 9 ⟨sceneT n, false⟩ B0).1.done = true := by
  have h1 : n = 1 ∨ n = 2 ∨ n = 3 := by omega
  rcases h1 with rfl | rfl | rfl <;> rfl
set_option maxRecDepth 20000 in
theorem gsc_end {n : Nat} (hn : 1 ≤ n ∧ n ≤ 3) : soloT 100 ⟨sceneT n, false⟩ B0 = (⟨.ret (1, refsN n), true⟩, BN n) := by
  have h1 : n = 1 ∨ n = 2 ∨ n = 3 := by omega
  rcases h1 with rfl | rfl | rfl <;> rfl
theorem gsc_step {n : Nat} (hn : 1 ≤ n ∧ n ≤ 3) (t : TS (Int × List Int)) (B : BS) (h : GSc n t B) (hd : t.done = false) : GSc n (stepT t B).1 (stepT t B).2 := by
  obtain ⟨k, hk, e⟩ := h
  have e1 : t = (soloT k ⟨sceneT n, false⟩ B0).1 := congrArg Prod.fst e
  have e2 : B = (soloT k ⟨sceneT n, false⟩ B0).2 := congrArg Prod.snd e
  have hk9 : k ≠ 9 := fun h => by
    subst h
    rw [e1, gsc_done hn] at hd
    cases hd
  refine ⟨k + 1, by omega, ?_⟩
  rw [solo_snoc k _ _ (by rw [← e1]; exact hd), ← e1, ← e2]
end Go.Proofs.YtkldpdldjalpeaaGreatDoor.Th

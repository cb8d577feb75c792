/-
  WaitLost, the walk.
  From a walk that ends 'true, and nothing that was there has turned' to what a law's row asks. No program in sight.
  Arguments that are slices of plain things: what they read as. No program in sight.
  An argument that is a slice of slices of plain things. No program in sight.
-/
import Derived.Test.YtkldpdldjalpeaaGreatDoorWoBsWlN
import Derived.Test.YtkldpdldjalpeaaGreatDoorWoB8
import Derived.Test.YtkldpdldjalpeaaGreatDoorWoB1
import Derived.Test.YtkldpdldjalpeaaGreatDoorWoB0
import Derived.ProofKit
import Derived.Carry
import Derived.OpenShut
import Derived.Deep.Slices
import Derived.Deep.Fields
set_option linter.unusedVariables false
namespace Go.Proofs.YtkldpdldjalpeaaGreatDoor
open Go.RowKit Th
attribute [local go_sem] litStep_value

theorem lo_int : (Tryz.prog.info? 3).map (fun i => (i.zero, i.size, i.bytes)) = some (some (.int .i64 0), 1, 8) := by kernel_rfl
theorem lo_bool : (Tryz.prog.info? 4).map (fun i => (i.zero, i.size, i.bytes)) = some (some (.bool false), 1, 1) := by kernel_rfl
theorem lo_ints : (Tryz.prog.info? 23).map (fun i => (i.zero, i.size, i.bytes)) = some (some (.slice none 0 0), 1, 24) := by kernel_rfl
theorem mk_ints (n : Nat) (hn : n ≤ 3) (W : World) : (Instr.makeSlice 23 (.int .i64 n) (.int .i64 n)).run Tryz.prog W = .ok (.slice (some ⟨W.heap.size, 0, none⟩) n n) (W.alloc (.cells (madeCells #[Value.int .i64 0] n) 3)) := by
  obtain ⟨i0, hi0, hz0, hz1, hz2⟩ := info_parts lo_int
  have h := run_make (P := Tryz.prog) W 23 3 i0 _ Tryz.underlying23 hi0 hz0 .i64 .i64 n n (by omega) (by omega) (by rw [hz2]; omega) (by omega)
  rw [hz1] at h
  simpa [Value.cells] using h
theorem mk_bools (n : Nat) (hn : n ≤ 3) (W : World) : (Instr.makeSlice 30 (.int .i64 n) (.int .i64 n)).run Tryz.prog W = .ok (.slice (some ⟨W.heap.size, 0, none⟩) n n) (W.alloc (.cells (madeCells #[Value.bool false] n) 4)) := by
  obtain ⟨i0, hi0, hz0, hz1, hz2⟩ := info_parts lo_bool
  have h := run_make (P := Tryz.prog) W 30 4 i0 _ Tryz.underlying30 hi0 hz0 .i64 .i64 n n (by omega) (by omega) (by rw [hz2]; omega) (by omega)
  rw [hz1] at h
  simpa [Value.cells] using h
theorem mk_rows (n : Nat) (hn : n ≤ 3) (W : World) : (Instr.makeSlice 22 (.int .i64 n) (.int .i64 n)).run Tryz.prog W = .ok (.slice (some ⟨W.heap.size, 0, none⟩) n n) (W.alloc (.cells (madeCells #[Value.slice none 0 0] n) 23)) := by
  obtain ⟨i0, hi0, hz0, hz1, hz2⟩ := info_parts lo_ints
  have h := run_make (P := Tryz.prog) W 22 23 i0 _ Tryz.underlying22 hi0 hz0 .i64 .i64 n n (by omega) (by omega) (by rw [hz2]; omega) (by omega)
  rw [hz1] at h
  simpa [Value.cells] using h
set_option maxRecDepth 20000 in
set_option maxHeartbeats 8000000 in
theorem law_lost (A : Option Addr) (ns k0 : Nat) (vs : List Value) (L : List (List Int)) (B : Option Addr) (nc k1 : Nat) (cs : List Int) (C : Option Addr) (np k2 : Nat) (ps : List Int) (w : World)
    (hA : Src w 1 (.slice A ns k0) ns vs) (hL : L.length = ns) (hR : ∀ (i : Nat) v l, vs[i]? = some v → L[i]? = some l → Src w 1 v l.length (l.map (Value.int .i64)) ∧ l.length ≤ 9223372036854775807) (hB : Src w 1 (.slice B nc k1) nc (cs.map (Value.int .i64))) (hcs : cs.length = nc) (hC : Src w 1 (.slice C np k2) np (ps.map (Value.int .i64))) (hps : ps.length = np) (hm : ns ≤ 9223372036854775807 ∧ nc ≤ 9223372036854775807 ∧ np ≤ 9223372036854775807) :
    Calls Tryz.prog 3 #[.slice A ns k0, .slice B nc k1, .slice C np k2] w fun e w' => e = .returned (.bool true) ∧ Upd [] w w' := by
  have HA := Lib.hid hA
  have HL := Lib.hid hL
  have HR := Lib.hid hR
  have HB := Lib.hid hB
  have HCS := Lib.hid hcs
  have HC := Lib.hid hC
  have HPS := Lib.hid hps
  have hm3 : (0 : Int) ≤ ns ∧ (ns : Int) ≤ 9223372036854775807 ∧ (nc : Int) ≤ 9223372036854775807 ∧ (np : Int) ≤ 9223372036854775807 := by omega
  clear hA hL hR hB hcs hC hps hm
  go_enter Tryz.func3, Tryz.ntmps3
  by_cases hbig : ns < 1 ∨ 3 < ns ∨ 3 < nc ∨ 200 < np
  · by_cases h1 : ns < 1
    · have g1 : (ns : Int) < 1 := by omega
      clear hbig h1
      go_wp2_with fail
      refine (alive15_ok w).mono ?_
      rintro e w1 ⟨rfl, u1⟩
      have U1 := Lib.hid u1
      clear u1
      go_wp2_with fail
      go_ret
      exact ⟨rfl, U1.out⟩
    · have g1 : ¬ (ns : Int) < 1 := by omega
      by_cases h2 : 3 < ns
      · have g2 : (3 : Int) < ns := by omega
        clear hbig h1 h2
        go_wp2_with fail
        refine (alive15_ok w).mono ?_
        rintro e w1 ⟨rfl, u1⟩
        have U1 := Lib.hid u1
        clear u1
        go_wp2_with fail
        go_ret
        exact ⟨rfl, U1.out⟩
      · have g2 : ¬ (3 : Int) < ns := by omega
        by_cases h3 : 3 < nc
        · have g3 : (3 : Int) < nc := by omega
          clear hbig h1 h2 h3
          go_wp2_with fail
          refine (alive15_ok w).mono ?_
          rintro e w1 ⟨rfl, u1⟩
          have U1 := Lib.hid u1
          clear u1
          go_wp2_with fail
          go_ret
          exact ⟨rfl, U1.out⟩
        · have g3 : ¬ (3 : Int) < nc := by omega
          have g4 : (200 : Int) < np := by omega
          clear hbig h1 h2 h3
          go_wp2_with fail
          refine (alive15_ok w).mono ?_
          rintro e w1 ⟨rfl, u1⟩
          have U1 := Lib.hid u1
          clear u1
          go_wp2_with fail
          go_ret
          exact ⟨rfl, U1.out⟩
  · have g1 : ¬ (ns : Int) < 1 := by omega
    have g2 : ¬ (3 : Int) < ns := by omega
    have g3 : ¬ (3 : Int) < nc := by omega
    have g4 : ¬ (200 : Int) < np := by omega
    have HN : Hid (1 ≤ ns ∧ ns ≤ 3 ∧ nc ≤ 3 ∧ np ≤ 200) := Lib.hid (by omega)
    clear hbig
    have mk1 := mk_ints ns (by have := HN.out; omega)
    have mk2 := mk_bools nc (by have := HN.out; omega)
    have mk3 := mk_rows ns (by have := HN.out; omega)
    go_wp2_with fail
    refine (scene15_ok 3 (by omega) w).mono ?_
    rintro e w1 ⟨F, kb, rfl, h1, h2, h3, h4, h5, h6⟩
    have H1 := Lib.hid h1
    have H2 : Hid (Blk w1 kb 26 #[.int .u64 3, .int .u64 6, .int .u64 9]) := Lib.hid h2
    have H3 := Lib.hid h3
    have H4 : Hid ((∀ x ∈ F.l, w.heap.size ≤ x) ∧ w.heap.size ≤ kb ∧ kb ∉ F.l) := Lib.hid ⟨h4, h5, h6⟩
    have hr : rmN 3 = 12 := rfl
    rw [hr]
    clear h1 h2 h3 h4 h5 h6 hr
    go_wp2_with fail
    obtain ⟨w2, hw2⟩ : ∃ w2, w2 = (((((w1.alloc (.cells #[.int .u64 12] 26)).alloc (.cells (madeCells #[.int .i64 0] ns) 3)).alloc (.cells #[.slice (some ⟨w1.heap.size + 1, 0, none⟩) ns ns] 23)).alloc (.cells (madeCells #[.bool false] nc) 4)).alloc (.cells (madeCells #[.slice none 0 0] ns) 23)) := ⟨_, rfl⟩
    have L0 := Lib.hid (lo_start H1.out H2.out H3.out H4.out ⟨HN.out.2.1, HN.out.2.2.1⟩ hw2)
    have HSZ : Hid (w.heap.size ≤ w1.heap.size) := Lib.hid H3.out.size
    rw [← hw2]
    obtain ⟨qb, hqb⟩ : ∃ x, x = w1.heap.size + 1 + 1 + 1 + 1 := ⟨_, rfl⟩
    obtain ⟨db, hdb⟩ : ∃ x, x = w1.heap.size + 1 + 1 + 1 := ⟨_, rfl⟩
    obtain ⟨tkb, htkb⟩ : ∃ x, x = w1.heap.size + 1 + 1 := ⟨_, rfl⟩
    obtain ⟨tb, htb⟩ : ∃ x, x = w1.heap.size + 1 := ⟨_, rfl⟩
    obtain ⟨rb, hrb⟩ : ∃ x, x = w1.heap.size := ⟨_, rfl⟩
    rw [← hqb, ← hdb, ← htkb, ← htb, ← hrb] at L0
    rw [← hqb, ← hdb, ← htkb, ← hrb]
    clear hw2 hqb hdb htkb htb hrb H1 H2 H3 H4 mk1 mk2 mk3 HSZ
    obtain ⟨css, hcss⟩ : ∃ css : List (List Nat), css = L.map fun l => l.map (pickI 3) := ⟨_, rfl⟩
    obtain ⟨cl, hcl⟩ : ∃ cl : List Nat, cl = cs.map (pickI 3) := ⟨_, rfl⟩
    have HCSS := Lib.hid hcss
    have HCL := Lib.hid hcl
    have HCN : Hid (css.length = ns ∧ cl.length = nc) := Lib.hid ⟨by rw [hcss, List.length_map, HL.out], by rw [hcl, List.length_map, HCS.out]⟩
    clear hcss hcl
    go_loopw [12, 14, 15, 17, 69] (fun u12 u14 u15 u17 u69 wr => ∃ (i : Nat) (S : List Nat) (ds : List (TD An)) (sl : List SlD) (vs2 : List Value), u69 = .int .i64 i ∧ i ≤ ns ∧ Hid (Lo w ⟨rb, kb, tkb, qb⟩ tb db ns nc vs2 (wfL css i) 0 sl [] wr F (BR 3) S ds (tsL css i) (List.replicate i none)) ∧ Hid (TV w ⟨rb, kb, tkb, qb⟩ vs2 wr F S ds u12) ∧ Hid (SlC css i sl)) (fun _ _ _ _ u _ => ns - (intOf u).toNat)
    case atStart =>
      refine ⟨0, [tb, db], [], [], List.replicate ns (.slice none 0 0), rfl, by omega, ?_, Lib.hid ⟨own_nil _ _ _ _, by simp [Value.ownBlock]⟩, Lib.hid ⟨rfl, by simp⟩⟩
      rw [wfL_0]
      exact L0
    case round =>
      obtain ⟨i, S, ds, sl, vs2, rfl, hi, KM, KT, KS⟩ := hrel
      by_cases hlt : i < ns
      · have hii : (i : Int) < ns := by omega
        obtain ⟨v0, hv0⟩ : ∃ v0, vs[i]? = some v0 := ⟨_, List.getElem?_eq_getElem (by have := HA.out.1; omega)⟩
        obtain ⟨l, hl⟩ : ∃ l, L[i]? = some l := ⟨_, List.getElem?_eq_getElem (by have := HL.out; omega)⟩
        obtain ⟨⟨hr1, Ai, ci, rfl, hr2⟩, hr3⟩ := HR.out i v0 l hv0 hl
        have hcell : ∃ ad, A = some ad ∧ ad.block < wr.heap.size ∧ wr.cell? (ad.add i) = some (.slice Ai l.length ci) := by
          obtain ⟨_, A', n', e, h⟩ := HA.out.upd0 KM.out.up
          injection e with e
          subst e
          exact h i _ hv0
        obtain ⟨ad, hA, had, hcell⟩ := hcell
        obtain ⟨m, hm⟩ : ∃ m, m = l.length := ⟨_, rfl⟩
        have HROW : Hid (Src w 1 (.slice Ai m ci) m (l.map (Value.int .i64)) ∧ L[i]? = some l ∧ m = l.length) := Lib.hid ⟨by rw [hm]; exact ⟨hr1, Ai, ci, rfl, hr2⟩, hl, hm⟩
        rw [← hm] at hcell hr3
        have hm63 : (m : Int) ≤ 9223372036854775807 := by omega
        have HLT := Lib.hid hlt
        clear hv0 hl hr1 hr2 hr3 hm hi hlt
        have HAA : Hid (A = some ad) := Lib.hid hA
        subst hA
        by_cases hm3 : 3 < m
        · have hmi : (3 : Int) < m := by omega
          clear hm3
          go_wp2_with fail
          refine (alive15_ok wr).mono ?_
          rintro e w4 ⟨rfl, u4⟩
          have U4 := Lib.hid (KM.out.up.trans u4)
          clear u4
          go_wp2_with fail
          go_ret
          exact ⟨rfl, U4.out⟩
        · have hmi : ¬ (3 : Int) < m := by omega
          have HM3 : Hid (m ≤ 3) := Lib.hid (by omega)
          clear hm3
          go_wp2_with fail
          have HLI : Hid (css.getD i [] = l.map (pickI 3) ∧ (css.getD i []).length = m) := Lib.hid (by
            have h1 : css.getD i [] = l.map (pickI 3) := by
              rw [HCSS.out, List.getD_eq_getElem?_getD, List.getElem?_map, HROW.out.2.1]; rfl
            exact ⟨h1, by rw [h1, List.length_map, HROW.out.2.2]⟩)
          have KM2 : Hid (Lo w ⟨rb, kb, tkb, qb⟩ tb db ns nc vs2 (wfR css i 0) 0 sl [] wr F (BR 3) S ds (tsL css i) (List.replicate i none)) := Lib.hid (by rw [← wfL_R]; exact KM.out)
          have hm33 : (m : Int) ≤ 3 := by omega
          clear hcell had
          go_loopw [15, 17, 84] (fun u15 u17 u84 wr2 => ∃ (t : Nat) (vs3 : List Value), u84 = .int .i64 t ∧ t ≤ m ∧ Hid (Lo w ⟨rb, kb, tkb, qb⟩ tb db ns nc vs3 (wfR css i t) 0 sl [] wr2 F (BR 3) S ds (tsL css i) (List.replicate i none)) ∧ Hid (TV w ⟨rb, kb, tkb, qb⟩ vs3 wr2 F S ds u12) ∧ Hid (Ow RfE 26 wr2 w.heap.size u15 ((css.getD i []).take t) ∧ ∀ x, u15.ownBlock = some x → x ∉ foot F S ds ∧ x ∉ KB ⟨rb, kb, tkb, qb⟩ vs3 ∧ u12.ownBlock ≠ some x)) (fun _ _ u _ => m - (intOf u).toNat)
          case atStart => exact ⟨0, vs2, rfl, by omega, KM2, KT, Lib.hid ⟨Ow.nil _ _ _ _, by simp [Value.ownBlock]⟩⟩
          case round =>
            obtain ⟨t, vs3, rfl, ht, KL, KT2, KU⟩ := hrel
            rename World => wr2
            by_cases hlt2 : t < m
            · have hti : (t : Int) < m := by omega
              obtain ⟨k0, hk0⟩ : ∃ k0, l[t]? = some k0 := ⟨_, List.getElem?_eq_getElem (by rw [← HROW.out.2.2]; exact hlt2)⟩
              have hcell2 : ∃ ad2, Ai = some ad2 ∧ ad2.block < wr2.heap.size ∧ wr2.cell? (ad2.add t) = some (.int .i64 k0) := by
                obtain ⟨_, A', n', e, h⟩ := HROW.out.1.upd0 KL.out.up
                injection e with e
                subst e
                exact h t _ (by rw [List.getElem?_map, hk0]; rfl)
              obtain ⟨ad2, hA2, had2, hcell2⟩ := hcell2
              obtain ⟨hp1, hp2⟩ := pick3 k0
              obtain ⟨p, hp⟩ : ∃ p, p = pickI 3 k0 := ⟨_, rfl⟩
              rw [← hp] at hp1 hp2
              have hpt : (css.getD i [])[t]? = some p := by rw [HLI.out.1, List.getElem?_map, hk0, hp]; rfl
              have hkr : -(3 : Int) < k0.tmod 3 ∧ k0.tmod 3 < 3 := ⟨Int.lt_tmod_of_pos k0 (by omega), Int.tmod_lt_of_pos k0 (by omega)⟩
              have hp3 : (p : Int) < 3 := by omega
              obtain ⟨vq, hvq⟩ : ∃ vq, vs3[i]? = some vq := ⟨_, List.getElem?_eq_getElem (by rw [KL.out.own.len]; exact HLT.out)⟩
              have hrow : wr2.ownsRow w.heap.size 3 1 vq t (flat NtE ((css.getD i []).take t)) := by
                have h1 := KL.out.own.row i vq hvq
                have h2 : wfR css i t i = (css.getD i []).take t := by simp [wfR]
                rw [h2] at h1
                unfold Ow at h1
                rwa [List.length_take, HLI.out.2, Nat.min_eq_left (by omega)] at h1
              obtain ⟨Aq, cq, rfl, _, _⟩ := own_slice hrow
              have q1 : wr2.cell? ⟨qb, i, none⟩ = some (.slice Aq t cq) := by
                have h1 : Blk wr2 qb 23 vs3.toArray := KL.out.own.bq
                rw [h1.cell i, List.getElem?_toArray, hvq]
              have q2 : wr2.frozen? ⟨qb, i, none⟩ = false := (show Blk wr2 qb 23 vs3.toArray from KL.out.own.bq).facts.2.1 i
              have q3 : qb < wr2.heap.size := (show Blk wr2 qb 23 vs3.toArray from KL.out.own.bq).lt
              have HPP : Hid (l[t]? = some k0 ∧ p = pickI 3 k0 ∧ (css.getD i [])[t]? = some p ∧ vs3[i]? = some (.slice Aq t cq) ∧ p < 3 ∧ t < m) := Lib.hid ⟨hk0, hp, hpt, hvq, hp2, hlt2⟩
              have HRO := Lib.hid hrow
              clear hk0 hp hpt hvq hrow hlt2 ht hp2
              subst hA2
              go_wp2_with (at_builtin; refine stoppedW ?_)
              refine Lib.hid ?_
              refine wpList_app _ (by rfl) (.tmp 97) (.tmp 99) _ (by rfl) int_elem (.slice Aq t cq) _ (by rfl) (by rfl) (own_upd0 HRO.out ((Upd.refl [] wr2).alloc _)) (.of_blk (Blk.new wr2 _ _) (m := 1) 1 rfl) (by intro u hu; simp at hu; subst hu; rfl) (by have := HM3.out; have := HPP.out.2.2.2.2.2; simp only [maxLen]; omega) (by have := HM3.out; have := HPP.out.2.2.2.2.2; omega) (by have := KL.out.up.size; simp; omega) ?_
              intro v5 w5 o5 u5 b5
              obtain ⟨A5, c5, rfl, _, _⟩ := own_slice o5
              have OO5 : Hid (Ow NtE 3 w5 w.heap.size (.slice A5 (t + 1) c5) ((css.getD i []).take t ++ [p])) := Lib.hid (by
                unfold Ow
                rw [flat_append, List.length_append, List.length_take, HLI.out.2, Nat.min_eq_left (by have := HPP.out.2.2.2.2.2; omega)]
                exact o5)
              have UU5 := Lib.hid u5
              have BB5 := Lib.hid b5
              have ZZ := KL.out.own
              have h5 : Upd (Value.slice Aq t cq).ownBlock.toList wr2 w5 := (((Upd.refl [] wr2).alloc _).mono (by simp)).trans u5
              have nt : ∀ {x : Nat} {t0 : TypeId} {cs : Array Value}, Blk wr2 x t0 cs → t0 ≠ 3 → x ∉ (Value.slice Aq t cq).ownBlock.toList := fun hx ht hm => own_type HRO.out hx ht (by simpa using hm)
              have bq5 : Blk w5 qb 23 vs3.toArray := ZZ.bq.upd h5 (nt ZZ.bq (by decide))
              have bk5 : Blk w5 kb 26 #[.int .u64 3, .int .u64 6, .int .u64 9] := ZZ.bkb.upd h5 (nt ZZ.bkb (by decide))
              have y1 : w5.cell? ⟨qb, i, none⟩ = some (.slice Aq t cq) := by rw [bq5.cell i, List.getElem?_toArray, HPP.out.2.2.2.1]
              have y2 : w5.frozen? ⟨qb, i, none⟩ = false := bq5.facts.2.1 i
              have y3 : qb < w5.heap.size := bq5.lt
              have y4 : w5.cell? ⟨kb, p, none⟩ = some (.int .u64 (clR p)) := by
                rw [bk5.cell p]
                have : p = 0 ∨ p = 1 ∨ p = 2 := by have := HPP.out.2.2.2.2.1; omega
                rcases this with rfl | rfl | rfl <;> rfl
              have y5 : kb < w5.heap.size := bk5.lt
              have y6 : kb ≠ qb := bk5.ne_ bq5 (by decide)
              have y7 : qb ≠ kb := fun e => y6 e.symm
              clear o5 u5 b5 ZZ h5 nt bq5 bk5 hcell2 had2 q1 q2 q3
              go_wp2_with (at_builtin; refine stoppedW ?_)
              refine Lib.hid ?_
              have hu0 : ∀ x, u15.ownBlock = some x → (Value.slice Aq t cq).ownBlock ≠ some x ∧ x ≠ qb := fun x hx => ⟨fun e => (KU.out.2 x hx).2.1 (mem_kb.2 (.inr (.inr (.inr (.inr ⟨i, _, HPP.out.2.2.2.1, e⟩))))), fun e => (KU.out.2 x hx).2.1 (mem_kb.2 (.inr (.inr (.inr (.inl e)))))⟩
              have hu1 : w5.ownsRow w.heap.size 26 1 u15 t (flat RfE ((css.getD i []).take t)) := by
                have h1 := KU.out.1
                unfold Ow at h1
                rw [List.length_take, HLI.out.2, Nat.min_eq_left (by have := HPP.out.2.2.2.2.2; omega)] at h1
                exact own_upd (own_upd0 h1 ((Upd.refl [] wr2).alloc _)) UU5.out (fun x hx hm => (hu0 x hx).1 (by simpa using hm))
              have hu2 : ((w5.setCell ⟨qb, i, none⟩ (.slice A5 (t + 1) c5)).alloc (.cells #[.int .u64 (clR p)] 26)).ownsRow w.heap.size 26 1 u15 t (flat RfE ((css.getD i []).take t)) :=
                own_upd0 (own_upd hu1 ((Upd.refl [qb] w5).setCell (by simp) _) (fun x hx hm => (hu0 x hx).2 (by simpa using hm))) ((Upd.refl [] _).alloc _)
              have hb2 : Blk ((w5.setCell ⟨qb, i, none⟩ (.slice A5 (t + 1) c5)).alloc (.cells #[.int .u64 (clR p)] 26)) w5.heap.size 26 #[.int .u64 (clR p)] := Blk.newAt _ _ (by simp)
              refine wpList_app _ (by rfl) (.tmp 102) (.tmp 107) _ (by rfl) u64_elem u15 _ (by rfl) (by rfl) hu2 (.of_blk hb2 (m := 1) 1 rfl) (by intro u hu; simp at hu; subst hu; rfl) (by have := HM3.out; have := HPP.out.2.2.2.2.2; simp only [maxLen]; omega) (by have := HM3.out; have := HPP.out.2.2.2.2.2; omega) (by have := KL.out.up.size; have := UU5.out.size; simp at this ⊢; omega) ?_
              intro v7 w7 o7 u7 b7
              have NX : Hid (Lo w ⟨rb, kb, tkb, qb⟩ tb db ns nc (vs3.set i (.slice A5 (t + 1) c5)) (wfR css i (t + 1)) 0 sl [] w7 F (BR 3) S ds (tsL css i) (List.replicate i none) ∧ TV w ⟨rb, kb, tkb, qb⟩ (vs3.set i (.slice A5 (t + 1) c5)) w7 F S ds u12 ∧ Ow RfE 26 w7 w.heap.size v7 ((css.getD i []).take (t + 1)) ∧ ∀ x, v7.ownBlock = some x → x ∉ foot F S ds ∧ x ∉ KB ⟨rb, kb, tkb, qb⟩ (vs3.set i (.slice A5 (t + 1) c5)) ∧ u12.ownBlock ≠ some x) := Lib.hid (by
                have o7' : Ow RfE 26 w7 w.heap.size v7 ((css.getD i []).take (t + 1)) := by
                  unfold Ow
                  rw [List.take_add_one, HPP.out.2.2.1]
                  simp only [Option.toList_some]
                  rw [flat_append, List.length_append, List.length_take, HLI.out.2, Nat.min_eq_left (by have := HPP.out.2.2.2.2.2; omega)]
                  exact o7
                obtain ⟨n1, n2, n3⟩ := in_step KL.out KT2.out KU.out.1 KU.out.2 HPP.out.2.2.2.1 UU5.out OO5.out BB5.out u7 o7' b7
                rw [wfR_next HPP.out.2.2.1] at n1
                exact ⟨n1, n2, o7', n3⟩)
              clear o7 u7 b7 hu0 hu1 hu2 hb2 y1 y2 y3 y4 y5 y6 y7
              go_wp2_with fail
              go_round
              case rel => exact ⟨t + 1, _, by simp, by have := HPP.out.2.2.2.2.2; omega, Lib.hid NX.out.1, Lib.hid NX.out.2.1, Lib.hid NX.out.2.2⟩
              case measure => have := HPP.out.2.2.2.2.2; simp [intOf]; omega
            · have hti : ¬ (t : Int) < m := by omega
              have htm : t = m := by omega
              subst htm
              have KL3 : Hid (Lo w ⟨rb, kb, tkb, qb⟩ tb db ns nc vs3 (wfL css (i + 1)) 0 sl [] wr2 F (BR 3) S ds (tsL css i) (List.replicate i none)) := Lib.hid (by
                rw [← wfR_end (t := t) (by rw [HLI.out.2]; exact Nat.le_refl _)]
                exact KL.out)
              have KU3 : Hid (Ow RfE 26 wr2 w.heap.size u15 (css.getD i []) ∧ ∀ x, u15.ownBlock = some x → x ∉ foot F S ds ∧ x ∉ KB ⟨rb, kb, tkb, qb⟩ vs3 ∧ u12.ownBlock ≠ some x) := Lib.hid (by
                have h := KU.out
                rwa [List.take_of_length_le (by rw [HLI.out.2]; exact Nat.le_refl _)] at h)
              have hu3 : wr2.ownsRow w.heap.size 26 1 u15 t (flat RfE (css.getD i [])) := by
                have h1 := KU3.out.1
                unfold Ow at h1
                rwa [HLI.out.2] at h1
              obtain ⟨Al, cpl, rfl, _, _⟩ := own_slice hu3
              have HIN := Lib.hid ht
              clear hlt2 ht KL KU KM KT KM2 hu3
              have f1 : wr2.cell? ⟨rb, 0, none⟩ = some (.int .u64 12) := (show Blk wr2 rb 26 #[.int .u64 12] from KL3.out.own.brb).cell 0
              have f2 : wr2.cell? ⟨tkb, 0, none⟩ = some (.slice (some ⟨tb, 0, none⟩) ns ns) := (show Blk wr2 tkb 23 #[.slice (some ⟨tb, 0, none⟩) ns ns] from KL3.out.own.btk).cell 0
              go_wp2_with fail
              refine wp_forced (by kernel_rfl) (by kernel_rfl) ?_
              simp only [ordered, List.filter_cons, List.filter_nil, isFloat, Option.isNone_none, Option.isNone_some, Bool.true_and, Bool.and_true, Bool.false_and, Bool.and_false, List.all_toArray, List.all_cons, List.all_nil, Region.binds, Bool.not_true, Bool.not_false, if_true, if_false, Bool.false_eq_true, List.cons_append, List.nil_append, ite_true, ite_false]
              repeat (refine wpF_light ?_ (fun K hK => ?_); (· simp only [lightOp]; done); go_simp; refine hK _ ?_; clear hK K; simp only [Act.put, List.setIfInBounds_toArray, List.set_cons_zero, List.set_cons_succ])
              refine wpF_call (by simp only [lightOp]) (by rfl) (fun K hK => ?_)
              go_wp2_with fail
              refine (sleeper_mk Al t cpl tb i wr2.drew).mono ?_
              rintro e w4 ⟨rfl, b1, b2, b3, u1, s1⟩
              have hd : wr2.drew.heap.size = wr2.heap.size := rfl
              rw [hd] at b1 b2 b3 s1
              rw [hd]
              have B4 : Hid (_ ∧ _ ∧ _ ∧ _ ∧ _) := Lib.hid ⟨b1, b2, b3, (Upd.refl [] wr2).drew.trans u1, s1⟩
              clear b1 b2 b3 u1 s1 hd f1 f2
              go_wp2_with fail
              refine hK.out _ _ ?_
              clear hK K
              try simp only [Act.put, List.setIfInBounds_toArray, List.set_cons_zero, List.set_cons_succ]
              refine wpF_call (by simp only [lightOp]) (by rfl) (fun K hK => ?_)
              go_wp2_with fail
              refine (tnew_ok w4 (KL3.out.sys.bs.upd B4.out.2.2.2.1 (by simp)) 31 _).mono ?_
              rintro e w5 ⟨q, rfl, t1, t2, t3, t4⟩
              have T5 : Hid (_ ∧ _ ∧ _ ∧ _) := Lib.hid ⟨t1, t2, t3, t4⟩
              clear t1 t2 t3 t4
              go_wp2_with fail
              refine hK.out _ _ ?_
              clear hK K
              try simp only [Act.put, List.setIfInBounds_toArray, List.set_cons_zero, List.set_cons_succ]
              refine wpF_call (by simp only [lightOp]) (by rfl) (fun K hK => ?_)
              go_wp2_with fail
              refine hK.out _ _ ?_
              clear hK K
              try simp only [Act.put, List.setIfInBounds_toArray, List.set_cons_zero, List.set_cons_succ]
              refine wpF_call (by simp only [lightOp]) (by rfl) (fun K hK => ?_)
              have UT : Hid (Upd [] wr2 w5) := Lib.hid (B4.out.2.2.2.1.trans T5.out.2.1)
              have DL : Hid (ds.length = i ∧ ds.length ≤ 3) := Lib.hid (by have h1 := KL3.out.n1; have := KS.out.len; have := HLT.out; have := HN.out; simp only [List.length_nil] at h1; omega)
              refine wp_app _ (.tmp 110) (.tmp 119) _ (by rfl) thr_elem u12 _ (by rfl) (by rfl) (own_upd0 KT2.out.ts (UT.out.trans ((Upd.refl [] w5).alloc _))) (.of_blk (Blk.new w5 _ _) (m := 1) 1 rfl) (by intro u hu; simp at hu; subst hu; rfl) (by have := DL.out; simp only [maxLen]; omega) (by have := DL.out; omega) (by have := KL3.out.up.size; have := UT.out.size; simp; omega) ?_
              intro v6 w6 o6 u6 b6
              refine hK.out _ _ ?_
              clear hK K
              try simp only [Act.put, List.setIfInBounds_toArray, List.set_cons_zero, List.set_cons_succ]
              have HCI : Hid (css[i]? = some (css.getD i [])) := Lib.hid (by
                rw [List.getD_eq_getElem?_getD, List.getElem?_eq_getElem (by rw [HCN.out.1]; exact HLT.out)]; rfl)
              have NX : Hid (∃ (S' : List Nat) (ds' : List (TD An)) (sl' : List SlD), Lo w ⟨rb, kb, tkb, qb⟩ tb db ns nc vs3 (wfL css (i + 1)) 0 sl' [] w6 F (BR 3) S' ds' (tsL css (i + 1)) (List.replicate (i + 1) none) ∧ TV w ⟨rb, kb, tkb, qb⟩ vs3 w6 F S' ds' v6 ∧ SlC css (i + 1) sl') := Lib.hid (by
                obtain ⟨S', n1, n2⟩ := out_stepS KL3.out KT2.out KU3.out.1 KU3.out.2 (i := i) (g := wr2.heap.size) (by rw [KS.out.len]) (Nat.le_refl _) B4.out.1 B4.out.2.1 B4.out.2.2.1 B4.out.2.2.2.1 B4.out.2.2.2.2 T5.out.1 T5.out.2.1 T5.out.2.2.1 T5.out.2.2.2 u6 o6 b6
                rw [tsL_next HCI.out, ← List.replicate_succ'] at n1
                exact ⟨S', _, _, n1, n2, KS.out.push HCI.out (by rw [HLI.out.2]; exact HM3.out)⟩)
              clear o6 u6 b6
              repeat (refine wpF_light ?_ (fun K hK => ?_); (· simp only [lightOp]; done); go_simp; refine hK _ ?_; clear hK K; simp only [Act.put, List.setIfInBounds_toArray, List.set_cons_zero, List.set_cons_succ])
              refine wpF_end ?_
              go_wp2_with fail
              go_round
              case rel =>
                obtain ⟨S', ds', sl', n1, n2, n3⟩ := NX.out
                exact ⟨i + 1, S', ds', sl', vs3, by simp, by have := HLT.out; omega, Lib.hid n1, Lib.hid n2, Lib.hid n3⟩
              case measure => have := HLT.out; simp [intOf]; omega
      · have hii : ¬ (i : Int) < ns := by omega
        have hin : ns = i := by omega
        subst hin
        clear hi hlt
        have KM3 : Hid (Lo w ⟨rb, kb, tkb, qb⟩ tb db ns nc vs2 (wfL css ns) 0 sl [] wr F (BR 3) S ds (tsC css cl 0) (List.replicate (ns + 0) none)) := Lib.hid (by
          rw [← tsC_0, HCN.out.1]
          exact KM.out)
        clear KM
        go_wp2_with fail
        go_loopw [12, 18, 124] (fun u12 u18 u124 wr => ∃ (j : Nat) (S : List Nat) (ds : List (TD An)) (co : List CoD), u124 = .int .i64 j ∧ j ≤ nc ∧ Hid (Lo w ⟨rb, kb, tkb, qb⟩ tb db ns nc vs2 (wfL css ns) 0 sl co wr F (BR 3) S ds (tsC css cl j) (List.replicate (ns + j) none)) ∧ Hid (TV w ⟨rb, kb, tkb, qb⟩ vs2 wr F S ds u12) ∧ Hid (CoC cl j co)) (fun _ _ u _ => nc - (intOf u).toNat)
        case atStart => exact ⟨0, S, ds, [], rfl, by omega, KM3, KT, Lib.hid ⟨rfl, by simp⟩⟩
        case round =>
          obtain ⟨j, S, ds, co, rfl, hj, KL3, KT2, KC⟩ := hrel
          rename World => wr2
          by_cases hlt : j < nc
          · have hji : (j : Int) < nc := by omega
            obtain ⟨c0, hc0⟩ : ∃ c0, cs[j]? = some c0 := ⟨_, List.getElem?_eq_getElem (by rw [HCS.out]; exact hlt)⟩
            have hcell : ∃ ad, B = some ad ∧ ad.block < wr2.heap.size ∧ wr2.cell? (ad.add j) = some (.int .i64 c0) := by
              obtain ⟨_, A', n', e, h⟩ := HB.out.upd0 KL3.out.up
              injection e with e
              subst e
              exact h j _ (by rw [List.getElem?_map, hc0]; rfl)
            obtain ⟨ad, hA, had, hcell⟩ := hcell
            obtain ⟨hp1, hp2⟩ := pick3 c0
            obtain ⟨p, hp⟩ : ∃ p, p = pickI 3 c0 := ⟨_, rfl⟩
            rw [← hp] at hp1 hp2
            have HPP : Hid (cl[j]? = some p ∧ p < 3 ∧ j < nc) := Lib.hid ⟨by rw [HCL.out, List.getElem?_map, hc0, hp]; rfl, hp2, hlt⟩
            have hkr : -(3 : Int) < c0.tmod 3 ∧ c0.tmod 3 < 3 := ⟨Int.lt_tmod_of_pos c0 (by omega), Int.tmod_lt_of_pos c0 (by omega)⟩
            have hp3 : (p : Int) < 3 := by omega
            have hwr : IntKind.i64.wrap (c0.tmod 3 + 3) = c0.tmod 3 + 3 := by rw [IntKind.wrap_i64]; omega
            have f1 : wr2.cell? ⟨rb, 0, none⟩ = some (.int .u64 12) := (show Blk wr2 rb 26 #[.int .u64 12] from KL3.out.own.brb).cell 0
            have y4 : wr2.cell? ⟨kb, p, none⟩ = some (.int .u64 (clR p)) := by
              have bk5 : Blk wr2 kb 26 #[.int .u64 3, .int .u64 6, .int .u64 9] := KL3.out.own.bkb
              rw [bk5.cell p]
              have : p = 0 ∨ p = 1 ∨ p = 2 := by omega
              rcases this with rfl | rfl | rfl <;> rfl
            clear hj hlt hc0 hp hp2
            subst hA
            go_wp2_with fail
            refine wp_forced (by kernel_rfl) (by kernel_rfl) ?_
            simp only [ordered, List.filter_cons, List.filter_nil, isFloat, Option.isNone_none, Option.isNone_some, Bool.true_and, Bool.and_true, Bool.false_and, Bool.and_false, List.all_toArray, List.all_cons, List.all_nil, Region.binds, Bool.not_true, Bool.not_false, if_true, if_false, Bool.false_eq_true, List.cons_append, List.nil_append, ite_true, ite_false]
            repeat (refine wpF_light ?_ (fun K hK => ?_); (· simp only [lightOp]; done); go_simp; refine hK _ ?_; clear hK K; simp only [Act.put, List.setIfInBounds_toArray, List.set_cons_zero, List.set_cons_succ])
            refine wpF_call (by simp only [lightOp]) (by rfl) (fun K hK => ?_)
            go_wp2_with fail
            refine (committer_mk (clR p) db j wr2.drew).mono ?_
            rintro e w4 ⟨rfl, b1, b2, b3, u1, s1⟩
            have hd : wr2.drew.heap.size = wr2.heap.size := rfl
            rw [hd] at b1 b2 b3 s1
            rw [hd]
            have B4 : Hid (_ ∧ _ ∧ _ ∧ _ ∧ _) := Lib.hid ⟨b1, b2, b3, (Upd.refl [] wr2).drew.trans u1, s1⟩
            clear b1 b2 b3 u1 s1 hd f1 y4 hcell had
            go_wp2_with fail
            refine hK.out _ _ ?_
            clear hK K
            try simp only [Act.put, List.setIfInBounds_toArray, List.set_cons_zero, List.set_cons_succ]
            refine wpF_call (by simp only [lightOp]) (by rfl) (fun K hK => ?_)
            go_wp2_with fail
            refine (tnew_ok w4 (KL3.out.sys.bs.upd B4.out.2.2.2.1 (by simp)) 32 _).mono ?_
            rintro e w5 ⟨q, rfl, t1, t2, t3, t4⟩
            have T5 : Hid (_ ∧ _ ∧ _ ∧ _) := Lib.hid ⟨t1, t2, t3, t4⟩
            clear t1 t2 t3 t4
            go_wp2_with fail
            refine hK.out _ _ ?_
            clear hK K
            try simp only [Act.put, List.setIfInBounds_toArray, List.set_cons_zero, List.set_cons_succ]
            refine wpF_call (by simp only [lightOp]) (by rfl) (fun K hK => ?_)
            go_wp2_with fail
            refine hK.out _ _ ?_
            clear hK K
            try simp only [Act.put, List.setIfInBounds_toArray, List.set_cons_zero, List.set_cons_succ]
            refine wpF_call (by simp only [lightOp]) (by rfl) (fun K hK => ?_)
            have UT : Hid (Upd [] wr2 w5) := Lib.hid (B4.out.2.2.2.1.trans T5.out.2.1)
            have DL : Hid (ds.length = ns + j ∧ ds.length ≤ 6) := Lib.hid (by have h1 := KL3.out.n1; have := KS.out.len; have := KC.out.len; have := HPP.out.2.2; have := HN.out; omega)
            refine wp_app _ (.tmp 127) (.tmp 145) _ (by rfl) thr_elem u12 _ (by rfl) (by rfl) (own_upd0 KT2.out.ts (UT.out.trans ((Upd.refl [] w5).alloc _))) (.of_blk (Blk.new w5 _ _) (m := 1) 1 rfl) (by intro u hu; simp at hu; subst hu; rfl) (by have := DL.out; simp only [maxLen]; omega) (by have := DL.out; omega) (by have := KL3.out.up.size; have := UT.out.size; simp; omega) ?_
            intro v6 w6 o6 u6 b6
            refine hK.out _ _ ?_
            clear hK K
            try simp only [Act.put, List.setIfInBounds_toArray, List.set_cons_zero, List.set_cons_succ]
            have NX : Hid (∃ (S' : List Nat) (ds' : List (TD An)) (co' : List CoD), Lo w ⟨rb, kb, tkb, qb⟩ tb db ns nc vs2 (wfL css ns) 0 sl co' w6 F (BR 3) S' ds' (tsC css cl (j + 1)) (List.replicate (ns + (j + 1)) none) ∧ TV w ⟨rb, kb, tkb, qb⟩ vs2 w6 F S' ds' v6 ∧ CoC cl (j + 1) co') := Lib.hid (by
              obtain ⟨S', n1, n2⟩ := out_stepC KL3.out KS.out.len KT2.out (c := p) (i := j) (g := wr2.heap.size) (by rw [KC.out.len]) (Nat.le_refl _) B4.out.1 B4.out.2.1 B4.out.2.2.1 B4.out.2.2.2.1 B4.out.2.2.2.2 T5.out.1 T5.out.2.1 T5.out.2.2.1 T5.out.2.2.2 u6 o6 b6
              rw [tsC_next HPP.out.1, ← List.replicate_succ'] at n1
              exact ⟨S', _, _, n1, n2, KC.out.push HPP.out.1⟩)
            clear o6 u6 b6
            repeat (refine wpF_light ?_ (fun K hK => ?_); (· simp only [lightOp]; done); go_simp; refine hK _ ?_; clear hK K; simp only [Act.put, List.setIfInBounds_toArray, List.set_cons_zero, List.set_cons_succ])
            refine wpF_end ?_
            go_wp2_with fail
            go_round
            case rel =>
              obtain ⟨S', ds', co', n1, n2, n3⟩ := NX.out
              exact ⟨j + 1, S', ds', co', by simp, by have := HPP.out.2.2; omega, Lib.hid n1, Lib.hid n2, Lib.hid n3⟩
            case measure => have := HPP.out.2.2; simp [intOf]; omega
          · have hji : ¬ (j : Int) < nc := by omega
            have hjn : nc = j := by omega
            subst hjn
            clear hj hlt
            obtain ⟨nn, hnn⟩ : ∃ n, n = ns + nc := ⟨_, rfl⟩
            have HNN : Hid (nn = ns + nc ∧ 1 ≤ nn ∧ nn ≤ 6) := Lib.hid (by have := HN.out; omega)
            have hn6 : (1 : Int) ≤ nn ∧ (nn : Int) ≤ 6 := by have := HNN.out; omega
            have DL : Hid (ds.length = nn) := Lib.hid (by have h1 := KL3.out.n1; have := KS.out.len; have := KC.out.len; omega)
            have HOK : Hid ((∀ l ∈ css, l.length ≤ 3 ∧ ∀ x ∈ l, x < 3) ∧ (∀ x ∈ cl, x < 3) ∧ cl.length ≤ 3) := Lib.hid ⟨css_ok HCSS.out (by rw [HCN.out.1]; exact KS.out), cl_ok HCL.out, by rw [HCN.out.2]; exact HN.out.2.2.1⟩
            obtain ⟨x0, hx0⟩ : ∃ x0 : List (TS An) × BS, x0 = ((lostP css cl).map (fun p => ⟨p, false⟩), B30) := ⟨_, rfl⟩
            have L4 : Hid (Lo w ⟨rb, kb, tkb, qb⟩ tb db ns nc vs2 (wfL css ns) 0 sl co wr2 F x0.2 S ds x0.1 (List.replicate (ns + nc) none)) := Lib.hid (by
              have h := KL3.out
              rw [← HCN.out.2, tsC_end, HCN.out.2, b30_eq] at h
              rw [hx0]
              exact h)
            have X0 : Hid (x0 = ((lostP css cl).map (fun p => ⟨p, false⟩), B30) ∧ LGood css cl x0) := Lib.hid ⟨hx0, by rw [hx0]; exact lost_good HOK.out.2.2 HOK.out.1 HOK.out.2.1⟩
            obtain ⟨gt, ct, rfl⟩ : ∃ g cap, u12 = .slice (some ⟨g, 0, none⟩) nn cap := by
              have h1 := KT2.out.ts
              rw [DL.out] at h1
              obtain ⟨g, cap, _, e, _⟩ := own_form h1 (by have := HNN.out; omega)
              exact ⟨g, cap, e⟩
            have HSC : Hid ((∀ d ∈ sl, d.cells.length ≤ 3 ∧ ∀ x ∈ d.cells, x < 3) ∧ (∀ d ∈ co, d.x < 3) ∧ sl.length = ns ∧ co.length = nc) := Lib.hid ⟨fun d hd => by
              obtain ⟨i, hi⟩ := List.getElem?_of_mem hd
              exact HOK.out.1 _ (List.mem_of_getElem? (KS.out.row i d hi).1), fun d hd => by
              obtain ⟨i, hi⟩ := List.getElem?_of_mem hd
              exact HOK.out.2.1 _ (List.mem_of_getElem? (KC.out.row i d hi)), KS.out.len, KC.out.len⟩
            clear hx0 hnn KL3 KM3 L0 KT DL
            go_wp2_with fail
            go_loopw [20, 150] (fun u20 u150 wr => ∃ (q : Nat) (x : List (TS An) × BS) (F' : BFp) (S : List Nat) (ds : List (TD An)) (rs : List (Option An)), u150 = .int .i64 q ∧ q ≤ np ∧ Hid (Lo w ⟨rb, kb, tkb, qb⟩ tb db ns nc vs2 (wfL css ns) q sl co wr F' x.2 S ds x.1 rs) ∧ Hid (TV w ⟨rb, kb, tkb, qb⟩ vs2 wr F' S ds (.slice (some ⟨gt, 0, none⟩) nn ct)) ∧ Hid (picksT ((ps.map (pickI nn)).drop q) x = picksT (ps.map (pickI nn)) x0 ∧ LGood css cl x ∧ F'.b0 = F.b0)) (fun _ u _ => np - (intOf u).toNat)
            case atStart => exact ⟨0, x0, F, S, ds, _, rfl, by omega, L4, KT2, Lib.hid ⟨rfl, X0.out.2, rfl⟩⟩
            case round =>
              obtain ⟨q, x, F', S', ds', rs', rfl, hq, KP, KT, KX⟩ := hrel
              rename World => wr
              by_cases hlt : q < np
              · have hqi : (q : Int) < np := by omega
                obtain ⟨k, hk⟩ : ∃ k, ps[q]? = some k := ⟨_, List.getElem?_eq_getElem (by rw [HPS.out]; exact hlt)⟩
                obtain ⟨hp1, hp2⟩ := pickI_eq k HNN.out.2.1
                have hcell : ∃ ad, C = some ad ∧ ad.block < wr.heap.size ∧ wr.cell? (ad.add q) = some (.int .i64 k) := by
                  obtain ⟨_, A', n', e, h⟩ := HC.out.upd0 KP.out.up
                  injection e with e
                  subst e
                  exact h q _ (by rw [List.getElem?_map, hk]; rfl)
                obtain ⟨ad, hA, had, hcell⟩ := hcell
                obtain ⟨i, hi⟩ : ∃ i, i = pickI nn k := ⟨_, rfl⟩
                rw [← hi] at hp1 hp2
                have hdl : ds'.length = nn := by have h1 := KP.out.n1; have := HSC.out.2.2; have := HNN.out; omega
                obtain ⟨d, hd⟩ : ∃ d, ds'[i]? = some d := ⟨_, List.getElem?_eq_getElem (by rw [hdl]; exact hp2)⟩
                have hts : wr.ownsRow w.heap.size 32 1 (.slice (some ⟨gt, 0, none⟩) nn ct) nn (ds'.map fun d => ptrV d.tb) := by have := KT.out.ts; rwa [hdl] at this
                have htc : wr.cell? ⟨gt, i, none⟩ = some (.pointer (some ⟨d.tb, 0, none⟩)) := own_cell hts i _ (by rw [List.getElem?_map, hd]; rfl)
                have htl : gt < wr.heap.size := (own_lt hts (b := gt) rfl).2
                have hii : (i : Int) < nn := by omega
                have hkr : -(nn : Int) < k.tmod nn ∧ k.tmod nn < nn := ⟨Int.lt_tmod_of_pos k (by omega), Int.tmod_lt_of_pos k (by omega)⟩
                have HKK : Hid (ps[q]? = some k ∧ i = pickI nn k ∧ ds'[i]? = some d ∧ q < np) := Lib.hid ⟨hk, hi, hd, hlt⟩
                clear hk hi hd hq hlt hp2 hdl hts
                subst hA
                go_wp2_with fail
                refine (sstep_ok (m15_ok sl co ns nc tb db) (lost_go HOK.out.2.2) wr KP.out.sys i d HKK.out.2.2.1 (KP.out.body HSC.out.2.2.1 HSC.out.2.2.2 HSC.out.1 HSC.out.2.1 HKK.out.2.2.1) KX.out.2.1 (by
                  have := KP.out.len d (List.mem_of_getElem? HKK.out.2.2.1)
                  have := HN.out.2.2.2
                  have := HKK.out.2.2.2
                  omega)).mono ?_
                rintro e w3 ⟨rfl, F2, S2, ds2, rs2, g1, g2, g3⟩
                have P2 : Hid (Lo w ⟨rb, kb, tkb, qb⟩ tb db ns nc vs2 (wfL css ns) (q + 1) sl co w3 F2 (sysStep x.1 x.2 i).2 S2 ds2 (sysStep x.1 x.2 i).1 rs2) := Lib.hid (KP.out.next g1 g2 g3)
                have T2 := Lib.hid (KT.out.next g2)
                have X2 : Hid (picksT ((ps.map (pickI nn)).drop (q + 1)) (sysStep x.1 x.2 i) = picksT (ps.map (pickI nn)) x0 ∧ LGood css cl (sysStep x.1 x.2 i) ∧ F2.b0 = F.b0) := Lib.hid ⟨by
                  rw [← KX.out.1, drop_at (l := ps.map (pickI nn)) (j := q) (x := i) (by rw [List.getElem?_map, HKK.out.1, HKK.out.2.1]; rfl)]
                  rfl, (lost_go HOK.out.2.2).step _ _ KX.out.2.1, g2.b0.trans KX.out.2.2⟩
                clear g1 g2 g3
                go_wp2_with fail
                go_round
                case rel => exact ⟨q + 1, _, F2, S2, ds2, rs2, by simp, by have := HKK.out.2.2.2; omega, P2, T2, X2⟩
                case measure => have := HKK.out.2.2.2; simp [intOf]; omega
              · have hqi : ¬ ((q : Int) < np) := by omega
                have hqn : np = q := by omega
                subst hqn
                have X1 : Hid (x = picksT (ps.map (pickI nn)) x0 ∧ LGood css cl x ∧ F'.b0 = F.b0) := Lib.hid ⟨by
                  have := KX.out.1
                  rw [List.drop_of_length_le (by rw [List.length_map, HPS.out]; exact Nat.le_refl _)] at this
                  exact this, KX.out.2⟩
                clear hq hlt KX L4 KT2
                obtain ⟨as_, m0, v0, m1, v1, m2, v2, r, hw, hal, hr3, hok⟩ := lost_whole HOK.out.2.2 HOK.out.1 HOK.out.2.1 (ps.map (pickI nn))
                have HW := Lib.hid hw
                have HAL : Hid (as_.length = css.length + cl.length ∧ as_.length = nn ∧ r ≤ 3) := Lib.hid ⟨hal, by have := HCN.out; have := HNN.out; omega, hr3⟩
                have HLO := Lib.hid hok
                clear hw hal hr3 hok
                go_wp2_with fail
                go_loopw [22, 171] (fun u22 u171 wr => ∃ (k : Nat) (x : List (TS An) × BS) (F' : BFp) (S : List Nat) (ds : List (TD An)) (rs : List (Option An)), u171 = .int .i64 k ∧ k ≤ nn ∧ Hid (Lo w ⟨rb, kb, tkb, qb⟩ tb db ns nc vs2 (wfL css ns) (np + 500 * k) sl co wr F' x.2 S ds x.1 rs) ∧ Hid (TV w ⟨rb, kb, tkb, qb⟩ vs2 wr F' S ds (.slice (some ⟨gt, 0, none⟩) nn ct)) ∧ Hid (endsT 500 ((List.range nn).drop k) x = (as_.map (fun a => (⟨.ret a, true⟩ : TS An)), RB3 m0 v0 m1 v1 m2 v2 r) ∧ LGood css cl x ∧ F'.b0 = F.b0)) (fun _ u _ => nn - (intOf u).toNat)
                case atStart =>
                  refine ⟨0, x, F', S', ds', rs', rfl, by omega, KP, KT, Lib.hid ⟨?_, X1.out.2⟩⟩
                  rw [← HW.out, X1.out.1, X0.out.1]
                  unfold wholeT
                  rw [List.drop_zero, show (lostP css cl).length = nn by have := HAL.out; simp [lostP]; omega]
                case round =>
                  obtain ⟨k, x, F', S', ds', rs', rfl, hk, KP, KT, KX⟩ := hrel
                  rename World => wr
                  by_cases hlt : k < nn
                  · have hki : (k : Int) < nn := by omega
                    have hdl : ds'.length = nn := by have h1 := KP.out.n1; have := HSC.out.2.2; have := HNN.out; omega
                    obtain ⟨d, hd⟩ : ∃ d, ds'[k]? = some d := ⟨_, List.getElem?_eq_getElem (by rw [hdl]; exact hlt)⟩
                    have hts : wr.ownsRow w.heap.size 32 1 (.slice (some ⟨gt, 0, none⟩) nn ct) nn (ds'.map fun d => ptrV d.tb) := by have := KT.out.ts; rwa [hdl] at this
                    have htc : wr.cell? ⟨gt, k, none⟩ = some (.pointer (some ⟨d.tb, 0, none⟩)) := own_cell hts k _ (by rw [List.getElem?_map, hd]; rfl)
                    have htl : gt < wr.heap.size := (own_lt hts (b := gt) rfl).2
                    have HKK : Hid (ds'[k]? = some d ∧ k < nn) := Lib.hid ⟨hd, hlt⟩
                    clear hd hk hlt hdl hts
                    go_wp2_with fail
                    refine (srun_ok (m15_ok sl co ns nc tb db) (lost_go HOK.out.2.2) wr KP.out.sys k 500 d HKK.out.1 (KP.out.body HSC.out.2.2.1 HSC.out.2.2.2 HSC.out.1 HSC.out.2.1 HKK.out.1) KX.out.2.1 (by
                      have := KP.out.len d (List.mem_of_getElem? HKK.out.1)
                      have := HN.out.2.2.2
                      have := HKK.out.2
                      have := HNN.out
                      omega)).mono ?_
                    rintro e w3 ⟨rfl, ⟨F2, S2, ds2, rs2, g1, g2, g3⟩, g4⟩
                    have P2b : Lo w ⟨rb, kb, tkb, qb⟩ tb db ns nc vs2 (wfL css ns) (np + 500 * k + 500) sl co w3 F2 (sysRun 500 x.1 x.2 k).2 S2 ds2 (sysRun 500 x.1 x.2 k).1 rs2 := KP.out.next g1 g2 g3
                    have P2 : Hid (Lo w ⟨rb, kb, tkb, qb⟩ tb db ns nc vs2 (wfL css ns) (np + 500 * (k + 1)) sl co w3 F2 (sysRun 500 x.1 x.2 k).2 S2 ds2 (sysRun 500 x.1 x.2 k).1 rs2) := Lib.hid P2b
                    have T2 := Lib.hid (KT.out.next g2)
                    have EX : endsT 500 ((List.range nn).drop (k + 1)) (sysRun 500 x.1 x.2 k) = (as_.map (fun a => (⟨.ret a, true⟩ : TS An)), RB3 m0 v0 m1 v1 m2 v2 r) := by
                      rw [← KX.out.1, drop_at (l := List.range nn) (j := k) (x := k) (by rw [List.getElem?_range HKK.out.2])]
                      rfl
                    have hkd2 : k < ds2.length := by rw [g2.len]; exact (List.getElem?_eq_some_iff.1 HKK.out.1).1
                    have hkt2 : k < (sysRun 500 x.1 x.2 k).1.length := by rw [← g1.n1]; exact hkd2
                    obtain ⟨a, hta⟩ : ∃ a : An, (sysRun 500 x.1 x.2 k).1[k]? = some ⟨.ret a, true⟩ := by
                      have h1 : (endsT 500 ((List.range nn).drop (k + 1)) (sysRun 500 x.1 x.2 k)).1[k]? = (sysRun 500 x.1 x.2 k).1[k]? := ends_far _ _ _ _ (by
                        intro hm
                        have h3 : k ∈ (List.range nn).take (k + 1) := List.mem_take_iff_getElem.2 ⟨k, by simp; have := HKK.out.2; omega, by simp⟩
                        have h4 : (List.range nn).Nodup := List.nodup_range
                        rw [← List.take_append_drop (k + 1) (List.range nn)] at h4
                        exact (List.nodup_append.1 h4).2.2 k h3 k hm rfl)
                      rw [EX] at h1
                      refine ⟨as_[k]'(by rw [HAL.out.2.1]; exact HKK.out.2), ?_⟩
                      rw [← h1]
                      simp only [List.getElem?_map, List.getElem?_eq_getElem (show k < as_.length by rw [HAL.out.2.1]; exact HKK.out.2), Option.map_some]
                    obtain ⟨d2, hd2⟩ : ∃ d2, ds2[k]? = some d2 := ⟨_, List.getElem?_eq_getElem hkd2⟩
                    have tst := g1.st k _ _ hd2 hta
                    rw [(g2.same k d _ HKK.out.1 hd2).1] at tst
                    have TST := Lib.hid tst
                    have X2 : Hid (endsT 500 ((List.range nn).drop (k + 1)) (sysRun 500 x.1 x.2 k) = (as_.map (fun a => (⟨.ret a, true⟩ : TS An)), RB3 m0 v0 m1 v1 m2 v2 r) ∧ LGood css cl (sysRun 500 x.1 x.2 k) ∧ F2.b0 = F.b0) := Lib.hid ⟨EX, g4, g2.b0.trans KX.out.2.2⟩
                    clear g1 g2 g3 g4 P2b EX hkd2 hkt2 hta hd2 tst htc htl
                    go_wp2_with fail
                    refine (no_nil _).mono ?_; rintro e w' ⟨rfl, rfl⟩
                    go_wp2_with fail
                    refine (tdone_ok _ TST.out).mono ?_; rintro e w' ⟨rfl, rfl⟩
                    go_wp2_with fail
                    go_round
                    case rel => exact ⟨k + 1, _, F2, S2, ds2, rs2, by simp, by have := HKK.out.2; omega, P2, T2, X2⟩
                    case measure => have := HKK.out.2; simp [intOf]; omega
                  · have hki : ¬ ((k : Int) < nn) := by omega
                    have hkn : nn = k := by omega
                    subst hkn
                    have EX : x = (as_.map (fun a => (⟨.ret a, true⟩ : TS An)), RB3 m0 v0 m1 v1 m2 v2 r) := by
                      have := KX.out.1
                      rw [List.drop_of_length_le (by simp)] at this
                      exact this
                    have FB := KX.out.2.2
                    have KP2 := KP.out
                    rw [EX] at KP2
                    obtain ⟨tv, dv, ht1, hd1, ht2, hd2, he5⟩ := KP2.fin rfl (by rw [HAL.out.2.1, HNN.out.1])
                    have HF : Hid (tv.length = ns ∧ dv.length = nc ∧ (∀ (i : Nat) a, i < ns → as_[i]? = some a → tv[i]? = some a.n) ∧ (∀ (j : Nat) a, as_[ns + j]? = some a → dv[j]? = some (a.n == 1))) := Lib.hid ⟨ht1, hd1, ht2, hd2⟩
                    have E0 : Hid (E5 w ⟨rb, kb, tkb, qb⟩ tb db ns nc vs2 (wfL css ns) tv dv (RB3 m0 v0 m1 v1 m2 v2 r) wr F') := Lib.hid he5
                    have FB0 := Lib.hid FB
                    clear hk hlt EX KP2 ht1 hd1 ht2 hd2 he5 KP KT KX X1 FB
                    go_wp2_with fail
                    go_loopw [23, 24, 187] (fun u23 u24 u187 wr2 => ∃ (j : Nat) (any : Bool), u23 = .bool any ∧ u187 = .int .i64 j ∧ j ≤ nc ∧ wr2 = wr ∧ Hid (any = true ↔ ∃ i : Nat, i < j ∧ dv[i]? = some true)) (fun _ _ u _ => nc - (intOf u).toNat)
                    case atStart => exact ⟨0, false, rfl, rfl, by omega, rfl, Lib.hid (by simp)⟩
                    case round =>
                      obtain ⟨j, any, rfl, rfl, hj, rfl, KA⟩ := hrel
                      by_cases hlt : j < nc
                      · have hji : (j : Int) < nc := by omega
                        obtain ⟨bv, hbv⟩ : ∃ bv, dv[j]? = some bv := ⟨_, List.getElem?_eq_getElem (by rw [HF.out.2.1]; exact hlt)⟩
                        have f1 : wr.cell? ⟨db, j, none⟩ = some (.bool bv) := by
                          rw [E0.out.bdb.cell j, List.getElem?_toArray, List.getElem?_map, hbv]; rfl
                        have f2 : db < wr.heap.size := E0.out.bdb.lt
                        have HJ : Hid (j < nc ∧ dv[j]? = some bv) := Lib.hid ⟨hlt, hbv⟩
                        clear hj hlt hbv
                        cases any with
                        | true =>
                          go_wp2_with fail
                          go_round
                          case rel =>
                            refine ⟨j + 1, true, rfl, by simp, by have := HJ.out.1; omega, by trivial, Lib.hid ⟨fun _ => ?_, fun _ => rfl⟩⟩
                            obtain ⟨i, h1, h2⟩ := KA.out.1 rfl
                            exact ⟨i, by omega, h2⟩
                          case measure => have := HJ.out.1; simp [intOf]; omega
                        | false =>
                          go_wp2_with fail
                          go_round
                          case rel =>
                            refine ⟨j + 1, bv, rfl, by simp, by have := HJ.out.1; omega, by trivial, Lib.hid ⟨fun h => ⟨j, by omega, by rw [HJ.out.2, h]⟩, fun ⟨i, h1, h2⟩ => ?_⟩⟩
                            by_cases e : i = j
                            · rw [e, HJ.out.2] at h2; injection h2
                            · exact absurd (KA.out.2 ⟨i, by omega, h2⟩) (by simp)
                          case measure => have := HJ.out.1; simp [intOf]; omega
                      · have hji : ¬ ((j : Int) < nc) := by omega
                        have hjn : nc = j := by omega
                        subst hjn
                        have HANY : Hid (any = true ↔ ∃ i : Nat, dv[i]? = some true) := Lib.hid ⟨fun h => by
                          obtain ⟨i, _, h2⟩ := KA.out.1 h
                          exact ⟨i, h2⟩, fun ⟨i, h2⟩ => KA.out.2 ⟨i, by have := (List.getElem?_eq_some_iff.1 h2).1; rw [HF.out.2.1] at this; exact this, h2⟩⟩
                        clear hj hlt KA
                        go_wp2_with fail
                        go_loopw [25, 26, 27, 28, 29, 31, 200] (fun u25 u26 u27 u28 u29 u31 u200 wr => ∃ (i : Nat) (F' : BFp), u200 = .int .i64 i ∧ i ≤ ns ∧ Hid (E5 w ⟨rb, kb, tkb, qb⟩ tb db ns nc vs2 (wfL css ns) tv dv (RB3 m0 v0 m1 v1 m2 v2 r) wr F') ∧ Hid (F'.b0 = F.b0)) (fun _ _ _ _ _ _ u _ => ns - (intOf u).toNat)
                        case atStart => exact ⟨0, F', rfl, by omega, E0, FB0⟩
                        case round =>
                          obtain ⟨i, F1, rfl, hi, E1, FB1⟩ := hrel
                          rename World => w3
                          by_cases hlt : i < ns
                          · have hii : (i : Int) < ns := by omega
                            obtain ⟨t, ht⟩ : ∃ t, tv[i]? = some t := ⟨_, List.getElem?_eq_getElem (by rw [HF.out.1]; exact hlt)⟩
                            obtain ⟨a, ha⟩ : ∃ a, as_[i]? = some a := ⟨_, List.getElem?_eq_getElem (by have := HAL.out; have := HNN.out; omega)⟩
                            have hta : t = a.n := by
                              have := HF.out.2.2.1 i a hlt ha
                              rw [ht] at this
                              injection this
                            have f1 : w3.cell? ⟨tkb, 0, none⟩ = some (.slice (some ⟨tb, 0, none⟩) ns ns) := (show Blk w3 tkb 23 #[.slice (some ⟨tb, 0, none⟩) ns ns] from E1.out.own.btk).cell 0
                            have f2 : tkb < w3.heap.size := (show Blk w3 tkb 23 #[.slice (some ⟨tb, 0, none⟩) ns ns] from E1.out.own.btk).lt
                            have f3 : w3.cell? ⟨tb, i, none⟩ = some (.int .i64 t) := by
                              rw [E1.out.btb.cell i, List.getElem?_toArray, List.getElem?_map, ht]; rfl
                            have f4 : tb < w3.heap.size := E1.out.btb.lt
                            have HII : Hid (i < ns ∧ tv[i]? = some t ∧ as_[i]? = some a ∧ t = a.n) := Lib.hid ⟨hlt, ht, ha, hta⟩
                            clear hi hlt ht ha hta
                            by_cases hneg : t < 0
                            · have hany : any = true := HANY.out.2 (lost_no HLO.out (by rw [HCN.out.1]; exact HF.out.2.2.2) (by rw [HCN.out.1]; exact HII.out.1) HII.out.2.2.1 (by rw [← HII.out.2.2.2]; exact hneg))
                              subst hany
                              go_wp2_with fail
                              go_round
                              case rel => exact ⟨i + 1, F1, by simp, by have := HII.out.1; omega, Lib.hid (E1.out.upd0 ((Upd.refl _ _).alloc _)), FB1⟩
                              case measure => have := HII.out.1; simp [intOf]; omega
                            · have HLY := Lib.hid (lost_yes HLO.out HAL.out.1 (by rw [HF.out.2.1, HCN.out.2]) (by rw [HCN.out.1]; exact HF.out.2.2.2) (by rw [HCN.out.1]; exact HII.out.1) HII.out.2.2.1 (by rw [← HII.out.2.2.2]; exact hneg))
                              go_wp2_with fail
                              have hc := ask_alone E1.out HAL.out.2.2 HF.out.1 HII.out.1 HN.out.2.1 HII.out.2.1
                              rw [FB1.out] at hc
                              refine hc.mono ?_
                              clear hc f1 f2 f3 f4
                              rintro e w4 ⟨rfl, F2, n1, n2, n3, n4⟩
                              have E2 := Lib.hid n1
                              have FB2 := Lib.hid n2
                              obtain ⟨ib, hib⟩ : ∃ x, x = w3.heap.size := ⟨_, rfl⟩
                              obtain ⟨ab, hab⟩ : ∃ x, x = w3.heap.size + 1 := ⟨_, rfl⟩
                              rw [← hib] at n3
                              rw [← hab] at n4
                              rw [← hab, ← hib]
                              have N3 := Lib.hid n3
                              have N4 := Lib.hid n4
                              obtain ⟨aw, haw⟩ : ∃ aw, aw = decide ((r : Int) ≠ t) := ⟨_, rfl⟩
                              have HAW : Hid (aw = true ↔ (r : Int) ≠ t) := Lib.hid (by rw [haw]; simp)
                              rw [← haw] at N4
                              clear n1 n2 n3 n4 hib hab haw
                              go_wp2_with fail
                              obtain ⟨vq, hvq⟩ : ∃ vq, vs2[i]? = some vq := ⟨_, List.getElem?_eq_getElem (by rw [E2.out.own.len]; exact HII.out.1)⟩
                              obtain ⟨row, hrow0⟩ : ∃ row, row = css.getD i [] := ⟨_, rfl⟩
                              have HRW : Hid (row = css.getD i [] ∧ row.length ≤ 3) := Lib.hid ⟨hrow0, by
                                rw [hrow0, List.getD_eq_getElem?_getD, List.getElem?_eq_getElem (by rw [HCN.out.1]; exact HII.out.1)]
                                exact (HOK.out.1 _ (List.getElem_mem _)).1⟩
                              obtain ⟨m, hm⟩ : ∃ m, m = row.length := ⟨_, rfl⟩
                              have hown : w4.ownsRow w.heap.size 3 1 vq m (flat NtE row) := by
                                have h1 := E2.out.own.row i vq hvq
                                have h2 : wfL css ns i = row := by rw [hrow0]; unfold wfL; rw [if_pos HII.out.1]
                                rw [h2] at h1
                                unfold Ow at h1
                                rwa [← hm] at h1
                              obtain ⟨Aq, cq, rfl, _, _⟩ := own_slice hown
                              have HOW := Lib.hid hown
                              have HM : Hid (m = row.length ∧ m ≤ 3) := Lib.hid ⟨hm, by rw [hm]; exact HRW.out.2⟩
                              have f5 : w4.cell? ⟨qb, i, none⟩ = some (.slice Aq m cq) := by
                                have h1 : Blk w4 qb 23 vs2.toArray := E2.out.own.bq
                                rw [h1.cell i, List.getElem?_toArray, hvq]
                              have f6 : w4.cell? ⟨ib, 0, none⟩ = some (.int .i64 i) := N3.out.cell 0
                              have f7 : w4.cell? ⟨ab, 0, none⟩ = some (.bool aw) := N4.out.cell 0
                              have hm33 : (m : Int) ≤ 3 := by have := HM.out; omega
                              clear hvq hrow0 hm hown
                              go_loopw [28, 29, 31, 215] (fun u28 u29 u31 u215 wr => ∃ (k : Nat) (hit : Bool), u28 = .bool hit ∧ u215 = .int .i64 k ∧ k ≤ nc ∧ wr = w4 ∧ Hid (hit = true ↔ ∃ j : Nat, j < k ∧ dv[j]? = some true ∧ cl.getD j 0 ∈ row)) (fun _ _ _ u _ => nc - (intOf u).toNat)
                              case atStart => exact ⟨0, false, rfl, rfl, by omega, rfl, Lib.hid (by simp)⟩
                              case round =>
                                obtain ⟨k, hit, rfl, rfl, hk, rfl, KH⟩ := hrel
                                by_cases hlt : k < nc
                                · have hki : (k : Int) < nc := by omega
                                  have HKN := Lib.hid hlt
                                  clear hk hlt
                                  go_wp2_with fail
                                  obtain ⟨dk, hdk⟩ : ∃ dk, dv[k]? = some dk := ⟨_, List.getElem?_eq_getElem (by rw [HF.out.2.1]; exact HKN.out)⟩
                                  obtain ⟨c0, hc0⟩ : ∃ c0, cs[k]? = some c0 := ⟨_, List.getElem?_eq_getElem (by rw [HCS.out]; exact HKN.out)⟩
                                  have hcell : ∃ ad, B = some ad ∧ ad.block < wr.heap.size ∧ wr.cell? (ad.add k) = some (.int .i64 c0) := by
                                    obtain ⟨_, A', n', e, h⟩ := HB.out.upd0 E2.out.up
                                    injection e with e
                                    subst e
                                    exact h k _ (by rw [List.getElem?_map, hc0]; rfl)
                                  obtain ⟨ad, hA, had, hcell⟩ := hcell
                                  obtain ⟨hp1, hp2⟩ := pick3 c0
                                  obtain ⟨p, hp⟩ : ∃ p, p = pickI 3 c0 := ⟨_, rfl⟩
                                  rw [← hp] at hp1 hp2
                                  have hkr : -(3 : Int) < c0.tmod 3 ∧ c0.tmod 3 < 3 := ⟨Int.lt_tmod_of_pos c0 (by omega), Int.tmod_lt_of_pos c0 (by omega)⟩
                                  have HCK : Hid (cl.getD k 0 = p ∧ dv[k]? = some dk) := Lib.hid ⟨by rw [List.getD_eq_getElem?_getD, HCL.out, List.getElem?_map, hc0, hp]; rfl, hdk⟩
                                  have f8 : wr.cell? ⟨db, k, none⟩ = some (.bool dk) := by
                                    rw [E2.out.bdb.cell k, List.getElem?_toArray, List.getElem?_map, hdk]; rfl
                                  have f9 : db < wr.heap.size := E2.out.bdb.lt
                                  have HB2 : Hid (Src w 1 (.slice B nc k1) nc (cs.map (Value.int .i64))) := HB
                                  clear hdk hc0 hp
                                  subst hA
                                  go_loopw [28, 31, 223] (fun u28 u31 u223 wr3 => ∃ (t9 : Nat) (hit : Bool), u28 = .bool hit ∧ u223 = .int .i64 t9 ∧ t9 ≤ m ∧ wr3 = wr ∧ Hid (hit = true ↔ (∃ j : Nat, j < k ∧ dv[j]? = some true ∧ cl.getD j 0 ∈ row) ∨ (dv[k]? = some true ∧ cl.getD k 0 ∈ row.take t9))) (fun _ _ u _ => m - (intOf u).toNat)
                                  case atStart => exact ⟨0, hit, rfl, rfl, by omega, rfl, Lib.hid (by rw [KH.out]; simp)⟩
                                  case round =>
                                    obtain ⟨t9, hit, rfl, rfl, ht9, rfl, KH⟩ := hrel
                                    by_cases hlt : t9 < m
                                    · have hti : (t9 : Int) < m := by omega
                                      obtain ⟨x, hx⟩ : ∃ x, row[t9]? = some x := ⟨_, List.getElem?_eq_getElem (by rw [← HM.out.1]; exact hlt)⟩
                                      obtain ⟨g, cp', _, hv, _⟩ := own_form HOW.out (by omega)
                                      injection hv with hv1 hv2 hv3
                                      subst hv1
                                      have c1 : wr.cell? ⟨g, t9, none⟩ = some (.int .i64 x) := by
                                        have := own_cell HOW.out t9 (.int .i64 x) (by
                                          rw [flat_nt, List.getElem?_map, hx]; rfl)
                                        exact this
                                      have gal : g < wr.heap.size := (own_lt HOW.out (b := g) rfl).2
                                      have HT : Hid (t9 < m ∧ row[t9]? = some x) := Lib.hid ⟨hlt, hx⟩
                                      clear hlt hx ht9 hv2 hv3
                                      have KEY : ∀ h2 : Bool, (h2 = true ↔ hit = true ∨ (dk = true ∧ x = p)) → Hid (h2 = true ↔ (∃ j : Nat, j < k ∧ dv[j]? = some true ∧ cl.getD j 0 ∈ row) ∨ (dv[k]? = some true ∧ cl.getD k 0 ∈ row.take (t9 + 1))) := fun h2 e => Lib.hid (by
                                        rw [e, KH.out, HCK.out.1, HCK.out.2, List.take_add_one, HT.out.2]
                                        simp only [Option.toList_some, List.mem_append, List.mem_singleton, Option.some.injEq]
                                        constructor
                                        · rintro ((h | ⟨h, h'⟩) | ⟨h, rfl⟩)
                                          · exact .inl h
                                          · exact .inr ⟨h, .inl h'⟩
                                          · exact .inr ⟨h, .inr rfl⟩
                                        · rintro (h | ⟨h, h' | h'⟩)
                                          · exact .inl (.inl h)
                                          · exact .inl (.inr ⟨h, h'⟩)
                                          · exact .inr ⟨h, h'.symm⟩)
                                      cases hit with
                                      | true =>
                                        go_wp2_with fail
                                        go_round
                                        case rel => exact ⟨t9 + 1, true, rfl, by simp, by have := HT.out.1; omega, by trivial, KEY true (by simp)⟩
                                        case measure => have := HT.out.1; simp [intOf]; omega
                                      | false =>
                                        cases dk with
                                        | false =>
                                          go_wp2_with fail
                                          go_round
                                          case rel => exact ⟨t9 + 1, false, rfl, by simp, by have := HT.out.1; omega, by trivial, KEY false (by simp)⟩
                                          case measure => have := HT.out.1; simp [intOf]; omega
                                        | true =>
                                          by_cases hxp : x = p
                                          · have hxi : (x : Int) = p := by omega
                                            have HXP := Lib.hid hxp
                                            clear hxp
                                            go_wp2_with fail
                                            go_round
                                            case rel => exact ⟨t9 + 1, true, rfl, by simp, by have := HT.out.1; omega, by trivial, KEY true (by simp [HXP.out])⟩
                                            case measure => have := HT.out.1; simp [intOf]; omega
                                          · have hxi : ¬ (x : Int) = p := by omega
                                            have HXP := Lib.hid hxp
                                            clear hxp
                                            go_wp2_with fail
                                            go_round
                                            case rel => exact ⟨t9 + 1, false, by simp [hxi], by simp, by have := HT.out.1; omega, by trivial, KEY false (by simp [HXP.out])⟩
                                            case measure => have := HT.out.1; simp [intOf]; omega
                                    · have hti : ¬ (t9 : Int) < m := by omega
                                      have htm : m = t9 := by omega
                                      have KH2 : Hid (hit = true ↔ ∃ j : Nat, j < k + 1 ∧ dv[j]? = some true ∧ cl.getD j 0 ∈ row) := Lib.hid (by
                                        rw [KH.out, List.take_of_length_le (by rw [← HM.out.1, htm]; exact Nat.le_refl _)]
                                        constructor
                                        · rintro (⟨j, h1, h2⟩ | h)
                                          · exact ⟨j, by omega, h2⟩
                                          · exact ⟨k, by omega, h⟩
                                        · rintro ⟨j, h1, h2⟩
                                          by_cases e : j = k
                                          · subst e; exact .inr h2
                                          · exact .inl ⟨j, by omega, h2⟩)
                                      clear ht9 hlt htm KH
                                      go_wp2_with fail
                                      go_round
                                      case rel => exact ⟨k + 1, hit, rfl, by simp, by have := HKN.out; omega, by trivial, KH2⟩
                                      case measure => have := HKN.out; simp [intOf]; omega
                                · have hki : ¬ (k : Int) < nc := by omega
                                  have hkn : nc = k := by omega
                                  subst hkn
                                  have HHIT : Hid (hit = true ↔ ∃ j : Nat, dv[j]? = some true ∧ cl.getD j 0 ∈ css.getD i []) := Lib.hid (by
                                    rw [KH.out, HRW.out.1]
                                    exact ⟨fun ⟨j, _, h⟩ => ⟨j, h⟩, fun ⟨j, h⟩ => ⟨j, by have := (List.getElem?_eq_some_iff.1 h.1).1; rw [HF.out.2.1] at this; exact this, h⟩⟩)
                                  have c1 : hit = true → aw = true := fun h => HAW.out.2 (by
                                    rw [HII.out.2.2.2]
                                    exact HLY.out.1 (HHIT.out.1 h))
                                  have c2 : any = false → aw = false := fun h => by
                                    have h1 : (r : Int) = t := by
                                      rw [HII.out.2.2.2]
                                      exact HLY.out.2 fun he => by rw [HANY.out.2 he] at h; cases h
                                    cases ha : aw with
                                    | false => rfl
                                    | true => exact absurd h1 (HAW.out.1 ha)
                                  have HC12 := Lib.hid (And.intro c1 c2)
                                  clear hk hlt KH c1 c2
                                  cases hit <;> cases aw <;> cases any
                                  all_goals first
                                    | (exfalso; have h := HC12.out.1 rfl; contradiction)
                                    | (exfalso; have h := HC12.out.2 rfl; contradiction)
                                    | (go_wp2_with fail
                                       go_round
                                       case rel => exact ⟨i + 1, F2, by simp, by have := HII.out.1; omega, E2, FB2⟩
                                       case measure => have := HII.out.1; simp [intOf]; omega)
                          · have hii : ¬ (i : Int) < ns := by omega
                            go_wp2_with fail
                            refine (alive15_ok w3).mono ?_
                            rintro e w4 ⟨rfl, u4⟩
                            have U4 := Lib.hid (E1.out.up.trans u4)
                            clear u4
                            go_wp2_with fail
                            go_ret
                            exact ⟨rfl, U4.out⟩
theorem law_lostF (A : Option Addr) (ns k0 : Nat) (vs : List Value) (L : List (List Int)) (B : Option Addr) (nc k1 : Nat) (cs : List Int) (C : Option Addr) (np k2 : Nat) (ps : List Int) (w : World)
    (hA : Src w 1 (.slice A ns k0) ns vs) (hL : L.length = ns) (hR : ∀ (i : Nat) v l, vs[i]? = some v → L[i]? = some l → Src w 1 v l.length (l.map (Value.int .i64)) ∧ l.length ≤ 9223372036854775807) (hm0 : L.length ≤ 9223372036854775807) (hB : Src w 1 (.slice B nc k1) nc (cs.map (Value.int .i64))) (hcs : cs.length = nc) (hm1 : cs.length ≤ 9223372036854775807) (hC : Src w 1 (.slice C np k2) np (ps.map (Value.int .i64))) (hps : ps.length = np) (hm2 : ps.length ≤ 9223372036854775807) :
    Calls Tryz.prog 3 #[.slice A ns k0, .slice B nc k1, .slice C np k2] w fun e w' => e = .returned (.bool true) ∧ Upd [] w w' :=
  law_lost A ns k0 vs L B nc k1 cs C np k2 ps w hA hL hR hB hcs hC hps ⟨by omega, by omega, by omega⟩
end Go.Proofs.YtkldpdldjalpeaaGreatDoor

namespace Go.Proofs.YtkldpdldjalpeaaGreatDoor
open Go.RowKit Go.WideShapes Go.ChangeShapes Go.Deep

section
variable {H : Type} {enc : TypeId × Value → H} {P : Program}
theorem trodAll_stays (hl : laidOutB P = true) {W W' : World} (hb : Below W.heap.size W W') {sp : Nat → Bool} :
    ∀ {ts : List TypeId} {vs : List Value} {ds : List (DataW H)} {ps : List MemPlace}, (∀ t ∈ ts, P.readableRec t = true ∧ t < P.types.size) →
      DataW.TrodAll enc P W 0 (fun _ => true) true ts vs ds ps → (∀ p ∈ ps, p.block < W.heap.size ∧ sp p.block = true) → DataW.TrodAll enc P W' 0 sp true ts vs ds ps
  | [], [], [], _, _, h, _ => h
  | _ :: _, _ :: _, _ :: _, _, ht, ⟨p, q, h1, h2, e⟩, hs =>
    ⟨p, q, WideElems.Trod_stays hl (ht _ (List.mem_cons_self ..)).1 (ht _ (List.mem_cons_self ..)).2 h1 (fun x hx => hb.same (hs x (by rw [e]; exact List.mem_append_left _ hx)).1) (fun x hx => (hs x (by rw [e]; exact List.mem_append_left _ hx)).2),
      trodAll_stays hl hb (fun t h => ht t (List.mem_cons_of_mem _ h)) h2 (fun x hx => hs x (by rw [e]; exact List.mem_append_right _ hx)), e⟩

theorem law_post {fn : Func} {s : ChangeSpec} {tb : TypeId} {W W' : World} {args : Array Value} {ds gs : List (DataW H)} {before : List MemPlace} (hl : laidOutB P = true)
    (ht : fn.params.toList.all (fun t => P.readableRec t && decide (t < P.types.size)) = true) (hv : s.vars = []) (hrt : fn.resultTypes = #[tb]) (hb : P.underlying tb = some .bool)
    (hspec : s.fn H (ds ++ []) = { results := [.lit (.bool true)], args := ds })
    (hW : DataW.Whole enc P fn.params.toList s.vars false W args.toList ds gs before) (hbel : Below W.heap.size W W') :
    s.post enc P fn false true false false W args (.bool true) W' := by
  have hW0 := hW
  have hlt := fun x hx => hW.lt (p := x) hx
  obtain ⟨p, q, hA, hV, rfl, hfz, hnd⟩ := hW
  have hg : gs = [] ∧ q = [] := by
    rw [hv] at hV
    exact trodVars_none hV
  obtain ⟨rfl, rfl⟩ := hg
  simp only [List.append_nil] at hW0 hlt
  refine ⟨ds, [], p, [], p, [], hW0, ?_, ?_, ?_, ?_, fun h => by cases h⟩
  · rw [hspec, hrt]
    exact trodAll_cons_mk (shut_bool hb true) trodAll_mk0
  · rw [hspec]
    refine trodAll_stays hl hbel (fun t h => ?_) hA (fun x hx => ⟨hlt x hx, by simpa using hlt x hx⟩)
    have := List.all_eq_true.1 ht t h
    simpa using this
  · rw [hspec, hv]
    rfl
  · exact hbel.frame _
end

section
variable {H : Type} {enc : TypeId × Value → H} {P : Program} {w : World} {base : Nat} {spare : Nat → Bool} {held : Bool}
/-- An argument that is a slice of structs whose fields are one cell each: its address, and for each element its cells, each with its own reading. -/
theorem rows_of_slice {t e : TypeId} {fs : Array Field} {v : Value} {d : DataW H} {ps : List MemPlace} {r : Reach} {b0 : Nat} (ht : P.underlying t = some (.slice e)) (he : P.underlying e = some (.struct fs))
    (hone : oneCellFields P fs = true) (hC : P.cellsOf e = fs.size) (hok : Value.okWide P w r b0 t v) (h : DataW.Trod enc P w base spare held t v d ps) :
    ∃ (A : Option Addr) (n c : Nat), v = .slice A n c ∧ n ≤ c ∧ c ≤ maxLen ∧ (∀ i, i < n → ∃ a, A = some a ∧ ∃ vs : List Value, vs.length = fs.size ∧ (∀ (j : Nat) (u : Value), vs[j]? = some u → w.cell? (a.add (i * fs.size + j)) = some u) ∧
      ∀ (j : Nat) (f : Field), fs[j]? = some f → ∃ (u : Value) (y : DataW H × List MemPlace) (k : Nat), vs[j]? = some u ∧ DataW.trod enc P w base spare held k f.type [u] = some y) := by
  obtain ⟨a0, len, cap, rfl⟩ := okWide_slice ht hok
  obtain ⟨fuel, hf⟩ := h
  rcases open_slice ht hf with ⟨h0, _⟩ | ⟨a, len', cap', m, k, D, Pl, hcs, hb, hl, hm, hmm, hx, hi⟩
  · simp only [Value.cells, List.cons.injEq, and_true] at h0
    injection h0 with h1 h2 h3
    subst h1 h2 h3
    exact ⟨_, _, _, rfl, Nat.le_refl _, by simp [maxLen], fun i hi => by omega⟩
  · simp only [Value.cells, List.cons.injEq, and_true] at hcs
    injection hcs with h1 h2 h3
    subst h1 h2 h3
    refine ⟨_, _, _, rfl, hl, hm, fun i hin => ⟨a, rfl, ?_⟩⟩
    have hin' : i < m := by rw [hmm]; split <;> omega
    obtain ⟨cs', hc, ht'⟩ := hi i hin'
    rw [hC] at hc
    obtain ⟨ys, n', _, _, hlen, hyl, hfld⟩ := DataW.trod_struct he ht'
    obtain ⟨_, hcl, hat⟩ := World.cells?_some hc
    refine ⟨cs', by omega, fun j u hu => ?_, fun j f hj => ?_⟩
    · have hjl : j < fs.size := by have := (List.getElem?_eq_some_iff.1 hu).1; omega
      rw [← Go.Deep.add_add, hat j hjl]
      exact hu
    · obtain ⟨ho, hk⟩ := hone_of hone j f hj
      have hjl : j < fs.size := (Array.getElem?_eq_some_iff.1 hj).1
      have hcj : cs'[j]? = some (cs'[j]'(by omega)) := List.getElem?_eq_getElem (by omega)
      have h1 := hfld j f hj
      rw [ho, hk, show (cs'.drop j).take 1 = [cs'[j]'(by omega)] by rw [List.drop_eq_getElem_cons (by omega)]; rfl] at h1
      have hys : ys[j]? = some (ys[j]'(by omega)) := List.getElem?_eq_getElem (by omega)
      exact ⟨_, _, _, hcj, h1.trans hys⟩
end
end Go.Proofs.YtkldpdldjalpeaaGreatDoor

namespace Go.Proofs.YtkldpdldjalpeaaGreatDoor
open Go.RowKit Go.Deep Go.WideShapes Go.ChangeShapes

/-- Whatever reads at a type is such a thing. -/
def ReadsAs {α : Type} (P : Program) (t : TypeId) (E : Enc α) (good : α → Prop) : Prop :=
  P.cellsOf t = E.s ∧ ∀ {H : Type} {enc : TypeId × Value → H} {w : World} {base : Nat} {spare : Nat → Bool} {held : Bool} {fuel : Nat} {cs : List Value} {x : DataW H × List MemPlace},
    DataW.trod enc P w base spare held fuel t cs = some x → ∃ a, cs = E.c a ∧ good a
theorem pick_list {α : Type} {Q : Nat → α → Prop} : ∀ n, (∀ i, i < n → ∃ a, Q i a) → ∃ L : List α, L.length = n ∧ ∀ i a, L[i]? = some a → Q i a
  | 0, _ => ⟨[], rfl, by simp⟩
  | n + 1, h => by
    obtain ⟨L, hl, hL⟩ := pick_list n (fun i hi => h i (by omega))
    obtain ⟨a, ha⟩ := h n (by omega)
    refine ⟨L ++ [a], by simp [hl], fun i b hb => ?_⟩
    rw [List.getElem?_append] at hb
    split at hb
    · exact hL i b hb
    · rename_i hi
      have hi' : i = n := by
        have := (List.getElem?_eq_some_iff.1 hb).1
        simp at this
        omega
      subst hi'
      simp [hl] at hb
      subst hb
      exact ha
section
variable {H : Type} {enc : TypeId × Value → H} {P : Program} {w : World} {base : Nat} {spare : Nat → Bool} {held : Bool}
theorem rd_arg {α : Type} {E : Enc α} {good : α → Prop} {t e : TypeId} {v : Value} {d : DataW H} {ps : List MemPlace} {r : Reach} {b0 : Nat} (ht : P.underlying t = some (.slice e)) (hr : ReadsAs P e E good)
    (hok : Value.okWide P w r b0 t v) (h : DataW.Trod enc P w base spare held t v d ps) :
    ∃ (L : List α) (A : Option Addr) (c : Nat), v = .slice A L.length c ∧ L.length ≤ c ∧ c ≤ maxLen ∧ Rd E w v L ∧ ∀ a ∈ L, good a := by
  obtain ⟨a0, len, cap, rfl⟩ := okWide_slice ht hok
  obtain ⟨fuel, hf⟩ := h
  rcases open_slice ht hf with ⟨h0, _⟩ | ⟨a, len', cap', m, k, D, Pl, hcs, hb, hl, hm, hmm, hx, hi⟩
  · simp only [Value.cells, List.cons.injEq, and_true] at h0
    injection h0 with h1 h2 h3
    subst h1 h2 h3
    exact ⟨[], _, _, rfl, Nat.le_refl _, by simp [maxLen], Rd.nil E w 0, by simp⟩
  · simp only [Value.cells, List.cons.injEq, and_true] at hcs
    injection hcs with h1 h2 h3
    subst h1 h2 h3
    obtain ⟨L, hL, hQ⟩ := pick_list (Q := fun i (x : α) => good x ∧ ∀ j u, (E.c x)[j]? = some u → w.cell? (a.add (i * E.s + j)) = some u) len (fun i hil => by
      have him : i < m := by rw [hmm]; split <;> omega
      obtain ⟨cs', hc, ht'⟩ := hi i him
      obtain ⟨x, rfl, hg⟩ := hr.2 ht'
      rw [hr.1] at hc
      obtain ⟨_, hcl, hat⟩ := World.cells?_some hc
      refine ⟨x, hg, fun j u hu => ?_⟩
      have hj : j < E.s := by have := (List.getElem?_eq_some_iff.1 hu).1; rwa [E.len] at this
      rw [← Go.Deep.add_add, hat j hj]
      exact hu)
    subst hL
    refine ⟨L, some a, cap, rfl, hl, hm, ⟨flat_len, some a, cap, rfl, fun j u hj => ?_⟩, fun x hx => ?_⟩
    · have hjl := (List.getElem?_eq_some_iff.1 hj).1
      rw [flat_len] at hjl
      have hk : j / E.s < L.length := Nat.div_lt_of_lt_mul (by rw [Nat.mul_comm]; exact hjl)
      have hr' : j % E.s < E.s := Nat.mod_lt _ E.pos
      obtain ⟨x, hx⟩ : ∃ x, L[j / E.s]? = some x := ⟨_, List.getElem?_eq_getElem hk⟩
      have he : j / E.s * E.s + j % E.s = j := by rw [Nat.mul_comm]; exact Nat.div_add_mod j E.s
      have hg := flat_get (E := E) hx hr'
      rw [he, hj] at hg
      have hc := (hQ _ x hx).2 _ u hg.symm
      rw [he] at hc
      refine ⟨a, rfl, ?_, hc⟩
      have := World.block_lt_of_cell? _ _ hc
      rwa [block_add] at this
    · obtain ⟨i, hi', rfl⟩ := List.getElem_of_mem hx
      exact (hQ i _ (List.getElem?_eq_getElem hi')).1
end
/-- An integer; two; in whatever kinds. -/
def encI (q : IntKind) : Enc Int := ⟨fun a => [.int q a], 1, fun _ => rfl, by intro a u hu; simp at hu; subst hu; rfl, by omega⟩
def encII (q q' : IntKind) : Enc (Int × Int) := ⟨fun p => [.int q p.1, .int q' p.2], 2, fun _ => rfl, by intro a u hu; simp at hu; rcases hu with rfl | rfl <;> rfl, by omega⟩
def inK (q : IntKind) (a : Int) : Prop := (Lit.int q a).wf = true
theorem reads_int {P : Program} {t : TypeId} {q : IntKind} (ht : P.underlying t = some (.int q)) (hc : P.cellsOf t = 1) : ReadsAs P t (encI q) (inK q) :=
  ⟨hc, fun h => by
    obtain ⟨y, hy, _, hw⟩ := DataW.trod_int ht h
    exact ⟨y, hy, hw⟩⟩
/-- A struct of two integers. -/
theorem reads_two {P : Program} {t t0 t1 : TypeId} {f0 f1 : Field} {q q' : IntKind} (ht : P.underlying t = some (.struct #[f0, f1])) (hc : P.cellsOf t = 2) (o0 : f0.offset = 0) (o1 : f1.offset = 1) (c0 : P.cellsOf f0.type = 1) (c1 : P.cellsOf f1.type = 1)
    (h0 : P.underlying f0.type = some (.int q)) (h1 : P.underlying f1.type = some (.int q')) : ReadsAs P t (encII q q') (fun p => inK q p.1 ∧ inK q' p.2) :=
  ⟨hc, fun {H enc w base spare held fuel cs x} h => by
    obtain ⟨xs, n, _, _, hl, hxl, hf⟩ := DataW.trod_struct ht h
    rw [hc] at hl
    match cs, hl with
    | [a, b], _ =>
      have g0 := hf 0 f0 rfl
      have g1 := hf 1 f1 rfl
      have hx0 : xs[0]? = some (xs[0]'(by rw [hxl]; simp)) := List.getElem?_eq_getElem _
      have hx1 : xs[1]? = some (xs[1]'(by rw [hxl]; simp)) := List.getElem?_eq_getElem _
      rw [o0, c0, hx0] at g0
      rw [o1, c1, hx1] at g1
      obtain ⟨y0, e0, _, w0⟩ := DataW.trod_int h0 g0
      obtain ⟨y1, e1, _, w1⟩ := DataW.trod_int h1 g1
      simp at e0 e1
      subst e0 e1
      exact ⟨(y0, y1), rfl, w0, w1⟩⟩
def encI3 (q0 q1 q2 : IntKind) : Enc (Int × Int × Int) := ⟨fun p => [.int q0 p.1, .int q1 p.2.1, .int q2 p.2.2], 3, fun _ => rfl, by intro a u hu; simp at hu; rcases hu with rfl | rfl | rfl <;> rfl, by omega⟩
theorem reads_3 {P : Program} {t : TypeId} {f0 f1 f2 : Field} {q0 q1 q2 : IntKind} (ht : P.underlying t = some (.struct #[f0, f1, f2])) (hc : P.cellsOf t = 3) (o0 : f0.offset = 0) (o1 : f1.offset = 1) (o2 : f2.offset = 2) (c0 : P.cellsOf f0.type = 1) (c1 : P.cellsOf f1.type = 1) (c2 : P.cellsOf f2.type = 1)
    (h0 : P.underlying f0.type = some (.int q0)) (h1 : P.underlying f1.type = some (.int q1)) (h2 : P.underlying f2.type = some (.int q2)) : ReadsAs P t (encI3 q0 q1 q2) (fun p => inK q0 p.1 ∧ inK q1 p.2.1 ∧ inK q2 p.2.2) :=
  ⟨hc, fun {H enc w base spare held fuel cs x} h => by
    obtain ⟨xs, n, _, _, hl, hxl, hf⟩ := DataW.trod_struct ht h
    rw [hc] at hl
    match cs, hl with
    | [a0, a1, a2], _ =>
      have g0 := hf 0 f0 rfl
      have hx0 : xs[0]? = some (xs[0]'(by rw [hxl]; simp)) := List.getElem?_eq_getElem _
      rw [o0, c0, hx0] at g0
      obtain ⟨y0, e0, _, w0⟩ := DataW.trod_int h0 g0
      simp at e0
      subst e0
      have g1 := hf 1 f1 rfl
      have hx1 : xs[1]? = some (xs[1]'(by rw [hxl]; simp)) := List.getElem?_eq_getElem _
      rw [o1, c1, hx1] at g1
      obtain ⟨y1, e1, _, w1⟩ := DataW.trod_int h1 g1
      simp at e1
      subst e1
      have g2 := hf 2 f2 rfl
      have hx2 : xs[2]? = some (xs[2]'(by rw [hxl]; simp)) := List.getElem?_eq_getElem _
      rw [o2, c2, hx2] at g2
      obtain ⟨y2, e2, _, w2⟩ := DataW.trod_int h2 g2
      simp at e2
      subst e2
      exact ⟨(y0, y1, y2), rfl, w0, w1, w2⟩⟩
def encI4 (q0 q1 q2 q3 : IntKind) : Enc (Int × Int × Int × Int) := ⟨fun p => [.int q0 p.1, .int q1 p.2.1, .int q2 p.2.2.1, .int q3 p.2.2.2], 4, fun _ => rfl, by intro a u hu; simp at hu; rcases hu with rfl | rfl | rfl | rfl <;> rfl, by omega⟩
theorem reads_4 {P : Program} {t : TypeId} {f0 f1 f2 f3 : Field} {q0 q1 q2 q3 : IntKind} (ht : P.underlying t = some (.struct #[f0, f1, f2, f3])) (hc : P.cellsOf t = 4) (o0 : f0.offset = 0) (o1 : f1.offset = 1) (o2 : f2.offset = 2) (o3 : f3.offset = 3) (c0 : P.cellsOf f0.type = 1) (c1 : P.cellsOf f1.type = 1) (c2 : P.cellsOf f2.type = 1) (c3 : P.cellsOf f3.type = 1)
    (h0 : P.underlying f0.type = some (.int q0)) (h1 : P.underlying f1.type = some (.int q1)) (h2 : P.underlying f2.type = some (.int q2)) (h3 : P.underlying f3.type = some (.int q3)) : ReadsAs P t (encI4 q0 q1 q2 q3) (fun p => inK q0 p.1 ∧ inK q1 p.2.1 ∧ inK q2 p.2.2.1 ∧ inK q3 p.2.2.2) :=
  ⟨hc, fun {H enc w base spare held fuel cs x} h => by
    obtain ⟨xs, n, _, _, hl, hxl, hf⟩ := DataW.trod_struct ht h
    rw [hc] at hl
    match cs, hl with
    | [a0, a1, a2, a3], _ =>
      have g0 := hf 0 f0 rfl
      have hx0 : xs[0]? = some (xs[0]'(by rw [hxl]; simp)) := List.getElem?_eq_getElem _
      rw [o0, c0, hx0] at g0
      obtain ⟨y0, e0, _, w0⟩ := DataW.trod_int h0 g0
      simp at e0
      subst e0
      have g1 := hf 1 f1 rfl
      have hx1 : xs[1]? = some (xs[1]'(by rw [hxl]; simp)) := List.getElem?_eq_getElem _
      rw [o1, c1, hx1] at g1
      obtain ⟨y1, e1, _, w1⟩ := DataW.trod_int h1 g1
      simp at e1
      subst e1
      have g2 := hf 2 f2 rfl
      have hx2 : xs[2]? = some (xs[2]'(by rw [hxl]; simp)) := List.getElem?_eq_getElem _
      rw [o2, c2, hx2] at g2
      obtain ⟨y2, e2, _, w2⟩ := DataW.trod_int h2 g2
      simp at e2
      subst e2
      have g3 := hf 3 f3 rfl
      have hx3 : xs[3]? = some (xs[3]'(by rw [hxl]; simp)) := List.getElem?_eq_getElem _
      rw [o3, c3, hx3] at g3
      obtain ⟨y3, e3, _, w3⟩ := DataW.trod_int h3 g3
      simp at e3
      subst e3
      exact ⟨(y0, y1, y2, y3), rfl, w0, w1, w2, w3⟩⟩
end Go.Proofs.YtkldpdldjalpeaaGreatDoor

namespace Go.Proofs.YtkldpdldjalpeaaGreatDoor
open Go.RowKit Go.Deep Go.WideShapes Go.ChangeShapes
section
variable {H : Type} {enc : TypeId × Value → H} {P : Program} {w : World} {base : Nat} {spare : Nat → Bool} {held : Bool}
theorem rd_trod {α : Type} {E : Enc α} {good : α → Prop} {t e : TypeId} {cs0 : List Value} {x0 : DataW H × List MemPlace} {fuel : Nat} (ht : P.underlying t = some (.slice e)) (hr : ReadsAs P e E good)
    (hf : DataW.trod enc P w base spare held fuel t cs0 = some x0) :
    ∃ (L : List α) (A : Option Addr) (c : Nat), cs0 = [.slice A L.length c] ∧ L.length ≤ c ∧ c ≤ maxLen ∧ Rd E w (.slice A L.length c) L ∧ ∀ a ∈ L, good a := by
  obtain ⟨d, ps⟩ := x0
  rcases open_slice ht hf with ⟨h0, _⟩ | ⟨a, len', cap', m, k, D, Pl, hcs, hb, hl, hm, hmm, hx, hi⟩
  · exact ⟨[], none, 0, h0, Nat.le_refl _, by simp [maxLen], Rd.nil E w 0, by simp⟩
  · subst hcs
    obtain ⟨L, hL, hQ⟩ := pick_list (Q := fun i (x : α) => good x ∧ ∀ j u, (E.c x)[j]? = some u → w.cell? (a.add (i * E.s + j)) = some u) len' (fun i hil => by
      have him : i < m := by rw [hmm]; split <;> omega
      obtain ⟨cs', hc, ht'⟩ := hi i him
      obtain ⟨x, rfl, hg⟩ := hr.2 ht'
      rw [hr.1] at hc
      obtain ⟨_, hcl, hat⟩ := World.cells?_some hc
      refine ⟨x, hg, fun j u hu => ?_⟩
      have hj : j < E.s := by have := (List.getElem?_eq_some_iff.1 hu).1; rwa [E.len] at this
      rw [← Go.Deep.add_add, hat j hj]
      exact hu)
    subst hL
    refine ⟨L, some a, cap', rfl, hl, hm, ⟨flat_len, some a, cap', rfl, fun j u hj => ?_⟩, fun x hx => ?_⟩
    · have hjl := (List.getElem?_eq_some_iff.1 hj).1
      rw [flat_len] at hjl
      have hk : j / E.s < L.length := Nat.div_lt_of_lt_mul (by rw [Nat.mul_comm]; exact hjl)
      have hr' : j % E.s < E.s := Nat.mod_lt _ E.pos
      obtain ⟨x, hx⟩ : ∃ x, L[j / E.s]? = some x := ⟨_, List.getElem?_eq_getElem hk⟩
      have he : j / E.s * E.s + j % E.s = j := by rw [Nat.mul_comm]; exact Nat.div_add_mod j E.s
      have hg := flat_get (E := E) hx hr'
      rw [he, hj] at hg
      have hc := (hQ _ x hx).2 _ u hg.symm
      rw [he] at hc
      refine ⟨a, rfl, ?_, hc⟩
      have := World.block_lt_of_cell? _ _ hc
      rwa [block_add] at this
    · obtain ⟨i, hi', rfl⟩ := List.getElem_of_mem hx
      exact (hQ i _ (List.getElem?_eq_getElem hi')).1
/-- A slice of slices: the inner ones' values, what each reads as. -/
theorem rd_arg2 {α : Type} {E : Enc α} {good : α → Prop} {t e1 e2 : TypeId} {v : Value} {d : DataW H} {ps : List MemPlace} {r : Reach} {b0 : Nat} (ht : P.underlying t = some (.slice e1)) (ht1 : P.underlying e1 = some (.slice e2)) (hc1 : P.cellsOf e1 = 1) (hr : ReadsAs P e2 E good)
    (hok : Value.okWide P w r b0 t v) (h : DataW.Trod enc P w base spare held t v d ps) :
    ∃ (L : List (List α)) (vs : List Value) (A : Option Addr) (c : Nat), v = .slice A L.length c ∧ L.length ≤ c ∧ c ≤ maxLen ∧ Src w 1 (.slice A L.length c) L.length vs ∧ (∀ i, i < L.length → Rd E w (vs.getD i undef) (L.getD i [])) ∧ ∀ l ∈ L, ∀ a ∈ l, good a := by
  obtain ⟨a0, len, cap, rfl⟩ := okWide_slice ht hok
  obtain ⟨fuel, hf⟩ := h
  rcases open_slice ht hf with ⟨h0, _⟩ | ⟨a, len', cap', m, k, D, Pl, hcs, hb, hl, hm, hmm, hx, hi⟩
  · simp only [Value.cells, List.cons.injEq, and_true] at h0
    injection h0 with h1 h2 h3
    subst h1 h2 h3
    exact ⟨[], [], none, 0, rfl, Nat.le_refl _, by simp [maxLen], ⟨by simp, none, 0, rfl, by simp⟩, fun i hi => by simp at hi, by simp⟩
  · simp only [Value.cells, List.cons.injEq, and_true] at hcs
    injection hcs with h1 h2 h3
    subst h1 h2 h3
    obtain ⟨M, hM, hQ⟩ := pick_list (Q := fun i (x : Value × List α) => w.cell? (a.add i) = some x.1 ∧ Rd E w x.1 x.2 ∧ ∀ y ∈ x.2, good y) len (fun i hil => by
      have him : i < m := by rw [hmm]; split <;> omega
      obtain ⟨cs', hc, ht'⟩ := hi i him
      obtain ⟨l, A, c, rfl, _, _, h4, h5⟩ := rd_trod ht1 hr ht'
      rw [hc1] at hc
      obtain ⟨_, hcl, hat⟩ := World.cells?_some hc
      have h0 := hat 0 (by omega)
      rw [Nat.mul_one] at h0
      exact ⟨(_, l), h0, h4, h5⟩)
    subst hM
    refine ⟨M.map (·.2), M.map (·.1), some a, cap, by simp, by simpa using hl, hm, ⟨by simp, some a, cap, by simp, fun j u hj => ?_⟩, fun i hi' => ?_, fun l hl' y hy => ?_⟩
    · rw [List.getElem?_map] at hj
      cases hx' : M[j]? with
      | none => rw [hx'] at hj; cases hj
      | some x =>
        rw [hx'] at hj
        injection hj with hj
        subst hj
        have hc := (hQ j x hx').1
        refine ⟨a, rfl, ?_, hc⟩
        have := World.block_lt_of_cell? _ _ hc
        rwa [block_add] at this
    · simp at hi'
      have := (hQ i M[i] (List.getElem?_eq_getElem hi')).2.1
      rw [List.getD_eq_getElem?_getD, List.getD_eq_getElem?_getD, List.getElem?_map, List.getElem?_map, List.getElem?_eq_getElem hi']
      exact this
    · obtain ⟨x, hx', rfl⟩ := List.mem_map.1 hl'
      obtain ⟨i, hi', rfl⟩ := List.getElem_of_mem hx'
      exact (hQ i _ (List.getElem?_eq_getElem hi')).2.2 y hy
end
end Go.Proofs.YtkldpdldjalpeaaGreatDoor

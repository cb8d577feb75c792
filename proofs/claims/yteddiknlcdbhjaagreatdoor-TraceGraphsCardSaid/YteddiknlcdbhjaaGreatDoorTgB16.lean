/-
  tracer.around.
  trace.Ring.
  concordref28.Same, of two slices that hold the same edges.
  concordref08.Ints.
  concordlaw28.example, alive.
  errors.As at a place (*api.Fault), and api.Place: by contracts. The premise 'typed': the library's variable errors.errorType holds the handle of 'error'.
  Errors as the program makes them: what Place says of them.
  TraceGraphs, the walk.
  A law's argument: events; lists of lists of numbers.
  From the row's listed variable to what the walks ask of it; a world that meets it.
-/
import Derived.Test.YteddiknlcdbhjaaGreatDoorTgB15
import Derived.Test.YteddiknlcdbhjaaGreatDoorTgB5
import Derived.Test.YteddiknlcdbhjaaGreatDoorProg
import Derived.Test.YteddiknlcdbhjaaGreatDoorTgB3
import Derived.Test.YteddiknlcdbhjaaGreatDoorTgB11
import Derived.LaidHandle
import Derived.Test.YteddiknlcdbhjaaGreatDoorRows
import Derived.LaidMore
import Derived.Stop.Joined
set_option linter.unusedVariables false
namespace Go.Proofs.YteddiknlcdbhjaaGreatDoor
open Go Go.RowKit TrP
open Vk (rows_at)
attribute [local go_sem] litStep_value run_makeMap_plain

def mapLen (b : Nat) (w : World) : Nat := match w.heap[b]? with
  | some (.map es _) => es.size
  | _ => 0
theorem IMap.mapLen {w : World} {q : IntKind} {b n : Nat} {f : Int → Option Value} (h : IMap w q b f n) : mapLen b w = n := by
  obtain ⟨L, c, hr, _, hn⟩ := h
  unfold Go.Proofs.YteddiknlcdbhjaaGreatDoor.mapLen
  rw [hr.blk]
  simp [hn]
def ArPost (g : List Ed) (all : List Int) (n : Int) (w : World) (e : Ending) (w' : World) : Prop := ∃ v, e = .returned v ∧ Upd [] w w' ∧ (aroundR g all n = [] → v = .slice none 0 0) ∧ (aroundR g all n ≠ [] → Ow encK 3 w' w.heap.size v (aroundR g all n))
structure ArSt (g : List Ed) (all : List Int) (n : Int) (fb : Nat) (w : World) (wq : World) (v : Value) (m : Nat) (fr : Int → Option Int) (met : List Int) (ways : List (List Int)) : Prop where
  fro : From g all n fr met ways
  im : IMap wq .i64 fb (fun k => (fr k).map (.int .i64)) met.length
  td : SlAt 3 w.heap.size wq v (todoL ways m)
  up : Upd [] w wq
theorem ArSt.upd0 {g : List Ed} {all : List Int} {n : Int} {fb : Nat} {w wq w' : World} {v : Value} {m : Nat} {fr : Int → Option Int} {met : List Int} {ways : List (List Int)} (h : ArSt g all n fb w wq v m fr met ways) (hu : Upd [] wq w') : ArSt g all n fb w w' v m fr met ways := ⟨h.fro, h.im.upd hu (by simp), h.td.upd0 hu, h.up.trans hu⟩
set_option maxRecDepth 100000 in
set_option maxHeartbeats 8000000 in
theorem t_around (ρ : Rho) (B tb : Nat) (b : TB) (fv sv : Value) (T : TC) (g : List Ed) (all : List Int) (n : Int) (w : World) (h : TrSt w ρ B tb b fv sv { T with ld := succL g all }) (hg : GOk g all) (hl : all.length ≤ 60) :
    Calls Tryz.prog 28 #[.pointer (some ⟨tb, 0, none⟩), .int .i64 n] w fun e w' => ArPost g all n w e w' := by
  have ST := Lib.hid h
  have HG := Lib.hid hg
  clear h hg
  go_enter Tryz.func28, Tryz.ntmps28
  go_wp2_with fail
  have A1 : Hid (ArSt g all n w.heap.size w ((w.alloc (.map #[] 0)).alloc (.cells #[.int .i64 n] 3)) (.slice (some ⟨w.heap.size + 1, 0, none⟩) 1 1) 0 (fun _ => none) [] [[n]]) := Lib.hid {
    fro := From.start n
    im := ((IMap.new w .i64).upd ((Upd.refl [] _).alloc _) (by simp)).congr (fun _ => rfl)
    td := SlAt.start (Blk.newAt _ _ (by simp)) (by omega)
    up := ((Upd.refl [] w).alloc _).alloc _ }
  obtain ⟨fb, hfb⟩ : ∃ fb, w.heap.size = fb := ⟨_, rfl⟩
  have HFB := Lib.hid hfb
  rw [hfb] at A1 ⊢
  generalize ((w.alloc (.map #[] 0)).alloc (.cells #[.int .i64 n] 3)) = w1 at *
  clear hfb
  go_loopw [6] (fun v wq => Hid (∃ m fr met ways, ArSt g all n fb w wq v m fr met ways ∧ m ≤ ways.length ∧ aroundR g all n = bfsR g all n (all.length + 1 - m) m met ways)) (fun v wq => 2 * (100 - mapLen fb wq) + lenOfS v)
  case atStart => exact Lib.hid ⟨0, _, _, _, A1.out, by simp, rfl⟩
  case round =>
    obtain ⟨m, fr, met, ways, ar, hm, hv⟩ := hrel.out
    rename World => wq
    have AR := Lib.hid ar
    have HV := Lib.hid hv
    have hml : met.length ≤ 60 := Nat.le_trans ar.fro.bfs.small hl
    have hwl := ar.fro.bfs.len
    have HMAP := Lib.hid ar.im.mapLen
    obtain ⟨qg, qo, qc, rfl, hq1, hq2, _, _⟩ := ar.td.form
    rw [todoL_len] at hq1 ⊢
    have HTD : Hid (SlAt 3 w.heap.size wq (.slice (some ⟨qg, qo, none⟩) (ways.length - m) qc) (todoL ways m)) := Lib.hid (by have := ar.td; rw [todoL_len] at this; exact this)
    obtain ⟨nt, hnt⟩ : ∃ nt, ways.length - m = nt := ⟨_, rfl⟩
    rw [hnt] at hq1 HTD ⊢
    have HNT := Lib.hid hnt
    clear hrel ar hv
    by_cases h0 : nt = 0
    · have HU := Lib.hid AR.out.up
      have HZ : Hid (aroundR g all n = []) := Lib.hid (by rw [HV.out]; exact bfs_none (List.getElem?_eq_none (by omega)))
      subst h0
      clear hnt hwl
      go_wp2_with fail
      go_ret
      unfold ArPost
      exact ⟨_, rfl, HU.out, fun _ => rfl, fun h => absurd HZ.out h⟩
    · obtain ⟨wv, hwv⟩ : ∃ wv, ways[m]? = some wv := ⟨_, List.getElem?_eq_getElem (by omega)⟩
      obtain ⟨x, hx⟩ : ∃ x, wv.getLastD 0 = x := ⟨_, rfl⟩
      have htc := todoL_cons hwv
      rw [hx] at htc
      have htd := HTD.out
      rw [htc] at htd
      have k0 := htd.head
      have HTL := Lib.hid htd.tail
      have HWV := Lib.hid hwv
      have HX := Lib.hid hx
      have q1 : (0 : Int) < (nt : Int) := by omega
      have q2 : (1 : Int) ≤ (nt : Int) := by omega
      have q3 : (nt : Int) ≤ (qc : Int) := by omega
      obtain ⟨lg, lm, vv, ig, hvv, hown, hro, _⟩ := rows_at ST.out.ld.2 x
      have ho2 : w.ownsRow B 3 1 vv (succL g all x).length ((succL g all x).map (.int .i64)) := hown
      obtain ⟨ls, hls⟩ : ∃ ls, succL g all x = ls := ⟨_, rfl⟩
      rw [hls] at ho2
      have HLS := Lib.hid hls
      obtain ⟨A1', c1, rfl, hnc1, hcm1⟩ := own_slice ho2
      obtain ⟨n1, hn1⟩ : ∃ n1, ls.length = n1 := ⟨_, rfl⟩
      have hn160 : n1 ≤ 60 := by
        have : (succL g all x).length ≤ all.length := List.length_filter_le _ _
        rw [hls] at this
        omega
      rw [hn1] at ho2 hnc1 hvv hro
      have HN1 := Lib.hid hn1
      have OW0 := Lib.hid ho2
      have k4 : wq.cell? ⟨tb, 4, none⟩ = some (.map (some b.bl)) := (ST.out.tr.upd AR.out.up (by simp)).cell 4
      have r4 : (Instr.lookup 65 (.map (some b.bl)) (.int .i64 x) false).run Tryz.prog wq = .ok (.slice A1' n1 c1) wq := by
        rw [run_lookup_int' Tryz.underlying65 Tryz.underlying3 (Tryz.zeroValue36 wq) (ig.upd AR.out.up (by simp)) x, hvv]
      clear hown hro hls hn1 ho2 ig hvv hnc1 hcm1 hwv hx htc htd hnt
      by_cases hc1 : qc = 1
      · rw [if_pos hc1] at HTL
        subst hc1
        obtain rfl : nt = 1 := by omega
        go_wp2_with fail
        clear k0 k4 r4
        go_loopw [6, 30] (fun v u wx => ∃ j : Nat, u = .int .i64 j ∧ j ≤ n1 ∧ Hid (∃ fr' met' ways', ArSt g all n fb w wx v (m + 1) fr' met' ways' ∧ ways'[m]? = some wv ∧ met.length ≤ met'.length ∧ scanR g n x wv ls met ways = scanR g n x wv (ls.drop j) met' ways')) (fun _ u _ => n1 - (intOf u).toNat)
        case atStart => exact ⟨0, rfl, by omega, Lib.hid ⟨fr, met, ways, ⟨AR.out.fro, AR.out.im, HTL.out, AR.out.up⟩, HWV.out, Nat.le_refl _, rfl⟩⟩
        case round =>
          obtain ⟨j, rfl, hj, HRELJ⟩ := hrel
          rename World => wx
          obtain ⟨fr', met', ways', ar', hw', hmm, hsc⟩ := HRELJ.out
          have AX := Lib.hid ar'
          have HW' := Lib.hid hw'
          have HMM := Lib.hid hmm
          have HSC := Lib.hid hsc
          have hml' : met'.length ≤ 60 := Nat.le_trans ar'.fro.bfs.small hl
          have hwl' := ar'.fro.bfs.len
          have hmw := (List.getElem?_eq_some_iff.1 hw').1
          obtain ⟨vg, vo, vc, rfl, hv1, hv2, _, _⟩ := ar'.td.form
          rw [todoL_len] at hv1 ⊢
          obtain ⟨nv, hnv⟩ : ∃ nv, ways'.length - (m + 1) = nv := ⟨_, rfl⟩
          rw [hnv] at hv1 ⊢
          have HNV := Lib.hid hnv
          have AX' : Hid (ArSt g all n fb w wx (.slice (some ⟨vg, vo, none⟩) nv vc) (m + 1) fr' met' ways') := Lib.hid (by have := ar'; rw [todoL_len, hnv] at this; exact this)
          clear ar' hw' hmm hsc hnv HRELJ AX
          by_cases hjn : j < n1
          · obtain ⟨y, hy⟩ : ∃ y, ls[j]? = some y := ⟨_, List.getElem?_eq_getElem (by rw [HN1.out]; exact hjn)⟩
            have HY : Hid ((succL g all x)[j]? = some y) := Lib.hid (by rw [HLS.out]; exact hy)
            have ow : wx.ownsRow B 3 1 (.slice A1' n1 c1) n1 (ls.map (.int .i64)) := own_upd0 OW0.out AX'.out.up
            obtain ⟨lb, lc, lcur, e, _, _, _, _, _, _⟩ := own_form ow (by omega)
            injection e with e1 e2 e3
            subst e1 e3
            clear e2
            have f0 : wx.cell? ⟨lb, j, none⟩ = some (.int .i64 y) := own_cell ow j _ (by rw [List.getElem?_map, hy]; rfl)
            have q3 : (0 : Int) ≤ (j : Int) := by omega
            have q4 : (j : Int) < (n1 : Int) := by omega
            have HSD : Hid (scanR g n x wv (ls.drop j) met' ways' = if y = n then none else if y ∈ met' then scanR g n x wv (ls.drop (j + 1)) met' ways' else scanR g n x wv (ls.drop (j + 1)) (met' ++ [y]) (ways' ++ [wv ++ [y]])) := Lib.hid (by rw [← HLS.out]; exact scan_drop HY.out)
            clear ow hy
            by_cases hyn : y = n
            · have HAR : Hid (aroundR g all n = wv) := Lib.hid (by
                rw [HV.out, show all.length + 1 - m = (all.length - m) + 1 by have := AX'.out.fro.bfs.small; have := HMM.out; have := AR.out.fro.bfs.small; omega]
                refine bfs_hit HWV.out ?_
                rw [HX.out, HLS.out, HSC.out, HSD.out, if_pos hyn])
              have hway := t_way g all n fr' met' ways' m wv fb met'.length wx AX'.out.fro HW'.out (by omega) AX'.out.im
              rw [HX.out] at hway
              have HWAY := Lib.hid hway
              have hd : (y == n) = true := by simp [hyn]
              have hwne := (AX'.out.fro.len m wv HW'.out).1
              have HNE : Hid (wv ≠ []) := Lib.hid (fun e => by rw [e] at hwne; simp at hwne)
              clear hway hwne
              subst hyn
              go_wp2_with fail
              refine HWAY.out.mono ?_; rintro e w9 ⟨v9, rfl, o9, u9⟩
              have O9 := Lib.hid o9
              have U9 := Lib.hid (AX'.out.up.trans u9)
              clear o9 u9
              go_wp2_with fail
              go_ret
              unfold ArPost
              refine ⟨_, rfl, U9.out, fun h => absurd (HAR.out.symm.trans h) HNE.out, fun _ => ?_⟩
              rw [HAR.out]
              exact own_base O9.out AX'.out.up.size
            · have hd : (y == n) = false := by simpa using hyn
              by_cases hym : y ∈ met'
              · obtain ⟨p, hp⟩ : ∃ p, fr' y = some p := Option.isSome_iff_exists.1 ((AX'.out.fro.dom y).2 hym)
                have lk : (Instr.lookup 61 (.map (some fb)) (.int .i64 y) true).run Tryz.prog wx = .ok (.tuple #[.int .i64 p, .bool true]) wx := by
                  rw [run_lookup_int Tryz.underlying61 Tryz.underlying3 (Tryz.zeroValue3 wx) AX'.out.im y, hp]
                  rfl
                have HS2 : Hid (scanR g n x wv ls met ways = scanR g n x wv (ls.drop (j + 1)) met' ways') := Lib.hid (by rw [HSC.out, HSD.out, if_neg hyn, if_pos hym])
                clear hp hym hyn
                go_wp2_with fail
                go_roundw
                case rel => exact ⟨j + 1, by go_num, by omega, Lib.hid ⟨fr', met', ways', AX'.out, HW'.out, HMM.out, HS2.out⟩⟩
                case measure => simp [intOf]; omega
              · have hp : fr' y = none := by
                  cases e : fr' y with
                  | none => rfl
                  | some p => exact absurd ((AX'.out.fro.dom y).1 (by rw [e]; rfl)) hym
                have lk : (Instr.lookup 61 (.map (some fb)) (.int .i64 y) true).run Tryz.prog wx = .ok (.tuple #[.int .i64 0, .bool false]) wx := by
                  rw [run_lookup_int Tryz.underlying61 Tryz.underlying3 (Tryz.zeroValue3 wx) AX'.out.im y, hp]
                  rfl
                have HS2 : Hid (scanR g n x wv ls met ways = scanR g n x wv (ls.drop (j + 1)) (met' ++ [y]) (ways' ++ [wv ++ [y]])) := Lib.hid (by rw [HSC.out, HSD.out, if_neg hyn, if_neg hym])
                have hya : y ∈ all := (mem_succL.1 (List.mem_of_getElem? HY.out)).1
                have hyl : leadsB g x y = true := (mem_succL.1 (List.mem_of_getElem? HY.out)).2
                have FP : Hid (From g all n (fun z => if z = y then some x else fr' z) (met' ++ [y]) (ways' ++ [wv ++ [y]])) := Lib.hid (by
                  have h1 := AX'.out.fro.push HW'.out (k := y) (by rw [HX.out]; exact hyl) hyn hym hya
                  rw [HX.out] at h1
                  exact h1)
                obtain ⟨w8, f3, im, hu8⟩ := run_mapUpdate_int (P := Tryz.prog) Tryz.underlying61 Tryz.underlying3 AX'.out.im y (.int .i64 x)
                have im2 : Hid (IMap w8 .i64 fb (fun k => ((fun z => if z = y then some x else fr' z) k).map (.int .i64)) (met' ++ [y]).length) := Lib.hid (by
                  rw [hp] at im
                  rw [List.length_append]
                  exact im.congr (fun k => by
                    unfold putI
                    by_cases e : k = y
                    · simp [e]
                    · simp [e]))
                have hfbv : fb ≠ vg := fun e => by
                  obtain ⟨g', o', c', cur', e1, _, _, _, hb, _⟩ := AX'.out.td
                  injection e1 with e1 _ _
                  injection e1 with e1
                  injection e1 with e1 _ _
                  subst e1
                  exact blk_map hb AX'.out.im e.symm
                have U8 : Hid (Upd [] w w8) := Lib.hid (AX'.out.up.trans' hu8 (by intro q hq; simp at hq; subst hq; exact .inr (by have := HFB.out; omega)))
                have T8 : Hid (SlAt 3 w.heap.size (w8.alloc (.cells #[.int .i64 y] 3)) (.slice (some ⟨vg, vo, none⟩) nv vc) (todoL ways' (m + 1))) := Lib.hid ((AX'.out.td.upd hu8 (by intro q hq; simp [Value.ownBlock] at hq; subst hq; simp; exact fun e => hfbv e.symm)).upd0 ((Upd.refl [] w8).alloc _))
                obtain ⟨v9, w9, hr9, t9, u9, b9⟩ := T8.out.app (P := Tryz.prog) int_elem (by rw [todoL_len]; omega) (Nat.le_trans U8.out.size (by simp)) (Blk.new w8 3 #[.int .i64 y]) 36
                have A9 : Hid (ArSt g all n fb w w9 v9 (m + 1) (fun z => if z = y then some x else fr' z) (met' ++ [y]) (ways' ++ [wv ++ [y]])) := Lib.hid {
                  fro := FP.out
                  im := (im2.out.upd ((Upd.refl [] w8).alloc _) (by simp)).upd u9 (by simp [Value.ownBlock]; exact hfbv)
                  td := by rw [todoL_push (by omega)]; exact t9
                  up := (U8.out.trans ((Upd.refl [] w8).alloc _)).trans' u9 (by intro q hq; simp [Value.ownBlock] at hq; subst hq; obtain ⟨_, _, _, e1, _, _, h5, _⟩ := AX'.out.td.form; injection e1 with e1 _ _; injection e1 with e1; injection e1 with e1 _ _; subst e1; exact .inr h5) }
                have HW9 : Hid ((ways' ++ [wv ++ [y]])[m]? = some wv) := Lib.hid (by rw [List.getElem?_append_left hmw]; exact HW'.out)
                clear hp hym hyn hya hyl im hu8 hfbv t9 u9 b9
                obtain ⟨_, _, _, hv9, _⟩ := A9.out.td.form
                go_wp2_with (at_builtin; refine stoppedR ?_)
                refine Lib.hid ?_
                refine wpList_appr (w8.alloc (.cells #[.int .i64 y] 3)) (by rfl) (.tmp 52) (.tmp 54) _ _ (by rfl) _ _ (by rfl) (by rfl) hr9 ?_
                subst hv9
                clear hr9 lk f3 f0
                go_wp2_with fail
                go_roundw
                case rel => exact ⟨j + 1, by go_num, by omega, Lib.hid ⟨_, _, _, A9.out, HW9.out, by rw [List.length_append]; have := HMM.out; omega, HS2.out⟩⟩
                case measure => simp [intOf]; omega
          · have : j = n1 := by omega
            subst this
            have HAR : Hid (aroundR g all n = bfsR g all n (all.length + 1 - (m + 1)) (m + 1) met' ways') := Lib.hid (by
              rw [HV.out, show all.length + 1 - m = (all.length + 1 - (m + 1)) + 1 by have := AX'.out.fro.bfs.small; have := AR.out.fro.bfs.small; omega]
              refine bfs_on HWV.out ?_
              rw [HX.out, HLS.out, HSC.out, List.drop_eq_nil_of_le (by rw [HN1.out]; exact Nat.le_refl _)]
              rfl)
            have HREL : Hid (∃ m fr met ways, ArSt g all n fb w wx (.slice (some ⟨vg, vo, none⟩) nv vc) m fr met ways ∧ m ≤ ways.length ∧ aroundR g all n = bfsR g all n (all.length + 1 - m) m met ways) := Lib.hid ⟨m + 1, fr', met', ways', AX'.out, hmw, HAR.out⟩
            have HMS : Hid (2 * (100 - mapLen fb wx) + nv < 2 * (100 - mapLen fb wq) + 1) := Lib.hid (by
              rw [HMAP.out, AX'.out.im.mapLen]
              have h1 := HNT.out
              have h2 := HNV.out
              have h3 := HMM.out
              omega)
            go_wp2_with fail
            go_roundw
            case rel => exact HREL
            case measure => exact HMS.out
      · rw [if_neg hc1] at HTL
        have q5 : ¬ (qc = 1) := hc1
        have q6 : ¬ ((qc : Int) - 1 = 0) := by omega
        go_wp2_with fail
        clear k0 k4 r4
        go_loopw [6, 30] (fun v u wx => ∃ j : Nat, u = .int .i64 j ∧ j ≤ n1 ∧ Hid (∃ fr' met' ways', ArSt g all n fb w wx v (m + 1) fr' met' ways' ∧ ways'[m]? = some wv ∧ met.length ≤ met'.length ∧ scanR g n x wv ls met ways = scanR g n x wv (ls.drop j) met' ways')) (fun _ u _ => n1 - (intOf u).toNat)
        case atStart => exact ⟨0, rfl, by omega, Lib.hid ⟨fr, met, ways, ⟨AR.out.fro, AR.out.im, HTL.out, AR.out.up⟩, HWV.out, Nat.le_refl _, rfl⟩⟩
        case round =>
          obtain ⟨j, rfl, hj, HRELJ⟩ := hrel
          rename World => wx
          obtain ⟨fr', met', ways', ar', hw', hmm, hsc⟩ := HRELJ.out
          have AX := Lib.hid ar'
          have HW' := Lib.hid hw'
          have HMM := Lib.hid hmm
          have HSC := Lib.hid hsc
          have hml' : met'.length ≤ 60 := Nat.le_trans ar'.fro.bfs.small hl
          have hwl' := ar'.fro.bfs.len
          have hmw := (List.getElem?_eq_some_iff.1 hw').1
          obtain ⟨vg, vo, vc, rfl, hv1, hv2, _, _⟩ := ar'.td.form
          rw [todoL_len] at hv1 ⊢
          obtain ⟨nv, hnv⟩ : ∃ nv, ways'.length - (m + 1) = nv := ⟨_, rfl⟩
          rw [hnv] at hv1 ⊢
          have HNV := Lib.hid hnv
          have AX' : Hid (ArSt g all n fb w wx (.slice (some ⟨vg, vo, none⟩) nv vc) (m + 1) fr' met' ways') := Lib.hid (by have := ar'; rw [todoL_len, hnv] at this; exact this)
          clear ar' hw' hmm hsc hnv HRELJ AX
          by_cases hjn : j < n1
          · obtain ⟨y, hy⟩ : ∃ y, ls[j]? = some y := ⟨_, List.getElem?_eq_getElem (by rw [HN1.out]; exact hjn)⟩
            have HY : Hid ((succL g all x)[j]? = some y) := Lib.hid (by rw [HLS.out]; exact hy)
            have ow : wx.ownsRow B 3 1 (.slice A1' n1 c1) n1 (ls.map (.int .i64)) := own_upd0 OW0.out AX'.out.up
            obtain ⟨lb, lc, lcur, e, _, _, _, _, _, _⟩ := own_form ow (by omega)
            injection e with e1 e2 e3
            subst e1 e3
            clear e2
            have f0 : wx.cell? ⟨lb, j, none⟩ = some (.int .i64 y) := own_cell ow j _ (by rw [List.getElem?_map, hy]; rfl)
            have q3 : (0 : Int) ≤ (j : Int) := by omega
            have q4 : (j : Int) < (n1 : Int) := by omega
            have HSD : Hid (scanR g n x wv (ls.drop j) met' ways' = if y = n then none else if y ∈ met' then scanR g n x wv (ls.drop (j + 1)) met' ways' else scanR g n x wv (ls.drop (j + 1)) (met' ++ [y]) (ways' ++ [wv ++ [y]])) := Lib.hid (by rw [← HLS.out]; exact scan_drop HY.out)
            clear ow hy
            by_cases hyn : y = n
            · have HAR : Hid (aroundR g all n = wv) := Lib.hid (by
                rw [HV.out, show all.length + 1 - m = (all.length - m) + 1 by have := AX'.out.fro.bfs.small; have := HMM.out; have := AR.out.fro.bfs.small; omega]
                refine bfs_hit HWV.out ?_
                rw [HX.out, HLS.out, HSC.out, HSD.out, if_pos hyn])
              have hway := t_way g all n fr' met' ways' m wv fb met'.length wx AX'.out.fro HW'.out (by omega) AX'.out.im
              rw [HX.out] at hway
              have HWAY := Lib.hid hway
              have hd : (y == n) = true := by simp [hyn]
              have hwne := (AX'.out.fro.len m wv HW'.out).1
              have HNE : Hid (wv ≠ []) := Lib.hid (fun e => by rw [e] at hwne; simp at hwne)
              clear hway hwne
              subst hyn
              go_wp2_with fail
              refine HWAY.out.mono ?_; rintro e w9 ⟨v9, rfl, o9, u9⟩
              have O9 := Lib.hid o9
              have U9 := Lib.hid (AX'.out.up.trans u9)
              clear o9 u9
              go_wp2_with fail
              go_ret
              unfold ArPost
              refine ⟨_, rfl, U9.out, fun h => absurd (HAR.out.symm.trans h) HNE.out, fun _ => ?_⟩
              rw [HAR.out]
              exact own_base O9.out AX'.out.up.size
            · have hd : (y == n) = false := by simpa using hyn
              by_cases hym : y ∈ met'
              · obtain ⟨p, hp⟩ : ∃ p, fr' y = some p := Option.isSome_iff_exists.1 ((AX'.out.fro.dom y).2 hym)
                have lk : (Instr.lookup 61 (.map (some fb)) (.int .i64 y) true).run Tryz.prog wx = .ok (.tuple #[.int .i64 p, .bool true]) wx := by
                  rw [run_lookup_int Tryz.underlying61 Tryz.underlying3 (Tryz.zeroValue3 wx) AX'.out.im y, hp]
                  rfl
                have HS2 : Hid (scanR g n x wv ls met ways = scanR g n x wv (ls.drop (j + 1)) met' ways') := Lib.hid (by rw [HSC.out, HSD.out, if_neg hyn, if_pos hym])
                clear hp hym hyn
                go_wp2_with fail
                go_roundw
                case rel => exact ⟨j + 1, by go_num, by omega, Lib.hid ⟨fr', met', ways', AX'.out, HW'.out, HMM.out, HS2.out⟩⟩
                case measure => simp [intOf]; omega
              · have hp : fr' y = none := by
                  cases e : fr' y with
                  | none => rfl
                  | some p => exact absurd ((AX'.out.fro.dom y).1 (by rw [e]; rfl)) hym
                have lk : (Instr.lookup 61 (.map (some fb)) (.int .i64 y) true).run Tryz.prog wx = .ok (.tuple #[.int .i64 0, .bool false]) wx := by
                  rw [run_lookup_int Tryz.underlying61 Tryz.underlying3 (Tryz.zeroValue3 wx) AX'.out.im y, hp]
                  rfl
                have HS2 : Hid (scanR g n x wv ls met ways = scanR g n x wv (ls.drop (j + 1)) (met' ++ [y]) (ways' ++ [wv ++ [y]])) := Lib.hid (by rw [HSC.out, HSD.out, if_neg hyn, if_neg hym])
                have hya : y ∈ all := (mem_succL.1 (List.mem_of_getElem? HY.out)).1
                have hyl : leadsB g x y = true := (mem_succL.1 (List.mem_of_getElem? HY.out)).2
                have FP : Hid (From g all n (fun z => if z = y then some x else fr' z) (met' ++ [y]) (ways' ++ [wv ++ [y]])) := Lib.hid (by
                  have h1 := AX'.out.fro.push HW'.out (k := y) (by rw [HX.out]; exact hyl) hyn hym hya
                  rw [HX.out] at h1
                  exact h1)
                obtain ⟨w8, f3, im, hu8⟩ := run_mapUpdate_int (P := Tryz.prog) Tryz.underlying61 Tryz.underlying3 AX'.out.im y (.int .i64 x)
                have im2 : Hid (IMap w8 .i64 fb (fun k => ((fun z => if z = y then some x else fr' z) k).map (.int .i64)) (met' ++ [y]).length) := Lib.hid (by
                  rw [hp] at im
                  rw [List.length_append]
                  exact im.congr (fun k => by
                    unfold putI
                    by_cases e : k = y
                    · simp [e]
                    · simp [e]))
                have hfbv : fb ≠ vg := fun e => by
                  obtain ⟨g', o', c', cur', e1, _, _, _, hb, _⟩ := AX'.out.td
                  injection e1 with e1 _ _
                  injection e1 with e1
                  injection e1 with e1 _ _
                  subst e1
                  exact blk_map hb AX'.out.im e.symm
                have U8 : Hid (Upd [] w w8) := Lib.hid (AX'.out.up.trans' hu8 (by intro q hq; simp at hq; subst hq; exact .inr (by have := HFB.out; omega)))
                have T8 : Hid (SlAt 3 w.heap.size (w8.alloc (.cells #[.int .i64 y] 3)) (.slice (some ⟨vg, vo, none⟩) nv vc) (todoL ways' (m + 1))) := Lib.hid ((AX'.out.td.upd hu8 (by intro q hq; simp [Value.ownBlock] at hq; subst hq; simp; exact fun e => hfbv e.symm)).upd0 ((Upd.refl [] w8).alloc _))
                obtain ⟨v9, w9, hr9, t9, u9, b9⟩ := T8.out.app (P := Tryz.prog) int_elem (by rw [todoL_len]; omega) (Nat.le_trans U8.out.size (by simp)) (Blk.new w8 3 #[.int .i64 y]) 36
                have A9 : Hid (ArSt g all n fb w w9 v9 (m + 1) (fun z => if z = y then some x else fr' z) (met' ++ [y]) (ways' ++ [wv ++ [y]])) := Lib.hid {
                  fro := FP.out
                  im := (im2.out.upd ((Upd.refl [] w8).alloc _) (by simp)).upd u9 (by simp [Value.ownBlock]; exact hfbv)
                  td := by rw [todoL_push (by omega)]; exact t9
                  up := (U8.out.trans ((Upd.refl [] w8).alloc _)).trans' u9 (by intro q hq; simp [Value.ownBlock] at hq; subst hq; obtain ⟨_, _, _, e1, _, _, h5, _⟩ := AX'.out.td.form; injection e1 with e1 _ _; injection e1 with e1; injection e1 with e1 _ _; subst e1; exact .inr h5) }
                have HW9 : Hid ((ways' ++ [wv ++ [y]])[m]? = some wv) := Lib.hid (by rw [List.getElem?_append_left hmw]; exact HW'.out)
                clear hp hym hyn hya hyl im hu8 hfbv t9 u9 b9
                obtain ⟨_, _, _, hv9, _⟩ := A9.out.td.form
                go_wp2_with (at_builtin; refine stoppedR ?_)
                refine Lib.hid ?_
                refine wpList_appr (w8.alloc (.cells #[.int .i64 y] 3)) (by rfl) (.tmp 52) (.tmp 54) _ _ (by rfl) _ _ (by rfl) (by rfl) hr9 ?_
                subst hv9
                clear hr9 lk f3 f0
                go_wp2_with fail
                go_roundw
                case rel => exact ⟨j + 1, by go_num, by omega, Lib.hid ⟨_, _, _, A9.out, HW9.out, by rw [List.length_append]; have := HMM.out; omega, HS2.out⟩⟩
                case measure => simp [intOf]; omega
          · have : j = n1 := by omega
            subst this
            have HAR : Hid (aroundR g all n = bfsR g all n (all.length + 1 - (m + 1)) (m + 1) met' ways') := Lib.hid (by
              rw [HV.out, show all.length + 1 - m = (all.length + 1 - (m + 1)) + 1 by have := AX'.out.fro.bfs.small; have := AR.out.fro.bfs.small; omega]
              refine bfs_on HWV.out ?_
              rw [HX.out, HLS.out, HSC.out, List.drop_eq_nil_of_le (by rw [HN1.out]; exact Nat.le_refl _)]
              rfl)
            have HREL : Hid (∃ m fr met ways, ArSt g all n fb w wx (.slice (some ⟨vg, vo, none⟩) nv vc) m fr met ways ∧ m ≤ ways.length ∧ aroundR g all n = bfsR g all n (all.length + 1 - m) m met ways) := Lib.hid ⟨m + 1, fr', met', ways', AX'.out, hmw, HAR.out⟩
            have HMS : Hid (2 * (100 - mapLen fb wx) + nv < 2 * (100 - mapLen fb wq) + nt) := Lib.hid (by
              rw [HMAP.out, AX'.out.im.mapLen]
              have h1 := HNT.out
              have h2 := HNV.out
              have h3 := HMM.out
              omega)
            go_wp2_with fail
            go_roundw
            case rel => exact HREL
            case measure => exact HMS.out
end Go.Proofs.YteddiknlcdbhjaaGreatDoor

namespace Go.Proofs.YteddiknlcdbhjaaGreatDoor
open Go Go.RowKit TrP Assoc
open Vk (cntOf cntQ)
attribute [local go_sem] litStep_value

def RingT (l : List Ev) (w : World) (e : Ending) (w' : World) : Prop := ∃ s v, e = .returned (.tuple #[s, v]) ∧ Upd [] w w' ∧
  ((wrongE l).1 ≠ 0 → s = .slice none 0 0 ∧ ErrV w' v (wrongE l).1 (wrongE l).2) ∧
  ((wrongE l).1 = 0 → v = .nilIface ∧ (ringL (graphR l) (txnsR l) = [] → s = .slice none 0 0) ∧ (ringL (graphR l) (txnsR l) ≠ [] → Ow encK 3 w' w.heap.size s (ringL (graphR l) (txnsR l))))
theorem keys_all {w : World} {b cn : Nat} {g : List Ed} {all out : List Int} (hr : RiseI all) (h : IMap w .i64 b (fun k => (cntR g all out k).map (.int .i64)) cn) : ∃ al : AL, Srt al ∧ al.length = cn ∧ al.map (·.1) = all ∧ IMap w .i64 b (mapI al) al.length := by
  obtain ⟨al, h1, h2, h3, h4⟩ := al_of h
  refine ⟨al, h1, h2, ?_, by rw [h2]; exact h.congr (fun k => (h3 k).symm)⟩
  refine riseI_uniq (List.pairwise_map.2 h1) hr (fun k => ?_)
  rw [get_keys h1, h4]
  unfold cntR
  by_cases e : k ∈ all <;> simp [e]
theorem ring_drop {g : List Ed} {all : List Int} {j : Nat} {x : Int} (h : all[j]? = some x) : ringGo g all (all.drop j) = if aroundR g all x = [] then ringGo g all (all.drop (j + 1)) else aroundR g all x := by
  obtain ⟨hj, rfl⟩ := List.getElem?_eq_some_iff.1 h
  rw [List.drop_eq_getElem_cons hj]
  rfl
set_option maxRecDepth 100000 in
set_option maxHeartbeats 8000000 in
theorem t_ring (A : Option Addr) (n k : Nat) (l : List Ev) (w : World) (h : Rd encEv w (.slice A n k) l) (hn : l.length = n) (hl : n ≤ 60) (hev : ∀ x ∈ l, EvIn x) :
    Calls Tryz.prog 13 #[.slice A n k] w fun e w' => RingT l w e w' := by
  have HT := Lib.hid (t_trace A n k l w h hn hl hev)
  have hl60 : l.length ≤ 60 := by omega
  have HEV := Lib.hid hev
  clear h hn hev
  go_enter Tryz.func13, Tryz.ntmps13
  go_wp2_with fail
  refine HT.out.mono ?_; rintro e w1 ⟨t, v, rfl, he, u1, hbad, hok⟩
  have HE := Lib.hid he
  have U1 := Lib.hid u1
  have HOK := Lib.hid hok
  have HBAD := Lib.hid hbad
  clear u1 hok hbad
  rcases he with ⟨rfl, h0, _⟩ | ⟨rfl, ⟨h1, h2⟩, _⟩ | ⟨g, rfl, hb, h1, h2⟩
  · obtain ⟨_, ρ0, tb, b0, S0, cn0, ht, hcn0, hst0, hS0⟩ := HOK.out h0
    subst ht
    have H0 := Lib.hid h0
    have HPA := Lib.hid (t_paired hst0 hS0 h0 hl60 hcn0)
    have HB1 : Hid (w.heap.size ≤ w1.heap.size) := Lib.hid U1.out.size
    clear h0 hst0 hS0 hcn0
    go_wp2_with fail
    refine HPA.out.mono ?_; rintro e w2 ⟨rfl, ⟨ρ1, b, cn, S, hst, hcn⟩, hup⟩
    have U2 := Lib.hid (hup HB1.out w rfl U1.out)
    have HTX : Hid (∀ x ∈ txnsR l, (Lit.int .i64 x).wf = true) := Lib.hid (fun x hx => by
      obtain ⟨y, hy, e⟩ := (txnsR_rise l).2 x |>.1 hx
      rw [← e]; exact (HEV.out y hy).txn)
    obtain ⟨g, hg⟩ : ∃ g, graphR l = g := ⟨_, rfl⟩
    obtain ⟨all, hall⟩ : ∃ all, txnsR l = all := ⟨_, rfl⟩
    have hgk := gok (wrongE_iff.1.1 H0.out)
    rw [hg, hall] at hst hgk
    rw [hall] at HTX
    have HG := Lib.hid hgk
    have HGG := Lib.hid hg
    have HALL := Lib.hid hall
    have hcl := imap_len hgk.rise hst.tx.2
    subst hcl
    have ST := Lib.hid hst
    obtain ⟨al, a1, a2, a3, a4⟩ := keys_all hgk.rise hst.tx.2
    have HA1 := Lib.hid a1
    have HA3 := Lib.hid a3
    have HA4 := Lib.hid a4
    have hal : al.length ≤ 100 := by
      have a2' : al.length = all.length := a2
      omega
    have hkw : Hid (kwf al) := Lib.hid (fun p hp => HTX.out p.1 (by rw [← a3]; exact List.mem_map.2 ⟨p, hp, rfl⟩))
    have k1 : w2.cell? ⟨tb, 0, none⟩ = some (.map (some b.bt)) := hst.tr.cell 0
    clear hup hst HPA HOK HBAD HE HT hg hall hgk a1 a2 a3 a4
    go_wp2_with fail
    refine (keysM (some b.bt) w2).mono ?_; rintro e w3 ⟨rfl, hw3⟩
    have Y3 : Hid (Blk w3 w2.heap.size 61 #[.map (some b.bt)]) := Lib.hid (by rw [← hw3]; exact Blk.new w2 _ _)
    have U3 : Hid (Upd [] w2 w3) := Lib.hid (by rw [← hw3]; exact (Upd.refl [] w2).alloc _)
    clear hw3 k1
    go_wp2_with fail
    refine (sortedKeys w2.heap.size b.bt al w3 Y3.out (HA4.out.upd U3.out (by simp)) HA1.out hkw.out hal).mono ?_; rintro e w4 ⟨vv, rfl, ov, u4⟩
    rw [HA3.out] at ov
    have U4 := Lib.hid (U3.out.trans u4)
    obtain ⟨A1, cv, rfl, hnc, hcm⟩ := own_slice ov
    obtain ⟨nv, hnv⟩ : ∃ nv, all.length = nv := ⟨_, rfl⟩
    have OV : Hid (w4.ownsRow w3.heap.size 3 1 (.slice A1 nv cv) nv (all.map (.int .i64))) := Lib.hid (by have := ov; unfold Ow at this; rw [hnv, Vk.flat_intK] at this; exact this)
    have HNV := Lib.hid hnv
    have hnv60 : nv ≤ 60 := by omega
    rw [hnv] at ⊢
    have ST4 := Lib.hid (ST.out.upd0 U4.out)
    clear ov u4 hnc hcm hnv
    go_wp2_with fail
    go_loopw [26] (fun u wq => ∃ j : Nat, u = .int .i64 j ∧ j ≤ nv ∧ Hid (Upd [] w4 wq ∧ ringL g all = ringGo g all (all.drop j))) (fun u _ => nv - (intOf u).toNat)
    case atStart => exact ⟨0, rfl, by omega, Lib.hid ⟨.refl _ _, rfl⟩⟩
    case round =>
      obtain ⟨j, rfl, hj, HREL⟩ := hrel
      rename World => wq
      obtain ⟨uq, hrg⟩ := HREL.out
      have UQ := Lib.hid uq
      have HRG := Lib.hid hrg
      clear uq hrg HREL
      by_cases hjn : j < nv
      · obtain ⟨x, hx⟩ : ∃ x, all[j]? = some x := ⟨_, List.getElem?_eq_getElem (by rw [HNV.out]; exact hjn)⟩
        have HX := Lib.hid hx
        have ow := own_upd0 OV.out UQ.out
        obtain ⟨lb, lc, lcur, e, _, _, _, _, _, _⟩ := own_form ow (by omega)
        injection e with e1 e2 e3
        subst e1 e3
        clear e2
        have f0 : wq.cell? ⟨lb, j, none⟩ = some (.int .i64 x) := own_cell ow j _ (by rw [List.getElem?_map, hx]; rfl)
        have q3 : (0 : Int) ≤ (j : Int) := by omega
        have q4 : (j : Int) < (nv : Int) := by omega
        clear ow hx
        go_wp2_with fail
        clear f0 q3 q4
        refine (t_around ρ1 w.heap.size tb b _ _ (tcOf (cntR g all []) all.length l S (succL g all)) g all x wq (ST4.out.upd0 UQ.out) HG.out (by rw [HNV.out]; exact hnv60)).mono ?_; rintro e w5 ⟨v5, rfl, u5, hz, hnz⟩
        have U5 := Lib.hid (UQ.out.trans u5)
        have HUW : Hid (Upd [] w wq) := Lib.hid ((U2.out.trans U4.out).trans UQ.out)
        have HU5 := Lib.hid u5
        by_cases har : aroundR g all x = []
        · have hv5 := hz har
          subst hv5
          have HR2 : Hid (ringL g all = ringGo g all (all.drop (j + 1))) := Lib.hid (by rw [HRG.out, ring_drop HX.out, if_pos har])
          clear hz hnz har u5
          go_wp2_with fail
          go_roundw
          case rel => exact ⟨j + 1, by go_num, by omega, Lib.hid ⟨U5.out, HR2.out⟩⟩
          case measure => simp [intOf]; omega
        · have ho := hnz har
          have HR2 : Hid (ringL g all = aroundR g all x) := Lib.hid (by rw [HRG.out, ring_drop HX.out, if_neg har])
          have HAR := Lib.hid har
          have HO := Lib.hid ho
          have hpos : 0 < (aroundR g all x).length := List.length_pos_iff.2 har
          obtain ⟨rg, rc, rcur, e5, _, _, _, _, _, _⟩ := own_form ho hpos
          obtain ⟨rn, hrn⟩ : ∃ rn, (aroundR g all x).length = rn := ⟨_, rfl⟩
          rw [hrn] at e5
          subst e5
          clear hz hnz har ho hpos hrn u5
          go_wp2_with fail
          go_ret2
          unfold RingT
          rw [HGG.out, HALL.out, HR2.out]
          exact ⟨_, _, rfl, HUW.out.trans HU5.out, fun h => absurd H0.out h, fun _ => ⟨rfl, fun h => absurd h HAR.out, fun _ => own_base HO.out HUW.out.size⟩⟩
      · have : j = nv := by omega
        subst this
        have HZ : Hid (ringL g all = []) := Lib.hid (by rw [HRG.out, List.drop_eq_nil_of_le (by rw [HNV.out]; exact Nat.le_refl _)]; rfl)
        have HUW : Hid (Upd [] w wq) := Lib.hid ((U2.out.trans U4.out).trans UQ.out)
        go_wp2_with fail
        go_ret2
        unfold RingT
        rw [HGG.out, HALL.out, HZ.out]
        exact ⟨_, _, rfl, HUW.out, fun h => absurd H0.out h, fun _ => ⟨rfl, fun _ => rfl, fun h => absurd rfl h⟩⟩
  · have H1 : Hid ((wrongE l).1 ≠ 0) := Lib.hid (by omega)
    have ht := HBAD.out H1.out
    subst ht
    clear h1 h2
    go_wp2_with fail
    go_ret2
    unfold RingT
    exact ⟨_, _, rfl, U1.out, fun _ => ⟨rfl, HE.out⟩, fun h => absurd h H1.out⟩
  · have H1 : Hid ((wrongE l).1 ≠ 0) := Lib.hid (by omega)
    have ht := HBAD.out H1.out
    subst ht
    clear h1 h2 hb
    go_wp2_with fail
    go_ret2
    unfold RingT
    exact ⟨_, _, rfl, U1.out, fun _ => ⟨rfl, HE.out⟩, fun h => absurd h H1.out⟩
end Go.Proofs.YteddiknlcdbhjaaGreatDoor

namespace Go.Proofs.YteddiknlcdbhjaaGreatDoor
open Go Go.RowKit TrP
attribute [local go_sem] litStep_value

set_option maxRecDepth 100000 in
set_option maxHeartbeats 1000000 in
theorem same_edges (B B' : Nat) (L : List Ed) (v u : Value) (w : World) (hv : Ow encE 40 w B v L) (hu : Ow encE 40 w B' u L) (hL : L.length ≤ 1000) :
    Calls Tryz.prog 9 #[v, u] w fun e w' => e = .returned (.bool true) ∧ Upd [] w w' := by
  obtain ⟨A, c, rfl, hnc, hcm⟩ := own_slice hv
  obtain ⟨A', c', rfl, hnc', hcm'⟩ := own_slice hu
  obtain ⟨n, hn⟩ : ∃ n, L.length = n := ⟨_, rfl⟩
  have HV := Lib.hid hv
  have HU := Lib.hid hu
  have HN := Lib.hid hn
  rw [hn] at hL hnc hnc' ⊢
  clear hv hu hn
  go_enter Tryz.func9, Tryz.ntmps9
  go_wp2_with fail
  go_loopw [5] (fun v wr => ∃ k : Nat, v = .int .i64 k ∧ k ≤ n ∧ Hid (Upd [] w wr)) (fun v _ => n - (intOf v).toNat)
  case atStart => exact ⟨0, rfl, by omega, Lib.hid (.refl _ _)⟩
  case round =>
    obtain ⟨k, rfl, hk, U1⟩ := hrel
    by_cases hkn : k < n
    · obtain ⟨⟨xa, xb, xc⟩, hx⟩ : ∃ x, L[k]? = some x := ⟨_, List.getElem?_eq_getElem (by rw [HN.out]; omega)⟩
      have HX := Lib.hid hx
      obtain ⟨g, cg, cur, e1, _⟩ := own_form HV.out (by rw [HN.out]; omega)
      obtain ⟨g', cg', cur', e2, _⟩ := own_form HU.out (by rw [HN.out]; omega)
      injection e1 with e1 _ e1'
      injection e2 with e2 _ e2'
      subst e1 e2 e1' e2'
      have CS : Hid (∀ W, Upd [] wr.drew W → W.cell? ⟨g, k * 3, none⟩ = some (.int .i64 xa) ∧ W.cell? ⟨g, k * 3 + 1, none⟩ = some (.int .i64 xb) ∧ W.cell? ⟨g, k * 3 + 2, none⟩ = some (.int .i64 xc) ∧ W.cell? ⟨g', k * 3, none⟩ = some (.int .i64 xa) ∧ W.cell? ⟨g', k * 3 + 1, none⟩ = some (.int .i64 xb) ∧ W.cell? ⟨g', k * 3 + 2, none⟩ = some (.int .i64 xc)) := Lib.hid (fun W hW => by
        have hu : Upd [] w W := U1.out.drew.trans hW
        have ho := own_upd0 HV.out hu
        have ho' := own_upd0 HU.out hu
        exact ⟨own_cell ho _ _ ((flat_get (E := encE) HX.out (j := 0) (by decide)).trans rfl), own_cell ho _ _ ((flat_get (E := encE) HX.out (j := 1) (by decide)).trans rfl), own_cell ho _ _ ((flat_get (E := encE) HX.out (j := 2) (by decide)).trans rfl), own_cell ho' _ _ ((flat_get (E := encE) HX.out (j := 0) (by decide)).trans rfl), own_cell ho' _ _ ((flat_get (E := encE) HX.out (j := 1) (by decide)).trans rfl), own_cell ho' _ _ ((flat_get (E := encE) HX.out (j := 2) (by decide)).trans rfl)⟩)
      have q1 : (0 : Int) ≤ (k : Int) := by omega
      have q2 : (k : Int) < (n : Int) := by omega
      clear hx
      go_wp2_with fail
      refine wp_invN [] [] (by kernel_rfl) (by kernel_rfl) (by kernel_rfl) trivial ?_
      with_reducible apply wpV_light
      · simp only [lightOp]
      · intro W hU hF
        have f0 := CS.out W hU
        clear hU hF
        go_simp
        exact rfl
      simp only [Act.put, List.setIfInBounds_toArray, List.set_cons_zero, List.set_cons_succ]
      with_reducible apply wpV_light
      · simp only [lightOp]
      · intro W hU hF
        have f0 := CS.out W hU
        clear hU hF
        go_simp
        exact rfl
      simp only [Act.put, List.setIfInBounds_toArray, List.set_cons_zero, List.set_cons_succ]
      with_reducible apply wpV_light
      · simp only [lightOp]
      · intro W hU hF
        have f0 := CS.out W hU
        clear hU hF
        go_simp
        exact rfl
      simp only [Act.put, List.setIfInBounds_toArray, List.set_cons_zero, List.set_cons_succ]
      with_reducible apply wpV_light
      · simp only [lightOp]
      · intro W hU hF
        have f0 := CS.out W hU
        clear hU hF
        go_simp
        exact rfl
      simp only [Act.put, List.setIfInBounds_toArray, List.set_cons_zero, List.set_cons_succ]
      with_reducible apply wpV_light
      · simp only [lightOp]
      · intro W hU hF
        have f0 := CS.out W hU
        clear hU hF
        go_simp
        exact rfl
      simp only [Act.put, List.setIfInBounds_toArray, List.set_cons_zero, List.set_cons_succ]
      with_reducible apply wpV_light
      · simp only [lightOp]
      · intro W hU hF
        have f0 := CS.out W hU
        clear hU hF
        go_simp
        exact rfl
      simp only [Act.put, List.setIfInBounds_toArray, List.set_cons_zero, List.set_cons_succ]
      with_reducible apply wpV_light
      · simp only [lightOp]
      · intro W hU hF
        have f0 := CS.out W hU
        clear hU hF
        go_simp
        exact rfl
      simp only [Act.put, List.setIfInBounds_toArray, List.set_cons_zero, List.set_cons_succ]
      with_reducible apply wpV_light
      · simp only [lightOp]
      · intro W hU hF
        have f0 := CS.out W hU
        clear hU hF
        go_simp
        exact rfl
      simp only [Act.put, List.setIfInBounds_toArray, List.set_cons_zero, List.set_cons_succ]
      with_reducible apply wpV_light
      · simp only [lightOp]
      · intro W hU hF
        have f0 := CS.out W hU
        clear hU hF
        go_simp
        exact rfl
      simp only [Act.put, List.setIfInBounds_toArray, List.set_cons_zero, List.set_cons_succ]
      refine wpV_end (fun W hU _ _ => ?_)
      have U2 : Hid (Upd [] w W) := Lib.hid (U1.out.drew.trans hU)
      clear hU
      refine wpT_end ?_
      go_wp2_with fail
      go_roundw
      case rel => exact ⟨k + 1, rfl, by omega, U2⟩
      case measure => simp [intOf]; omega
    · go_wp2_with fail
      go_ret
      exact ⟨rfl, U1.out⟩
end Go.Proofs.YteddiknlcdbhjaaGreatDoor

namespace Go.Proofs.YteddiknlcdbhjaaGreatDoor
open Go.RowKit
attribute [local go_sem] litStep_value

def sameToK (L M : List Int) (k : Nat) : Prop := ∀ j, j < k → L.getD j 0 = M.getD j 0
theorem sameK_all {L M : List Int} {n : Nat} (hl : L.length = n) (hm : M.length = n) (h : sameToK L M n) : L = M := by
  apply List.ext_getElem (by rw [hl, hm])
  intro i h1 h2
  have := h i (by omega)
  rwa [List.getD_eq_getElem?_getD, List.getD_eq_getElem?_getD, List.getElem?_eq_getElem h1, List.getElem?_eq_getElem h2] at this
set_option maxRecDepth 100000 in
set_option maxHeartbeats 2000000 in
theorem ints_ok (B B' : Nat) (L M : List Int) (v u : Value) (w : World) (hv : Ow encK 3 w B v L) (hu : Ow encK 3 w B' u M) (hL : L.length ≤ 1000000) (hM : M.length ≤ 1000000) :
    Calls Tryz.prog 14 #[v, u] w fun e w' => e = .returned (.bool (decide (L = M))) ∧ Upd [] w w' := by
  obtain ⟨A, c, rfl, hnc, hcm⟩ := own_slice hv
  obtain ⟨A', c', rfl, hnc', hcm'⟩ := own_slice hu
  obtain ⟨n, hn⟩ : ∃ n, L.length = n := ⟨_, rfl⟩
  obtain ⟨m, hm⟩ : ∃ m, M.length = m := ⟨_, rfl⟩
  have HV : Hid (w.ownsRow B 3 1 (.slice A n c) n (flat encK L)) := Lib.hid (by have := hv; unfold Ow at this; rw [hn] at this; exact this)
  have HU : Hid (w.ownsRow B' 3 1 (.slice A' m c') m (flat encK M)) := Lib.hid (by have := hu; unfold Ow at this; rw [hm] at this; exact this)
  have HN := Lib.hid hn
  have HM := Lib.hid hm
  rw [hn] at hL hnc ⊢
  rw [hm] at hM hnc' ⊢
  clear hv hu hn hm
  obtain ⟨r, hr⟩ : ∃ r, decide (L = M) = r := ⟨_, rfl⟩
  have HR := Lib.hid hr
  rw [hr]
  clear hr
  go_enter Tryz.func14, Tryz.ntmps14
  by_cases hnm : n = m
  · subst hnm
    have d : ((n : Int) != (n : Int)) = false := by simp
    go_wp2_with fail
    go_loopw [5] (fun v wr => ∃ k : Nat, v = .int .i64 k ∧ k ≤ n ∧ Hid (sameToK L M k) ∧ Hid (Upd [] w wr)) (fun v _ => n - (intOf v).toNat)
    case atStart => exact ⟨0, rfl, by omega, Lib.hid (fun j hj => by omega), Lib.hid (.refl _ _)⟩
    case round =>
      obtain ⟨k, rfl, hk, HS, U1⟩ := hrel
      by_cases hkn : k < n
      · obtain ⟨x, hx⟩ : ∃ x, L[k]? = some x := ⟨_, List.getElem?_eq_getElem (by rw [HN.out]; omega)⟩
        obtain ⟨y, hy⟩ : ∃ y, M[k]? = some y := ⟨_, List.getElem?_eq_getElem (by rw [HM.out]; omega)⟩
        have HX := Lib.hid hx
        have HY := Lib.hid hy
        obtain ⟨g, cg, cur, e1, _⟩ := own_form HV.out (by omega)
        obtain ⟨g', cg', cur', e2, _⟩ := own_form HU.out (by omega)
        injection e1 with e1 _ e1'
        injection e2 with e2 _ e2'
        subst e1 e2 e1' e2'
        have CS : Hid (∀ W, Upd [] wr.drew W → W.cell? ⟨g, k, none⟩ = some (.int .i64 x) ∧ W.cell? ⟨g', k, none⟩ = some (.int .i64 y)) := Lib.hid (fun W hW => by
          have hu : Upd [] w W := U1.out.drew.trans hW
          have h1 := own_cell (own_upd0 HV.out hu) _ _ ((flat_get (E := encK) hx (j := 0) (by decide)).trans rfl)
          have h2 := own_cell (own_upd0 HU.out hu) _ _ ((flat_get (E := encK) hy (j := 0) (by decide)).trans rfl)
          rw [show k * encK.s + 0 = k by simp [encI]] at h1 h2
          exact ⟨h1, h2⟩)
        have q1 : (0 : Int) ≤ (k : Int) := by omega
        have q2 : (k : Int) < (n : Int) := by omega
        clear hx hy
        go_wp2_with fail
        refine wp_invN [] [] (by kernel_rfl) (by kernel_rfl) (by kernel_rfl) trivial ?_
        with_reducible apply wpV_light
        · simp only [lightOp]
        · intro W hU hF
          have f0 := CS.out W hU
          clear hU hF
          go_simp
          exact rfl
        simp only [Act.put, List.setIfInBounds_toArray, List.set_cons_zero, List.set_cons_succ]
        with_reducible apply wpV_light
        · simp only [lightOp]
        · intro W hU hF
          have f0 := CS.out W hU
          clear hU hF
          go_simp
          exact rfl
        simp only [Act.put, List.setIfInBounds_toArray, List.set_cons_zero, List.set_cons_succ]
        with_reducible apply wpV_light
        · simp only [lightOp]
        · intro W hU hF
          have f0 := CS.out W hU
          clear hU hF
          go_simp
          exact rfl
        simp only [Act.put, List.setIfInBounds_toArray, List.set_cons_zero, List.set_cons_succ]
        with_reducible apply wpV_light
        · simp only [lightOp]
        · intro W hU hF
          have f0 := CS.out W hU
          clear hU hF
          go_simp
          exact rfl
        simp only [Act.put, List.setIfInBounds_toArray, List.set_cons_zero, List.set_cons_succ]
        with_reducible apply wpV_light
        · simp only [lightOp]
        · intro W hU hF
          have f0 := CS.out W hU
          clear hU hF
          go_simp
          exact rfl
        simp only [Act.put, List.setIfInBounds_toArray, List.set_cons_zero, List.set_cons_succ]
        with_reducible apply wpV_light
        · simp only [lightOp]
        · intro W hU hF
          have f0 := CS.out W hU
          clear hU hF
          go_simp
          exact rfl
        simp only [Act.put, List.setIfInBounds_toArray, List.set_cons_zero, List.set_cons_succ]
        with_reducible apply wpV_light
        · simp only [lightOp]
        · intro W hU hF
          have f0 := CS.out W hU
          clear hU hF
          go_simp
          exact rfl
        simp only [Act.put, List.setIfInBounds_toArray, List.set_cons_zero, List.set_cons_succ]
        with_reducible apply wpV_light
        · simp only [lightOp]
        · intro W hU hF
          have f0 := CS.out W hU
          clear hU hF
          go_simp
          exact rfl
        simp only [Act.put, List.setIfInBounds_toArray, List.set_cons_zero, List.set_cons_succ]
        with_reducible apply wpV_light
        · simp only [lightOp]
        · intro W hU hF
          have f0 := CS.out W hU
          clear hU hF
          go_simp
          exact rfl
        simp only [Act.put, List.setIfInBounds_toArray, List.set_cons_zero, List.set_cons_succ]
        refine wpV_end (fun W hU _ _ => ?_)
        have U2 : Hid (Upd [] w W) := Lib.hid (U1.out.drew.trans hU)
        clear hU
        refine wpT_end ?_
        by_cases hxy : x = y
        · have dd : (x != y) = false := by simpa using hxy
          have HS2 : Hid (sameToK L M (k + 1)) := Lib.hid (fun j hj => by
            rcases Nat.lt_or_ge j k with h1 | h1
            · exact HS.out j h1
            · obtain rfl : j = k := by omega
              rw [List.getD_eq_getElem?_getD, List.getD_eq_getElem?_getD, HX.out, HY.out, hxy])
          clear hxy
          go_wp2_with fail
          go_roundw
          case rel => exact ⟨k + 1, by go_num, by omega, HS2, U2⟩
          case measure => simp [intOf]; omega
        · have dd : (x != y) = true := by simpa using hxy
          have HZ : Hid (r = false) := Lib.hid (by
            rw [← HR.out, decide_eq_false_iff_not]
            intro e
            have h1 := HX.out
            rw [e, HY.out] at h1
            injection h1 with h1
            exact hxy h1.symm)
          clear hxy
          go_wp2_with fail
          go_ret
          exact ⟨by rw [HZ.out]; rfl, U2.out⟩
      · obtain rfl : k = n := by omega
        have HZ : Hid (r = true) := Lib.hid (by rw [← HR.out, decide_eq_true_iff]; exact sameK_all HN.out HM.out HS.out)
        go_wp2_with fail
        go_ret
        exact ⟨by rw [HZ.out]; rfl, U1.out⟩
  · have d : ((n : Int) != (m : Int)) = true := by simp; omega
    have HZ : Hid (r = false) := Lib.hid (by rw [← HR.out, decide_eq_false_iff_not]; intro e; exact hnm (by rw [← HN.out, ← HM.out, e]))
    go_wp2_with fail
    go_ret
    exact ⟨by rw [HZ.out]; rfl, .refl _ _⟩

end Go.Proofs.YteddiknlcdbhjaaGreatDoor

namespace Go.Proofs.YteddiknlcdbhjaaGreatDoor
open Go Go.RowKit TrP
attribute [local go_sem] litStep_value

def exL : List Ev := [⟨1, 1, 0, false⟩, ⟨2, 1, 1, true⟩, ⟨2, 2, 0, false⟩, ⟨1, 2, 1, true⟩]
def exC : Array Value := #[.int .i64 1, .int .u64 1, .int .i64 0, .bool false, .int .i64 2, .int .u64 1, .int .i64 1, .bool true, .int .i64 2, .int .u64 2, .int .i64 0, .bool false, .int .i64 1, .int .u64 2, .int .i64 1, .bool true]
theorem ex_ok (w : World) : Calls Tryz.prog 11 #[] w fun e w' => ∃ g, e = .returned (.slice (some ⟨g, 0, none⟩) 4 4) ∧ Blk w' g 48 exC ∧ Upd [] w w' := by
  go_enter Tryz.func11, Tryz.ntmps11
  go_wp2_with fail
  go_ret
  exact ⟨_, rfl, Blk.new w _ _, (Upd.refl [] w).alloc _⟩
theorem ErrV.nils {w : World} {v : Value} {a : Int} (h : ErrV w v 0 a) : v = .nilIface := by
  rcases h with h | h | ⟨g, _, _, h, _⟩
  · exact h.1
  · obtain ⟨_, ⟨h, _⟩, _⟩ := h; omega
  · omega
theorem own_lit {w : World} {g n s : Nat} {e : TypeId} {cs : Array Value} (h : Blk w g e cs) (hs : cs.size = n * s) (hn : n ≤ 1000) : w.ownsRow g e s (.slice (some ⟨g, 0, none⟩) n n) n cs.toList :=
  ⟨by rw [Array.length_toList, hs], .inr ⟨g, n, cs, rfl, Nat.le_refl _, h, Nat.le_refl _, by simp only [maxLen]; omega, hs, by rw [← hs, ← Array.length_toList, List.take_length]⟩⟩
theorem ex_wrong : wrongE exL = (0, 0) := by decide
theorem ex_wrong2 : wrongE (exL.take 2) = (0, 0) := by decide
theorem ex_graph : graphR exL = [(1, 2, 3), (2, 1, 3)] := by decide
theorem ex_txns : txnsR exL = [1, 2] := by decide
theorem ex_serial : serialL [(1, 2, 3), (2, 1, 3)] [1, 2] = none := by decide
theorem ex_ring : ringL [(1, 2, 3), (2, 1, 3)] [1, 2] = [1, 2] := by decide
theorem ex_serial2 : serialL (graphR (exL.take 2)) (txnsR (exL.take 2)) = some [1, 2] := by decide
theorem ex_evin : ∀ x ∈ exL, EvIn x := by
  intro x hx
  simp [exL] at hx
  rcases hx with rfl | rfl | rfl | rfl <;> exact ⟨by decide, by decide, by decide⟩
set_option maxRecDepth 100000 in
set_option maxHeartbeats 4000000 in
theorem t_alive (w : World) : Calls Tryz.prog 4 #[] w fun e w' => e = .returned (.bool true) ∧ Upd [] w w' := by
  go_enter Tryz.func4, Tryz.ntmps4
  go_wp2_with fail
  refine (ex_ok w).mono ?_; rintro e w1 ⟨g, rfl, hb, u1⟩
  have HB := Lib.hid hb
  have U1 := Lib.hid u1
  have R1 : Hid (∀ W, Upd [] w1 W → Rd encEv W (.slice (some ⟨g, 0, none⟩) 4 4) exL) := Lib.hid (fun W hW => (show Src w1 4 (.slice (some ⟨g, 0, none⟩) 4 4) 4 exC.toList from Src.of_blk hb 4 rfl).upd0 hW)
  clear hb u1
  go_wp2_with fail
  refine (t_graph _ 4 4 exL w1 (R1.out _ (.refl _ _)) rfl (by omega) ex_evin).mono ?_; rintro e w2 ⟨gv, v1, rfl, ev1, u2, _, hok⟩
  obtain ⟨rfl, og⟩ := hok (by rw [ex_wrong])
  rw [ex_graph] at og
  have OG := Lib.hid og
  have U2 := Lib.hid u2
  clear og u2 hok ev1
  go_wp2_with fail
  refine (t_serial _ 4 4 exL w2 (R1.out _ U2.out) rfl (by omega) ex_evin).mono ?_; rintro e w3 ⟨sv, v2, rfl, u3, _, hok⟩
  have hok := (hok (by rw [ex_wrong])).2
  rw [ex_graph, ex_txns] at hok
  obtain ⟨rfl, rfl⟩ := hok ex_serial
  have U3 := Lib.hid (U2.out.trans u3)
  have OG3 := Lib.hid (OG.out.upd0 u3)
  clear u3 hok OG
  go_wp2_with fail
  refine (t_ring _ 4 4 exL w3 (R1.out _ U3.out) rfl (by omega) ex_evin).mono ?_; rintro e w4 ⟨rv, v3, rfl, u4, _, hok⟩
  obtain ⟨rfl, _, hok⟩ := hok (by rw [ex_wrong])
  rw [ex_graph, ex_txns, ex_ring] at hok
  have OR4 := Lib.hid (hok (by simp))
  have U4 := Lib.hid (U3.out.trans u4)
  have OG4 := Lib.hid (OG3.out.upd0 u4)
  clear u4 hok OG3
  go_wp2_with fail
  have R2 : Hid (Rd encEv w4 (.slice (some ⟨g, 0, none⟩) 2 4) (exL.take 2)) := Lib.hid ((R1.out _ U4.out).take 2 (by decide) 4)
  refine (t_serial _ 2 4 (exL.take 2) w4 R2.out rfl (by omega) (fun x hx => ex_evin x (List.mem_of_mem_take hx))).mono ?_; rintro e w5 ⟨s2, v4, rfl, u5, _, hok⟩
  have hok := (hok (by rw [ex_wrong2])).1
  obtain ⟨os, rfl⟩ := hok _ ex_serial2
  have OS5 := Lib.hid os
  have U5 := Lib.hid (U4.out.trans u5)
  have OG5 := Lib.hid (OG4.out.upd0 u5)
  have OR5 := Lib.hid (OR4.out.upd0 u5)
  clear u5 hok os OG4 OR4
  obtain ⟨Ag, cg, rfl, _, _⟩ := OG5.out.form
  obtain ⟨Ar, cr, rfl, _, _⟩ := OR5.out.form
  obtain ⟨As, cs, rfl, _, _⟩ := OS5.out.form
  simp only [List.length_cons, List.length_nil, Nat.zero_add, Nat.reduceAdd] at OG5 OR5 OS5 ⊢
  go_wp2_with fail
  refine (no_nil _).mono ?_; rintro e w' ⟨rfl, rfl⟩
  go_wp2_with fail
  refine (no_nil _).mono ?_; rintro e w' ⟨rfl, rfl⟩
  go_wp2_with fail
  refine (no_nil _).mono ?_; rintro e w' ⟨rfl, rfl⟩
  go_wp2_with fail
  refine (no_err (ErrV.errno _ 12 (by omega) (by omega))).mono ?_; rintro e w' ⟨rfl, rfl⟩
  go_wp2_with fail
  have V6 : Hid (Upd [] w5 (w5.alloc (.cells #[.int .i64 1, .int .i64 2, .int .i64 3, .int .i64 2, .int .i64 1, .int .i64 3] 40))) := Lib.hid ((Upd.refl [] w5).alloc _)
  have L6 : Hid (Ow encE 40 (w5.alloc (.cells #[.int .i64 1, .int .i64 2, .int .i64 3, .int .i64 2, .int .i64 1, .int .i64 3] 40)) w5.heap.size (.slice (some ⟨w5.heap.size, 0, none⟩) 2 2) [(1, 2, 3), (2, 1, 3)]) := Lib.hid (own_lit (n := 2) (s := 3) (Blk.new w5 40 #[.int .i64 1, .int .i64 2, .int .i64 3, .int .i64 2, .int .i64 1, .int .i64 3]) rfl (by omega))
  refine (same_edges _ _ [(1, 2, 3), (2, 1, 3)] _ _ _ (OG5.out.upd0 V6.out) L6.out (by simp)).mono ?_; rintro e w7 ⟨rfl, u7⟩
  have U7 := Lib.hid (V6.out.trans u7)
  clear u7 V6 L6
  go_wp2_with fail
  have V8 : Hid (Upd [] w7 (w7.alloc (.cells #[.int .i64 1, .int .i64 2] 3))) := Lib.hid ((Upd.refl [] w7).alloc _)
  have L8 : Hid (Ow encK 3 (w7.alloc (.cells #[.int .i64 1, .int .i64 2] 3)) w7.heap.size (.slice (some ⟨w7.heap.size, 0, none⟩) 2 2) [1, 2]) := Lib.hid (own_lit (n := 2) (s := 1) (Blk.new w7 3 #[.int .i64 1, .int .i64 2]) rfl (by omega))
  refine (ints_ok _ _ [1, 2] [1, 2] _ _ _ (OR5.out.upd0 (U7.out.trans V8.out)) L8.out (by simp) (by simp)).mono ?_; rintro e w8 ⟨rfl, u8⟩
  have U8 := Lib.hid (U7.out.trans (V8.out.trans u8))
  clear u8 V8 L8
  simp only [decide_true]
  go_wp2_with fail
  have V8 : Hid (Upd [] w8 (w8.alloc (.cells #[.int .i64 1, .int .i64 2] 3))) := Lib.hid ((Upd.refl [] w8).alloc _)
  have L8 : Hid (Ow encK 3 (w8.alloc (.cells #[.int .i64 1, .int .i64 2] 3)) w8.heap.size (.slice (some ⟨w8.heap.size, 0, none⟩) 2 2) [1, 2]) := Lib.hid (own_lit (n := 2) (s := 1) (Blk.new w8 3 #[.int .i64 1, .int .i64 2]) rfl (by omega))
  refine (ints_ok _ _ [1, 2] [1, 2] _ _ _ (OS5.out.upd0 (U8.out.trans V8.out)) L8.out (by simp) (by simp)).mono ?_; rintro e w9 ⟨rfl, u8⟩
  have U9 := Lib.hid (U8.out.trans (V8.out.trans u8))
  clear u8 V8 L8
  simp only [decide_true]
  go_wp2_with fail
  go_ret
  exact ⟨rfl, (U1.out.trans U5.out).trans U9.out⟩
end Go.Proofs.YteddiknlcdbhjaaGreatDoor

namespace Go.Proofs.YteddiknlcdbhjaaGreatDoor
open Go.RowKit Go.Extern.Stop Go.Stop Go.Extern

/-- What errors.As reads of the library's variable. -/
def Typed (w : World) : Prop := w.cell? ⟨0, 0, none⟩ = some (.iface 120 (.agg #[.pointer (some ⟨1, 26, none⟩)])) ∧ 0 < w.heap.size
theorem Typed.upd {S : List Nat} {w w' : World} (h : Typed w) (hu : Upd S w w') (hS : 0 ∉ S) : Typed w' := ⟨(World.cell?_of_block (hu.keep _ h.2 hS)).trans h.1, Nat.lt_of_lt_of_le h.2 hu.size⟩

theorem valueOfPP (t : Addr) (w : World) : (ReflectliteValue.unpack (.iface 54 (.pointer (some t)))).run Tryz.prog w
    = .ok (.agg #[.pointer (some ⟨1, 54, none⟩), .pointer (some ⟨w.heap.size, 0, none⟩), .int .u64 150]) (w.alloc (.cells #[.pointer (some t)] 54)) := by kernel_rfl
theorem typePP (a : Addr) (w : World) : (ReflectliteValue.methodAny (ReflectliteValue.valueError "reflectlite.Value.Type" 0) (fun t _ _ _ => ReflectliteType.toType t) #[.agg #[.pointer (some ⟨1, 54, none⟩), .pointer (some a), .int .u64 150]]).run Tryz.prog w
    = .ok (.iface 120 (.agg #[.pointer (some ⟨1, 54, none⟩)])) w := by kernel_rfl
def kindEntry : Array Value → Sem Value := ReflectliteType.abiMethod fun t => do pure (.int .u8 (← Rtype.kind t))
theorem kindPP (w : World) : (kindEntry #[.pointer (some ⟨1, 54, none⟩)]).run Tryz.prog w = .ok (.int .u8 22) w := by kernel_rfl
theorem kindP (w : World) : (kindEntry #[.pointer (some ⟨1, 52, none⟩)]).run Tryz.prog w = .ok (.int .u8 22) w := by kernel_rfl
theorem rlm (z : Sem Value) (f : TypeId → Addr → Nat → Nat → Sem Value) (v : Value) :
    ReflectliteValue.method z f #[v] = (do match ← ReflectliteValue.parts v with | none => z | some (t, a, fl) => f t a fl (fl % 32)) := rfl
theorem partsPP (a : Addr) (w : World) : (ReflectliteValue.parts (.agg #[.pointer (some ⟨1, 54, none⟩), .pointer (some a), .int .u64 150])).run Tryz.prog w = .ok (some (54, a, 150)) w := by kernel_rfl
theorem isNilPP (a p : Addr) (W : World) (ha : W.cell? a = some (.pointer (some p))) :
    (ReflectliteValue.method (ReflectliteValue.valueError "reflectlite.Value.IsNil" 0) ReflectliteValue.isNil #[.agg #[.pointer (some ⟨1, 54, none⟩), .pointer (some a), .int .u64 150]]).run Tryz.prog W = .ok (.bool false) W := by
  rw [rlm]
  simp only [Sem.run_bind, partsPP, Result.andThen]
  simp [ReflectliteValue.isNil, loadVar, isAgg, underlying, Tryz.underlying54, ha, Result.andThen]
theorem elemPP (w : World) : (ReflectliteType.method ReflectliteType.elem #[.agg #[.pointer (some ⟨1, 54, none⟩)]]).run Tryz.prog w = .ok (.iface 120 (.agg #[.pointer (some ⟨1, 52, none⟩)])) w := by kernel_rfl
theorem implementsP (w : World) : (ReflectliteType.relation "Implements" ReflectliteType.implements_ #[.agg #[.pointer (some ⟨1, 52, none⟩)], .iface 120 (.agg #[.pointer (some ⟨1, 26, none⟩)])]).run Tryz.prog w = .ok (.bool true) w := by kernel_rfl
theorem typeOfP (v : Value) (w : World) : (ReflectliteType.typeOf #[.iface 52 v]).run Tryz.prog w = .ok (.iface 120 (.agg #[.pointer (some ⟨1, 52, none⟩)])) w := by kernel_rfl
theorem assignableP (w : World) : (ReflectliteType.relation "AssignableTo" ReflectliteType.assignableTo #[.agg #[.pointer (some ⟨1, 52, none⟩)], .iface 120 (.agg #[.pointer (some ⟨1, 52, none⟩)])]).run Tryz.prog w = .ok (.bool true) w := by kernel_rfl
theorem assignableE (w : World) : (ReflectliteType.relation "AssignableTo" ReflectliteType.assignableTo #[.agg #[.pointer (some ⟨1, 51, none⟩)], .iface 120 (.agg #[.pointer (some ⟨1, 52, none⟩)])]).run Tryz.prog w = .ok (.bool false) w := by kernel_rfl
theorem valueOfP (e : Addr) (w : World) : (ReflectliteValue.unpack (.iface 52 (.pointer (some e)))).run Tryz.prog w
    = .ok (.agg #[.pointer (some ⟨1, 52, none⟩), .pointer (some ⟨w.heap.size, 0, none⟩), .int .u64 150]) (w.alloc (.cells #[.pointer (some e)] 52)) := by kernel_rfl
theorem elemOfPP (w : World) : (Rtype.elem? 54).run Tryz.prog w = .ok (some 52) w := by kernel_rfl
theorem mkP (p : Addr) (w : World) : (ReflectliteValue.mk 52 p ReflectliteValue.flagAddr).run Tryz.prog w = .ok (.agg #[.pointer (some ⟨1, 52, none⟩), .pointer (some p), .int .u64 406]) w := by kernel_rfl
theorem elemVPP (a p : Addr) (W : World) (ha : W.cell? a = some (.pointer (some p))) :
    (ReflectliteValue.method (ReflectliteValue.valueError "reflectlite.Value.Elem" 0) ReflectliteValue.elem #[.agg #[.pointer (some ⟨1, 54, none⟩), .pointer (some a), .int .u64 150]]).run Tryz.prog W
      = .ok (.agg #[.pointer (some ⟨1, 52, none⟩), .pointer (some p), .int .u64 406]) W := by
  rw [rlm]
  simp only [Sem.run_bind, partsPP, Result.andThen]
  simp [ReflectliteValue.elem, loadVar, isAgg, underlying, Tryz.underlying54, ha, Result.andThen, elemOfPP, mkP]
theorem rls (v x : Value) : ReflectliteValue.set #[v, x] = (do
    let (some (dst, a, fl), some (src, b, _)) := (← ReflectliteValue.parts v, ← ReflectliteValue.parts x)
      | unsupported (.noEntry "extern/(internal/reflectlite.Value).Set.zeroValue")
    if fl / ReflectliteValue.flagAddr % 2 == 0 then unsupported (.noEntry "extern/(internal/reflectlite.Value).Set.unaddressable")
    let val ← loadVar src b
    if ← Rtype.directlyAssignable dst src then storeVar dst a val
    else if ← Rtype.implements dst src then
      if (← Rtype.kind src) == 20 then
        match val with
        | .nilIface => unsupported (.noEntry "extern/reflectlite: a nil value of one interface type handed on as a value of another")
        | _ => storeVar dst a val
      else storeVar dst a (.iface src val)
    else panicString ("reflectlite.Set: value of type " ++ (← Rtype.spelt src) ++ " is not assignable to type " ++ (← Rtype.spelt dst))
    pure (.tuple #[])) := rfl
theorem partsPa (a : Addr) (w : World) : (ReflectliteValue.parts (.agg #[.pointer (some ⟨1, 52, none⟩), .pointer (some a), .int .u64 406])).run Tryz.prog w = .ok (some (52, a, 406)) w := by kernel_rfl
theorem partsP (a : Addr) (w : World) : (ReflectliteValue.parts (.agg #[.pointer (some ⟨1, 52, none⟩), .pointer (some a), .int .u64 150])).run Tryz.prog w = .ok (some (52, a, 150)) w := by kernel_rfl
theorem directP (w : World) : (Rtype.directlyAssignable 52 52).run Tryz.prog w = .ok true w := by kernel_rfl
theorem setP (ta b e : Addr) (old : Value) (W : World) (hb : W.cell? b = some (.pointer (some e))) (ht : W.cell? ta = some old) (hf : W.frozen? ta = false) :
    (ReflectliteValue.set #[.agg #[.pointer (some ⟨1, 52, none⟩), .pointer (some ta), .int .u64 406], .agg #[.pointer (some ⟨1, 52, none⟩), .pointer (some b), .int .u64 150]]).run Tryz.prog W
      = .ok (.tuple #[]) (W.setCell ta (.pointer (some e))) := by
  rw [rls]
  simp only [Sem.run_bind, partsPa, partsP, Result.andThen]
  simp [ReflectliteValue.flagAddr, loadVar, isAgg, underlying, Tryz.underlying52, hb, Result.andThen, directP, storeVar, Value.cells, storeCells, Addr.add]
  rw [run_store Tryz.prog W ta _ _ (by rfl)]
  simp [ht, hf]

theorem as_nil (t : Value) (w : World) : Calls Tryz.prog 19 #[.nilIface, t] w fun e w' => e = .returned (.bool false) ∧ w = w' := by
  go_enter Tryz.func19, Tryz.ntmps19
  go_wp2_with fail
  go_ret
  exact ⟨rfl, rfl⟩

theorem errnoTypeOf' (v : Value) (w : World) : (ReflectliteType.typeOf #[.iface 51 v]).run Tryz.prog w = .ok (.iface 120 (.agg #[.pointer (some ⟨1, 51, none⟩)])) w := by kernel_rfl
theorem errnoNoAs (v : Value) (xT : TypeId) (w : World) : (Instr.typeAssert (.iface 51 v) xT 131 true).run Tryz.prog w = .ok (.tuple #[.nilIface, .bool false]) w := run_typeAssert_lacksB Tryz.underlying131 (by kernel_rfl) (by kernel_rfl) v xT w

/-- The blocks that errors.As makes for its own. -/
def asWorld (w : World) (t : Nat) : World := ((w.alloc (.cells #[.pointer (some ⟨t, 0, none⟩)] 54)).alloc (.cells #[.pointer (some ⟨1, 54, none⟩), .pointer (some ⟨w.heap.size, 0, none⟩), .int .u64 150] 91)).alloc (.cells #[.pointer (some ⟨1, 54, none⟩), .pointer (some ⟨w.heap.size, 0, none⟩), .int .u64 150] 91)

set_option maxHeartbeats 4000000 in
/-- errors.As at a place's variable: t is its block. -/
theorem as_fault (g t : Nat) (w : World) (hg : Typed w) (ht0 : Blk w t 52 #[.pointer none]) :
    Calls Tryz.prog 19 #[.iface 52 (.pointer (some ⟨g, 0, none⟩)), .iface 54 (.pointer (some ⟨t, 0, none⟩))] w fun ev w' => ev = .returned (.bool true) ∧ w' = ((asWorld w t).alloc (.cells #[.pointer (some ⟨g, 0, none⟩)] 52)).setCell ⟨t, 0, none⟩ (.pointer (some ⟨g, 0, none⟩)) := by
  have h6 := @run_callFunc_extern Tryz.prog 37 _ (fun args => ReflectliteValue.unpack (args.getD 0 (.tuple #[]))) Tryz.func37 (by kernel_rfl) (by kernel_rfl) (by kernel_rfl) (by kernel_rfl)
  have h7 := @run_callFunc_extern Tryz.prog 38 _ (ReflectliteValue.methodAny (ReflectliteValue.valueError "reflectlite.Value.Type" 0) (fun t _ _ _ => ReflectliteType.toType t)) Tryz.func38 (by kernel_rfl) (by kernel_rfl) (by kernel_rfl) (by kernel_rfl)
  have h8 := @run_callFunc_extern Tryz.prog 39 _ (ReflectliteValue.method (ReflectliteValue.valueError "reflectlite.Value.IsNil" 0) ReflectliteValue.isNil) Tryz.func39 (by kernel_rfl) (by kernel_rfl) (by kernel_rfl) (by kernel_rfl)
  have h27 := @run_callFunc_extern Tryz.prog 110 _ kindEntry Tryz.func110 (by kernel_rfl) (by kernel_rfl) (by kernel_rfl) (by kernel_rfl)
  have h37 := @run_callFunc_extern Tryz.prog 128 _ (ReflectliteType.method ReflectliteType.elem) Tryz.func128 (by kernel_rfl) (by kernel_rfl) (by kernel_rfl) (by kernel_rfl)
  have h38 := @run_callFunc_extern Tryz.prog 129 _ (ReflectliteType.relation "Implements" ReflectliteType.implements_) Tryz.func129 (by kernel_rfl) (by kernel_rfl) (by kernel_rfl) (by kernel_rfl)
  have h10 := @run_callFunc_extern Tryz.prog 35 _ ReflectliteType.typeOf Tryz.func35 (by kernel_rfl) (by kernel_rfl) (by kernel_rfl) (by kernel_rfl)
  have h35 := @run_callFunc_extern Tryz.prog 126 _ (ReflectliteType.relation "AssignableTo" ReflectliteType.assignableTo) Tryz.func126 (by kernel_rfl) (by kernel_rfl) (by kernel_rfl) (by kernel_rfl)
  have h11 := @run_callFunc_extern Tryz.prog 55 _ (ReflectliteValue.method (ReflectliteValue.valueError "reflectlite.Value.Elem" 0) ReflectliteValue.elem) Tryz.func55 (by kernel_rfl) (by kernel_rfl) (by kernel_rfl) (by kernel_rfl)
  have h12 := @run_callFunc_extern Tryz.prog 56 _ ReflectliteValue.set Tryz.func56 (by kernel_rfl) (by kernel_rfl) (by kernel_rfl) (by kernel_rfl)
  have tO := typeOfP
  have a25 := assignableP
  have v25 := valueOfP
  have f6 := valueOfPP
  have f7 := typePP
  have k27 := kindPP
  have k25 := kindP
  have e27 := elemPP
  have i25 := implementsP
  have b0 : Blk ((w.alloc (.cells #[.pointer (some ⟨t, 0, none⟩)] 54)).alloc (.cells #[.pointer (some ⟨1, 54, none⟩), .pointer (some ⟨w.heap.size, 0, none⟩), .int .u64 150] 91)) w.heap.size 54 #[.pointer (some ⟨t, 0, none⟩)] := (Blk.new w _ _).alloc _
  have n8 := isNilPP ⟨w.heap.size, 0, none⟩ ⟨t, 0, none⟩ _ (by rw [b0.cell]; rfl)
  have hg2 := ((hg.upd ((Upd.refl [] w).alloc (.cells #[.pointer (some ⟨t, 0, none⟩)] 54)) (by simp)).upd ((Upd.refl [] _).alloc (.cells #[.pointer (some ⟨1, 54, none⟩), .pointer (some ⟨w.heap.size, 0, none⟩), .int .u64 150] 91)) (by simp)).1
  have b1 : Blk (asWorld w t) w.heap.size 54 #[.pointer (some ⟨t, 0, none⟩)] := b0.alloc _
  have el := elemVPP ⟨w.heap.size, 0, none⟩ ⟨t, 0, none⟩ (asWorld w t) (by rw [b1.cell]; rfl)
  have hT : Blk ((asWorld w t).alloc (.cells #[.pointer (some ⟨g, 0, none⟩)] 52)) t 52 #[.pointer none] := (((ht0.alloc _).alloc _).alloc _).alloc _
  have st := setP ⟨t, 0, none⟩ ⟨w.heap.size + 1 + 1 + 1, 0, none⟩ ⟨g, 0, none⟩ (.pointer none) ((asWorld w t).alloc (.cells #[.pointer (some ⟨g, 0, none⟩)] 52))
    (by have := (Blk.new (asWorld w t) 52 #[.pointer (some ⟨g, 0, none⟩)]).cell 0; simpa [asWorld] using this) (by rw [hT.cell]; rfl) (hT.frozen 0)
  simp only [asWorld] at el st ⊢
  clear hT b0 b1 ht0 hg
  go_enter Tryz.func19, Tryz.ntmps19
  go_wp2
  refine wp_loop_rounds 1 ?_
  rw [rounds_succ]
  go_wp2
  go_ret
  exact ⟨rfl, rfl⟩

set_option maxHeartbeats 4000000 in
/-- errors.As at a bare number: no. -/
theorem as_errno (k : Int) (t : Nat) (w : World) (hg : Typed w) :
    Calls Tryz.prog 19 #[.iface 51 (.int .i64 k), .iface 54 (.pointer (some ⟨t, 0, none⟩))] w fun ev w' => ev = .returned (.bool false) ∧ w' = asWorld w t := by
  have h6 := @run_callFunc_extern Tryz.prog 37 _ (fun args => ReflectliteValue.unpack (args.getD 0 (.tuple #[]))) Tryz.func37 (by kernel_rfl) (by kernel_rfl) (by kernel_rfl) (by kernel_rfl)
  have h7 := @run_callFunc_extern Tryz.prog 38 _ (ReflectliteValue.methodAny (ReflectliteValue.valueError "reflectlite.Value.Type" 0) (fun t _ _ _ => ReflectliteType.toType t)) Tryz.func38 (by kernel_rfl) (by kernel_rfl) (by kernel_rfl) (by kernel_rfl)
  have h8 := @run_callFunc_extern Tryz.prog 39 _ (ReflectliteValue.method (ReflectliteValue.valueError "reflectlite.Value.IsNil" 0) ReflectliteValue.isNil) Tryz.func39 (by kernel_rfl) (by kernel_rfl) (by kernel_rfl) (by kernel_rfl)
  have h27 := @run_callFunc_extern Tryz.prog 110 _ kindEntry Tryz.func110 (by kernel_rfl) (by kernel_rfl) (by kernel_rfl) (by kernel_rfl)
  have h37 := @run_callFunc_extern Tryz.prog 128 _ (ReflectliteType.method ReflectliteType.elem) Tryz.func128 (by kernel_rfl) (by kernel_rfl) (by kernel_rfl) (by kernel_rfl)
  have h38 := @run_callFunc_extern Tryz.prog 129 _ (ReflectliteType.relation "Implements" ReflectliteType.implements_) Tryz.func129 (by kernel_rfl) (by kernel_rfl) (by kernel_rfl) (by kernel_rfl)
  have h10 := @run_callFunc_extern Tryz.prog 35 _ ReflectliteType.typeOf Tryz.func35 (by kernel_rfl) (by kernel_rfl) (by kernel_rfl) (by kernel_rfl)
  have h35 := @run_callFunc_extern Tryz.prog 126 _ (ReflectliteType.relation "AssignableTo" ReflectliteType.assignableTo) Tryz.func126 (by kernel_rfl) (by kernel_rfl) (by kernel_rfl) (by kernel_rfl)
  have tE := errnoTypeOf'
  have aE := assignableE
  have f6 := valueOfPP
  have f7 := typePP
  have k27 := kindPP
  have k25 := kindP
  have e27 := elemPP
  have i25 := implementsP
  have n0 := errnoNoAs
  have n2 := errnoNoUnwrap
  have n3 := errnoNoUnwraps
  have b0 : Blk ((w.alloc (.cells #[.pointer (some ⟨t, 0, none⟩)] 54)).alloc (.cells #[.pointer (some ⟨1, 54, none⟩), .pointer (some ⟨w.heap.size, 0, none⟩), .int .u64 150] 91)) w.heap.size 54 #[.pointer (some ⟨t, 0, none⟩)] := (Blk.new w _ _).alloc _
  have n8 := isNilPP ⟨w.heap.size, 0, none⟩ ⟨t, 0, none⟩ _ (by rw [b0.cell]; rfl)
  have hg2 := ((hg.upd ((Upd.refl [] w).alloc (.cells #[.pointer (some ⟨t, 0, none⟩)] 54)) (by simp)).upd ((Upd.refl [] _).alloc (.cells #[.pointer (some ⟨1, 54, none⟩), .pointer (some ⟨w.heap.size, 0, none⟩), .int .u64 150] 91)) (by simp)).1
  simp only [asWorld]
  clear b0 hg
  go_enter Tryz.func19, Tryz.ntmps19
  go_wp2
  refine wp_loop_rounds 1 ?_
  rw [rounds_succ]
  go_wp2
  go_ret
  exact ⟨rfl, rfl⟩

theorem asWorld_upd (w : World) (t : Nat) : Upd [] w (asWorld w t) := (((Upd.refl [] w).alloc _).alloc _).alloc _

/-- api.Place of no error. -/
theorem place_nil (w : World) : Calls Tryz.prog 8 #[.nilIface] w fun e w' => e = .returned (.int .i64 0) ∧ Upd [] w w' := by
  go_enter Tryz.func8, Tryz.ntmps8
  go_wp2_with fail
  refine (as_nil _ _).mono ?_; rintro e w' ⟨rfl, rfl⟩
  go_wp2_with fail
  go_ret
  exact ⟨rfl, (Upd.refl [] w).alloc _⟩

/-- api.Place of a bare number. -/
theorem place_errno (k : Int) (w : World) (hg : Typed w) : Calls Tryz.prog 8 #[.iface 51 (.int .i64 k)] w fun e w' => e = .returned (.int .i64 0) ∧ Upd [] w w' := by
  have hg' := hg.upd ((Upd.refl [] w).alloc (.cells #[.pointer none] 52)) (by simp)
  go_enter Tryz.func8, Tryz.ntmps8
  go_wp2_with fail
  refine (as_errno k _ _ hg').mono ?_; rintro e w' ⟨rfl, rfl⟩
  go_wp2_with fail
  go_ret
  exact ⟨rfl, ((Upd.refl [] w).alloc _).trans (asWorld_upd _ _)⟩

/-- api.Place of a place. -/
theorem place_fault (g : Nat) (at_ k : Int) (w : World) (hg : Typed w) (hf : Blk w g 56 #[.int .i64 at_, .int .i64 k]) : Calls Tryz.prog 8 #[.iface 52 (.pointer (some ⟨g, 0, none⟩))] w fun e w' => e = .returned (.int .i64 at_) ∧ Upd [] w w' := by
  have hg' := hg.upd ((Upd.refl [] w).alloc (.cells #[.pointer none] 52)) (by simp)
  have hb := Blk.new w 52 #[.pointer none]
  go_enter Tryz.func8, Tryz.ntmps8
  go_wp2_with fail
  refine (as_fault g _ _ hg' hb).mono ?_; rintro e w1 ⟨rfl, hw⟩
  have hu : Upd [w.heap.size] (w.alloc (.cells #[.pointer none] 52)) w1 := by
    rw [hw]; exact (((asWorld_upd _ _).mono (by simp)).alloc _).setCell (by simp) _
  have h1 : w1.cell? ⟨w.heap.size, 0, none⟩ = some (.pointer (some ⟨g, 0, none⟩)) := by
    rw [hw]
    have h0 : Blk (asWorld (w.alloc (.cells #[.pointer none] 52)) w.heap.size) w.heap.size 52 #[.pointer none] := hb.upd (asWorld_upd _ _) (by simp)
    rw [((h0.alloc (.cells #[.pointer (some ⟨g, 0, none⟩)] 52)).set_ 0 (.pointer (some ⟨g, 0, none⟩))).cell]; rfl
  have h2 : w1.cell? ⟨g, 0, none⟩ = some (.int .i64 at_) := by
    have hne : g ≠ w.heap.size := by have := hf.lt; omega
    rw [((hf.alloc (.cells #[.pointer none] 52)).upd hu (by simpa using hne)).cell]; rfl
  clear hw hb hf
  go_wp2_with fail
  go_ret
  refine ⟨rfl, ((Upd.refl [] w).alloc _).trans' hu ?_⟩
  simp
end Go.Proofs.YteddiknlcdbhjaaGreatDoor

namespace Go.Proofs.YteddiknlcdbhjaaGreatDoor
open Go.RowKit

theorem place_err {w : World} {v : Value} {no at_ : Int} (h : ErrV w v no at_) (ht : Typed w) : Calls Tryz.prog 8 #[v] w fun e w' => e = .returned (.int .i64 at_) ∧ Upd [] w w' := by
  rcases h with ⟨rfl, _, rfl⟩ | ⟨rfl, _, rfl⟩ | ⟨g, rfl, hb, _⟩
  · exact place_nil w
  · exact place_errno no w ht
  · exact place_fault g at_ no w ht hb
end Go.Proofs.YteddiknlcdbhjaaGreatDoor

namespace Go.Proofs.YteddiknlcdbhjaaGreatDoor
open Go Go.RowKit TrP
attribute [local go_sem] litStep_value

set_option maxRecDepth 100000 in
set_option maxHeartbeats 8000000 in
theorem law_tg (A : Option Addr) (n c : Nat) (l : List Ev) (w : World) (h : Rd encEv w (.slice A n c) l) (hn : l.length = n) (hev : ∀ x ∈ l, EvIn x) (hg : Typed w) :
    Calls Tryz.prog 3 #[.slice A n c] w fun e w' => e = .returned (.bool true) ∧ Upd [] w w' := by
  have H := Lib.hid h
  have HN := Lib.hid hn
  have HG := Lib.hid hg
  have HEV := Lib.hid hev
  clear h hn hg hev
  go_enter Tryz.func3, Tryz.ntmps3
  by_cases h6 : 60 < n
  · have d6 : decide ((60 : Int) < (n : Int)) = true := by simp; omega
    have U0 : Hid (Upd [] w w) := Lib.hid (.refl _ _)
    go_wp2_with fail
    refine (t_alive w).mono ?_; rintro e w9 ⟨rfl, u9⟩
    have U9 := Lib.hid (U0.out.trans u9)
    clear u9
    go_wp2_with fail
    go_ret
    exact ⟨rfl, U9.out⟩
  have d6 : decide ((60 : Int) < (n : Int)) = false := by simp; omega
  go_wp2_with fail
  refine (t_graph A n c l w H.out HN.out (by omega) HEV.out).mono ?_; rintro e w1 ⟨gv, v1, rfl, ev, u1, hbad, hok⟩
  have E1 := Lib.hid ev
  have U1 := Lib.hid u1
  have HBAD := Lib.hid hbad
  have HOK := Lib.hid hok
  clear ev u1 hbad hok
  go_wp2_with fail
  refine (r_wrong A n c l w1 (H.out.upd0 U1.out) HN.out (by omega)).mono ?_; rintro e w2 ⟨rfl, u2⟩
  have U2 := Lib.hid (U1.out.trans u2)
  have E2 := Lib.hid (E1.out.upd u2)
  have V2 := Lib.hid u2
  clear u2
  obtain ⟨f, hf⟩ : ∃ f, (wrongE l).1 = f := ⟨_, rfl⟩
  obtain ⟨at_, hat⟩ : ∃ a, (wrongE l).2 = a := ⟨_, rfl⟩
  rw [hf, hat] at E2 ⊢
  have HF := Lib.hid hf
  clear hf hat
  have hff : (f != f) = false := by simp
  have haa : (at_ != at_) = false := by simp
  go_wp2_with fail
  refine (no_err E2.out).mono ?_; rintro e w3 ⟨rfl, rfl⟩
  go_wp2_with fail
  refine (place_err E2.out (HG.out.upd U2.out (by simp))).mono ?_; rintro e w3 ⟨rfl, u3⟩
  have U3 := Lib.hid (U2.out.trans u3)
  have V3 := Lib.hid (V2.out.trans u3)
  clear u3
  by_cases h0 : f = 0
  · have OG := Lib.hid ((HOK.out (HF.out.trans h0)).2.upd0 V3.out)
    obtain ⟨Ag, cg, rfl, _, _⟩ := OG.out.form
    have HL : Hid ((graphR l).length ≤ 1000) := Lib.hid (by have := graphR_short l (by rw [HN.out]; omega); omega)
    obtain ⟨m, hm⟩ : ∃ m, (graphR l).length = m := ⟨_, rfl⟩
    rw [hm] at OG ⊢
    have e0 : (f != 0) = false := by simp [h0]
    have e1 : (f == 0) = true := by simp [h0]
    clear hm
    go_wp2_with fail
    refine (r_graph A n c l w3 (H.out.upd0 U3.out) HN.out (by omega)).mono ?_; rintro e w4 ⟨rv, rfl, or, u4⟩
    have U4 := Lib.hid (U3.out.trans u4)
    have OG4 := Lib.hid (OG.out.upd0 u4)
    have OR4 := Lib.hid or
    clear or u4
    go_wp2_with fail
    refine (same_edges _ _ (graphR l) _ _ w4 OG4.out OR4.out HL.out).mono ?_; rintro e w5 ⟨rfl, u5⟩
    have U5 := Lib.hid (U4.out.trans u5)
    clear u5
    go_wp2_with fail
    refine (t_alive w5).mono ?_; rintro e w9 ⟨rfl, u9⟩
    have U9 := Lib.hid (U5.out.trans u9)
    clear u9
    go_wp2_with fail
    go_ret
    exact ⟨rfl, U9.out⟩
  · have hgv := HBAD.out (by rw [HF.out]; exact h0)
    subst hgv
    have e0 : (f != 0) = true := by simpa using h0
    have e1 : (f == 0) = false := by simpa using h0
    go_wp2_with fail
    refine (t_alive w3).mono ?_; rintro e w9 ⟨rfl, u9⟩
    have U9 := Lib.hid (U3.out.trans u9)
    clear u9
    go_wp2_with fail
    go_ret
    exact ⟨rfl, U9.out⟩
end Go.Proofs.YteddiknlcdbhjaaGreatDoor

namespace Go.Proofs.YteddiknlcdbhjaaGreatDoor
open Go.RowKit Go.WideShapes Go.ChangeShapes TrP

theorem reads_ev {P : Program} {t : TypeId} {f0 f1 f2 f3 : Field} (ht : P.underlying t = some (.struct #[f0, f1, f2, f3])) (hc : P.cellsOf t = 4) (o0 : f0.offset = 0) (o1 : f1.offset = 1) (o2 : f2.offset = 2) (o3 : f3.offset = 3) (c0 : P.cellsOf f0.type = 1) (c1 : P.cellsOf f1.type = 1) (c2 : P.cellsOf f2.type = 1) (c3 : P.cellsOf f3.type = 1)
    (h0 : P.underlying f0.type = some (.int .i64)) (h1 : P.underlying f1.type = some (.int .u64)) (h2 : P.underlying f2.type = some (.int .i64)) (h3 : P.underlying f3.type = some .bool) : ReadsAs P t encEv EvIn :=
  ⟨hc, fun {H enc w base spare held fuel cs x} h => by
    obtain ⟨xs, n, _, _, hl, hxl, hf⟩ := DataW.trod_struct ht h
    rw [hc] at hl
    match cs, hl with
    | [a0, a1, a2, a3], _ =>
      have g0 := hf 0 f0 rfl
      have hx0 : xs[0]? = some (xs[0]'(by rw [hxl]; simp)) := List.getElem?_eq_getElem _
      rw [o0, c0, hx0] at g0
      obtain ⟨y0, e0, _, w0⟩ := DataW.trod_int h0 g0
      simp at e0
      subst e0
      have g1 := hf 1 f1 rfl
      have hx1 : xs[1]? = some (xs[1]'(by rw [hxl]; simp)) := List.getElem?_eq_getElem _
      rw [o1, c1, hx1] at g1
      obtain ⟨y1, e1, _, w1⟩ := DataW.trod_int h1 g1
      simp at e1
      subst e1
      have g2 := hf 2 f2 rfl
      have hx2 : xs[2]? = some (xs[2]'(by rw [hxl]; simp)) := List.getElem?_eq_getElem _
      rw [o2, c2, hx2] at g2
      obtain ⟨y2, e2, _, w2⟩ := DataW.trod_int h2 g2
      simp at e2
      subst e2
      have g3 := hf 3 f3 rfl
      have hx3 : xs[3]? = some (xs[3]'(by rw [hxl]; simp)) := List.getElem?_eq_getElem _
      rw [o3, c3, hx3] at g3
      obtain ⟨y3, e3, _⟩ := DataW.trod_bool h3 g3
      simp at e3
      subst e3
      exact ⟨⟨y0, y1, y2, y3⟩, rfl, w0, w1, w2⟩⟩
section
variable {H : Type} {enc : TypeId × Value → H} {W : World} {base b0 : Nat} {spare : Nat → Bool} {held : Bool} {v : Value} {d : DataW H} {ps : List MemPlace} {r : Reach}
set_option maxRecDepth 100000 in
theorem evs_of (hok : Value.okWide Tryz.prog W r b0 22 v) (h : DataW.Trod enc Tryz.prog W base spare held 22 v d ps) :
    ∃ (L : List Ev) (A : Option Addr) (c : Nat), v = .slice A L.length c ∧ L.length ≤ c ∧ c ≤ maxLen ∧ Rd encEv W v L ∧ (∀ x ∈ L, EvIn x) := by
  obtain ⟨L, A, c, h1, h2, h3, h4, h5⟩ := rd_arg Tryz.underlying22 (reads_ev Tryz.underlying48 (by kernel_rfl) rfl rfl rfl rfl (by kernel_rfl) (by kernel_rfl) (by kernel_rfl) (by kernel_rfl) Tryz.underlying3 Tryz.underlying46 Tryz.underlying3 Tryz.underlying4) hok h
  exact ⟨L, A, c, h1, h2, h3, h4, h5⟩
end
end Go.Proofs.YteddiknlcdbhjaaGreatDoor

namespace Go.Proofs.YteddiknlcdbhjaaGreatDoor.DoorKit
open Go.ChangeShapes Go.WideShapes Go.ChangeAt Go.RowKit

theorem own : ownKnob Tryz.prog.godebug = none := by kernel_rfl
theorem laidOut : laidOutB Tryz.prog = true := by kernel_rfl
theorem et : Tryz.prog.globalNamed "errors.errorType" = some 0 := by kernel_rfl
theorem rt : (Tryz.prog.cutTypes.find? (·.1 == "internal/reflectlite.rtype")).map (·.2) = some 120 := by kernel_rfl
theorem oneRow : ((List.range 197).filter fun t => Tryz.prog.rowNamed t [101, 114, 114, 111, 114]) = [26] := by kernel_rfl
theorem size : Tryz.prog.types.size = 197 := by kernel_rfl

theorem of_laid {W : World} (h : laidMetH Tryz.prog [("errors.errorType", Rows.laid_errors_errorType)] W) : Typed W := by
  have h' : laidMet Tryz.prog [] W ∧ handlesMet Tryz.prog [("errors.errorType", Rows.laid_errors_errorType)] W := h
  obtain ⟨name, u, ty, e1, e2, e3, e4, e5⟩ := h'.2 _ (List.mem_singleton.2 rfl)
  have en : name = [101, 114, 114, 111, 114] := (Option.some.inj e1).symm
  subst en
  obtain rfl := Option.some.inj (rt.symm.trans e2)
  have hm : ty ∈ (List.range 197).filter fun t => Tryz.prog.rowNamed t [101, 114, 114, 111, 114] := List.mem_filter.2 ⟨List.mem_range.2 (by rw [← size]; exact e3), e4⟩
  rw [oneRow] at hm
  obtain rfl := List.mem_singleton.1 hm
  have hh : typeHandle Tryz.prog 26 = .pointer (some ⟨1, 26, none⟩) := by kernel_rfl
  rw [hh] at e5
  have hc : W.cell? ⟨0, 0, none⟩ = some (.iface 120 (.agg #[.pointer (some ⟨1, 26, none⟩)])) := by simpa using World.var?_cell et e5 0
  exact ⟨hc, World.block_lt_of_cell? _ _ hc⟩

theorem door_met (os : Os) (args : Array Value) : laidMetH Tryz.prog [("errors.errorType", Rows.laid_errors_errorType)] ((World.doorLaid Tryz.prog 400 os).forCall (fun _ _ => 0) ⟨#[], args, []⟩).memory :=
  laidMetH_of_parts3 (fuel := 8) (laidMet_nil _ _) (by kernel_rfl) (by kernel_rfl)
end Go.Proofs.YteddiknlcdbhjaaGreatDoor.DoorKit

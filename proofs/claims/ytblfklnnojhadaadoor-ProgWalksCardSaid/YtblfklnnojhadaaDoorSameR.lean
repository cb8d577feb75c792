/-
  concordref09.Same, of any two.
-/
import Derived.Test.YtblfklnnojhadaaDoorWalkP
import Derived.Deep.RegionHeld3
import Derived.Deep.DrawnRows
set_option linter.unusedVariables false
set_option linter.unusedSimpArgs false
namespace Go.Proofs.YtblfklnnojhadaaDoor
open Go.RowKit

theorem take_snoc {α : Type} {L : List α} {k : Nat} {x : α} (h : L[k]? = some x) : L.take (k + 1) = L.take k ++ [x] := by
  obtain ⟨hk, rfl⟩ := List.getElem?_eq_some_iff.1 h
  exact List.take_succ_eq_append_getElem hk
def SameSPost (l m : List Stm) (w : World) (e : Ending) (w' : World) : Prop := ∃ b, e = .returned (.bool b) ∧ (b = true ↔ l = m) ∧ Upd [] w w'
set_option maxRecDepth 100000 in
set_option maxHeartbeats 8000000 in
theorem sameS_ok {B B' : Nat} : ∀ (sz : Nat) (l m : List Stm) (v u : Value) (w : World), sizes l < sz → Stms w B v l → Stms w B' u m → B ≤ w.heap.size → B' ≤ w.heap.size →
    Calls Tryd.prog 17 #[v, u] w fun e w' => SameSPost l m w e w' := by
  intro sz
  induction sz with
  | zero => intro l m v u w h; omega
  | succ sz ih =>
    intro l m v u w hm hv hu hB hB'
    have IH := Lib.hid ih
    have HV := Lib.hid hv
    have HU := Lib.hid hu
    clear ih
    cases hv with
    | mk A nn c l vb ve hln hc hcm hcell hbb hee =>
    cases hu with
    | mk A' mm c' m vb' ve' hln' hc' hcm' hcell' hbb' hee' =>
    have HLN := Lib.hid hln
    have HCE := Lib.hid hcell
    have HBB := Lib.hid hbb
    have HEE := Lib.hid hee
    have HLN' := Lib.hid hln'
    have HCE' := Lib.hid hcell'
    have HBB' := Lib.hid hbb'
    have HEE' := Lib.hid hee'
    clear hln hcell hbb hee hln' hcell' hbb' hee'
    go_enter Tryd.func17, Tryd.ntmps17
    by_cases hnm : nn = mm
    · subst hnm
      go_wp2_with fail
      go_loopw [5] (fun i wr => ∃ (k : Nat), i = .int .i64 k ∧ k ≤ nn ∧ Hid (l.take k = m.take k) ∧ Hid (Upd [] w wr)) (fun i _ => nn - (intOf i).toNat)
      case atStart => exact ⟨0, rfl, by omega, Lib.hid rfl, Lib.hid (.refl _ _)⟩
      case round =>
        obtain ⟨k, rfl, hk, KT, KU⟩ := hrel
        by_cases hkn : k < nn
        · have hkn' : decide ((k : Int) < nn) = true := by simp; omega
          obtain ⟨x, hx⟩ : ∃ x, l[k]? = some x := ⟨_, List.getElem?_eq_getElem (by rw [HLN.out]; exact hkn)⟩
          obtain ⟨y, hy⟩ : ∃ x, m[k]? = some x := ⟨_, List.getElem?_eq_getElem (by rw [HLN'.out]; exact hkn)⟩
          obtain ⟨a1, a2, a3, a4, a5, a6, a7, bo, el⟩ := x
          obtain ⟨b1, b2, b3, b4, b5, b6, b7, bo', el'⟩ := y
          have HXY : Hid (l = m → Stm.mk a1 a2 a3 a4 a5 a6 a7 bo el = Stm.mk b1 b2 b3 b4 b5 b6 b7 bo' el') := Lib.hid (fun e => by subst e; rw [hy] at hx; exact (Option.some.inj hx).symm)
          have TK : Hid (Stm.mk a1 a2 a3 a4 a5 a6 a7 bo el = Stm.mk b1 b2 b3 b4 b5 b6 b7 bo' el' → l.take (k + 1) = m.take (k + 1)) := Lib.hid (fun e => by rw [take_snoc hx, take_snoc hy, KT.out, e])
          have zb := sizes_get hx
          rw [size_mk] at zb
          obtain ⟨ad, rfl, hlt, hcc⟩ := HCE.out k a1 a2 a3 a4 a5 a6 a7 bo el hx
          obtain ⟨ad', rfl, hlt', hcc'⟩ := HCE'.out k b1 b2 b3 b4 b5 b6 b7 bo' el' hy
          have hsb := HBB.out k a1 a2 a3 a4 a5 a6 a7 bo el hx
          have hse := HEE.out k a1 a2 a3 a4 a5 a6 a7 bo el hx
          have hsb' := HBB'.out k b1 b2 b3 b4 b5 b6 b7 bo' el' hy
          have hse' := HEE'.out k b1 b2 b3 b4 b5 b6 b7 bo' el' hy
          obtain ⟨Ab, nb, cb, hvb⟩ := hsb.slice
          obtain ⟨Ae, ne, ce, hve⟩ := hse.slice
          obtain ⟨Ab', nb', cb', hvb'⟩ := hsb'.slice
          obtain ⟨Ae', ne', ce', hve'⟩ := hse'.slice
          rw [hvb, hve] at hcc
          rw [hvb] at hsb
          rw [hve] at hse
          rw [hvb', hve'] at hcc'
          rw [hvb'] at hsb'
          rw [hve'] at hse'
          have L1 : Hid (Below B w wr) := Lib.hid (KU.out.below hB (by simp))
          have L2 : Hid (Below B' w wr) := Lib.hid (KU.out.below hB' (by simp))
          have x0 : wr.cell? (ad.add (k * 9)) = some (.int .i64 a1) := (L1.out.cell (by rw [block_add]; exact hlt)).trans (hcc 0 _ rfl)
          have y0 : wr.cell? (ad'.add (k * 9)) = some (.int .i64 b1) := (L2.out.cell (by rw [block_add]; exact hlt')).trans (hcc' 0 _ rfl)
          have xr : ∀ j u, (stmCells a1 a2 a3 a4 a5 a6 a7 (.slice Ab nb cb) (.slice Ae ne ce))[j + 1]? = some u → wr.cell? ⟨(ad.add (k * 9)).block, (ad.add (k * 9)).off + (j + 1), none⟩ = some u := fun j u hu => by rw [← add_more]; exact (L1.out.cell (by rw [block_add]; exact hlt)).trans (hcc (j + 1) _ hu)
          have yr : ∀ j u, (stmCells b1 b2 b3 b4 b5 b6 b7 (.slice Ab' nb' cb') (.slice Ae' ne' ce'))[j + 1]? = some u → wr.cell? ⟨(ad'.add (k * 9)).block, (ad'.add (k * 9)).off + (j + 1), none⟩ = some u := fun j u hu => by rw [← add_more]; exact (L2.out.cell (by rw [block_add]; exact hlt')).trans (hcc' (j + 1) _ hu)
          have x1 := xr 0 _ rfl
          have x2 := xr 1 _ rfl
          have x3 := xr 2 _ rfl
          have x4 := xr 3 _ rfl
          have x5 := xr 4 _ rfl
          have x6 := xr 5 _ rfl
          have x7 := xr 6 _ rfl
          have x8 := xr 7 _ rfl
          have y1 := yr 0 _ rfl
          have y2 := yr 1 _ rfl
          have y3 := yr 2 _ rfl
          have y4 := yr 3 _ rfl
          have y5 := yr 4 _ rfl
          have y6 := yr 5 _ rfl
          have y7 := yr 6 _ rfl
          have y8 := yr 7 _ rfl
          have SB := Lib.hid hsb
          have SE := Lib.hid hse
          have SB' := Lib.hid hsb'
          have SE' := Lib.hid hse'
          have q1 : (0 : Int) ≤ (k : Int) := by omega
          have q2 : (k : Int) < (nn : Int) := by omega
          clear hx hy hcc hcc' hsb hse hsb' hse' xr yr hvb hve hvb' hve'
          have nx0 := World.new_ne wr _ x0
          have nx1 := World.new_ne wr _ x1
          have nx2 := World.new_ne wr _ x2
          have nx3 := World.new_ne wr _ x3
          have nx4 := World.new_ne wr _ x4
          have nx5 := World.new_ne wr _ x5
          have nx6 := World.new_ne wr _ x6
          have nx7 := World.new_ne wr _ x7
          have nx8 := World.new_ne wr _ x8
          have ny0 := World.new_ne wr _ y0
          have ny1 := World.new_ne wr _ y1
          have ny2 := World.new_ne wr _ y2
          have ny3 := World.new_ne wr _ y3
          have ny4 := World.new_ne wr _ y4
          have ny5 := World.new_ne wr _ y5
          have ny6 := World.new_ne wr _ y6
          have ny7 := World.new_ne wr _ y7
          have ny8 := World.new_ne wr _ y8
          go_wp2_with fail
          go_region_held3 (fun W => W.cell? (ad.add (k * 9)) = some (.int .i64 a1) ∧ W.cell? ⟨(ad.add (k * 9)).block, (ad.add (k * 9)).off + (0 + 1), none⟩ = some (.int .i64 a2) ∧ W.cell? ⟨(ad.add (k * 9)).block, (ad.add (k * 9)).off + (1 + 1), none⟩ = some (.int .i64 a3) ∧ W.cell? ⟨(ad.add (k * 9)).block, (ad.add (k * 9)).off + (2 + 1), none⟩ = some (.int .i64 a4) ∧ W.cell? ⟨(ad.add (k * 9)).block, (ad.add (k * 9)).off + (3 + 1), none⟩ = some (.int .i64 a5) ∧ W.cell? ⟨(ad.add (k * 9)).block, (ad.add (k * 9)).off + (4 + 1), none⟩ = some (.int .i64 a6) ∧ W.cell? ⟨(ad.add (k * 9)).block, (ad.add (k * 9)).off + (5 + 1), none⟩ = some (.int .i64 a7) ∧ W.cell? ⟨(ad.add (k * 9)).block, (ad.add (k * 9)).off + (6 + 1), none⟩ = some (.slice Ab nb cb) ∧ W.cell? ⟨(ad.add (k * 9)).block, (ad.add (k * 9)).off + (7 + 1), none⟩ = some (.slice Ae ne ce) ∧ W.cell? (ad'.add (k * 9)) = some (.int .i64 b1) ∧ W.cell? ⟨(ad'.add (k * 9)).block, (ad'.add (k * 9)).off + (0 + 1), none⟩ = some (.int .i64 b2) ∧ W.cell? ⟨(ad'.add (k * 9)).block, (ad'.add (k * 9)).off + (1 + 1), none⟩ = some (.int .i64 b3) ∧ W.cell? ⟨(ad'.add (k * 9)).block, (ad'.add (k * 9)).off + (2 + 1), none⟩ = some (.int .i64 b4) ∧ W.cell? ⟨(ad'.add (k * 9)).block, (ad'.add (k * 9)).off + (3 + 1), none⟩ = some (.int .i64 b5) ∧ W.cell? ⟨(ad'.add (k * 9)).block, (ad'.add (k * 9)).off + (4 + 1), none⟩ = some (.int .i64 b6) ∧ W.cell? ⟨(ad'.add (k * 9)).block, (ad'.add (k * 9)).off + (5 + 1), none⟩ = some (.int .i64 b7) ∧ W.cell? ⟨(ad'.add (k * 9)).block, (ad'.add (k * 9)).off + (6 + 1), none⟩ = some (.slice Ab' nb' cb') ∧ W.cell? ⟨(ad'.add (k * 9)).block, (ad'.add (k * 9)).off + (7 + 1), none⟩ = some (.slice Ae' ne' ce')) (go_keep) (fail)
          all_goals clear nx0 nx1 nx2 nx3 nx4 nx5 nx6 nx7 nx8 ny0 ny1 ny2 ny3 ny4 ny5 ny6 ny7 ny8 x0 x1 x2 x3 x4 x5 x6 x7 x8 y0 y1 y2 y3 y4 y5 y6 y7 y8
          · have BX : Hid (Blk (((wr.alloc (.cells #[.int .i64 a1, .int .i64 a2, .int .i64 a3, .int .i64 a4, .int .i64 a5, .int .i64 a6, .int .i64 a7, .slice Ab nb cb, .slice Ae ne ce] 39)).alloc (.cells #[.int .i64 b1, .int .i64 b2, .int .i64 b3, .int .i64 b4, .int .i64 b5, .int .i64 b6, .int .i64 b7, .slice Ab' nb' cb', .slice Ae' ne' ce'] 39)).drew) wr.heap.size 39 #[.int .i64 a1, .int .i64 a2, .int .i64 a3, .int .i64 a4, .int .i64 a5, .int .i64 a6, .int .i64 a7, .slice Ab nb cb, .slice Ae ne ce]) := Lib.hid (((Blk.new wr _ _).alloc _).drew)
            have BY : Hid (Blk (((wr.alloc (.cells #[.int .i64 a1, .int .i64 a2, .int .i64 a3, .int .i64 a4, .int .i64 a5, .int .i64 a6, .int .i64 a7, .slice Ab nb cb, .slice Ae ne ce] 39)).alloc (.cells #[.int .i64 b1, .int .i64 b2, .int .i64 b3, .int .i64 b4, .int .i64 b5, .int .i64 b6, .int .i64 b7, .slice Ab' nb' cb', .slice Ae' ne' ce'] 39)).drew) (wr.heap.size + 1) 39 #[.int .i64 b1, .int .i64 b2, .int .i64 b3, .int .i64 b4, .int .i64 b5, .int .i64 b6, .int .i64 b7, .slice Ab' nb' cb', .slice Ae' ne' ce']) := Lib.hid ((Blk.newAt _ _ (by simp)).drew)
            have UW : Hid (Upd [] wr (((wr.alloc (.cells #[.int .i64 a1, .int .i64 a2, .int .i64 a3, .int .i64 a4, .int .i64 a5, .int .i64 a6, .int .i64 a7, .slice Ab nb cb, .slice Ae ne ce] 39)).alloc (.cells #[.int .i64 b1, .int .i64 b2, .int .i64 b3, .int .i64 b4, .int .i64 b5, .int .i64 b6, .int .i64 b7, .slice Ab' nb' cb', .slice Ae' ne' ce'] 39)).drew)) := Lib.hid ((((Upd.refl [] wr).alloc _).alloc _).drew)
            generalize (((wr.alloc (.cells #[.int .i64 a1, .int .i64 a2, .int .i64 a3, .int .i64 a4, .int .i64 a5, .int .i64 a6, .int .i64 a7, .slice Ab nb cb, .slice Ae ne ce] 39)).alloc (.cells #[.int .i64 b1, .int .i64 b2, .int .i64 b3, .int .i64 b4, .int .i64 b5, .int .i64 b6, .int .i64 b7, .slice Ab' nb' cb', .slice Ae' ne' ce'] 39)).drew) = W0 at *
            have x0 := BX.out.cell 0
            have y0 := BY.out.cell 0
            have x1 := BX.out.cell 1
            have y1 := BY.out.cell 1
            have x2 := BX.out.cell 2
            have y2 := BY.out.cell 2
            have x3 := BX.out.cell 3
            have y3 := BY.out.cell 3
            have x4 := BX.out.cell 4
            have y4 := BY.out.cell 4
            have x5 := BX.out.cell 5
            have y5 := BY.out.cell 5
            have x6 := BX.out.cell 6
            have y6 := BY.out.cell 6
            have x7 := BX.out.cell 7
            have y7 := BY.out.cell 7
            have x8 := BX.out.cell 8
            have y8 := BY.out.cell 8
            go_wp2_with fail
            all_goals first
              | (go_ret; exact ⟨false, rfl, ⟨fun h => absurd h (by simp), fun e => by have e2 := HXY.out e; injection e2; omega⟩, KU.out.trans UW.out⟩)
              | skip
            clear x0 x1 x2 x3 x4 x5 x6 x7 x8 y0 y1 y2 y3 y4 y5 y6 y7 y8
            have HE : Hid (a1 = b1 ∧ a2 = b2 ∧ a3 = b3 ∧ a4 = b4 ∧ a5 = b5 ∧ a6 = b6 ∧ a7 = b7) := Lib.hid ⟨by assumption, by assumption, by assumption, by assumption, by assumption, by assumption, by assumption⟩
            have UZ : Hid (Upd [] w W0) := Lib.hid (KU.out.trans UW.out)
            have z0 := UZ.out.size
            refine (IH.out bo bo' (.slice Ab nb cb) (.slice Ab' nb' cb') W0 (by omega) (SB.out.belowW (UZ.out.below hB (by simp))) (SB'.out.belowW (UZ.out.below hB' (by simp))) (by omega) (by omega)).mono ?_
            rintro e w1 ⟨b, rfl, hb, u1⟩
            have HB := Lib.hid hb
            have U1 := Lib.hid (UZ.out.trans u1)
            have x8 : w1.cell? ⟨wr.heap.size, 8, none⟩ = some (.slice Ae ne ce) := (BX.out.upd u1 (by simp)).cell 8
            have y8 : w1.cell? ⟨(wr.heap.size + 1), 8, none⟩ = some (.slice Ae' ne' ce') := (BY.out.upd u1 (by simp)).cell 8
            clear hb u1
            cases b with
            | false =>
              go_wp2_with fail
              go_ret
              exact ⟨false, rfl, ⟨fun h => absurd h (by simp), fun e => by have e2 := HXY.out e; injection e2 with _ _ _ _ _ _ _ e8 _; exact absurd (HB.out.2 e8) (by simp)⟩, U1.out⟩
            | true =>
              have z1 := U1.out.size
              go_wp2_with fail
              refine (IH.out el el' (.slice Ae ne ce) (.slice Ae' ne' ce') w1 (by omega) (SE.out.belowW (U1.out.below hB (by simp))) (SE'.out.belowW (U1.out.below hB' (by simp))) (by omega) (by omega)).mono ?_
              rintro e w2 ⟨b, rfl, hb, u2⟩
              have HB2 := Lib.hid hb
              have U2 := Lib.hid (U1.out.trans u2)
              clear hb u2 x8 y8
              cases b with
              | false =>
                go_wp2_with fail
                go_ret
                exact ⟨false, rfl, ⟨fun h => absurd h (by simp), fun e => by have e2 := HXY.out e; injection e2 with _ _ _ _ _ _ _ _ e9; exact absurd (HB2.out.2 e9) (by simp)⟩, U2.out⟩
              | true =>
                have TK2 : Hid (l.take (k + 1) = m.take (k + 1)) := Lib.hid (TK.out (by
                  obtain ⟨h1, h2, h3, h4, h5, h6, h7⟩ := HE.out
                  rw [h1, h2, h3, h4, h5, h6, h7, HB.out.1 (by simp), HB2.out.1 (by simp)]))
                go_wp2_with fail
                go_roundw
                case rel => exact ⟨k + 1, by go_num, by omega, TK2, U2⟩
                case measure => simp [intOf]; omega
          · have BX : Hid (Blk (((wr.alloc (.cells #[.int .i64 b1, .int .i64 b2, .int .i64 b3, .int .i64 b4, .int .i64 b5, .int .i64 b6, .int .i64 b7, .slice Ab' nb' cb', .slice Ae' ne' ce'] 39)).alloc (.cells #[.int .i64 a1, .int .i64 a2, .int .i64 a3, .int .i64 a4, .int .i64 a5, .int .i64 a6, .int .i64 a7, .slice Ab nb cb, .slice Ae ne ce] 39)).drew) (wr.heap.size + 1) 39 #[.int .i64 a1, .int .i64 a2, .int .i64 a3, .int .i64 a4, .int .i64 a5, .int .i64 a6, .int .i64 a7, .slice Ab nb cb, .slice Ae ne ce]) := Lib.hid ((Blk.newAt _ _ (by simp)).drew)
            have BY : Hid (Blk (((wr.alloc (.cells #[.int .i64 b1, .int .i64 b2, .int .i64 b3, .int .i64 b4, .int .i64 b5, .int .i64 b6, .int .i64 b7, .slice Ab' nb' cb', .slice Ae' ne' ce'] 39)).alloc (.cells #[.int .i64 a1, .int .i64 a2, .int .i64 a3, .int .i64 a4, .int .i64 a5, .int .i64 a6, .int .i64 a7, .slice Ab nb cb, .slice Ae ne ce] 39)).drew) wr.heap.size 39 #[.int .i64 b1, .int .i64 b2, .int .i64 b3, .int .i64 b4, .int .i64 b5, .int .i64 b6, .int .i64 b7, .slice Ab' nb' cb', .slice Ae' ne' ce']) := Lib.hid (((Blk.new wr _ _).alloc _).drew)
            have UW : Hid (Upd [] wr (((wr.alloc (.cells #[.int .i64 b1, .int .i64 b2, .int .i64 b3, .int .i64 b4, .int .i64 b5, .int .i64 b6, .int .i64 b7, .slice Ab' nb' cb', .slice Ae' ne' ce'] 39)).alloc (.cells #[.int .i64 a1, .int .i64 a2, .int .i64 a3, .int .i64 a4, .int .i64 a5, .int .i64 a6, .int .i64 a7, .slice Ab nb cb, .slice Ae ne ce] 39)).drew)) := Lib.hid ((((Upd.refl [] wr).alloc _).alloc _).drew)
            generalize (((wr.alloc (.cells #[.int .i64 b1, .int .i64 b2, .int .i64 b3, .int .i64 b4, .int .i64 b5, .int .i64 b6, .int .i64 b7, .slice Ab' nb' cb', .slice Ae' ne' ce'] 39)).alloc (.cells #[.int .i64 a1, .int .i64 a2, .int .i64 a3, .int .i64 a4, .int .i64 a5, .int .i64 a6, .int .i64 a7, .slice Ab nb cb, .slice Ae ne ce] 39)).drew) = W0 at *
            have x0 := BX.out.cell 0
            have y0 := BY.out.cell 0
            have x1 := BX.out.cell 1
            have y1 := BY.out.cell 1
            have x2 := BX.out.cell 2
            have y2 := BY.out.cell 2
            have x3 := BX.out.cell 3
            have y3 := BY.out.cell 3
            have x4 := BX.out.cell 4
            have y4 := BY.out.cell 4
            have x5 := BX.out.cell 5
            have y5 := BY.out.cell 5
            have x6 := BX.out.cell 6
            have y6 := BY.out.cell 6
            have x7 := BX.out.cell 7
            have y7 := BY.out.cell 7
            have x8 := BX.out.cell 8
            have y8 := BY.out.cell 8
            go_wp2_with fail
            all_goals first
              | (go_ret; exact ⟨false, rfl, ⟨fun h => absurd h (by simp), fun e => by have e2 := HXY.out e; injection e2; omega⟩, KU.out.trans UW.out⟩)
              | skip
            clear x0 x1 x2 x3 x4 x5 x6 x7 x8 y0 y1 y2 y3 y4 y5 y6 y7 y8
            have HE : Hid (a1 = b1 ∧ a2 = b2 ∧ a3 = b3 ∧ a4 = b4 ∧ a5 = b5 ∧ a6 = b6 ∧ a7 = b7) := Lib.hid ⟨by assumption, by assumption, by assumption, by assumption, by assumption, by assumption, by assumption⟩
            have UZ : Hid (Upd [] w W0) := Lib.hid (KU.out.trans UW.out)
            have z0 := UZ.out.size
            refine (IH.out bo bo' (.slice Ab nb cb) (.slice Ab' nb' cb') W0 (by omega) (SB.out.belowW (UZ.out.below hB (by simp))) (SB'.out.belowW (UZ.out.below hB' (by simp))) (by omega) (by omega)).mono ?_
            rintro e w1 ⟨b, rfl, hb, u1⟩
            have HB := Lib.hid hb
            have U1 := Lib.hid (UZ.out.trans u1)
            have x8 : w1.cell? ⟨(wr.heap.size + 1), 8, none⟩ = some (.slice Ae ne ce) := (BX.out.upd u1 (by simp)).cell 8
            have y8 : w1.cell? ⟨wr.heap.size, 8, none⟩ = some (.slice Ae' ne' ce') := (BY.out.upd u1 (by simp)).cell 8
            clear hb u1
            cases b with
            | false =>
              go_wp2_with fail
              go_ret
              exact ⟨false, rfl, ⟨fun h => absurd h (by simp), fun e => by have e2 := HXY.out e; injection e2 with _ _ _ _ _ _ _ e8 _; exact absurd (HB.out.2 e8) (by simp)⟩, U1.out⟩
            | true =>
              have z1 := U1.out.size
              go_wp2_with fail
              refine (IH.out el el' (.slice Ae ne ce) (.slice Ae' ne' ce') w1 (by omega) (SE.out.belowW (U1.out.below hB (by simp))) (SE'.out.belowW (U1.out.below hB' (by simp))) (by omega) (by omega)).mono ?_
              rintro e w2 ⟨b, rfl, hb, u2⟩
              have HB2 := Lib.hid hb
              have U2 := Lib.hid (U1.out.trans u2)
              clear hb u2 x8 y8
              cases b with
              | false =>
                go_wp2_with fail
                go_ret
                exact ⟨false, rfl, ⟨fun h => absurd h (by simp), fun e => by have e2 := HXY.out e; injection e2 with _ _ _ _ _ _ _ _ e9; exact absurd (HB2.out.2 e9) (by simp)⟩, U2.out⟩
              | true =>
                have TK2 : Hid (l.take (k + 1) = m.take (k + 1)) := Lib.hid (TK.out (by
                  obtain ⟨h1, h2, h3, h4, h5, h6, h7⟩ := HE.out
                  rw [h1, h2, h3, h4, h5, h6, h7, HB.out.1 (by simp), HB2.out.1 (by simp)]))
                go_wp2_with fail
                go_roundw
                case rel => exact ⟨k + 1, by go_num, by omega, TK2, U2⟩
                case measure => simp [intOf]; omega
        · obtain rfl : k = nn := by omega
          have E : Hid (l = m) := Lib.hid (by have := KT.out; rwa [List.take_of_length_le (by rw [HLN.out]; exact Nat.le_refl _), List.take_of_length_le (by rw [HLN'.out]; exact Nat.le_refl _)] at this)
          go_wp2_with fail
          go_ret
          exact ⟨true, rfl, ⟨fun _ => E.out, fun _ => rfl⟩, KU.out⟩
    · have hnm' : ¬ (nn : Int) = mm := by omega
      have NE : Hid (¬ l = m) := Lib.hid (fun e => by have := HLN.out; rw [e, HLN'.out] at this; omega)
      go_wp2_with fail
      go_ret
      exact ⟨false, rfl, ⟨fun h => absurd h (by simp), fun h => absurd h NE.out⟩, .refl _ _⟩
end Go.Proofs.YtblfklnnojhadaaDoor

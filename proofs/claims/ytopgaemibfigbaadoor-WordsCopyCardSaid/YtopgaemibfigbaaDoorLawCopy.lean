/-
  WordsCopy, the walk.
-/
import Derived.Test.YtopgaemibfigbaaDoorDoAny
import Derived.Test.YtopgaemibfigbaaDoorCopy
import Derived.Deep.QuietTactic
import Derived.BigQuiet
set_option linter.unusedVariables false
set_option linter.unusedSimpArgs false
namespace Go.Proofs.YtopgaemibfigbaaDoor
open Go.RowKit
attribute [local go_sem ↓] Go.wp_at_zero Go.wp_at_succ

set_option maxHeartbeats 400000 in
theorem same_true (g1 g2 c1 c2 n : Nat) (ws : List Int) (w : World) (hn : ws.length = n) (h1 : Heads w g1 35 (ws.map (.int .u64))) (h2 : Heads w g2 35 (ws.map (.int .u64))) (hl : n ≤ 1000000) :
    Calls Tryd.prog 7 #[.slice (some ⟨g1, 0, none⟩) n c1, .slice (some ⟨g2, 0, none⟩) n c2] w fun e w' => e = .returned (.bool true) ∧ Upd [] w w' := by
  have HN := Lib.hid hn
  clear hn
  have H1 := Lib.hid h1
  have H2 := Lib.hid h2
  clear h1 h2
  go_enter Tryd.func7, Tryd.ntmps7
  go_wp2_with fail
  go_loopw [5] (fun v wr => ∃ k : Nat, k ≤ n ∧ v = .int .i64 k ∧ ∃ m, wr = w.drewN m) (fun v _ => n - (intOf v).toNat)
  case atStart => exact ⟨0, by omega, rfl, 0, rfl⟩
  case round =>
    obtain ⟨k, hk, rfl, m, rfl⟩ := hrel
    by_cases hlt : k < n
    · obtain ⟨x, hx⟩ : ∃ x, ws[k]? = some x := ⟨_, List.getElem?_eq_getElem (by have := HN.out; omega)⟩
      have f1 := H1.out.cell k (.int .u64 x) (by simp [hx])
      have f2 := H2.out.cell k (.int .u64 x) (by simp [hx])
      clear hx
      have i1 : 0 ≤ (k : Int) := by omega
      have i2 : (k : Int) < n := by omega
      go_wp2_with fail
      go_quiet (fail)
      go_wp2_with fail
      go_roundw
      case rel => exact ⟨k + 1, by omega, by go_num, _, rfl⟩
      case measure => simp [intOf]; omega
    · go_wp2_with fail
      go_ret
      exact ⟨rfl, (Upd.refl _ _).drewN _⟩

set_option maxRecDepth 100000 in
set_option maxHeartbeats 4000000 in
theorem law_copy (A : Option Addr) (n c : Nat) (A1 : Option Addr) (n1 c1 : Nat) (A2 : Option Addr) (n2 c2 : Nat) (w : World) (hl : Acts w A n) (hm : n ≤ 9223372036854775807) (hl1 : Acts w A1 n1) (hm1 : n1 ≤ 9223372036854775807) (hl2 : Acts w A2 n2) (hm2 : n2 ≤ 9223372036854775807) (hT : Typed w) :
    Calls Tryd.prog 3 #[.slice A n c, .slice A1 n1 c1, .slice A2 n2 c2] w fun e w' => e = .returned (.bool true) ∧ Upd [] w w' := by
  have HL1 := Lib.hid hl1
  have HL2 := Lib.hid hl2
  clear hl1 hl2
  go_enter Tryd.func3, Tryd.ntmps3
  go_wp2_with fail
  refine (play_any A n c w hl hm).mono ?_; rintro e w1 ⟨v, rfl, hp, u1⟩
  clear hl
  have hgl := hT.2
  have HT := Lib.hid hT
  clear hT
  rcases hp with rfl | ⟨a, b, ws, cnt, rfl, hA, hws, hc0, hc1, ha, hb⟩
  · go_wp2_with fail
    refine (alive_ok _).mono ?_; rintro e w2 ⟨rfl, u2⟩
    go_wp2_with fail
    go_ret
    exact ⟨rfl, u1.trans u2⟩
  by_cases hn1 : 60 < n1
  · clear hA
    go_wp2_with fail
    refine (alive_ok _).mono ?_; rintro e w2 ⟨rfl, u2⟩
    go_wp2_with fail
    go_ret
    exact ⟨rfl, u1.trans u2⟩
  by_cases hn2 : 60 < n2
  · clear hA
    go_wp2_with fail
    refine (alive_ok _).mono ?_; rintro e w2 ⟨rfl, u2⟩
    go_wp2_with fail
    go_ret
    exact ⟨rfl, u1.trans u2⟩
  have HW := Lib.hid hws
  have hw8 : ws.length ≤ 8 := by omega
  clear hws
  have hnA := hA.lt
  go_wp2_with fail
  refine (copy_ok a b ws cnt w1 hA (by omega)).mono ?_; rintro e w2 ⟨a2, b2, rfl, hB, ha2, hb2, u2⟩
  have lB0 := hB.lt
  have hA2 := hA.upd u2 (by simp) (by simp)
  clear hA
  have H1 := words_ok a b ws cnt w2 hA2 (by omega)
  rw [HW.out] at H1
  have K1 := Lib.hid H1
  clear H1
  go_wp2_with fail
  refine K1.out.mono ?_; rintro e w3 ⟨g1, d1, rfl, hd1, hg1, hh1, u3⟩
  have hA3 := hA2.upd u3 (by simp) (by simp)
  have hB3 := hB.upd u3 (by simp) (by simp)
  clear hA2 hB K1
  have H1 := words_ok a2 b2 ws cnt w3 hB3 (by omega)
  rw [HW.out] at H1
  have K1 := Lib.hid H1
  clear H1
  go_wp2_with fail
  refine K1.out.mono ?_; rintro e w4 ⟨g2, d2, rfl, hd2, hg2, hh2, u4⟩
  have hA4 := hA3.upd u4 (by simp) (by simp)
  have hB4 := hB3.upd u4 (by simp) (by simp)
  have hh14 := hh1.upd u4 (by simp)
  clear hA3 hB3 K1 hh1
  go_wp2_with fail
  refine (same_true g1 g2 d1 d2 8 ws _ HW.out hh14 hh2 (by omega)).mono ?_; rintro e w5 ⟨rfl, u5⟩
  have hA5 := hA4.upd u5 (by simp) (by simp)
  have hB5 := hB4.upd u5 (by simp) (by simp)
  clear hA4 hB4 hh14 hh2
  go_wp2_with fail
  refine (count_ok a b _ _ _ hA5).mono ?_; rintro e w' ⟨rfl, rfl⟩
  go_wp2_with fail
  refine (count_ok a2 b2 _ _ _ hB5).mono ?_; rintro e w' ⟨rfl, rfl⟩
  have hcc : (cnt != cnt) = false := by simp
  have H1 := words_ok a b ws cnt w5 hA5 (by omega)
  rw [HW.out] at H1
  have K1 := Lib.hid H1
  clear H1
  go_wp2_with fail
  refine K1.out.mono ?_; rintro e w6 ⟨q1, d3, rfl, hd3, hq1, hk1, u6⟩
  have hA6 := hA5.upd u6 (by simp) (by simp)
  have hB6 := hB5.upd u6 (by simp) (by simp)
  clear hA5 hB5 K1
  -- the first reference
  have hA7 := hA6.upd ((Upd.refl [] w6).alloc (.cells #[.slice (some ⟨q1, 0, none⟩) 8 d3, .slice none 0 0] 34)) (by simp) (by simp)
  have hB7 := hB6.upd ((Upd.refl [] w6).alloc (.cells #[.slice (some ⟨q1, 0, none⟩) 8 d3, .slice none 0 0] 34)) (by simp) (by simp)
  have hk7 := hk1.upd ((Upd.refl [] w6).alloc (.cells #[.slice (some ⟨q1, 0, none⟩) 8 d3, .slice none 0 0] 34)) (by simp)
  have hr7 := Blk.new w6 34 #[.slice (some ⟨q1, 0, none⟩) 8 d3, .slice none 0 0]
  have H1 := words_ok a b ws cnt _ hA7 (by omega)
  rw [HW.out] at H1
  have K1 := Lib.hid H1
  clear H1
  go_wp2_with fail
  refine K1.out.mono ?_; rintro e w7 ⟨q2, d4, rfl, hd4, hq2, hk2, u7⟩
  have z2 := u2.size
  have z3 := u3.size
  have z4 := u4.size
  have z5 := u5.size
  have z6 := u6.size
  have z7 : w6.heap.size + 1 ≤ w7.heap.size := by simpa using u7.size
  have z1 := u1.size
  have lB := hB6.lt
  have hA8 := (hA7.upd u7 (by simp) (by simp)).upd ((Upd.refl [] w7).alloc (.cells #[.slice (some ⟨q2, 0, none⟩) 8 d4, .slice none 0 0] 34)) (by simp) (by simp)
  have hB8 := (hB7.upd u7 (by simp) (by simp)).upd ((Upd.refl [] w7).alloc (.cells #[.slice (some ⟨q2, 0, none⟩) 8 d4, .slice none 0 0] 34)) (by simp) (by simp)
  have hr8 := (hr7.upd u7 (by simp)).alloc (.cells #[.slice (some ⟨q2, 0, none⟩) 8 d4, .slice none 0 0] 34)
  have hk8 := (hk7.upd u7 (by simp)).upd ((Upd.refl [] w7).alloc (.cells #[.slice (some ⟨q2, 0, none⟩) 8 d4, .slice none 0 0] 34)) (by simp)
  have hk28 := hk2.upd ((Upd.refl [] w7).alloc (.cells #[.slice (some ⟨q2, 0, none⟩) 8 d4, .slice none 0 0] 34)) (by simp)
  have hs8 := Blk.new w7 34 #[.slice (some ⟨q2, 0, none⟩) 8 d4, .slice none 0 0]
  have upW8 : Upd [] w (w7.alloc (.cells #[.slice (some ⟨q2, 0, none⟩) 8 d4, .slice none 0 0] 34)) := ((((((u1.trans u2).trans u3).trans u4).trans u5).trans u6).alloc _ |>.trans u7).alloc _
  have hq2' : w6.heap.size + 1 ≤ q2 := by simpa using hq2
  clear hA6 hB6 hA7 hB7 hk1 hk7 hr7 hk2 K1 hq2
  go_wp2_with fail
  generalize w6.heap.size = r at *
  generalize hS : w7.heap.size = s at *
  generalize hW8 : w7.alloc (.cells #[.slice (some ⟨q2, 0, none⟩) 8 d4, .slice none 0 0] 34) = W8 at *
  have zs : W8.heap.size = s + 1 := by rw [← hW8, ← hS]; simp
  have ZS := Lib.hid zs
  have zs1 : W8.heap.size ≤ s + 1 := by omega
  have zs2 : s + 1 ≤ W8.heap.size := by omega
  clear hW8 hS zs u1 u2 u3 u4 u5 u6 u7
  have hR8 : RefA W8 W8 r [a, b, a2, b2] ws 0 := ⟨q1, d3, _, [], by rw [HW.out]; exact hr8, hk8, World.ownsRow_nil _ _ _ _, Nat.le_refl _, by simp; omega⟩
  have GA := Lib.hid hA8
  have GB := Lib.hid hB8
  have GR := Lib.hid hR8
  have GS := Lib.hid (And.intro hs8 hk28)
  clear hA8 hB8 hR8 hr8 hs8 hk8 hk28
  go_loopw [59] (fun v wr => ∃ (k : Nat) (ws' : List Int) (cnt' : Int) (n' : Nat), k ≤ n1 ∧ v = .int .i64 k ∧ Arena wr a b ws' cnt' ∧ RefA W8 wr r [a, b, a2, b2] ws' n' ∧ ws'.length = 8 ∧ 0 ≤ cnt' ∧ cnt' ≤ 60 + k ∧ n' ≤ k ∧ Upd [a, b, r] W8 wr) (fun v _ => n1 - (intOf v).toNat)
  case atStart => exact ⟨0, ws, cnt, 0, by omega, rfl, GA.out, GR.out, HW.out, hc0, by omega, by omega, Upd.refl _ _⟩
  case round =>
    obtain ⟨k, ws', cnt', n', hk, rfl, hAr, hRr, hwl, hk0, hk1, hk2, ur⟩ := hrel
    have uw : Upd [] w wr := upW8.trans' ur (by simp; omega)
    have HX := Lib.hid hwl
    have hwl8 : ws'.length ≤ 8 := by omega
    have QA := Lib.hid hAr
    have QR := Lib.hid hRr
    clear hwl hAr hRr
    by_cases hlt : k < n1
    · obtain ⟨ad, kd, at_, o, x, rfl, f0, f1, f2, f3, hbl⟩ := (HL1.out.upd uw (by simp)) k hlt
      have ua : Upd [] wr (wr.alloc (.cells #[.int .i64 kd, .int .i64 at_, .int .u64 o, .int .u64 x] 37)) := (Upd.refl [] wr).alloc _
      go_wp2_with fail
      refine (do_any W8 _ a b r [a, b, a2, b2] ws' cnt' n' kd at_ o x (QA.out.upd ua (by simp) (by simp)) (QR.out.upd (ua.mono (by simp)) (by simp; omega) (by simp; omega)) (by omega) (by omega) (by omega) (by omega) (by omega) (by simp) (by simp) (by simp; omega) (by simp; omega) (HT.out.upd (uw.trans ua) (by simp)) (by omega) (by omega) (by omega)).mono ?_
      rintro e w9 ⟨rfl, ws9, cnt9, n9, hA9, hR9, hl9, hp1, hp2, hp3, hp4, hlow⟩
      have HY := Lib.hid (hl9.trans HX.out)
      have QA9 := Lib.hid hA9
      have QR9 := Lib.hid hR9
      clear hl9 hA9 hR9
      go_wp2_with fail
      go_roundw
      case rel => exact ⟨k + 1, ws9, cnt9, n9, by omega, by go_num, QA9.out, QR9.out, HY.out, by omega, by omega, by omega, (ur.trans (ua.mono (by simp))).low hlow⟩
      case measure => simp [intOf]; omega
    · have hle : n1 ≤ k := by omega
      go_wp2_with fail
      obtain ⟨V, hV⟩ : ∃ V : World, V = wr := ⟨_, rfl⟩
      subst hV
      have zV := ur.size
      have vB := GB.out.upd ur (by simp; omega) (by simp; omega)
      have vS : RefA V V s [a, b, a2, b2] ws 0 := ⟨q2, d4, _, [], by rw [HW.out]; exact GS.out.1.upd ur (by simp; omega), GS.out.2.upd ur (by simp; omega), World.ownsRow_nil _ _ _ _, Nat.le_refl _, by simp; omega⟩
      obtain ⟨qr, cr, vr, xr, kb, kh, _, _, kq⟩ := QR.out
      have kq1 : qr ≠ b2 := fun e => kq (by simp [e])
      have kq2 : qr < V.heap.size := kh.lt
      have kq3 : qr ≠ a2 := fun e => kq (by simp [e])
      have kq4 : s ≠ qr := (GS.out.1.upd ur (by simp; omega)).ne_ kh.choose_spec.1 (by decide)
      have kr : r ≠ qr := kb.ne_ kh.choose_spec.1 (by decide)
      have uV := uw
      have NA := QA
      have NX := HX
      have NKB := Lib.hid kb
      have NKH := Lib.hid kh
      have MB := Lib.hid vB
      have MS := Lib.hid vS
      have vs1 : s < V.heap.size := by omega
      have va2 : a2 < V.heap.size := by omega
      have vb2 : b2 < V.heap.size := by omega
      clear kb kh vB vS QA QR HX hk hk0 hk1 hk2 ur uw kq GS GB GA GR
      go_loopw [71] (fun v wr => ∃ (k : Nat) (ws2 : List Int) (cnt2 : Int) (n' : Nat), k ≤ n2 ∧ v = .int .i64 k ∧ Arena wr a2 b2 ws2 cnt2 ∧ RefA V wr s [a, b, a2, b2] ws2 n' ∧ ws2.length = 8 ∧ 0 ≤ cnt2 ∧ cnt2 ≤ 60 + k ∧ n' ≤ k ∧ Upd [a2, b2, s] V wr) (fun v _ => n2 - (intOf v).toNat)
      case atStart => exact ⟨0, ws, cnt, 0, by omega, rfl, MB.out, MS.out, HW.out, hc0, by omega, by omega, Upd.refl _ _⟩
      case round =>
        obtain ⟨j, ws2, cnt2, m', hj, rfl, hAr, hRr, hwl, hj0, hj1, hj2, ur⟩ := hrel
        have uw : Upd [] w wr := uV.trans' ur (by simp; omega)
        have HX := Lib.hid hwl
        have hwl8 : ws2.length ≤ 8 := by omega
        have QA := Lib.hid hAr
        have QR := Lib.hid hRr
        clear hwl hAr hRr
        by_cases hlt2 : j < n2
        · obtain ⟨ad, kd, at_, o, x, rfl, f0, f1, f2, f3, hbl⟩ := (HL2.out.upd uw (by simp)) j hlt2
          have ua : Upd [] wr (wr.alloc (.cells #[.int .i64 kd, .int .i64 at_, .int .u64 o, .int .u64 x] 37)) := (Upd.refl [] wr).alloc _
          go_wp2_with fail
          refine (do_any V _ a2 b2 s [a, b, a2, b2] ws2 cnt2 m' kd at_ o x (QA.out.upd ua (by simp) (by simp)) (QR.out.upd (ua.mono (by simp)) (by simp; omega) (by simp; omega)) (by omega) (by omega) (by omega) (by omega) (by omega) (by simp) (by simp) (by simp; omega) (by simp; omega) (HT.out.upd (uw.trans ua) (by simp)) (by omega) (by omega) (by omega)).mono ?_
          rintro e w9 ⟨rfl, ws9, cnt9, n9, hA9, hR9, hl9, hp1, hp2, hp3, hp4, hlow⟩
          have HY := Lib.hid (hl9.trans HX.out)
          have QA9 := Lib.hid hA9
          have QR9 := Lib.hid hR9
          clear hl9 hA9 hR9
          go_wp2_with fail
          go_roundw
          case rel => exact ⟨j + 1, ws9, cnt9, n9, by omega, by go_num, QA9.out, QR9.out, HY.out, by omega, by omega, by omega, (ur.trans (ua.mono (by simp))).low hlow⟩
          case measure => simp [intOf]; omega
        · have hle2 : n2 ≤ j := by omega
          obtain ⟨qs, cs, vs, xs, sb, sh, _, _, _⟩ := QR.out
          have eA := NA.out.upd ur (by simp; omega) (by simp; omega)
          have eK := NKB.out.upd ur (by simp; omega)
          have eH := NKH.out.upd ur (by simp; omega)
          rw [NX.out] at eK
          rw [HX.out] at sb
          have fr0 : wr.cell? ⟨r, 0, none⟩ = some (.slice (some ⟨qr, 0, none⟩) 8 cr) := by rw [eK.cell]; rfl
          have fs0 : wr.cell? ⟨s, 0, none⟩ = some (.slice (some ⟨qs, 0, none⟩) 8 cs) := by rw [sb.cell]; rfl
          have E1 := fun W (hA : Arena W a b ws' cnt') => words_ok a b ws' cnt' W hA (by have := NX.out; omega)
          have E2 := fun W (hA : Arena W a2 b2 ws2 cnt2) => words_ok a2 b2 ws2 cnt2 W hA (by have := HX.out; omega)
          rw [NX.out] at E1
          rw [HX.out] at E2
          have X1 := Lib.hid E1
          have X2 := Lib.hid E2
          have YA := Lib.hid eA
          have YH := Lib.hid eH
          have YS := Lib.hid sh
          have hrz : r < wr.heap.size := eK.lt
          have hsz : s < wr.heap.size := sb.lt
          clear E1 E2 eA eH eK sh sb
          have kp0 : ∀ W, Upd [] wr W → W.cell? ⟨r, 0, none⟩ = some (.slice (some ⟨qr, 0, none⟩) 8 cr) ∧ W.cell? ⟨s, 0, none⟩ = some (.slice (some ⟨qs, 0, none⟩) 8 cs) := fun W hu =>
            ⟨(hu.cell (p := ⟨r, 0, none⟩) hrz (by simp)).trans fr0, (hu.cell (p := ⟨s, 0, none⟩) hsz (by simp)).trans fs0⟩
          have KP := Lib.hid kp0
          have ud : Upd [] wr wr.drew := (Upd.refl [] wr).drew
          clear kp0
          go_wp2_with fail
          go_region_held3 (fun w' => w'.cell? ⟨r, 0, none⟩ = some (.slice (some ⟨qr, 0, none⟩) 8 cr) ∧ w'.cell? ⟨s, 0, none⟩ = some (.slice (some ⟨qs, 0, none⟩) 8 cs)) (first | exact KP.out _ v5 | exact KP.out _ v4 | exact KP.out _ v3 | exact KP.out _ v2 | exact KP.out _ v1 | exact KP.out _ ud)
            (first | (go_at_call_of 8 (Value.pointer (some (Addr.mk a 0 none))); refine (X1.out _ ?_).mono ?_; exact (YA.out.upd ud (by simp) (by simp)); rintro e p1 ⟨h1, c3, rfl, t1, t2, th1, tu1⟩; have v1 := ud.trans tu1) | (go_at_call_of 7 (Value.slice (some (Addr.mk qr 0 none)) 8 cr); refine (same_true h1 qr c3 cr 8 ws' _ NX.out ?_ ?_ (by omega)).mono ?_; exact th1; exact (YH.out.upd v1 (by simp)); rintro e p2 ⟨rfl, tu2⟩; have v2 := v1.trans tu2) | (go_at_call_of 8 (Value.pointer (some (Addr.mk a2 0 none))); refine (X2.out _ ?_).mono ?_; exact (QA.out.upd v2 (by simp) (by simp)); rintro e p3 ⟨h2, c4, rfl, t3, t4, th2, tu3⟩; have v3 := v2.trans tu3) | (go_at_call_of 7 (Value.slice (some (Addr.mk qs 0 none)) 8 cs); refine (same_true h2 qs c4 cs 8 ws2 _ HX.out ?_ ?_ (by omega)).mono ?_; exact th2; exact (YS.out.upd v3 (by simp)); rintro e p4 ⟨rfl, tu4⟩; have v4 := v3.trans tu4) | (go_at_call 5; refine (alive_ok _).mono ?_; rintro e p5 ⟨rfl, tu5⟩; have v5 := v4.trans tu5))
          go_wp2_with fail
          go_ret
          exact ⟨rfl, uw.trans v5⟩
end Go.Proofs.YtopgaemibfigbaaDoor

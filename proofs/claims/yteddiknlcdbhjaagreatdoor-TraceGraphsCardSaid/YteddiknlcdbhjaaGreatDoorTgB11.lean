/-
  concordref28: Wrong.
  trace.newTracer.
  errors.Is over the program's own errors (a number, or a place that wraps a number), and the law's 'No': by contracts.
  The law's 'No': which number an error has.
  Errors as the program makes them: none, a number, a fault at a place; what No says of them.
  trace.tracer: lost.
  trace.tracer: edge.
  What a map of integers holds, as a list by rising keys. No program in sight.
-/
import Derived.Test.YteddiknlcdbhjaaGreatDoorTgB10
import Derived.Test.YteddiknlcdbhjaaGreatDoorTgB2
import Derived.Deep.Cut
import Derived.Deep.CutRange
import Derived.Deep.RegionHeld3
import Derived.WideMake
import Derived.Test.YteddiknlcdbhjaaGreatDoorTgB0
import Derived.Test.YteddiknlcdbhjaaGreatDoorProg
import Derived.Stop.Asserts
import Derived.RowKitTokens
import Derived.Test.YteddiknlcdbhjaaGreatDoorTgB3
set_option linter.unusedVariables false
namespace Go.Proofs.YteddiknlcdbhjaaGreatDoor
open Go.RowKit TrP
attribute [local go_sem] litStep_value

theorem notesE_step {l : List Ev} {i : Nat} {x : Ev} (hx : l[i]? = some x) (hz : noteE (l.take i) x = 0) : notesE (l.take i) (l.drop i) = notesE (l.take (i + 1)) (l.drop (i + 1)) := by
  have hi := (List.getElem?_eq_some_iff.1 hx).1
  have e : l.drop i = x :: l.drop (i + 1) := by
    rw [List.drop_eq_getElem_cons hi]
    congr 1
    exact (List.getElem?_eq_some_iff.1 hx).2
  rw [e]
  conv => lhs; unfold notesE
  rw [if_neg (by simpa using hz), List.take_add_one, hx]
  rfl
theorem notesE_stop {l : List Ev} {i : Nat} {x : Ev} (hx : l[i]? = some x) {r : Int} (hr : noteE (l.take i) x = r) (hz : r ≠ 0) : notesE (l.take i) (l.drop i) = (r, (i : Int) + 1) := by
  have hi := (List.getElem?_eq_some_iff.1 hx).1
  have e : l.drop i = x :: l.drop (i + 1) := by
    rw [List.drop_eq_getElem_cons hi]
    congr 1
    exact (List.getElem?_eq_some_iff.1 hx).2
  rw [e]
  unfold notesE
  rw [if_pos (by rw [hr]; exact hz), hr, List.length_take, Nat.min_eq_left (by omega)]
theorem lostE_step {l : List Ev} {i : Nat} {x : Ev} (hx : l[i]? = some x) : lostE l i (l.drop i) = if lostB l x = true then (6, (i : Int) + 1) else lostE l (i + 1) (l.drop (i + 1)) := by
  have hi := (List.getElem?_eq_some_iff.1 hx).1
  have e : l.drop i = x :: l.drop (i + 1) := by
    rw [List.drop_eq_getElem_cons hi]
    congr 1
    exact (List.getElem?_eq_some_iff.1 hx).2
  rw [e]
  rfl
set_option maxRecDepth 100000 in
set_option maxHeartbeats 4000000 in
theorem r_wrong (A : Option Addr) (n k : Nat) (l : List Ev) (w : World) (h : Rd encEv w (.slice A n k) l) (hn : l.length = n) (hl : n ≤ 60) :
    Calls Tryz.prog 6 #[.slice A n k] w fun e w' => e = .returned (.tuple #[.int .i64 (wrongE l).1, .int .i64 (wrongE l).2]) ∧ Upd [] w w' := by
  have H := Lib.hid h
  have HN := Lib.hid hn
  clear h hn
  go_enter Tryz.func6, Tryz.ntmps6
  have q0 : ¬ (500 : Int) < (n : Int) := by omega
  have q0' : decide ((500 : Int) < (n : Int)) = false := by simp; omega
  go_wp2_with fail
  clear q0 q0'
  go_loopw [4] (fun u wr => ∃ i : Nat, u = .int .i64 i ∧ i ≤ n ∧ Hid (notesE [] l = notesE (l.take i) (l.drop i)) ∧ Hid (Upd [] w wr)) (fun u _ => n - (intOf u).toNat)
  case atStart => exact ⟨0, rfl, by omega, Lib.hid rfl, Lib.hid (.refl _ _)⟩
  case round =>
    obtain ⟨i, rfl, hi, HA, U1⟩ := hrel
    have q3 : (0 : Int) ≤ (i : Int) := by omega
    by_cases hin : i < n
    · obtain ⟨⟨xt, xc, xv, xw⟩, hx⟩ : ∃ x, l[i]? = some x := ⟨_, List.getElem?_eq_getElem (by rw [HN.out]; omega)⟩
      have H1 := Lib.hid (H.out.upd0 U1.out)
      obtain ⟨ad, rfl, hb, hc⟩ := H1.out.at_ hx
      have HX := Lib.hid hx
      have q4 : (i : Int) < (n : Int) := by omega
      have FX : Hid (∀ W, Upd [] wr W → W.cell? (ad.add (i * 4)) = some (.int .i64 xt) ∧ W.cell? ⟨(ad.add (i * 4)).block, (ad.add (i * 4)).off + 1, none⟩ = some (.int .u64 xc) ∧ W.cell? ⟨(ad.add (i * 4)).block, (ad.add (i * 4)).off + 2, none⟩ = some (.int .i64 xv) ∧ W.cell? ⟨(ad.add (i * 4)).block, (ad.add (i * 4)).off + 3, none⟩ = some (.bool xw)) := Lib.hid (fun W hW => by
        obtain ⟨ad', ea, _, hc'⟩ := (H1.out.upd0 hW).at_ HX.out
        injection ea with ea
        subst ea
        exact ⟨hc' 0 _ rfl, by rw [← add_more]; exact hc' 1 _ rfl, by rw [← add_more]; exact hc' 2 _ rfl, by rw [← add_more]; exact hc' 3 _ rfl⟩)
      clear hx hc
      go_upto_region 6 with fail
      go_cut [44] from 16 to 44 (fun t wx => ∃ bt, t = .bool bt ∧ Hid (argB ⟨xt, xc, xv, xw⟩ = bt) ∧ wr = wx)
      case first =>
        obtain ⟨f0, f1, f2, f3⟩ := FX.out wr (.refl _ _)
        clear f1
        by_cases a0 : xt < 0
        · have d0 : decide (xt < 0) = true := by simpa using a0
          go_wp2_with fail
          go_meet
          exact ⟨_, rfl, Lib.hid (by simp [argB, a0]), rfl⟩
        · have d0 : decide (xt < 0) = false := by simpa using a0
          by_cases a1 : xv < 0
          · have d1 : decide (xv < 0) = true := by simpa using a1
            go_wp2_with fail
            go_meet
            exact ⟨_, rfl, Lib.hid (by simp [argB, a1]), rfl⟩
          · have d1 : decide (xv < 0) = false := by simpa using a1
            cases xw with
            | false =>
              go_wp2_with fail
              go_meet
              exact ⟨_, rfl, Lib.hid (by simp [argB, d0, d1]), rfl⟩
            | true =>
              go_wp2_with fail
              go_meet
              exact ⟨_, rfl, Lib.hid (by simp only [argB, d0, d1]; rfl), rfl⟩
      case rest =>
        obtain ⟨bt, rfl, HB, rfl⟩ := hcut
        cases bt with
        | true =>
          have HE : Hid (wrongE l = (2, (i : Int) + 1)) := Lib.hid (by
            have h1 : notesE [] l = (2, (i : Int) + 1) := HA.out.trans (notesE_stop HX.out (by unfold noteE; rw [HB.out]; rfl) (by omega))
            unfold wrongE
            rw [h1]
            rfl)
          clear FX
          go_wp2_with fail
          go_ret2
          exact ⟨by rw [HE.out]; rfl, U1.out⟩
        | false =>
          go_wp2_with fail
          go_loopw [5] (fun u wk => ∃ j : Nat, u = .int .i64 j ∧ j ≤ i ∧ Hid (∀ y ∈ l.take j, hits y ⟨xt, xc, xv, xw⟩ = false) ∧ Hid (Upd [] wr wk)) (fun u _ => i - (intOf u).toNat)
          case atStart => exact ⟨0, rfl, by omega, Lib.hid (by simp), Lib.hid (.refl _ _)⟩
          case round =>
            obtain ⟨j, rfl, hj, HH, U2⟩ := hrel
            have r3 : (0 : Int) ≤ (j : Int) := by omega
            rename World => wk
            by_cases hji : j < i
            · obtain ⟨⟨yt, yc, yv, yw⟩, hy⟩ : ∃ x, l[j]? = some x := ⟨_, List.getElem?_eq_getElem (by rw [HN.out]; omega)⟩
              have HY := Lib.hid hy
              have FY : Hid (∀ W, Upd [] wr W → W.cell? (ad.add (j * 4)) = some (.int .i64 yt) ∧ W.cell? ⟨(ad.add (j * 4)).block, (ad.add (j * 4)).off + 1, none⟩ = some (.int .u64 yc) ∧ W.cell? ⟨(ad.add (j * 4)).block, (ad.add (j * 4)).off + 2, none⟩ = some (.int .i64 yv) ∧ W.cell? ⟨(ad.add (j * 4)).block, (ad.add (j * 4)).off + 3, none⟩ = some (.bool yw)) := Lib.hid (fun W hW => by
                obtain ⟨ad', ea, _, hc'⟩ := (H1.out.upd0 hW).at_ HY.out
                injection ea with ea
                subst ea
                exact ⟨hc' 0 _ rfl, by rw [← add_more]; exact hc' 1 _ rfl, by rw [← add_more]; exact hc' 2 _ rfl, by rw [← add_more]; exact hc' 3 _ rfl⟩)
              have r4 : (j : Int) < (i : Int) := by omega
              have r5 : (j : Int) < (n : Int) := by omega
              clear hy
              go_upto_region 11 with fail
              go_cut [102] from 52 to 102 (fun t wx => ∃ bt, t = .bool bt ∧ Hid (hits ⟨yt, yc, yv, yw⟩ ⟨xt, xc, xv, xw⟩ = bt) ∧ Hid (Upd [] wr wx))
              case first =>
                obtain ⟨f0, f1, f2, f3⟩ := FX.out wk U2.out
                obtain ⟨g0, g1, g2, g3⟩ := FY.out wk U2.out
                cases xw with
                | false =>
                  go_wp2_with fail
                  go_quiet (fail)
                  go_wp2_with fail
                  go_meet
                  exact ⟨_, rfl, Lib.hid (by by_cases e : xt = yt <;> simp [hits, e, HB]), Lib.hid (U2.out.drewN _)⟩
                | true =>
                  cases yw with
                  | false =>
                    go_wp2_with fail
                    go_quiet (fail)
                    go_wp2_with fail
                    go_meet
                    exact ⟨_, rfl, Lib.hid (by by_cases e : xt = yt <;> simp [hits, e, HB]), Lib.hid (U2.out.drewN _)⟩
                  | true =>
                    by_cases a0 : xc = yc
                    · have d0 : (xc == yc) = true := by simpa using a0
                      by_cases a1 : xv = yv
                      · have d1 : (xv == yv) = true := by simpa using a1
                        go_wp2_with fail
                        go_quiet (fail)
                        go_wp2_with fail
                        go_meet
                        exact ⟨_, rfl, Lib.hid (by by_cases e : xt = yt <;> simp [hits, e, a0, a1]), Lib.hid (U2.out.drewN _)⟩
                      · have d1 : (xv == yv) = false := by simpa using a1
                        go_wp2_with fail
                        go_quiet (fail)
                        go_wp2_with fail
                        go_meet
                        exact ⟨_, rfl, Lib.hid (by by_cases e : xt = yt <;> simp [hits, e, a0, a1]), Lib.hid (U2.out.drewN _)⟩
                    · have d0 : (xc == yc) = false := by simpa using a0
                      go_wp2_with fail
                      go_quiet (fail)
                      go_wp2_with fail
                      go_meet
                      exact ⟨_, rfl, Lib.hid (by by_cases e : xt = yt <;> simp [hits, e, a0]), Lib.hid (U2.out.drewN _)⟩
              case rest =>
                obtain ⟨bt, rfl, HT, U3⟩ := hcut
                clear FY
                cases bt with
                | true =>
                  have HE : Hid (wrongE l = (7, (i : Int) + 1)) := Lib.hid (by
                    have h1 : notesE [] l = (7, (i : Int) + 1) := HA.out.trans (notesE_stop HX.out (by
                      unfold noteE
                      rw [HB.out, if_neg (by simp), if_pos]
                      exact List.any_eq_true.2 ⟨_, List.mem_take_iff_getElem.2 ⟨j, (by have := HN.out; omega), (List.getElem?_eq_some_iff.1 HY.out).2⟩, HT.out⟩) (by omega))
                    unfold wrongE
                    rw [h1]
                    rfl)
                  go_wp2_with fail
                  go_ret2
                  exact ⟨by rw [HE.out]; rfl, U1.out.trans U3.out⟩
                | false =>
                  have HZ : Hid (∀ y ∈ l.take (j + 1), hits y ⟨xt, xc, xv, xw⟩ = false) := Lib.hid (take_snoc_all HY.out HH.out HT.out)
                  go_wp2_with fail
                  go_roundw
                  case rel => exact ⟨j + 1, by go_num, by omega, HZ, U3⟩
                  case measure => simp [intOf]; omega
            · have : j = i := by omega
              subst this
              have HE : Hid (notesE [] l = notesE (l.take (j + 1)) (l.drop (j + 1))) := Lib.hid (HA.out.trans (notesE_step HX.out (by
                unfold noteE
                rw [HB.out, if_neg (by simp), if_neg]
                intro h
                obtain ⟨y, hy, hh⟩ := List.any_eq_true.1 h
                rw [HH.out y hy] at hh
                cases hh)))
              go_wp2_with fail
              go_roundw
              case rel => exact ⟨j + 1, by go_num, by omega, HE, Lib.hid (U1.out.trans U2.out)⟩
              case measure => simp [intOf]; omega
    · have : i = n := by omega
      subst this
      have HZ : Hid ((notesE [] l).1 = 0) := Lib.hid (by
        rw [HA.out, List.drop_of_length_le (by rw [HN.out]; exact Nat.le_refl _)]
        rfl)
      have HNo : Hid (Noted l) := Lib.hid ((notesE_ok Noted.nil rfl).1.1 HZ.out)
      have HE : Hid (wrongE l = lostE l 0 l) := Lib.hid (by unfold wrongE; rw [HZ.out, if_neg (by simp)])
      go_wp2_with fail
      go_loopw [6] (fun u wk => ∃ j : Nat, u = .int .i64 j ∧ j ≤ i ∧ Hid (wrongE l = lostE l j (l.drop j)) ∧ Hid (Upd [] w wk)) (fun u _ => i - (intOf u).toNat)
      case atStart => exact ⟨0, rfl, by omega, Lib.hid (by rw [HE.out]; rfl), U1⟩
      case round =>
        obtain ⟨j, rfl, hj, HH, U2⟩ := hrel
        have r3 : (0 : Int) ≤ (j : Int) := by omega
        rename World => wk
        by_cases hji : j < i
        · obtain ⟨⟨xt, xc, xv, xw⟩, hx⟩ : ∃ x, l[j]? = some x := ⟨_, List.getElem?_eq_getElem (by rw [HN.out]; omega)⟩
          have H1 := Lib.hid (H.out.upd0 U2.out)
          obtain ⟨ad, rfl, hb, hc⟩ := H1.out.at_ hx
          have HX := Lib.hid hx
          have r4 : (j : Int) < (i : Int) := by omega
          have HV : Hid (0 ≤ xv) := Lib.hid (argB_iff.1 (HNo.out.arg (List.mem_of_getElem? hx))).2.1
          have FX : Hid (∀ W, Upd [] wk W → W.cell? ⟨(ad.add (j * 4)).block, (ad.add (j * 4)).off + 1, none⟩ = some (.int .u64 xc) ∧ W.cell? ⟨(ad.add (j * 4)).block, (ad.add (j * 4)).off + 2, none⟩ = some (.int .i64 xv) ∧ W.cell? ⟨(ad.add (j * 4)).block, (ad.add (j * 4)).off + 3, none⟩ = some (.bool xw)) := Lib.hid (fun W hW => by
            obtain ⟨ad', ea, _, hc'⟩ := (H1.out.upd0 hW).at_ HX.out
            injection ea with ea
            subst ea
            exact ⟨by rw [← add_more]; exact hc' 1 _ rfl, by rw [← add_more]; exact hc' 2 _ rfl, by rw [← add_more]; exact hc' 3 _ rfl⟩)
          have LS := Lib.hid (lostE_step hx)
          clear hx hc
          go_upto_region 16 with fail
          go_cut [123] from 111 to 123 (fun t wx => ∃ bt, t = .bool bt ∧ Hid (bt = true → lostB l ⟨xt, xc, xv, xw⟩ = false) ∧ Hid (bt = false → xw = false ∧ 0 < xv) ∧ wk = wx)
          case first =>
            obtain ⟨f1, f2, f3⟩ := FX.out wk (.refl _ _)
            clear f1
            cases xw with
            | true =>
              go_wp2_with fail
              go_meet
              exact ⟨_, rfl, Lib.hid (fun _ => by simp [lostB]), Lib.hid (fun h => by cases h), by first | rfl | trivial⟩
            | false =>
              by_cases a0 : xv = 0
              · subst a0
                go_wp2_with fail
                go_meet
                exact ⟨_, rfl, Lib.hid (fun _ => by simp [lostB]), Lib.hid (fun h => by cases h), by first | rfl | trivial⟩
              · have d0 : (xv == 0) = false := by simpa using a0
                go_wp2_with fail
                go_meet
                exact ⟨_, rfl, Lib.hid (fun h => by first | (cases h; done) | (rw [d0] at h; cases h)), Lib.hid (fun _ => ⟨by first | rfl | trivial, by have := HV.out; omega⟩), by first | rfl | trivial⟩
          case rest =>
            obtain ⟨bt, rfl, HT, HF, rfl⟩ := hcut
            cases bt with
            | true =>
              have HS : Hid (wrongE l = lostE l (j + 1) (l.drop (j + 1))) := Lib.hid (by rw [HH.out, LS.out, HT.out rfl, if_neg (by simp)])
              clear FX
              go_wp2_with fail
              go_roundw
              case rel => exact ⟨j + 1, by go_num, by omega, HS, U2⟩
              case measure => simp [intOf]; omega
            | false =>
              obtain ⟨rfl, h0⟩ := HF.out rfl
              have H0 := Lib.hid h0
              clear HT HF h0
              have v0 : Upd [] wk wk.drew := (Upd.refl [] _).drew
              go_wp2_with fail
              go_region_held3 (fun W => W.cell? ⟨(ad.add (j * 4)).block, (ad.add (j * 4)).off + 1, none⟩ = some (.int .u64 xc) ∧ W.cell? ⟨(ad.add (j * 4)).block, (ad.add (j * 4)).off + 2, none⟩ = some (.int .i64 xv)) (exact ⟨(FX.out _ v0).1, (FX.out _ v0).2.1⟩)
                (first | (go_at_call 17; refine (r_writer (some ad) i k l xc xv _ (H1.out.upd0 v0) HN.out (by omega)).mono ?_; rintro e w3 ⟨r, rfl, hr, rfl⟩))
              rcases hr with ⟨m, y, rfl, hy, hwr⟩ | ⟨rfl, hwr⟩
              · have HS : Hid (wrongE l = lostE l (j + 1) (l.drop (j + 1))) := Lib.hid (by
                  rw [HH.out, LS.out, if_neg]
                  unfold lostB
                  rw [show wroteOf l xc xv = some y.txn from hwr]
                  simp)
                have r7 : ¬ (m : Int) < 0 := by omega
                have r8 : decide ((m : Int) < 0) = false := by simp
                clear hwr hy FX
                go_wp2_with fail
                go_roundw
                case rel => exact ⟨j + 1, by go_num, by omega, HS, Lib.hid (U2.out.trans v0)⟩
                case measure => simp [intOf]; omega
              · have HS : Hid (wrongE l = (6, (j : Int) + 1)) := Lib.hid (by
                  rw [HH.out, LS.out, if_pos]
                  unfold lostB
                  rw [show wroteOf l xc xv = none from hwr]
                  have := H0.out
                  simp [this])
                clear hwr FX
                go_wp2_with fail
                go_ret2
                exact ⟨by rw [HS.out]; rfl, U2.out.trans v0⟩
        · have : j = i := by omega
          subst this
          have HS : Hid (wrongE l = (0, 0)) := Lib.hid (by
            rw [HH.out, List.drop_of_length_le (by rw [HN.out]; exact Nat.le_refl _)]
            rfl)
          go_wp2_with fail
          go_ret2
          exact ⟨by rw [HS.out]; rfl, U2.out⟩
end Go.Proofs.YteddiknlcdbhjaaGreatDoor

namespace Go.Proofs.YteddiknlcdbhjaaGreatDoor
open Go Go.RowKit TrP Vk
attribute [local go_sem] litStep_value run_makeMap_plain

abbrev newW (w : World) (sv : Value) : World := (((((w.alloc (.map #[] 0)).alloc (.map #[] 0)).alloc (.map #[] 0)).alloc (.map #[] 0)).alloc (.map #[] 0)).alloc (.cells #[.map (some w.heap.size), .map (some (w.heap.size + 1)), .map (some (w.heap.size + 1 + 1)), .map (some (w.heap.size + 1 + 1 + 1)), .map (some (w.heap.size + 1 + 1 + 1 + 1)), .nilIface, sv] 67)
def roAt : Nat → Ro
  | 0 => .txns
  | 1 => .wrote
  | 2 => .read
  | 3 => .edges
  | 4 => .leads
  | 5 => .tr
  | _ => .other
def rho0 (H : Nat) : Rho := fun y => if y < H then .other else roAt (y - H)
theorem rho0_hi {H y : Nat} (h : rho0 H y ≠ .other) : H ≤ y := by
  unfold rho0 at h
  by_cases e : H ≤ y
  · exact e
  · exact absurd (if_pos (by omega)) h
theorem rho0_add (H k : Nat) : rho0 H (H + k) = roAt k := by
  unfold rho0
  rw [if_neg (by omega), Nat.add_sub_cancel_left]
abbrev newB (H : Nat) : TB := ⟨H, H + 1, H + 1 + 1, H + 1 + 1 + 1, H + 1 + 1 + 1 + 1⟩
theorem new_st (w : World) (sv : Value) : NotedSt (newW w sv) (rho0 w.heap.size) w.heap.size (w.heap.size + 1 + 1 + 1 + 1 + 1) (newB w.heap.size) .nilIface sv [] ∧ Upd [] w (newW w sv) := by
  have u1 : ∀ (W : World) (o : Obj), Upd [] W (W.alloc o) := fun W o => (Upd.refl [] W).alloc o
  have hu : Upd [] w (newW w sv) := ((((((Upd.refl [] w).alloc _).alloc _).alloc _).alloc _).alloc _).alloc _
  refine ⟨⟨0, Nat.le_refl _, ?_⟩, hu⟩
  have i0 : IMap (newW w sv) .i64 w.heap.size (fun _ => none) 0 := (IMap.new w .i64).upd (((((u1 _ _).alloc _).alloc _).alloc _).alloc _) (by simp)
  have hs1 : (w.alloc (.map #[] 0)).heap.size = w.heap.size + 1 := by simp
  have hs2 : ((w.alloc (.map #[] 0)).alloc (.map #[] 0)).heap.size = w.heap.size + 1 + 1 := by simp
  have hs3 : (((w.alloc (.map #[] 0)).alloc (.map #[] 0)).alloc (.map #[] 0)).heap.size = w.heap.size + 1 + 1 + 1 := by simp
  have hs4 : ((((w.alloc (.map #[] 0)).alloc (.map #[] 0)).alloc (.map #[] 0)).alloc (.map #[] 0)).heap.size = w.heap.size + 1 + 1 + 1 + 1 := by simp
  have hs5 : (((((w.alloc (.map #[] 0)).alloc (.map #[] 0)).alloc (.map #[] 0)).alloc (.map #[] 0)).alloc (.map #[] 0)).heap.size = w.heap.size + 1 + 1 + 1 + 1 + 1 := by simp
  have i1 : IMap (newW w sv) .u64 (w.heap.size + 1) (fun _ => none) 0 := by
    have := (IMap.new (w.alloc (.map #[] 0)) .u64).upd ((((u1 _ (.map #[] 0)).alloc (.map #[] 0)).alloc (.map #[] 0)).alloc (.cells #[.map (some w.heap.size), .map (some (w.heap.size + 1)), .map (some (w.heap.size + 1 + 1)), .map (some (w.heap.size + 1 + 1 + 1)), .map (some (w.heap.size + 1 + 1 + 1 + 1)), .nilIface, sv] 67)) (by simp)
    rw [hs1] at this
    exact this
  have i2 : IMap (newW w sv) .u64 (w.heap.size + 1 + 1) (fun _ => none) 0 := by
    have := (IMap.new ((w.alloc (.map #[] 0)).alloc (.map #[] 0)) .u64).upd (((u1 _ (.map #[] 0)).alloc (.map #[] 0)).alloc (.cells #[.map (some w.heap.size), .map (some (w.heap.size + 1)), .map (some (w.heap.size + 1 + 1)), .map (some (w.heap.size + 1 + 1 + 1)), .map (some (w.heap.size + 1 + 1 + 1 + 1)), .nilIface, sv] 67)) (by simp)
    rw [hs2] at this
    exact this
  have i3 : KMap (newW w sv) kE (w.heap.size + 1 + 1 + 1) (fun _ => none) 0 := by
    have := (KMap.new (((w.alloc (.map #[] 0)).alloc (.map #[] 0)).alloc (.map #[] 0)) kE).upd ((u1 _ (.map #[] 0)).alloc (.cells #[.map (some w.heap.size), .map (some (w.heap.size + 1)), .map (some (w.heap.size + 1 + 1)), .map (some (w.heap.size + 1 + 1 + 1)), .map (some (w.heap.size + 1 + 1 + 1 + 1)), .nilIface, sv] 67)) (by simp)
    rw [hs3] at this
    exact this
  have i4 : IMap (newW w sv) .i64 (w.heap.size + 1 + 1 + 1 + 1) (fun _ => none) 0 := by
    have := (IMap.new ((((w.alloc (.map #[] 0)).alloc (.map #[] 0)).alloc (.map #[] 0)).alloc (.map #[] 0)) .i64).upd (u1 _ (.cells #[.map (some w.heap.size), .map (some (w.heap.size + 1)), .map (some (w.heap.size + 1 + 1)), .map (some (w.heap.size + 1 + 1 + 1)), .map (some (w.heap.size + 1 + 1 + 1 + 1)), .nilIface, sv] 67)) (by simp)
    rw [hs4] at this
    exact this
  refine ⟨?_, rho0_add w.heap.size 5, ⟨rho0_add w.heap.size 0, i0⟩, ⟨rho0_add w.heap.size 1, _, _, i1, fun c => ⟨fun _ h => (by cases h), fun _ => rfl⟩, fun c v h => (by cases h)⟩, ⟨rho0_add w.heap.size 2, _, _, i2, fun c => ⟨fun _ h => (by cases h), fun _ => rfl⟩, fun c v h => (by cases h)⟩, ⟨rho0_add w.heap.size 3, _, i3⟩, ⟨rho0_add w.heap.size 4, _, _, i4, fun k => .inl ⟨rfl, rfl⟩⟩, fun y hy => rho0_hi hy⟩
  have := Blk.new (((((w.alloc (.map #[] 0)).alloc (.map #[] 0)).alloc (.map #[] 0)).alloc (.map #[] 0)).alloc (.map #[] 0)) 67 #[.map (some w.heap.size), .map (some (w.heap.size + 1)), .map (some (w.heap.size + 1 + 1)), .map (some (w.heap.size + 1 + 1 + 1)), .map (some (w.heap.size + 1 + 1 + 1 + 1)), .nilIface, sv]
  rw [hs5] at this
  exact this
def NewPost (l : List Ev) (sv : Value) (w : World) (e : Ending) (w' : World) : Prop := ∃ ρ tb b, e = .returned (.pointer (some ⟨tb, 0, none⟩)) ∧ Upd [] w w' ∧ ((notesE [] l).1 = 0 → NotedSt w' ρ w.heap.size tb b .nilIface sv l) ∧
  ((notesE [] l).1 ≠ 0 → ∃ fb x0 x1 x2 x3 x4, Blk w' tb 67 #[x0, x1, x2, x3, x4, .iface 52 (.pointer (some ⟨fb, 0, none⟩)), sv] ∧ Blk w' fb 56 #[.int .i64 (notesE [] l).2, .int .i64 (notesE [] l).1])
set_option maxRecDepth 100000 in
set_option maxHeartbeats 4000000 in
theorem t_new (A : Option Addr) (n k : Nat) (l : List Ev) (w : World) (h : Rd encEv w (.slice A n k) l) (hn : l.length = n) (hl : n ≤ 60) :
    Calls Tryz.prog 29 #[.slice A n k] w fun e w' => NewPost l (.slice A n k) w e w' := by
  have H := Lib.hid h
  have HN := Lib.hid hn
  clear h hn
  go_enter Tryz.func29, Tryz.ntmps29
  have N0 := Lib.hid (new_st w (.slice A n k)).1
  have V0 := Lib.hid (new_st w (.slice A n k)).2
  go_wp2_with fail
  obtain ⟨W0, hW0⟩ : ∃ W0, newW w (.slice A n k) = W0 := ⟨_, rfl⟩
  obtain ⟨ρ0, hρ0⟩ : ∃ ρ0, rho0 w.heap.size = ρ0 := ⟨_, rfl⟩
  have HI0 : Hid (∀ y, ρ0 y ≠ .other → w.heap.size ≤ y) := Lib.hid (by rw [← hρ0]; exact fun y hy => rho0_hi hy)
  rw [hW0] at V0 N0
  rw [hρ0] at N0
  change Code.wp _ _ _ _ (newW w (.slice A n k))
  rw [hW0]
  clear hW0 hρ0
  obtain ⟨B, hB⟩ : ∃ B, w.heap.size = B := ⟨_, rfl⟩
  obtain ⟨tb, htb⟩ : ∃ tb, B + 1 + 1 + 1 + 1 + 1 = tb := ⟨_, rfl⟩
  obtain ⟨b, hb⟩ : ∃ b, newB B = b := ⟨_, rfl⟩
  have HBW := Lib.hid hB
  rw [hB] at N0 HI0 ⊢
  rw [htb, hb] at N0
  rw [htb]
  clear hB htb hb
  go_loopw [17] (fun u wr => ∃ i : Nat, u = .int .i64 i ∧ i ≤ n ∧ ∃ ρ, Hid (NotedSt wr ρ B tb b .nilIface (.slice A n k) (l.take i)) ∧ Hid (Tw ρ0 ρ W0 wr) ∧ Hid (Noted (l.take i)) ∧ Hid (notesE [] l = notesE (l.take i) (l.drop i))) (fun u _ => n - (intOf u).toNat)
  case atStart => exact ⟨0, rfl, by omega, ρ0, N0, Lib.hid (Tw.refl _ _), Lib.hid Noted.nil, Lib.hid rfl⟩
  case round =>
    obtain ⟨i, rfl, hi, ρ, NS, TW, NO, NE⟩ := hrel
    have q3 : (0 : Int) ≤ (i : Int) := by omega
    by_cases hin : i < n
    · obtain ⟨⟨xt, xc, xv, xw⟩, hx⟩ : ∃ x, l[i]? = some x := ⟨_, List.getElem?_eq_getElem (by rw [HN.out]; omega)⟩
      have HU0 := Lib.hid (TW.out.rest V0.out (by intro y hy; rw [HBW.out]; exact HI0.out y hy))
      have H1 := Lib.hid (H.out.upd0 HU0.out)
      obtain ⟨ad, rfl, hb, hc⟩ := H1.out.at_ hx
      have HX := Lib.hid hx
      have q4 : (i : Int) < (n : Int) := by omega
      have f0 : wr.cell? (ad.add (i * 4)) = some (.int .i64 xt) := hc 0 _ rfl
      have f1 : wr.cell? ⟨(ad.add (i * 4)).block, (ad.add (i * 4)).off + 1, none⟩ = some (.int .u64 xc) := by rw [← add_more]; exact hc 1 _ rfl
      have f2 : wr.cell? ⟨(ad.add (i * 4)).block, (ad.add (i * 4)).off + 2, none⟩ = some (.int .i64 xv) := by rw [← add_more]; exact hc 2 _ rfl
      have f3 : wr.cell? ⟨(ad.add (i * 4)).block, (ad.add (i * 4)).off + 3, none⟩ = some (.bool xw) := by rw [← add_more]; exact hc 3 _ rfl
      clear hx hc
      have V1 : Hid (Upd [] wr (wr.alloc (.cells #[.int .i64 xt, .int .u64 xc, .int .i64 xv, .bool xw] 48))) := Lib.hid ((Upd.refl [] wr).alloc _)
      go_wp2_with fail
      generalize (wr.alloc (.cells #[.int .i64 xt, .int .u64 xc, .int .i64 xv, .bool xw] 48)) = w1 at *
      have NS1 : NotedSt w1 ρ B tb b .nilIface (.slice (some ad) n k) (l.take i) := by
        obtain ⟨cn, hcn, hs⟩ := NS.out
        exact ⟨cn, hcn, hs.upd0 V1.out⟩
      refine (t_note ρ B tb b .nilIface (.slice (some ad) n k) (l.take i) ⟨xt, xc, xv, xw⟩ w1 NS1 (by rw [List.length_take, HN.out]; omega) NO.out).mono ?_; rintro e w2 ⟨rfl, ρ2, tw2, hi2, hok, hbad⟩
      obtain ⟨r, hr⟩ : ∃ r, noteE (l.take i) ⟨xt, xc, xv, xw⟩ = r := ⟨_, rfl⟩
      have HR := Lib.hid hr
      rw [hr] at hok hbad ⊢
      have TW2 := Lib.hid ((TW.out.trans (Tw.of0 V1.out)).trans tw2)
      have HOK := Lib.hid hok
      have HBAD := Lib.hid hbad
      have HI2 := Lib.hid hi2
      clear hok hbad hr f0 f1 f2 f3 tw2 hi2 NS1
      by_cases hr0 : r = 0
      · have d0 : (r != 0) = false := by simpa using hr0
        have hs2 := HOK.out hr0
        have e1 : l.take i ++ [⟨xt, xc, xv, xw⟩] = l.take (i + 1) := by rw [List.take_add_one, HX.out]; rfl
        rw [e1] at hs2
        have NS2 := Lib.hid hs2
        have NO2 : Hid (Noted (l.take (i + 1))) := Lib.hid (by rw [← e1]; exact NO.out.snoc (by rw [HR.out, hr0]))
        have NE2 : Hid (notesE [] l = notesE (l.take (i + 1)) (l.drop (i + 1))) := Lib.hid (NE.out.trans (notesE_step HX.out (by rw [HR.out, hr0])))
        clear hs2 e1
        subst hr0
        go_wp2_with fail
        go_roundw
        case rel => exact ⟨i + 1, by go_num, by omega, ρ2, NS2, TW2, NO2, NE2⟩
        case measure => simp [intOf]; omega
      · have d0 : (r != 0) = true := by simpa using hr0
        obtain ⟨hblk, hrt⟩ := HBAD.out hr0
        have HE : Hid (notesE [] l = (r, (i : Int) + 1)) := Lib.hid (NE.out.trans (notesE_stop HX.out HR.out hr0))
        have HBK := Lib.hid hblk
        have z1 : tb < w2.heap.size := hblk.lt
        have z2 : ∀ j, w2.frozen? ⟨tb, j, none⟩ = false := fun j => hblk.frozen j
        have z3 : w2.cell? ⟨tb, 5, none⟩ = some .nilIface := hblk.cell 5
        clear hblk
        have HRT := Lib.hid hrt
        clear hrt
        go_wp2_with fail
        go_ret
        have us : Upd [tb] w2 ((w2.setCell ⟨tb, 5, none⟩ (.iface 52 (.pointer (some ⟨w2.heap.size, 0, none⟩)))).alloc (.cells #[.int .i64 ((i : Int) + 1), .int .i64 r] 56)) := ((Upd.refl [tb] w2).setCell (.inl (by simp)) _).alloc _
        have tw3 := TW2.out.trans (Tw.of_upd us (by intro y hy; simp at hy; subst hy; rw [HRT.out]; simp))
        refine ⟨ρ2, tb, b, rfl, tw3.rest V0.out (by intro y hy; rw [HBW.out]; exact HI0.out y hy), fun h => absurd (by rw [HE.out] at h; exact h) hr0, fun _ => ⟨w2.heap.size, _, _, _, _, _, (HBK.out.set_eq (cs' := #[.map (some b.bt), .map (some b.bw), .map (some b.br), .map (some b.be), .map (some b.bl), .iface 52 (.pointer (some ⟨w2.heap.size, 0, none⟩)), .slice (some ad) n k]) rfl).alloc _, ?_⟩⟩
        rw [HE.out]
        have := Blk.new (w2.setCell ⟨tb, 5, none⟩ (.iface 52 (.pointer (some ⟨w2.heap.size, 0, none⟩)))) 56 #[.int .i64 ((i : Int) + 1), .int .i64 r]
        simpa using this
    · have : i = n := by omega
      subst this
      have NS2 := NS
      rw [List.take_of_length_le (by rw [HN.out]; exact Nat.le_refl _)] at NS2
      have NE2 : Hid ((notesE [] l).1 = 0) := Lib.hid (by rw [NE.out, List.drop_of_length_le (by rw [HN.out]; exact Nat.le_refl _)]; rfl)
      go_wp2_with fail
      go_ret
      exact ⟨ρ, tb, b, rfl, TW.out.rest V0.out (by intro y hy; rw [HBW.out]; exact HI0.out y hy), fun _ => by rw [HBW.out]; exact NS2.out, fun h => absurd NE2.out h⟩
end Go.Proofs.YteddiknlcdbhjaaGreatDoor

namespace Go.Proofs.YteddiknlcdbhjaaGreatDoor
open Go.RowKit Go.Extern.Stop Go.Stop Go.Extern

/-- The model's entry for a reflectlite type's Comparable. -/
def cmpEntry : Array Value → Sem Value := Extern.ReflectliteType.method fun t => do Extern.Rtype.noPackHeld "Comparable" t; pure (.bool (← typeInfo t).comparable)
theorem errnoTypeOf (v : Value) (w : World) : (Extern.ReflectliteType.typeOf #[.iface 51 v]).run Tryz.prog w = .ok (.iface 120 (.agg #[.pointer (some ⟨1, 51, none⟩)])) w := by kernel_rfl
theorem errnoComparable (w : World) : (cmpEntry #[.agg #[.pointer (some ⟨1, 51, none⟩)]]).run Tryz.prog w = .ok (.bool true) w := by kernel_rfl
theorem errnoComp : (Tryz.prog.info? 51).map (·.comparable) = some true := by kernel_rfl
theorem errnoNoIs (v : Value) (xT : TypeId) (w : World) : (Instr.typeAssert (.iface 51 v) xT 122 true).run Tryz.prog w = .ok (.tuple #[.nilIface, .bool false]) w := run_typeAssert_lacksB Tryz.underlying122 (by kernel_rfl) (by kernel_rfl) v xT w
theorem errnoNoUnwrap (v : Value) (xT : TypeId) (w : World) : (Instr.typeAssert (.iface 51 v) xT 125 true).run Tryz.prog w = .ok (.tuple #[.nilIface, .bool false]) w := run_typeAssert_lacksB Tryz.underlying125 (by kernel_rfl) (by kernel_rfl) v xT w
theorem errnoNoUnwraps (v : Value) (xT : TypeId) (w : World) : (Instr.typeAssert (.iface 51 v) xT 126 true).run Tryz.prog w = .ok (.tuple #[.nilIface, .bool false]) w := run_typeAssert_lacksB Tryz.underlying126 (by kernel_rfl) (by kernel_rfl) v xT w
theorem faultNoIs (v : Value) (xT : TypeId) (w : World) : (Instr.typeAssert (.iface 52 v) xT 122 true).run Tryz.prog w = .ok (.tuple #[.nilIface, .bool false]) w := run_typeAssert_lacksB Tryz.underlying122 (by kernel_rfl) (by kernel_rfl) v xT w
theorem faultHasUnwrap (v : Value) (xT : TypeId) (w : World) : (Instr.typeAssert (.iface 52 v) xT 125 true).run Tryz.prog w = .ok (.tuple #[.iface 52 v, .bool true]) w := run_typeAssert_hasB Tryz.underlying125 (by kernel_rfl) v xT w

set_option maxHeartbeats 1000000 in
/-- errors.Is of two numbers. -/
theorem is_errno (a b : Int) (w : World) :
    Calls Tryz.prog 18 #[.iface 51 (.int .i64 a), .iface 51 (.int .i64 b)] w fun e w' => e = .returned (.bool (a == b)) ∧ w = w' := by
  obtain ⟨i, hi, hcmp⟩ := Option.map_eq_some_iff.1 errnoComp
  have h8 := @run_callFunc_extern Tryz.prog 35 _ Extern.ReflectliteType.typeOf Tryz.func35 (by kernel_rfl) (by kernel_rfl) (by kernel_rfl) (by kernel_rfl)
  have h32 := @run_callFunc_extern Tryz.prog 127 _ cmpEntry Tryz.func127 (by kernel_rfl) (by kernel_rfl) (by kernel_rfl) (by kernel_rfl)
  have tT := errnoTypeOf
  have cT := errnoComparable
  have heq := run_eql_iface_int (P := Tryz.prog) w a b Tryz.underlying26 Tryz.underlying51 hi hcmp
  have n1 := errnoNoIs
  have n2 := errnoNoUnwrap
  have n3 := errnoNoUnwraps
  by_cases hab : a = b
  · subst hab
    have hb : (a == a) = true := by simp
    go_enter Tryz.func18, Tryz.ntmps18
    go_wp2
    refine wp_loop_rounds 1 ?_
    rw [rounds_succ]
    go_wp2
    go_ret
    exact ⟨by rw [hb]; rfl, rfl⟩
  · have hb : (a == b) = false := by simpa using hab
    clear hab
    go_enter Tryz.func18, Tryz.ntmps18
    go_wp2
    refine wp_loop_rounds 1 ?_
    rw [rounds_succ]
    go_wp2
    go_ret
    exact ⟨by rw [hb]; rfl, rfl⟩

set_option maxHeartbeats 1000000 in
/-- errors.Is of a place that wraps a number, and a number. -/
theorem is_fault (g : Nat) (a b : Int) (w : World) (hc : w.cell? ⟨g, 1, none⟩ = some (.int .i64 a)) :
    Calls Tryz.prog 18 #[.iface 52 (.pointer (some ⟨g, 0, none⟩)), .iface 51 (.int .i64 b)] w fun e w' => e = .returned (.bool (a == b)) ∧ w = w' := by
  obtain ⟨i, hi, hcmp⟩ := Option.map_eq_some_iff.1 errnoComp
  have h8 := @run_callFunc_extern Tryz.prog 35 _ Extern.ReflectliteType.typeOf Tryz.func35 (by kernel_rfl) (by kernel_rfl) (by kernel_rfl) (by kernel_rfl)
  have h32 := @run_callFunc_extern Tryz.prog 127 _ cmpEntry Tryz.func127 (by kernel_rfl) (by kernel_rfl) (by kernel_rfl) (by kernel_rfl)
  have tT := errnoTypeOf
  have cT := errnoComparable
  have heq := run_eql_iface_int (P := Tryz.prog) w a b Tryz.underlying26 Tryz.underlying51 hi hcmp
  have hty := run_eql_iface_types (P := Tryz.prog) 52 51 (.pointer (some ⟨g, 0, none⟩)) (.int .i64 b) Tryz.underlying26 (by decide) w
  have n1 := errnoNoIs
  have n2 := errnoNoUnwrap
  have n3 := errnoNoUnwraps
  have m1 := faultNoIs
  have m2 := faultHasUnwrap
  by_cases hab : a = b
  · subst hab
    have hb : (a == a) = true := by simp
    go_enter Tryz.func18, Tryz.ntmps18
    go_wp2
    refine wp_loop_rounds 2 ?_
    rw [rounds_succ]
    go_wp2
    rw [rounds_succ]
    go_wp2
    go_ret
    exact ⟨by rw [hb]; rfl, rfl⟩
  · have hb : (a == b) = false := by simpa using hab
    clear hab
    go_enter Tryz.func18, Tryz.ntmps18
    go_wp2
    refine wp_loop_rounds 2 ?_
    rw [rounds_succ]
    go_wp2
    rw [rounds_succ]
    go_wp2
    go_ret
    exact ⟨by rw [hb]; rfl, rfl⟩
end Go.Proofs.YteddiknlcdbhjaaGreatDoor

namespace Go.Proofs.YteddiknlcdbhjaaGreatDoor
open Go.RowKit

theorem no_nil (w : World) : Calls Tryz.prog 7 #[.nilIface] w fun e w' => e = .returned (.int .i64 0) ∧ w = w' := by
  go_enter Tryz.func7, Tryz.ntmps7
  go_wp2_with fail
  go_ret
  exact ⟨rfl, rfl⟩

set_option maxHeartbeats 400000 in
theorem no_errno (k : Int) (h1 : 1 ≤ k) (h2 : k ≤ 17) (w : World) : Calls Tryz.prog 7 #[.iface 51 (.int .i64 k)] w fun e w' => e = .returned (.int .i64 k) ∧ w = w' := by
  go_enter Tryz.func7, Tryz.ntmps7
  go_wp2_with fail
  go_loop [3] (fun n => ∃ j : Int, 1 ≤ j ∧ j ≤ k ∧ n = .int .i64 j) (fun n => (17 - intOf n).toNat)
  case atStart => exact ⟨1, by omega, by omega, rfl⟩
  case round =>
    obtain ⟨j, hj1, hj2, rfl⟩ := hrel
    by_cases hjk : j = k
    · subst hjk
      go_wp2_with ((go_at_call 18); (refine (is_errno _ _ _).mono ?_); (rintro e w' ⟨rfl, rfl⟩); (simp only [beq_self_eq_true]))
      go_ret
      exact ⟨rfl, rfl⟩
    · have hne : (k == j) = false := by simp; omega
      have hlt : j < k := by omega
      clear hjk hj2
      go_wp2_with ((go_at_call 18); (refine (is_errno _ _ _).mono ?_); (rintro e w' ⟨rfl, rfl⟩); (simp only [hne]))
      go_round
      case rel => exact ⟨j + 1, by omega, by omega, rfl⟩
      case measure => simp [intOf]; omega

set_option maxHeartbeats 400000 in
theorem no_fault (g : Nat) (k : Int) (h1 : 1 ≤ k) (h2 : k ≤ 17) (w : World) (hc : w.cell? ⟨g, 1, none⟩ = some (.int .i64 k)) : Calls Tryz.prog 7 #[.iface 52 (.pointer (some ⟨g, 0, none⟩))] w fun e w' => e = .returned (.int .i64 k) ∧ w = w' := by
  go_enter Tryz.func7, Tryz.ntmps7
  go_wp2_with fail
  go_loop [3] (fun n => ∃ j : Int, 1 ≤ j ∧ j ≤ k ∧ n = .int .i64 j) (fun n => (17 - intOf n).toNat)
  case atStart => exact ⟨1, by omega, by omega, rfl⟩
  case round =>
    obtain ⟨j, hj1, hj2, rfl⟩ := hrel
    by_cases hjk : j = k
    · subst hjk
      go_wp2_with ((go_at_call 18); (refine (is_fault _ _ _ _ hc).mono ?_); (rintro e w' ⟨rfl, rfl⟩); (simp only [beq_self_eq_true]))
      go_ret
      exact ⟨rfl, rfl⟩
    · have hne : (k == j) = false := by simp; omega
      have hlt : j < k := by omega
      clear hjk hj2
      go_wp2_with ((go_at_call 18); (refine (is_fault _ _ _ _ hc).mono ?_); (rintro e w' ⟨rfl, rfl⟩); (simp only [hne]))
      go_round
      case rel => exact ⟨j + 1, by omega, by omega, rfl⟩
      case measure => simp [intOf]; omega
end Go.Proofs.YteddiknlcdbhjaaGreatDoor

namespace Go.Proofs.YteddiknlcdbhjaaGreatDoor
open Go.RowKit

/-- An error's value: its number, its place. -/
def ErrV (w : World) (v : Value) (no at_ : Int) : Prop :=
  (v = .nilIface ∧ no = 0 ∧ at_ = 0) ∨ (v = .iface 51 (.int .i64 no) ∧ (1 ≤ no ∧ no ≤ 17) ∧ at_ = 0) ∨
  ∃ g, v = .iface 52 (.pointer (some ⟨g, 0, none⟩)) ∧ Blk w g 56 #[.int .i64 at_, .int .i64 no] ∧ 1 ≤ no ∧ no ≤ 17
theorem ErrV.nil (w : World) : ErrV w .nilIface 0 0 := .inl ⟨rfl, rfl, rfl⟩
theorem ErrV.errno (w : World) (k : Int) (h1 : 1 ≤ k) (h2 : k ≤ 17) : ErrV w (.iface 51 (.int .i64 k)) k 0 := .inr (.inl ⟨rfl, ⟨h1, h2⟩, rfl⟩)
theorem ErrV.fault {w : World} {g : Nat} {no at_ : Int} (h : Blk w g 56 #[.int .i64 at_, .int .i64 no]) (h1 : 1 ≤ no) (h2 : no ≤ 17) : ErrV w (.iface 52 (.pointer (some ⟨g, 0, none⟩))) no at_ := .inr (.inr ⟨g, rfl, h, h1, h2⟩)
theorem ErrV.upd {w w' : World} {v : Value} {no at_ : Int} (h : ErrV w v no at_) (hu : Upd [] w w') : ErrV w' v no at_ := by
  rcases h with h | h | ⟨g, h1, h2, h3⟩
  · exact .inl h
  · exact .inr (.inl h)
  · exact .inr (.inr ⟨g, h1, h2.upd hu (by simp), h3⟩)
theorem no_err {w : World} {v : Value} {no at_ : Int} (h : ErrV w v no at_) : Calls Tryz.prog 7 #[v] w fun e w' => e = .returned (.int .i64 no) ∧ w = w' := by
  rcases h with ⟨rfl, rfl, _⟩ | ⟨rfl, ⟨h1, h2⟩, _⟩ | ⟨g, rfl, hb, h1, h2⟩
  · exact no_nil w
  · exact no_errno no h1 h2 w
  · exact no_fault g no h1 h2 w (hb.cell 1)
end Go.Proofs.YteddiknlcdbhjaaGreatDoor

namespace Go.Proofs.YteddiknlcdbhjaaGreatDoor
open Go Go.RowKit TrP
open Vk (cellIn)
attribute [local go_sem] litStep_value

/-- What is found of a cell that is known. -/
theorem wr_at {w : World} {ρ : Rho} {bw : Nat} {C : Int → Prop} {wr : Int → Int → Option Int} (h : WrM w ρ bw C wr) {c : Int} (hc : C c) : ∃ f n wb m, IMap w .u64 bw f n ∧ f c = some (.map (some wb)) ∧ ρ wb = .wroteC c ∧ IMap w .i64 wb (fun k => (wr c k).map (.int .i64)) m := by
  obtain ⟨h0, f, n, h1, h2, h3⟩ := h
  obtain ⟨v, hv⟩ : ∃ v, f c = some v := by
    cases e : f c with
    | none => exact absurd hc ((h2 c).1 e)
    | some v => exact ⟨v, rfl⟩
  obtain ⟨b', m, rfl, g1, g2⟩ := h3 c v hv
  exact ⟨f, n, b', m, h1, hv, g1, g2⟩
def LostPost (l : List Ev) (w : World) (e : Ending) (w' : World) : Prop := ∃ v, e = .returned v ∧ ErrV w' v (lostE l 0 l).1 (lostE l 0 l).2 ∧ Upd [] w w'
set_option maxRecDepth 100000 in
set_option maxHeartbeats 4000000 in
theorem t_lost (A : Option Addr) (n k : Nat) (ρ : Rho) (B tb : Nat) (b : TB) (fv : Value) (l : List Ev) (T : TC) (w : World) (hs : TrSt w ρ B tb b fv (.slice A n k) T) (hC : T.C = cellIn l) (hwr : T.wr = wroteOf l) (h : Rd encEv w (.slice A n k) l) (hn : l.length = n) (hl : n ≤ 60) :
    Calls Tryz.prog 30 #[.pointer (some ⟨tb, 0, none⟩)] w fun e w' => LostPost l w e w' := by
  have HS := Lib.hid hs
  have H := Lib.hid h
  have HN := Lib.hid hn
  have HC := Lib.hid hC
  have HWR := Lib.hid hwr
  have c6 : w.cell? ⟨tb, 6, none⟩ = some (.slice A n k) := hs.tr.cell 6
  clear h hn hs hC hwr
  go_enter Tryz.func30, Tryz.ntmps30
  go_wp2_with fail
  clear c6
  go_loopw [12] (fun u wr => ∃ i : Nat, u = .int .i64 i ∧ i ≤ n ∧ Hid (lostE l 0 l = lostE l i (l.drop i)) ∧ Hid (Upd [] w wr)) (fun u _ => n - (intOf u).toNat)
  case atStart => exact ⟨0, rfl, by omega, Lib.hid rfl, Lib.hid (.refl _ _)⟩
  case round =>
    obtain ⟨i, rfl, hi, HA, U1⟩ := hrel
    have q3 : (0 : Int) ≤ (i : Int) := by omega
    by_cases hin : i < n
    · obtain ⟨⟨xt, xc, xv, xw⟩, hx⟩ : ∃ x, l[i]? = some x := ⟨_, List.getElem?_eq_getElem (by rw [HN.out]; omega)⟩
      have H1 := Lib.hid (H.out.upd0 U1.out)
      obtain ⟨ad, rfl, hb, hc⟩ := H1.out.at_ hx
      have HX := Lib.hid hx
      have LS := Lib.hid (lostE_step hx)
      have hcell : T.C xc := by
        rw [HC.out]
        exact List.mem_map.2 ⟨_, List.mem_of_getElem? hx, rfl⟩
      have q4 : (i : Int) < (n : Int) := by omega
      have f0 : wr.cell? (ad.add (i * 4)) = some (.int .i64 xt) := hc 0 _ rfl
      have f1 : wr.cell? ⟨(ad.add (i * 4)).block, (ad.add (i * 4)).off + 1, none⟩ = some (.int .u64 xc) := by rw [← add_more]; exact hc 1 _ rfl
      have f2 : wr.cell? ⟨(ad.add (i * 4)).block, (ad.add (i * 4)).off + 2, none⟩ = some (.int .i64 xv) := by rw [← add_more]; exact hc 2 _ rfl
      have f3 : wr.cell? ⟨(ad.add (i * 4)).block, (ad.add (i * 4)).off + 3, none⟩ = some (.bool xw) := by rw [← add_more]; exact hc 3 _ rfl
      clear hx hc
      have X1 : Hid (Blk (wr.alloc (.cells #[.int .i64 xt, .int .u64 xc, .int .i64 xv, .bool xw] 48)) wr.heap.size 48 #[.int .i64 xt, .int .u64 xc, .int .i64 xv, .bool xw]) := Lib.hid (Blk.new wr _ _)
      have V1 : Hid (Upd [] wr (wr.alloc (.cells #[.int .i64 xt, .int .u64 xc, .int .i64 xv, .bool xw] 48))) := Lib.hid ((Upd.refl [] wr).alloc _)
      go_wp2_with fail
      generalize (wr.alloc (.cells #[.int .i64 xt, .int .u64 xc, .int .i64 xv, .bool xw] 48)) = w1 at *
      have U2 := Lib.hid (U1.out.trans V1.out)
      have S1 := Lib.hid (HS.out.upd0 U2.out)
      clear f0 f1 f2 f3
      obtain ⟨fw, nw, wb, wm, iw, hv0, hwb, ib⟩ := wr_at S1.out.wr hcell
      rw [HWR.out] at ib
      obtain ⟨ww, hww⟩ : ∃ ww, wroteOf l xc xv = ww := ⟨_, rfl⟩
      have HWW := Lib.hid hww
      have CF : Hid (∀ W, Upd [] w1.drew W → (W.cell? ⟨tb, 1, none⟩ = some (.map (some b.bw)) ∧ W.cell? ⟨wr.heap.size, 1, none⟩ = some (.int .u64 xc) ∧ W.cell? ⟨wr.heap.size, 2, none⟩ = some (.int .i64 xv)) ∧ (Instr.lookup 62 (.map (some b.bw)) (.int .u64 xc) false).run Tryz.prog W = .ok (.map (some wb)) W ∧ (Instr.lookup 61 (.map (some wb)) (.int .i64 xv) true).run Tryz.prog W = .ok (.tuple #[(ww.map (Value.int .i64)).getD (.int .i64 0), .bool (ww.map (Value.int .i64)).isSome]) W) := Lib.hid (fun W hW => by
        have hu : Upd [] w1 W := (Upd.refl [] w1).drew.trans hW
        refine ⟨⟨(S1.out.tr.upd hu (by simp)).cell 1, (X1.out.upd hu (by simp)).cell 1, (X1.out.upd hu (by simp)).cell 2⟩, ?_, ?_⟩
        · rw [run_lookup_int' Tryz.underlying62 Tryz.underlying46 (Tryz.zeroValue61 W) (iw.upd hu (by simp)) xc, hv0]
          rfl
        · rw [run_lookup_int Tryz.underlying61 Tryz.underlying3 (Tryz.zeroValue3 W) (ib.upd hu (by simp)) xv, HWW.out])
      have LB : Hid (lostB l ⟨xt, xc, xv, xw⟩ = (!xw && decide (0 < xv) && ww.isNone)) := Lib.hid (by unfold lostB; rw [← hww])
      clear hww hwb ib iw hv0
      refine wp_invN [] [] (by kernel_rfl) (by kernel_rfl) (by kernel_rfl) trivial ?_
      with_reducible apply wpV_light
      · simp only [lightOp]
      · intro W hU hF
        have f0 := CF.out W hU
        clear hU hF
        go_simp
        exact rfl
      simp only [Act.put, List.setIfInBounds_toArray, List.set_cons_zero, List.set_cons_succ]
      with_reducible apply wpV_light
      · simp only [lightOp]
      · intro W hU hF
        have f0 := CF.out W hU
        clear hU hF
        go_simp
        exact rfl
      simp only [Act.put, List.setIfInBounds_toArray, List.set_cons_zero, List.set_cons_succ]
      with_reducible apply wpV_light
      · simp only [lightOp]
      · intro W hU hF
        have f0 := CF.out W hU
        clear hU hF
        go_simp
        exact rfl
      simp only [Act.put, List.setIfInBounds_toArray, List.set_cons_zero, List.set_cons_succ]
      with_reducible apply wpV_light
      · simp only [lightOp]
      · intro W hU hF
        have f0 := CF.out W hU
        clear hU hF
        go_simp
        exact rfl
      simp only [Act.put, List.setIfInBounds_toArray, List.set_cons_zero, List.set_cons_succ]
      with_reducible apply wpV_light
      · simp only [lightOp]
      · intro W hU hF
        have f0 := CF.out W hU
        clear hU hF
        go_simp
        exact rfl
      simp only [Act.put, List.setIfInBounds_toArray, List.set_cons_zero, List.set_cons_succ]
      with_reducible apply wpV_light
      · simp only [lightOp]
      · intro W hU hF
        have f0 := CF.out W hU
        clear hU hF
        go_simp
        exact rfl
      simp only [Act.put, List.setIfInBounds_toArray, List.set_cons_zero, List.set_cons_succ]
      with_reducible apply wpV_light
      · simp only [lightOp]
      · intro W hU hF
        have f0 := CF.out W hU
        clear hU hF
        go_simp
        exact rfl
      simp only [Act.put, List.setIfInBounds_toArray, List.set_cons_zero, List.set_cons_succ]
      with_reducible apply wpV_light
      · simp only [lightOp]
      · intro W hU hF
        have f0 := CF.out W hU
        clear hU hF
        go_simp
        exact rfl
      simp only [Act.put, List.setIfInBounds_toArray, List.set_cons_zero, List.set_cons_succ]
      with_reducible apply wpV_light
      · simp only [lightOp]
      · intro W hU hF
        have f0 := CF.out W hU
        clear hU hF
        go_simp
        exact rfl
      simp only [Act.put, List.setIfInBounds_toArray, List.set_cons_zero, List.set_cons_succ]
      with_reducible apply wpV_light
      · simp only [lightOp]
      · intro W hU hF
        have f0 := CF.out W hU
        clear hU hF
        go_simp
        exact rfl
      simp only [Act.put, List.setIfInBounds_toArray, List.set_cons_zero, List.set_cons_succ]
      with_reducible apply wpV_light
      · simp only [lightOp]
      · intro W hU hF
        have f0 := CF.out W hU
        clear hU hF
        go_simp
        exact rfl
      simp only [Act.put, List.setIfInBounds_toArray, List.set_cons_zero, List.set_cons_succ]
      with_reducible apply wpV_light
      · simp only [lightOp]
      · intro W hU hF
        have f0 := CF.out W hU
        clear hU hF
        go_simp
        exact rfl
      simp only [Act.put, List.setIfInBounds_toArray, List.set_cons_zero, List.set_cons_succ]
      with_reducible apply wpV_light
      · simp only [lightOp]
      · intro W hU hF
        have f0 := CF.out W hU
        clear hU hF
        go_simp
        exact rfl
      simp only [Act.put, List.setIfInBounds_toArray, List.set_cons_zero, List.set_cons_succ]
      with_reducible apply wpV_light
      · simp only [lightOp]
      · intro W hU hF
        have f0 := CF.out W hU
        clear hU hF
        go_simp
        exact rfl
      simp only [Act.put, List.setIfInBounds_toArray, List.set_cons_zero, List.set_cons_succ]
      with_reducible apply wpV_light
      · simp only [lightOp]
      · intro W hU hF
        have f0 := CF.out W hU
        clear hU hF
        go_simp
        exact rfl
      simp only [Act.put, List.setIfInBounds_toArray, List.set_cons_zero, List.set_cons_succ]
      refine wpV_end (fun w6 hU _ _ => ?_)
      have U6 : Hid (Upd [] w1 w6) := Lib.hid ((Upd.refl [] w1).drew.trans hU)
      clear hU CF
      refine wpT_end ?_
      have X6 := Lib.hid (X1.out.upd U6.out (by simp))
      have U7 := Lib.hid (U2.out.trans U6.out)
      have d2 : w6.cell? ⟨wr.heap.size, 2, none⟩ = some (.int .i64 xv) := X6.out.cell 2
      have d3 : w6.cell? ⟨wr.heap.size, 3, none⟩ = some (.bool xw) := X6.out.cell 3
      cases xw with
      | true =>
        have HZ : Hid (lostE l 0 l = lostE l (i + 1) (l.drop (i + 1))) := Lib.hid (by rw [HA.out, LS.out, LB.out, if_neg (by simp [LB])])
        go_wp2_with fail
        go_roundw
        case rel => exact ⟨i + 1, by go_num, by omega, HZ, U7⟩
        case measure => simp [intOf]; omega
      | false =>
        by_cases h0 : 0 < xv
        · have e0 : decide (0 < xv) = true := by simpa using h0
          cases ww with
          | some t =>
            have HZ : Hid (lostE l 0 l = lostE l (i + 1) (l.drop (i + 1))) := Lib.hid (by rw [HA.out, LS.out, LB.out, if_neg (by simp [h0])])
            go_wp2_with fail
            go_roundw
            case rel => exact ⟨i + 1, by go_num, by omega, HZ, U7⟩
            case measure => simp [intOf]; omega
          | none =>
            have HE : Hid (lostE l 0 l = (6, (i : Int) + 1)) := Lib.hid (by rw [HA.out, LS.out, LB.out, if_pos (by simp [h0])])
            go_wp2_with fail
            go_ret
            refine ⟨_, rfl, ?_, U7.out.alloc _⟩
            rw [HE.out]
            exact ErrV.fault (Blk.new w6 _ _) (by omega) (by omega)
        · have e0 : decide (0 < xv) = false := by simpa using h0
          have HZ : Hid (lostE l 0 l = lostE l (i + 1) (l.drop (i + 1))) := Lib.hid (by rw [HA.out, LS.out, LB.out, if_neg (by simp [h0])])
          go_wp2_with fail
          go_roundw
          case rel => exact ⟨i + 1, by go_num, by omega, HZ, U7⟩
          case measure => simp [intOf]; omega
    · have : i = n := by omega
      subst this
      have HE : Hid (lostE l 0 l = (0, 0)) := Lib.hid (by rw [HA.out, List.drop_of_length_le (by rw [HN.out]; exact Nat.le_refl _)]; rfl)
      go_wp2_with fail
      go_ret
      refine ⟨_, rfl, ?_, U1.out⟩
      rw [HE.out]
      exact ErrV.nil _
end Go.Proofs.YteddiknlcdbhjaaGreatDoor

namespace Go.Proofs.YteddiknlcdbhjaaGreatDoor
open Go Go.RowKit TrP
attribute [local go_sem] litStep_value

theorem TrSt.setEd {w W : World} {ρ : Rho} {B tb : Nat} {b : TB} {fv sv : Value} {T : TC} (h : TrSt w ρ B tb b fv sv T) (hu : Upd [b.be] w W) {S : List Ed} {n : Nat} (im : KMap W kE b.be (fun e => if e ∈ S then some (.int .i64 1) else none) n) : TrSt W ρ B tb b fv sv { T with S := S } := by
  have hO : UpdP (fun x => x = b.be) w W := UpdP.of_upd hu (fun x hx => by simp at hx; exact .inl hx)
  have ha := Agr.refl w ρ
  have hr : ∀ x, x = b.be → ρ x = .edges := fun x e => by rw [e]; exact h.ed.1
  exact { tr := h.tr.updP hO (fun e => by have := hr _ e; rw [h.rt] at this; cases this), rt := h.rt, tx := h.tx.fr hO ha (fun x hx => by rw [hr x hx]; simp), wr := h.wr.fr hO ha (fun x hx => by rw [hr x hx]; simp), rd := h.rd.fr hO ha (fun x hx => by rw [hr x hx]; simp), ed := ⟨h.ed.1, n, im⟩, ld := h.ld.fr hO ha (fun x hx => by rw [hr x hx]; simp), hi := h.hi }
def EdgePost (ρ : Rho) (B tb : Nat) (b : TB) (fv sv : Value) (T : TC) (x : Ed) (w : World) (e : Ending) (w' : World) : Prop := e = .returned (.tuple #[]) ∧ ∃ S', TrSt w' ρ B tb b fv sv { T with S := S' } ∧ (∀ y, y ∈ S' ↔ y ∈ T.S ∨ y = x ∧ x.1 ≠ x.2.1) ∧ Upd [b.be] w w'
set_option maxRecDepth 100000 in
set_option maxHeartbeats 1000000 in
theorem t_edge (ρ : Rho) (B tb : Nat) (b : TB) (fv sv : Value) (T : TC) (x : Ed) (w : World) (h : TrSt w ρ B tb b fv sv T) :
    Calls Tryz.prog 48 #[.pointer (some ⟨tb, 0, none⟩), .int .i64 x.1, .int .i64 x.2.1, .int .i64 x.2.2] w fun e w' => EdgePost ρ B tb b fv sv T x w e w' := by
  obtain ⟨x0, x1, x2⟩ := x
  have HS := Lib.hid h
  clear h
  go_enter Tryz.func48, Tryz.ntmps48
  by_cases h01 : x0 = x1
  · subst h01
    go_wp2_with fail
    go_end0
    exact ⟨rfl, T.S, HS.out, fun y => by simp, .refl _ _⟩
  · have d : (x0 != x1) = true := by simpa using h01
    have H01 := Lib.hid h01
    obtain ⟨he, n, im⟩ := HS.out.ed
    obtain ⟨w2, hrun, im2, hu2⟩ := run_mapUpdate_k (P := Tryz.prog) Tryz.underlying64 klaw_edge im (x0, x1, x2) (.int .i64 1)
    have IM2 := Lib.hid im2
    have HU2 := Lib.hid hu2
    have hrun2 : (Instr.mapUpdate 64 (.map (some b.be)) (.agg #[.int .i64 x0, .int .i64 x1, .int .i64 x2]) (.int .i64 1)).run Tryz.prog w = .ok () w2 := hrun
    have c3 : w.cell? ⟨tb, 3, none⟩ = some (.map (some b.be)) := HS.out.tr.cell 3
    clear im2 hu2 im hrun h01
    go_wp2_with fail
    go_end0
    refine ⟨rfl, (x0, x1, x2) :: T.S, HS.out.setEd HU2.out (IM2.out.congr fun e => ?_), fun y => ?_, HU2.out⟩
    · unfold putK
      by_cases e1 : e = (x0, x1, x2)
      · rw [if_pos e1, if_pos (by rw [e1]; simp)]
      · rw [if_neg e1]
        simp [e1]
    · simp only [List.mem_cons]
      constructor
      · rintro (h | h)
        · exact .inr ⟨h, H01.out⟩
        · exact .inl h
      · rintro (h | h)
        · exact .inr h
        · exact .inl h.1
end Go.Proofs.YteddiknlcdbhjaaGreatDoor

namespace Go.Proofs.YteddiknlcdbhjaaGreatDoor
open Go.RowKit Assoc

theorem al_fold (g : Int → Option Int) : ∀ (L : List IEnt), (L.map (·.1)).Nodup → ∃ al : AL, Srt al ∧ al.length = L.length ∧ ∀ k, get al k = if k ∈ L.map (·.1) then some ((g k).getD 0) else none
  | [], _ => ⟨[], Srt.nil, rfl, fun k => rfl⟩
  | p :: L, h => by
    rw [List.map_cons, List.nodup_cons] at h
    obtain ⟨al, h1, h2, h3⟩ := al_fold g L h.2
    refine ⟨put al p.1 ((g p.1).getD 0), srt_put h1 _ _, ?_, fun k => ?_⟩
    · rw [len_put h1, h3, if_neg h.1]
      simp [h2]
    · rw [get_put h1, h3]
      by_cases e : k = p.1
      · subst e; simp
      · rw [if_neg e]
        simp only [List.map_cons, List.mem_cons, e, false_or]
/-- A map of integers as a list that rises. -/
theorem al_of {w : World} {b n : Nat} {g : Int → Option Int} (h : IMap w .i64 b (fun k => (g k).map (.int .i64)) n) : ∃ al : AL, Srt al ∧ al.length = n ∧ (∀ k, mapI al k = (g k).map (.int .i64)) ∧ ∀ k, get al k = g k := by
  obtain ⟨L, c, hr, hf, hn⟩ := h
  obtain ⟨al, h1, h2, h3⟩ := al_fold g L hr.keys
  have key : ∀ k, get al k = g k := fun k => by
    rw [h3]
    have hk : (g k).map (Value.int .i64) = findI L k := hf k
    by_cases hm : k ∈ L.map (·.1)
    · rw [if_pos hm]
      obtain ⟨p, hp, rfl⟩ := List.mem_map.1 hm
      rw [findI_mem hr.keys hp] at hk
      cases hg : g p.1 with
      | none => rw [hg] at hk; cases hk
      | some v => rfl
    · rw [if_neg hm]
      have : findI L k = none := findI_none (fun p hp e => hm (List.mem_map.2 ⟨p, hp, e⟩))
      rw [this] at hk
      cases hg : g k with
      | none => rfl
      | some v => rw [hg] at hk; cases hk
  exact ⟨al, h1, h2.trans hn, fun k => by unfold mapI; rw [key], key⟩
theorem get_keys {al : AL} (h : Srt al) (k : Int) : k ∈ al.map (·.1) ↔ (get al k).isSome = true := by
  constructor
  · intro hk
    obtain ⟨p, hp, rfl⟩ := List.mem_map.1 hk
    rw [get_mem h hp]; rfl
  · intro hk
    obtain ⟨v, hv⟩ := Option.isSome_iff_exists.1 hk
    exact List.mem_map.2 ⟨_, mem_of_get hv, rfl⟩
end Go.Proofs.YteddiknlcdbhjaaGreatDoor

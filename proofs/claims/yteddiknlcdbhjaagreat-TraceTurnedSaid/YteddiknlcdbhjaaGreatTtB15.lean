/-
  TraceAlone, the walk.
  A law's argument: events; lists of lists of numbers.
  An argument that is a slice of slices of plain things. No program in sight.
  A law's argument: slices of slices of numbers.
-/
import Derived.Test.YteddiknlcdbhjaaGreatTtB14
import Derived.Test.YteddiknlcdbhjaaGreatTtB4
import Derived.Test.YteddiknlcdbhjaaGreatTtB2
set_option linter.unusedVariables false
namespace Go.Proofs.YteddiknlcdbhjaaGreat
open Go Go.RowKit TrP
attribute [local go_sem] litStep_value

def lastC (s : AS) : Array Value := #[.int .i64 (s.last 0), .int .i64 (s.last 1), .int .i64 (s.last 2), .int .i64 (s.last 3)]
/-- What has been laid down so far. -/
structure AlS (w : World) (lb : Nat) (wq : World) (v : Value) (s : AS) (i : Nat) (N : Nat) : Prop where
  ev : Ow encEv 47 wq w.heap.size v s.l
  bl : Blk wq lb 44 (lastC s)
  inv : InvA s i
  cell : ∀ x ∈ s.l, 0 ≤ x.cell ∧ x.cell ≤ 3
  top : ∀ c, s.last c ≤ s.l.length
  len : s.l.length ≤ N
  up : Upd [] w wq
theorem AlS.upd0 {w : World} {lb : Nat} {wq w' : World} {v : Value} {s : AS} {i N : Nat} (h : AlS w lb wq v s i N) (hu : Upd [] wq w') : AlS w lb w' v s i N := ⟨h.ev.upd0 hu, h.bl.upd hu (by simp), h.inv, h.cell, h.top, h.len, h.up.trans hu⟩
theorem stepA_len (s : AS) (o : TrP.Op) : (stepA s o).l.length = s.l.length + 1 := by unfold stepA; split <;> simp
theorem AlS.step {w : World} {lb : Nat} {wq w' : World} {v v' : Value} {s : AS} {i N : Nat} (h : AlS w lb wq v s i N) {c : Int} {b : Bool} (hc : 0 ≤ c ∧ c ≤ 3) (hev : Ow encEv 47 w' w.heap.size v' (stepA s ((i : Int), c, b)).l) (hbl : Blk w' lb 44 (lastC (stepA s ((i : Int), c, b)))) (hu : Upd [] w w') : AlS w lb w' v' (stepA s ((i : Int), c, b)) i (N + 1) where
  ev := hev
  bl := hbl
  inv := h.inv.step (o := ((i : Int), c, b)) (Int.le_refl _)
  cell := fun x hx => by
    unfold stepA at hx
    split at hx
    · rcases List.mem_append.1 hx with hx | hx
      · exact h.cell x hx
      · simp at hx; subst hx; exact hc
    · rcases List.mem_append.1 hx with hx | hx
      · exact h.cell x hx
      · simp at hx; subst hx; exact hc
  top := fun d => by
    rw [stepA_len]
    have h1 := h.top d
    have h2 := h.top c
    unfold stepA
    split
    · show (if d = c then s.last c + 1 else s.last d) ≤ _
      split <;> omega
    · show s.last d ≤ _
      omega
  len := by rw [stepA_len]; have := h.len; omega
  up := hu
theorem AlS.next {w : World} {lb : Nat} {wq : World} {v : Value} {s : AS} {i N : Nat} (h : AlS w lb wq v s i N) {j M : Nat} (hj : i ≤ j) (hM : N ≤ M) : AlS w lb wq v s j M := { h with inv := h.inv.mono (by omega), len := Nat.le_trans h.len hM }
theorem AlS.evin {w : World} {lb : Nat} {wq : World} {v : Value} {s : AS} {i N : Nat} (h : AlS w lb wq v s i N) (hi : i ≤ 12) (hN : N ≤ 96) : ∀ x ∈ s.l, EvIn x := fun x hx => by
  have h1 := h.inv.txn x hx
  have h2 := h.cell x hx
  have h3 := h.inv.ver x hx
  have h4 := h.top x.cell
  have h5 := h.len
  refine ⟨?_, ?_, ?_⟩ <;> simp [Lit.wf, IntKind.min, IntKind.max, IntKind.signed, IntKind.bits] <;> omega
theorem mod4 (t : Int) : ∃ c : Nat, c < 4 ∧ IntKind.i64.wrap (Int.tmod t 4 + 4) = Int.tmod t 4 + 4 ∧ Int.tmod (Int.tmod t 4 + 4) 4 = c ∧ IntKind.u64.wrap (c : Int) = (c : Int) := by
  obtain ⟨i, hi, h1, h2⟩ := turn_at t 4 (by omega) (by omega)
  refine ⟨i, hi, h1, h2, ?_⟩
  match i, hi with
  | 0, _ => decide
  | 1, _ => decide
  | 2, _ => decide
  | 3, _ => decide
theorem last_at (s : AS) {c : Nat} (hc : c < 4) : (lastC s)[c]? = some (.int .i64 (s.last c)) := by
  match c, hc with
  | 0, _ => rfl
  | 1, _ => rfl
  | 2, _ => rfl
  | 3, _ => rfl
theorem last_write (s : AS) (i : Int) {c : Nat} (hc : c < 4) : (lastC s).setIfInBounds c (.int .i64 (s.last c + 1)) = lastC (stepA s (i, (c : Int), true)) := by
  match c, hc with
  | 0, _ => rfl
  | 1, _ => rfl
  | 2, _ => rfl
  | 3, _ => rfl
set_option maxRecDepth 100000 in
set_option maxHeartbeats 16000000 in
theorem law_ta (A0 : Option Addr) (n0 k0 : Nat) (vs0 : List Value) (L0 : List (List Int)) (A1 : Option Addr) (n1 k1 : Nat) (vs1 : List Value) (L1 : List (List Int)) (w : World) (h0 : Src w 1 (.slice A0 n0 k0) n0 vs0) (hn0 : L0.length = n0) (hv0 : ∀ i, i < n0 → Rd encK w (vs0.getD i undef) (L0.getD i [])) (h1 : Src w 1 (.slice A1 n1 k1) n1 vs1) (hn1 : L1.length = n1) (hv1 : ∀ i, i < n1 → Rd encK w (vs1.getD i undef) (L1.getD i [])) :
    Calls Tryz.prog 6 #[.slice A0 n0 k0, .slice A1 n1 k1] w fun e w' => e = .returned (.bool true) ∧ Upd [] w w' := by
  have H0 := Lib.hid h0
  have HV0 := Lib.hid hv0
  have H1 := Lib.hid h1
  have HV1 := Lib.hid hv1
  clear h0 hn0 hv0 h1 hn1 hv1
  go_enter Tryz.func6, Tryz.ntmps6
  have U0 : Hid (Upd [] w w) := Lib.hid (.refl _ _)
  by_cases h6 : 12 < n0
  · have d6 : decide ((12 : Int) < (n0 : Int)) = true := by simp; omega
    go_wp2_with fail
    refine (t_alive w).mono ?_; rintro e w9 ⟨rfl, u9⟩
    have U9 := Lib.hid (U0.out.trans u9)
    clear u9
    go_wp2_with fail
    go_ret
    exact ⟨rfl, U9.out⟩
  have d6 : decide ((12 : Int) < (n0 : Int)) = false := by simp; omega
  by_cases h7 : 12 < n1
  · have d7 : decide ((12 : Int) < (n1 : Int)) = true := by simp; omega
    go_wp2_with fail
    refine (t_alive w).mono ?_; rintro e w9 ⟨rfl, u9⟩
    have U9 := Lib.hid (U0.out.trans u9)
    clear u9
    go_wp2_with fail
    go_ret
    exact ⟨rfl, U9.out⟩
  have d7 : decide ((12 : Int) < (n1 : Int)) = false := by simp; omega
  have START : Hid (AlS w w.heap.size (w.alloc (.cells #[.int .i64 0, .int .i64 0, .int .i64 0, .int .i64 0] 44)) (.slice none 0 0) ⟨[], fun _ => 0⟩ 0 0) := Lib.hid {
    ev := Ow.nil _ _ _ _
    bl := Blk.new w _ _
    inv := InvA.start
    cell := by simp
    top := by simp
    len := by simp
    up := (Upd.refl [] w).alloc _ }
  obtain ⟨mx, hmx⟩ : ∃ mx : Nat, max n0 n1 = mx := ⟨_, rfl⟩
  have hmx2 : max (n0 : Int) (n1 : Int) = (mx : Int) := by omega
  have hmx12 : mx ≤ 12 := by omega
  go_wp2_with fail
  obtain ⟨lb, hlb⟩ : ∃ lb, w.heap.size = lb := ⟨_, rfl⟩
  have HLB := Lib.hid hlb
  rw [hlb] at START ⊢
  generalize (w.alloc (.cells #[.int .i64 0, .int .i64 0, .int .i64 0, .int .i64 0] 44)) = w1 at *
  clear hlb hmx
  go_loopw [6, 7] (fun v u wq => ∃ (i : Nat) (s : AS) (A : Option Addr) (m c : Nat), v = .slice A m c ∧ u = .int .i64 i ∧ i ≤ mx ∧ Hid (s.l.length = m) ∧ Hid (AlS w lb wq (.slice A m c) s i (8 * i))) (fun _ u _ => mx - (intOf u).toNat)
  case atStart => exact ⟨0, ⟨[], fun _ => 0⟩, none, 0, 0, rfl, rfl, by omega, Lib.hid rfl, START⟩
  case round =>
    obtain ⟨i, sz, Az, mz, cz, rfl, rfl, hi, HMZ, ALZ⟩ := hrel
    rename World => wz
    by_cases him : i < mx
    · have dm : decide ((i : Int) < (mx : Int)) = true := by simp; omega
      by_cases hin0 : i < n0
      · have dr : decide ((i : Int) < (n0 : Int)) = true := by simp; omega
        have q1 : (0 : Int) ≤ (i : Int) := by omega
        have q2 : (i : Int) < (n0 : Int) := by omega
        have hvi := HV0.out i hin0
        obtain ⟨xs, hxs⟩ : ∃ xs, L0.getD i [] = xs := ⟨_, rfl⟩
        rw [hxs] at hvi
        obtain ⟨u, hu⟩ : ∃ u, vs0[i]? = some u := ⟨_, List.getElem?_eq_getElem (by have := H0.out.1; omega)⟩
        have hud : vs0.getD i undef = u := by rw [List.getD_eq_getElem?_getD, hu]; rfl
        rw [hud] at hvi
        obtain ⟨Ai, ci, hAi⟩ := hvi.form
        obtain ⟨mi, hmi⟩ : ∃ mi, xs.length = mi := ⟨_, rfl⟩
        rw [hmi] at hAi
        subst hAi
        obtain ⟨_, A2, c2, e2, h2⟩ := H0.out
        injection e2 with e2 _ e2'
        subst e2 e2'
        obtain ⟨ad, rfl, hadb, hcell⟩ := h2 i _ hu
        have CI : Hid (∀ W, Upd [] w W → W.cell? (ad.add i) = some (.slice Ai mi ci)) := Lib.hid (fun W hW => by
          obtain ⟨_, A2, c2, e2, h2⟩ := Src.upd0 H0.out hW
          injection e2 with e2 _ e2'
          subst e2 e2'
          obtain ⟨ad', e, _, h⟩ := h2 i _ hu
          cases e
          exact h)
        have HVI := Lib.hid hvi
        have HMI := Lib.hid hmi
        clear hvi hxs hu hud hmi h2 hadb hcell
        have c0 := CI.out wz ALZ.out.up
        by_cases hm4 : 4 < mi
        · have d4 : decide ((4 : Int) < (mi : Int)) = true := by simp; omega
          have UZ := Lib.hid ALZ.out.up
          go_wp2_with fail
          refine (t_alive wz).mono ?_; rintro e w9 ⟨rfl, u9⟩
          have U9 := Lib.hid (UZ.out.trans u9)
          clear u9
          go_wp2_with fail
          go_ret
          exact ⟨rfl, U9.out⟩
        have d4 : decide ((4 : Int) < (mi : Int)) = false := by simp; omega
        go_wp2_with fail
        clear c0
        go_loopw [6, 53] (fun v u wq => ∃ (j : Nat) (s : AS) (A : Option Addr) (m c : Nat), v = .slice A m c ∧ u = .int .i64 j ∧ j ≤ mi ∧ Hid (s.l.length = m) ∧ Hid (AlS w lb wq (.slice A m c) s i (8 * i + j))) (fun _ u _ => mi - (intOf u).toNat)
        case atStart => exact ⟨0, sz, Az, mz, cz, rfl, rfl, by omega, HMZ, ALZ⟩
        case round =>
          obtain ⟨j, sz, Az, mz, cz, rfl, rfl, hj, HMZ, ALZ⟩ := hrel
          rename World => wz
          by_cases hjm : j < mi
          · have hmz : mz ≤ 96 := by have := ALZ.out.len; rw [HMZ.out] at this; omega
            -- one number x at j of the list, from the state s of the world wz
            obtain ⟨x, hx⟩ : ∃ x, xs[j]? = some x := ⟨_, List.getElem?_eq_getElem (by rw [HMI.out]; exact hjm)⟩
            obtain ⟨ae, rfl, haeb, hc⟩ := (HVI.out.upd0 ALZ.out.up).at_ hx
            have f0 : wz.cell? (ae.add (j * 1)) = some (.int .i64 x) := hc 0 _ rfl
            rw [Nat.mul_one] at f0
            obtain ⟨cc, hcc, t1, t2, t3⟩ := mod4 x
            have q1 : (0 : Int) ≤ (j : Int) := by omega
            have q2 : (j : Int) < (mi : Int) := by omega
            have q3 : (0 : Int) ≤ (cc : Int) := by omega
            have q4 : (cc : Int) < 4 := by omega
            obtain ⟨la, hla⟩ : ∃ la, sz.last cc = la := ⟨_, rfl⟩
            have HLA := Lib.hid hla
            have hla1 : 0 ≤ la := by rw [← hla]; exact ALZ.out.inv.pos _
            have hla2 : la ≤ 96 := by
              have g1 := ALZ.out.top cc
              have g2 := ALZ.out.len
              rw [hla] at g1
              omega
            have f1 : wz.cell? ⟨lb, cc, none⟩ = some (.int .i64 la) := by rw [ALZ.out.bl.cell, last_at sz hcc, hla]
            have OZ : Hid (wz.ownsRow w.heap.size 47 4 (.slice Az mz cz) mz (flat encEv sz.l)) := Lib.hid (by have := ALZ.out.ev; unfold Ow at this; rw [HMZ.out] at this; exact this)
            have HSZ : Hid (w.heap.size ≤ wz.heap.size) := Lib.hid ALZ.out.up.size
            clear hx hc haeb hla
            have BY : Hid (Blk wz lb 44 (lastC (stepA sz ((i : Int), (cc : Int), false)))) := Lib.hid ALZ.out.bl
            have UY := Lib.hid ALZ.out.up
            have OY := OZ
            have HSY := HSZ
            clear OZ HSZ
            go_wp2_with (at_builtin; refine stoppedR ?_)
            clear f0 f1 t1 t2 t3
            have HSE : Hid (wz.heap.size = wz.heap.size) := Lib.hid rfl
            -- the event is appended: tmps 61 69, read or written false, its version la, of the world wy
            refine Lib.hid ?_
            refine wpList_app _ (by rfl) (.tmp 61) (.tmp 69) _ (by rfl) ev_elem (.slice Az mz cz) _ (by rfl) (by rfl) (own_upd0 OY.out ((Upd.refl [] wz).alloc _)) (.of_blk (Blk.newAt 47 #[.int .i64 i, .int .u64 cc, .int .i64 la, .bool false] (H := wz.heap.size) HSE.out) (m := 1) 1 rfl) (by intro u hu; simp at hu; rcases hu with rfl | rfl | rfl | rfl <;> rfl) (by simp only [maxLen]; omega) (by omega) (Nat.le_trans HSY.out (by simp)) ?_
            intro v5 W5 o5 u5 b5
            have ALN := Lib.hid (ALZ.out.step (v' := v5) (w' := W5) (c := (cc : Int)) (b := false) ⟨q3, by omega⟩ (by
              unfold Ow
              rw [show (stepA sz ((i : Int), (cc : Int), false)).l = sz.l ++ [⟨i, cc, la, false⟩] from by simp [stepA, HLA.out], flat_append, List.length_append, HMZ.out]
              exact o5) ((BY.out.alloc _).upd u5 (fun hm => own_type OY.out BY.out (by decide) (by simpa using hm))) ((UY.out.alloc _).trans' u5 (by intro q hq; exact .inr (own_lt OY.out (by simpa using hq)).1)))
            have HMN : Hid ((stepA sz ((i : Int), (cc : Int), false)).l.length = mz + 1) := Lib.hid (by rw [stepA_len, HMZ.out])
            obtain ⟨A5, c5, rfl, _, _⟩ := own_slice o5
            clear o5 u5 b5 OY BY UY HSY HSE
            go_wp2_with fail
            go_roundw
            case rel => exact ⟨j + 1, _, A5, mz + 1, c5, rfl, by go_num, by omega, HMN, ALN⟩
            case measure => simp [intOf]; omega
          · have : j = mi := by omega
            subst this
            have ALZ : Hid (AlS w lb wz (.slice Az mz cz) sz i (8 * i + 4)) := Lib.hid (ALZ.out.next (Nat.le_refl _) (by omega))
            clear CI HVI HMI dr q1 q2 d4
            by_cases hin1 : i < n1
            · have dw : decide ((i : Int) < (n1 : Int)) = true := by simp; omega
              have q1 : (0 : Int) ≤ (i : Int) := by omega
              have q2 : (i : Int) < (n1 : Int) := by omega
              have hvi := HV1.out i hin1
              obtain ⟨xs, hxs⟩ : ∃ xs, L1.getD i [] = xs := ⟨_, rfl⟩
              rw [hxs] at hvi
              obtain ⟨u, hu⟩ : ∃ u, vs1[i]? = some u := ⟨_, List.getElem?_eq_getElem (by have := H1.out.1; omega)⟩
              have hud : vs1.getD i undef = u := by rw [List.getD_eq_getElem?_getD, hu]; rfl
              rw [hud] at hvi
              obtain ⟨Ai, ci, hAi⟩ := hvi.form
              obtain ⟨mi, hmi⟩ : ∃ mi, xs.length = mi := ⟨_, rfl⟩
              rw [hmi] at hAi
              subst hAi
              obtain ⟨_, A2, c2, e2, h2⟩ := H1.out
              injection e2 with e2 _ e2'
              subst e2 e2'
              obtain ⟨ad, rfl, hadb, hcell⟩ := h2 i _ hu
              have CI : Hid (∀ W, Upd [] w W → W.cell? (ad.add i) = some (.slice Ai mi ci)) := Lib.hid (fun W hW => by
                obtain ⟨_, A2, c2, e2, h2⟩ := Src.upd0 H1.out hW
                injection e2 with e2 _ e2'
                subst e2 e2'
                obtain ⟨ad', e, _, h⟩ := h2 i _ hu
                cases e
                exact h)
              have HVI := Lib.hid hvi
              have HMI := Lib.hid hmi
              clear hvi hxs hu hud hmi h2 hadb hcell
              have c0 := CI.out wz ALZ.out.up
              by_cases hm4 : 4 < mi
              · have d4 : decide ((4 : Int) < (mi : Int)) = true := by simp; omega
                have UZ := Lib.hid ALZ.out.up
                go_wp2_with fail
                refine (t_alive wz).mono ?_; rintro e w9 ⟨rfl, u9⟩
                have U9 := Lib.hid (UZ.out.trans u9)
                clear u9
                go_wp2_with fail
                go_ret
                exact ⟨rfl, U9.out⟩
              have d4 : decide ((4 : Int) < (mi : Int)) = false := by simp; omega
              go_wp2_with fail
              clear c0
              go_loopw [6, 88] (fun v u wq => ∃ (j : Nat) (s : AS) (A : Option Addr) (m c : Nat), v = .slice A m c ∧ u = .int .i64 j ∧ j ≤ mi ∧ Hid (s.l.length = m) ∧ Hid (AlS w lb wq (.slice A m c) s i (8 * i + 4 + j))) (fun _ u _ => mi - (intOf u).toNat)
              case atStart => exact ⟨0, sz, Az, mz, cz, rfl, rfl, by omega, HMZ, ALZ⟩
              case round =>
                obtain ⟨j, sz, Az, mz, cz, rfl, rfl, hj, HMZ, ALZ⟩ := hrel
                rename World => wz
                by_cases hjm : j < mi
                · have hmz : mz ≤ 96 := by have := ALZ.out.len; rw [HMZ.out] at this; omega
                  -- one number x at j of the list, from the state s of the world wz
                  obtain ⟨x, hx⟩ : ∃ x, xs[j]? = some x := ⟨_, List.getElem?_eq_getElem (by rw [HMI.out]; exact hjm)⟩
                  obtain ⟨ae, rfl, haeb, hc⟩ := (HVI.out.upd0 ALZ.out.up).at_ hx
                  have f0 : wz.cell? (ae.add (j * 1)) = some (.int .i64 x) := hc 0 _ rfl
                  rw [Nat.mul_one] at f0
                  obtain ⟨cc, hcc, t1, t2, t3⟩ := mod4 x
                  have q1 : (0 : Int) ≤ (j : Int) := by omega
                  have q2 : (j : Int) < (mi : Int) := by omega
                  have q3 : (0 : Int) ≤ (cc : Int) := by omega
                  have q4 : (cc : Int) < 4 := by omega
                  obtain ⟨la, hla⟩ : ∃ la, sz.last cc = la := ⟨_, rfl⟩
                  have HLA := Lib.hid hla
                  have hla1 : 0 ≤ la := by rw [← hla]; exact ALZ.out.inv.pos _
                  have hla2 : la ≤ 96 := by
                    have g1 := ALZ.out.top cc
                    have g2 := ALZ.out.len
                    rw [hla] at g1
                    omega
                  have f1 : wz.cell? ⟨lb, cc, none⟩ = some (.int .i64 la) := by rw [ALZ.out.bl.cell, last_at sz hcc, hla]
                  have OZ : Hid (wz.ownsRow w.heap.size 47 4 (.slice Az mz cz) mz (flat encEv sz.l)) := Lib.hid (by have := ALZ.out.ev; unfold Ow at this; rw [HMZ.out] at this; exact this)
                  have HSZ : Hid (w.heap.size ≤ wz.heap.size) := Lib.hid ALZ.out.up.size
                  clear hx hc haeb hla
                  have f2 : wz.frozen? ⟨lb, cc, none⟩ = false := ALZ.out.bl.frozen _
                  have f3 : (wz.setCell ⟨lb, cc, none⟩ (.int .i64 (la + 1))).cell? ⟨lb, cc, none⟩ = some (.int .i64 (la + 1)) := World.cell?_setCell_same' _ _ _ (by rw [f1]; rfl)
                  have BY : Hid (Blk (wz.setCell ⟨lb, cc, none⟩ (.int .i64 (la + 1))) lb 44 (lastC (stepA sz ((i : Int), (cc : Int), true)))) := Lib.hid (ALZ.out.bl.set_eq (by rw [← HLA.out]; exact last_write sz i hcc))
                  have UY : Hid (Upd [] w (wz.setCell ⟨lb, cc, none⟩ (.int .i64 (la + 1)))) := Lib.hid (ALZ.out.up.setCell (.inr (by have := HLB.out; simp; omega)) _)
                  have OY : Hid ((wz.setCell ⟨lb, cc, none⟩ (.int .i64 (la + 1))).ownsRow w.heap.size 47 4 (.slice Az mz cz) mz (flat encEv sz.l)) := Lib.hid (own_upd OZ.out ((Upd.refl [lb] wz).setCell (.inl (by simp)) _) (fun y hy hm => by
                    simp at hm
                    subst hm
                    exact own_type OZ.out ALZ.out.bl (by decide) hy))
                  have HSY : Hid (w.heap.size ≤ (wz.setCell ⟨lb, cc, none⟩ (.int .i64 (la + 1))).heap.size) := Lib.hid UY.out.size
                  have flb : lb < wz.heap.size := ALZ.out.bl.lt
                  clear OZ HSZ
                  go_wp2_with (at_builtin; refine stoppedR ?_)
                  clear f0 f1 f2 f3 t1 t2 t3
                  have HSE : Hid ((wz.setCell ⟨lb, cc, none⟩ (.int .i64 (la + 1))).heap.size = wz.heap.size) := Lib.hid (by simp [World.setCell])
                  generalize (wz.setCell ⟨lb, cc, none⟩ (.int .i64 (la + 1))) = wy at *
                  -- the event is appended: tmps 101 109, read or written true, its version (la + 1), of the world wy
                  refine Lib.hid ?_
                  refine wpList_app _ (by rfl) (.tmp 101) (.tmp 109) _ (by rfl) ev_elem (.slice Az mz cz) _ (by rfl) (by rfl) (own_upd0 OY.out ((Upd.refl [] wy).alloc _)) (.of_blk (Blk.newAt 47 #[.int .i64 i, .int .u64 cc, .int .i64 (la + 1), .bool true] (H := wz.heap.size) HSE.out) (m := 1) 1 rfl) (by intro u hu; simp at hu; rcases hu with rfl | rfl | rfl | rfl <;> rfl) (by simp only [maxLen]; omega) (by omega) (Nat.le_trans HSY.out (by simp)) ?_
                  intro v5 W5 o5 u5 b5
                  have ALN := Lib.hid (ALZ.out.step (v' := v5) (w' := W5) (c := (cc : Int)) (b := true) ⟨q3, by omega⟩ (by
                    unfold Ow
                    rw [show (stepA sz ((i : Int), (cc : Int), true)).l = sz.l ++ [⟨i, cc, (la + 1), true⟩] from by simp [stepA, HLA.out], flat_append, List.length_append, HMZ.out]
                    exact o5) ((BY.out.alloc _).upd u5 (fun hm => own_type OY.out BY.out (by decide) (by simpa using hm))) ((UY.out.alloc _).trans' u5 (by intro q hq; exact .inr (own_lt OY.out (by simpa using hq)).1)))
                  have HMN : Hid ((stepA sz ((i : Int), (cc : Int), true)).l.length = mz + 1) := Lib.hid (by rw [stepA_len, HMZ.out])
                  obtain ⟨A5, c5, rfl, _, _⟩ := own_slice o5
                  clear o5 u5 b5 OY BY UY HSY HSE
                  go_wp2_with fail
                  go_roundw
                  case rel => exact ⟨j + 1, _, A5, mz + 1, c5, rfl, by go_num, by omega, HMN, ALN⟩
                  case measure => simp [intOf]; omega
                · have : j = mi := by omega
                  subst this
                  go_wp2_with fail
                  go_roundw
                  case rel => exact ⟨i + 1, sz, Az, mz, cz, rfl, by go_num, by omega, HMZ, Lib.hid (ALZ.out.next (by omega) (by omega))⟩
                  case measure => simp [intOf]; omega
            · have dw : decide ((i : Int) < (n1 : Int)) = false := by simp; omega
              go_wp2_with fail
              go_roundw
              case rel => exact ⟨i + 1, sz, Az, mz, cz, rfl, by go_num, by omega, HMZ, Lib.hid (ALZ.out.next (by omega) (by omega))⟩
              case measure => simp [intOf]; omega
      · have dr : decide ((i : Int) < (n0 : Int)) = false := by simp; omega
        have ALZ : Hid (AlS w lb wz (.slice Az mz cz) sz i (8 * i + 4)) := Lib.hid (ALZ.out.next (Nat.le_refl _) (by omega))
        by_cases hin1 : i < n1
        · have dw : decide ((i : Int) < (n1 : Int)) = true := by simp; omega
          have q1 : (0 : Int) ≤ (i : Int) := by omega
          have q2 : (i : Int) < (n1 : Int) := by omega
          have hvi := HV1.out i hin1
          obtain ⟨xs, hxs⟩ : ∃ xs, L1.getD i [] = xs := ⟨_, rfl⟩
          rw [hxs] at hvi
          obtain ⟨u, hu⟩ : ∃ u, vs1[i]? = some u := ⟨_, List.getElem?_eq_getElem (by have := H1.out.1; omega)⟩
          have hud : vs1.getD i undef = u := by rw [List.getD_eq_getElem?_getD, hu]; rfl
          rw [hud] at hvi
          obtain ⟨Ai, ci, hAi⟩ := hvi.form
          obtain ⟨mi, hmi⟩ : ∃ mi, xs.length = mi := ⟨_, rfl⟩
          rw [hmi] at hAi
          subst hAi
          obtain ⟨_, A2, c2, e2, h2⟩ := H1.out
          injection e2 with e2 _ e2'
          subst e2 e2'
          obtain ⟨ad, rfl, hadb, hcell⟩ := h2 i _ hu
          have CI : Hid (∀ W, Upd [] w W → W.cell? (ad.add i) = some (.slice Ai mi ci)) := Lib.hid (fun W hW => by
            obtain ⟨_, A2, c2, e2, h2⟩ := Src.upd0 H1.out hW
            injection e2 with e2 _ e2'
            subst e2 e2'
            obtain ⟨ad', e, _, h⟩ := h2 i _ hu
            cases e
            exact h)
          have HVI := Lib.hid hvi
          have HMI := Lib.hid hmi
          clear hvi hxs hu hud hmi h2 hadb hcell
          have c0 := CI.out wz ALZ.out.up
          by_cases hm4 : 4 < mi
          · have d4 : decide ((4 : Int) < (mi : Int)) = true := by simp; omega
            have UZ := Lib.hid ALZ.out.up
            go_wp2_with fail
            refine (t_alive wz).mono ?_; rintro e w9 ⟨rfl, u9⟩
            have U9 := Lib.hid (UZ.out.trans u9)
            clear u9
            go_wp2_with fail
            go_ret
            exact ⟨rfl, U9.out⟩
          have d4 : decide ((4 : Int) < (mi : Int)) = false := by simp; omega
          go_wp2_with fail
          clear c0
          go_loopw [6, 88] (fun v u wq => ∃ (j : Nat) (s : AS) (A : Option Addr) (m c : Nat), v = .slice A m c ∧ u = .int .i64 j ∧ j ≤ mi ∧ Hid (s.l.length = m) ∧ Hid (AlS w lb wq (.slice A m c) s i (8 * i + 4 + j))) (fun _ u _ => mi - (intOf u).toNat)
          case atStart => exact ⟨0, sz, Az, mz, cz, rfl, rfl, by omega, HMZ, ALZ⟩
          case round =>
            obtain ⟨j, sz, Az, mz, cz, rfl, rfl, hj, HMZ, ALZ⟩ := hrel
            rename World => wz
            by_cases hjm : j < mi
            · have hmz : mz ≤ 96 := by have := ALZ.out.len; rw [HMZ.out] at this; omega
              -- one number x at j of the list, from the state s of the world wz
              obtain ⟨x, hx⟩ : ∃ x, xs[j]? = some x := ⟨_, List.getElem?_eq_getElem (by rw [HMI.out]; exact hjm)⟩
              obtain ⟨ae, rfl, haeb, hc⟩ := (HVI.out.upd0 ALZ.out.up).at_ hx
              have f0 : wz.cell? (ae.add (j * 1)) = some (.int .i64 x) := hc 0 _ rfl
              rw [Nat.mul_one] at f0
              obtain ⟨cc, hcc, t1, t2, t3⟩ := mod4 x
              have q1 : (0 : Int) ≤ (j : Int) := by omega
              have q2 : (j : Int) < (mi : Int) := by omega
              have q3 : (0 : Int) ≤ (cc : Int) := by omega
              have q4 : (cc : Int) < 4 := by omega
              obtain ⟨la, hla⟩ : ∃ la, sz.last cc = la := ⟨_, rfl⟩
              have HLA := Lib.hid hla
              have hla1 : 0 ≤ la := by rw [← hla]; exact ALZ.out.inv.pos _
              have hla2 : la ≤ 96 := by
                have g1 := ALZ.out.top cc
                have g2 := ALZ.out.len
                rw [hla] at g1
                omega
              have f1 : wz.cell? ⟨lb, cc, none⟩ = some (.int .i64 la) := by rw [ALZ.out.bl.cell, last_at sz hcc, hla]
              have OZ : Hid (wz.ownsRow w.heap.size 47 4 (.slice Az mz cz) mz (flat encEv sz.l)) := Lib.hid (by have := ALZ.out.ev; unfold Ow at this; rw [HMZ.out] at this; exact this)
              have HSZ : Hid (w.heap.size ≤ wz.heap.size) := Lib.hid ALZ.out.up.size
              clear hx hc haeb hla
              have f2 : wz.frozen? ⟨lb, cc, none⟩ = false := ALZ.out.bl.frozen _
              have f3 : (wz.setCell ⟨lb, cc, none⟩ (.int .i64 (la + 1))).cell? ⟨lb, cc, none⟩ = some (.int .i64 (la + 1)) := World.cell?_setCell_same' _ _ _ (by rw [f1]; rfl)
              have BY : Hid (Blk (wz.setCell ⟨lb, cc, none⟩ (.int .i64 (la + 1))) lb 44 (lastC (stepA sz ((i : Int), (cc : Int), true)))) := Lib.hid (ALZ.out.bl.set_eq (by rw [← HLA.out]; exact last_write sz i hcc))
              have UY : Hid (Upd [] w (wz.setCell ⟨lb, cc, none⟩ (.int .i64 (la + 1)))) := Lib.hid (ALZ.out.up.setCell (.inr (by have := HLB.out; simp; omega)) _)
              have OY : Hid ((wz.setCell ⟨lb, cc, none⟩ (.int .i64 (la + 1))).ownsRow w.heap.size 47 4 (.slice Az mz cz) mz (flat encEv sz.l)) := Lib.hid (own_upd OZ.out ((Upd.refl [lb] wz).setCell (.inl (by simp)) _) (fun y hy hm => by
                simp at hm
                subst hm
                exact own_type OZ.out ALZ.out.bl (by decide) hy))
              have HSY : Hid (w.heap.size ≤ (wz.setCell ⟨lb, cc, none⟩ (.int .i64 (la + 1))).heap.size) := Lib.hid UY.out.size
              have flb : lb < wz.heap.size := ALZ.out.bl.lt
              clear OZ HSZ
              go_wp2_with (at_builtin; refine stoppedR ?_)
              clear f0 f1 f2 f3 t1 t2 t3
              have HSE : Hid ((wz.setCell ⟨lb, cc, none⟩ (.int .i64 (la + 1))).heap.size = wz.heap.size) := Lib.hid (by simp [World.setCell])
              generalize (wz.setCell ⟨lb, cc, none⟩ (.int .i64 (la + 1))) = wy at *
              -- the event is appended: tmps 101 109, read or written true, its version (la + 1), of the world wy
              refine Lib.hid ?_
              refine wpList_app _ (by rfl) (.tmp 101) (.tmp 109) _ (by rfl) ev_elem (.slice Az mz cz) _ (by rfl) (by rfl) (own_upd0 OY.out ((Upd.refl [] wy).alloc _)) (.of_blk (Blk.newAt 47 #[.int .i64 i, .int .u64 cc, .int .i64 (la + 1), .bool true] (H := wz.heap.size) HSE.out) (m := 1) 1 rfl) (by intro u hu; simp at hu; rcases hu with rfl | rfl | rfl | rfl <;> rfl) (by simp only [maxLen]; omega) (by omega) (Nat.le_trans HSY.out (by simp)) ?_
              intro v5 W5 o5 u5 b5
              have ALN := Lib.hid (ALZ.out.step (v' := v5) (w' := W5) (c := (cc : Int)) (b := true) ⟨q3, by omega⟩ (by
                unfold Ow
                rw [show (stepA sz ((i : Int), (cc : Int), true)).l = sz.l ++ [⟨i, cc, (la + 1), true⟩] from by simp [stepA, HLA.out], flat_append, List.length_append, HMZ.out]
                exact o5) ((BY.out.alloc _).upd u5 (fun hm => own_type OY.out BY.out (by decide) (by simpa using hm))) ((UY.out.alloc _).trans' u5 (by intro q hq; exact .inr (own_lt OY.out (by simpa using hq)).1)))
              have HMN : Hid ((stepA sz ((i : Int), (cc : Int), true)).l.length = mz + 1) := Lib.hid (by rw [stepA_len, HMZ.out])
              obtain ⟨A5, c5, rfl, _, _⟩ := own_slice o5
              clear o5 u5 b5 OY BY UY HSY HSE
              go_wp2_with fail
              go_roundw
              case rel => exact ⟨j + 1, _, A5, mz + 1, c5, rfl, by go_num, by omega, HMN, ALN⟩
              case measure => simp [intOf]; omega
            · have : j = mi := by omega
              subst this
              go_wp2_with fail
              go_roundw
              case rel => exact ⟨i + 1, sz, Az, mz, cz, rfl, by go_num, by omega, HMZ, Lib.hid (ALZ.out.next (by omega) (by omega))⟩
              case measure => simp [intOf]; omega
        · have dw : decide ((i : Int) < (n1 : Int)) = false := by simp; omega
          go_wp2_with fail
          go_roundw
          case rel => exact ⟨i + 1, sz, Az, mz, cz, rfl, by go_num, by omega, HMZ, Lib.hid (ALZ.out.next (by omega) (by omega))⟩
          case measure => simp [intOf]; omega
    · have : i = mx := by omega
      subst this
      have dm : decide ((i : Int) < (i : Int)) = false := by simp
      have HI := Lib.hid ALZ.out.inv
      have HOK := Lib.hid HI.out.ok
      have HEV := Lib.hid (ALZ.out.evin hmx12 (by omega))
      have hm96 : mz ≤ 96 := by have := ALZ.out.len; rw [HMZ.out] at this; omega
      have HW0 : Hid ((wrongE sz.l).1 = 0) := Lib.hid (wrongE_iff.1.2 HOK.out)
      have HGK := Lib.hid (gok HOK.out)
      have HFW : Hid (∀ e ∈ graphR sz.l, e.1 < e.2.1) := Lib.hid (fun e he => HI.out.fwd he)
      have HSO : Hid (seO sz.l = txnsR sz.l) := Lib.hid (by unfold seO; rw [if_pos HW0.out, serial_fwd HGK.out HFW.out]; rfl)
      have HSE : Hid (seE sz.l = 0) := Lib.hid (by unfold seE; rw [if_pos HW0.out, serial_fwd HGK.out HFW.out]; rfl)
      have HGO : Hid (grO sz.l = graphR sz.l) := Lib.hid (by unfold grO; rw [if_pos HW0.out])
      have HGL : Hid ((graphR sz.l).length ≤ 192) := Lib.hid (graphR_short sz.l (by rw [HMZ.out]; exact hm96))
      have HTL : Hid ((txnsR sz.l).length ≤ 96) := Lib.hid (txnsR_short sz.l (by rw [HMZ.out]; exact hm96))
      go_wp2_with fail
      refine (u_graph ALZ.out.ev.rd HMZ.out hm96 HEV.out).mono ?_; rintro e w2 ⟨gv, v2, a2, rfl, u2, og, e2⟩
      rw [HW0.out] at e2
      rw [HGO.out] at og
      have OG2 := Lib.hid og
      have E2 := Lib.hid e2
      have AL2 := Lib.hid (ALZ.out.upd0 u2)
      clear og e2 u2 ALZ
      go_wp2_with fail
      refine (u_serial AL2.out.ev.rd HMZ.out hm96 HEV.out).mono ?_; rintro e w3 ⟨sv, v3, a3, rfl, u3, os, e3⟩
      rw [HSE.out] at e3
      rw [HSO.out] at os
      have OG3 := Lib.hid (OG2.out.upd0 u3)
      have OS3 := Lib.hid os
      have E23 := Lib.hid (E2.out.upd u3)
      have E3 := Lib.hid e3
      have U3 := Lib.hid (AL2.out.up.trans u3)
      clear os e3 u3 OG2 E2 AL2
      obtain ⟨Ag, cg, rfl, _, _⟩ := OG3.out.form
      obtain ⟨As, cs, rfl, _, _⟩ := OS3.out.form
      obtain ⟨g, hg⟩ : ∃ g, graphR sz.l = g := ⟨_, rfl⟩
      obtain ⟨S, hS⟩ : ∃ S, txnsR sz.l = S := ⟨_, rfl⟩
      have HSR : Hid (RiseI S) := Lib.hid (by rw [← hS]; exact (txnsR_rise sz.l).1)
      rw [hg] at OG3 HFW HGL ⊢
      rw [hS] at OS3 HTL ⊢
      obtain ⟨ng, hng⟩ : ∃ ng, g.length = ng := ⟨_, rfl⟩
      obtain ⟨ns, hns⟩ : ∃ ns, S.length = ns := ⟨_, rfl⟩
      rw [hng] at OG3 HGL ⊢
      rw [hns] at OS3 HTL ⊢
      have HNG := Lib.hid hng
      have HNS := Lib.hid hns
      have hgl := HGL.out
      have htl := HTL.out
      clear hg hS hng hns
      go_wp2_with fail
      go_loopw [124] (fun u wq => ∃ j : Nat, u = .int .i64 j ∧ j ≤ ng ∧ Hid (Upd [] w3 wq)) (fun u _ => ng - (intOf u).toNat)
      case atStart => exact ⟨0, rfl, by omega, Lib.hid (.refl _ _)⟩
      case round =>
        obtain ⟨j, rfl, hj, UQ⟩ := hrel
        rename World => wq
        by_cases hjn : j < ng
        · obtain ⟨⟨x0, x1, x2⟩, hx⟩ : ∃ x, g[j]? = some x := ⟨_, List.getElem?_eq_getElem (by rw [HNG.out]; omega)⟩
          have hlt : x0 < x1 := HFW.out _ (List.mem_of_getElem? hx)
          obtain ⟨gb, gc, gcur, e, -⟩ := own_form OG3.out (by rw [HNG.out]; omega)
          injection e with e1 e2 e3
          subst e1 e3
          clear e2
          have hown := OG3.out.upd0 UQ.out
          have f0 : wq.cell? ⟨gb, j * 3, none⟩ = some (.int .i64 x0) := hown.at_ hx 0 _ rfl
          have f1 : wq.cell? ⟨gb, j * 3 + 1, none⟩ = some (.int .i64 x1) := hown.at_ hx 1 _ rfl
          have f2 : wq.cell? ⟨gb, j * 3 + 2, none⟩ = some (.int .i64 x2) := hown.at_ hx 2 _ rfl
          have q1 : (0 : Int) ≤ (j : Int) := by omega
          have q2 : (j : Int) < (ng : Int) := by omega
          have d1 : decide (x1 ≤ x0) = false := by simp; omega
          have U4 : Hid (Upd [] w3 (wq.alloc (.cells #[.int .i64 x0, .int .i64 x1, .int .i64 x2] 49))) := Lib.hid (UQ.out.alloc _)
          clear hx hown hlt
          go_wp2_with fail
          go_roundw
          case rel => exact ⟨j + 1, by go_num, by omega, U4⟩
          case measure => simp [intOf]; omega
        · have : j = ng := by omega
          subst this
          have OS4 := Lib.hid (OS3.out.upd0 UQ.out)
          have E24 := Lib.hid (E23.out.upd UQ.out)
          have E34 := Lib.hid (E3.out.upd UQ.out)
          have U4 := Lib.hid (U3.out.trans UQ.out)
          go_wp2_with fail
          go_loopw [18] (fun u wx => ∃ p : Nat, u = .int .i64 ((p : Int) + 1) ∧ p ≤ 97 ∧ Hid (Upd [] wq wx)) (fun u _ => 100 - (intOf u).toNat)
          case atStart => exact ⟨0, rfl, by omega, Lib.hid (.refl _ _)⟩
          case round =>
            obtain ⟨p, rfl, hp, UX⟩ := hrel
            rename World => wx
            by_cases hpn : p + 1 < ns
            · have hr := List.pairwise_iff_getElem.1 HSR.out p (p + 1) (by rw [HNS.out]; omega) (by rw [HNS.out]; exact hpn) (by omega)
              obtain ⟨x, hx⟩ : ∃ x, S[p]? = some x := ⟨_, List.getElem?_eq_getElem (by rw [HNS.out]; omega)⟩
              obtain ⟨y, hy⟩ : ∃ y, S[p + 1]? = some y := ⟨_, List.getElem?_eq_getElem (by rw [HNS.out]; omega)⟩
              have hlt : x < y := by
                obtain ⟨h1, rfl⟩ := List.getElem?_eq_some_iff.1 hx
                obtain ⟨h2, rfl⟩ := List.getElem?_eq_some_iff.1 hy
                exact hr
              obtain ⟨sb, sc, scur, e, -⟩ := own_form OS4.out (by rw [HNS.out]; omega)
              injection e with e1 e2 e3
              subst e1 e3
              clear e2
              have CS : Hid (∀ W, Upd [] wx.drew W → W.cell? ⟨sb, p, none⟩ = some (.int .i64 x) ∧ W.cell? ⟨sb, p + 1, none⟩ = some (.int .i64 y) ∧ IntKind.i64.wrap (p : Int) = (p : Int)) := Lib.hid (fun W hW => by
                have hu : Upd [] wq W := UX.out.drew.trans hW
                have h1 := (OS4.out.upd0 hu).at_ hx 0 _ rfl
                have h2 := (OS4.out.upd0 hu).at_ hy 0 _ rfl
                rw [show p * encK.s + 0 = p by simp [encI]] at h1
                rw [show (p + 1) * encK.s + 0 = p + 1 by simp [encI]] at h2
                exact ⟨h1, h2, by rw [IntKind.wrap_i64]; omega⟩)
              have d : decide (y ≤ x) = false := by simp; omega
              have q1 : (0 : Int) ≤ (p : Int) := by omega
              have q2 : (p : Int) + 1 < (ns : Int) := by omega
              have q3 : (p : Int) < (ns : Int) := by omega
              have q4 : (0 : Int) ≤ (p : Int) + 1 := by omega
              clear hr hx hy hlt
              go_wp2_with fail
              refine wp_invN [] [] (by kernel_rfl) (by kernel_rfl) (by kernel_rfl) trivial ?_
              with_reducible apply wpV_light
              · simp only [lightOp]
              · intro W hU hF
                have f0 := CS.out W hU
                clear hU hF
                go_simp
                exact rfl
              simp only [Act.put, List.setIfInBounds_toArray, List.set_cons_zero, List.set_cons_succ]
              with_reducible apply wpV_light
              · simp only [lightOp]
              · intro W hU hF
                have f0 := CS.out W hU
                clear hU hF
                go_simp
                exact rfl
              simp only [Act.put, List.setIfInBounds_toArray, List.set_cons_zero, List.set_cons_succ]
              with_reducible apply wpV_light
              · simp only [lightOp]
              · intro W hU hF
                have f0 := CS.out W hU
                clear hU hF
                go_simp
                exact rfl
              simp only [Act.put, List.setIfInBounds_toArray, List.set_cons_zero, List.set_cons_succ]
              with_reducible apply wpV_light
              · simp only [lightOp]
              · intro W hU hF
                have f0 := CS.out W hU
                clear hU hF
                go_simp
                exact rfl
              simp only [Act.put, List.setIfInBounds_toArray, List.set_cons_zero, List.set_cons_succ]
              with_reducible apply wpV_light
              · simp only [lightOp]
              · intro W hU hF
                have f0 := CS.out W hU
                clear hU hF
                go_simp
                exact rfl
              simp only [Act.put, List.setIfInBounds_toArray, List.set_cons_zero, List.set_cons_succ]
              with_reducible apply wpV_light
              · simp only [lightOp]
              · intro W hU hF
                have f0 := CS.out W hU
                clear hU hF
                go_simp
                exact rfl
              simp only [Act.put, List.setIfInBounds_toArray, List.set_cons_zero, List.set_cons_succ]
              with_reducible apply wpV_light
              · simp only [lightOp]
              · intro W hU hF
                have f0 := CS.out W hU
                clear hU hF
                go_simp
                exact rfl
              simp only [Act.put, List.setIfInBounds_toArray, List.set_cons_zero, List.set_cons_succ]
              with_reducible apply wpV_light
              · simp only [lightOp]
              · intro W hU hF
                have f0 := CS.out W hU
                clear hU hF
                go_simp
                exact rfl
              simp only [Act.put, List.setIfInBounds_toArray, List.set_cons_zero, List.set_cons_succ]
              with_reducible apply wpV_light
              · simp only [lightOp]
              · intro W hU hF
                have f0 := CS.out W hU
                clear hU hF
                go_simp
                exact rfl
              simp only [Act.put, List.setIfInBounds_toArray, List.set_cons_zero, List.set_cons_succ]
              with_reducible apply wpV_light
              · simp only [lightOp]
              · intro W hU hF
                have f0 := CS.out W hU
                clear hU hF
                go_simp
                exact rfl
              simp only [Act.put, List.setIfInBounds_toArray, List.set_cons_zero, List.set_cons_succ]
              refine wpV_end (fun W hU _ _ => ?_)
              have U5 : Hid (Upd [] wq W) := Lib.hid (UX.out.drew.trans hU)
              clear hU
              refine wpT_end ?_
              go_wp2_with fail
              go_roundw
              case rel => exact ⟨p + 1, by go_num, by omega, U5⟩
              case measure => simp [intOf]; omega
            · have d : decide ((p : Int) + 1 < (ns : Int)) = false := by simp; omega
              have E25 := Lib.hid (E24.out.upd UX.out)
              have E35 := Lib.hid (E34.out.upd UX.out)
              have U5 := Lib.hid (U4.out.trans UX.out)
              go_wp2_with fail
              refine (no_err E25.out).mono ?_; rintro e w' ⟨rfl, rfl⟩
              go_wp2_with fail
              refine (no_err E35.out).mono ?_; rintro e w' ⟨rfl, rfl⟩
              go_wp2_with fail
              refine (t_alive wx).mono ?_; rintro e w9 ⟨rfl, u9⟩
              have U9 := Lib.hid (U5.out.trans u9)
              clear u9
              go_wp2_with fail
              go_ret
              exact ⟨rfl, U9.out⟩
end Go.Proofs.YteddiknlcdbhjaaGreat

namespace Go.Proofs.YteddiknlcdbhjaaGreat
open Go.RowKit Go.WideShapes Go.ChangeShapes TrP

theorem reads_ev {P : Program} {t : TypeId} {f0 f1 f2 f3 : Field} (ht : P.underlying t = some (.struct #[f0, f1, f2, f3])) (hc : P.cellsOf t = 4) (o0 : f0.offset = 0) (o1 : f1.offset = 1) (o2 : f2.offset = 2) (o3 : f3.offset = 3) (c0 : P.cellsOf f0.type = 1) (c1 : P.cellsOf f1.type = 1) (c2 : P.cellsOf f2.type = 1) (c3 : P.cellsOf f3.type = 1)
    (h0 : P.underlying f0.type = some (.int .i64)) (h1 : P.underlying f1.type = some (.int .u64)) (h2 : P.underlying f2.type = some (.int .i64)) (h3 : P.underlying f3.type = some .bool) : ReadsAs P t encEv EvIn :=
  ⟨hc, fun {H enc w base spare held fuel cs x} h => by
    obtain ⟨xs, n, _, _, hl, hxl, hf⟩ := DataW.trod_struct ht h
    rw [hc] at hl
    match cs, hl with
    | [a0, a1, a2, a3], _ =>
      have g0 := hf 0 f0 rfl
      have hx0 : xs[0]? = some (xs[0]'(by rw [hxl]; simp)) := List.getElem?_eq_getElem _
      rw [o0, c0, hx0] at g0
      obtain ⟨y0, e0, _, w0⟩ := DataW.trod_int h0 g0
      simp at e0
      subst e0
      have g1 := hf 1 f1 rfl
      have hx1 : xs[1]? = some (xs[1]'(by rw [hxl]; simp)) := List.getElem?_eq_getElem _
      rw [o1, c1, hx1] at g1
      obtain ⟨y1, e1, _, w1⟩ := DataW.trod_int h1 g1
      simp at e1
      subst e1
      have g2 := hf 2 f2 rfl
      have hx2 : xs[2]? = some (xs[2]'(by rw [hxl]; simp)) := List.getElem?_eq_getElem _
      rw [o2, c2, hx2] at g2
      obtain ⟨y2, e2, _, w2⟩ := DataW.trod_int h2 g2
      simp at e2
      subst e2
      have g3 := hf 3 f3 rfl
      have hx3 : xs[3]? = some (xs[3]'(by rw [hxl]; simp)) := List.getElem?_eq_getElem _
      rw [o3, c3, hx3] at g3
      obtain ⟨y3, e3, _⟩ := DataW.trod_bool h3 g3
      simp at e3
      subst e3
      exact ⟨⟨y0, y1, y2, y3⟩, rfl, w0, w1, w2⟩⟩
section
variable {H : Type} {enc : TypeId × Value → H} {W : World} {base b0 : Nat} {spare : Nat → Bool} {held : Bool} {v : Value} {d : DataW H} {ps : List MemPlace} {r : Reach}
set_option maxRecDepth 100000 in
theorem evs_of (hok : Value.okWide Tryz.prog W r b0 22 v) (h : DataW.Trod enc Tryz.prog W base spare held 22 v d ps) :
    ∃ (L : List Ev) (A : Option Addr) (c : Nat), v = .slice A L.length c ∧ L.length ≤ c ∧ c ≤ maxLen ∧ Rd encEv W v L ∧ (∀ x ∈ L, EvIn x) := by
  obtain ⟨L, A, c, h1, h2, h3, h4, h5⟩ := rd_arg Tryz.underlying22 (reads_ev Tryz.underlying47 (by kernel_rfl) rfl rfl rfl rfl (by kernel_rfl) (by kernel_rfl) (by kernel_rfl) (by kernel_rfl) Tryz.underlying3 Tryz.underlying45 Tryz.underlying3 Tryz.underlying4) hok h
  exact ⟨L, A, c, h1, h2, h3, h4, h5⟩
end
end Go.Proofs.YteddiknlcdbhjaaGreat

namespace Go.Proofs.YteddiknlcdbhjaaGreat
open Go.RowKit Go.Deep Go.WideShapes Go.ChangeShapes
section
variable {H : Type} {enc : TypeId × Value → H} {P : Program} {w : World} {base : Nat} {spare : Nat → Bool} {held : Bool}
theorem rd_trod {α : Type} {E : Enc α} {good : α → Prop} {t e : TypeId} {cs0 : List Value} {x0 : DataW H × List MemPlace} {fuel : Nat} (ht : P.underlying t = some (.slice e)) (hr : ReadsAs P e E good)
    (hf : DataW.trod enc P w base spare held fuel t cs0 = some x0) :
    ∃ (L : List α) (A : Option Addr) (c : Nat), cs0 = [.slice A L.length c] ∧ L.length ≤ c ∧ c ≤ maxLen ∧ Rd E w (.slice A L.length c) L ∧ ∀ a ∈ L, good a := by
  obtain ⟨d, ps⟩ := x0
  rcases open_slice ht hf with ⟨h0, _⟩ | ⟨a, len', cap', m, k, D, Pl, hcs, hb, hl, hm, hmm, hx, hi⟩
  · exact ⟨[], none, 0, h0, Nat.le_refl _, by simp [maxLen], Rd.nil E w 0, by simp⟩
  · subst hcs
    obtain ⟨L, hL, hQ⟩ := pick_list (Q := fun i (x : α) => good x ∧ ∀ j u, (E.c x)[j]? = some u → w.cell? (a.add (i * E.s + j)) = some u) len' (fun i hil => by
      have him : i < m := by rw [hmm]; split <;> omega
      obtain ⟨cs', hc, ht'⟩ := hi i him
      obtain ⟨x, rfl, hg⟩ := hr.2 ht'
      rw [hr.1] at hc
      obtain ⟨_, hcl, hat⟩ := World.cells?_some hc
      refine ⟨x, hg, fun j u hu => ?_⟩
      have hj : j < E.s := by have := (List.getElem?_eq_some_iff.1 hu).1; rwa [E.len] at this
      rw [← Go.Deep.add_add, hat j hj]
      exact hu)
    subst hL
    refine ⟨L, some a, cap', rfl, hl, hm, ⟨flat_len, some a, cap', rfl, fun j u hj => ?_⟩, fun x hx => ?_⟩
    · have hjl := (List.getElem?_eq_some_iff.1 hj).1
      rw [flat_len] at hjl
      have hk : j / E.s < L.length := Nat.div_lt_of_lt_mul (by rw [Nat.mul_comm]; exact hjl)
      have hr' : j % E.s < E.s := Nat.mod_lt _ E.pos
      obtain ⟨x, hx⟩ : ∃ x, L[j / E.s]? = some x := ⟨_, List.getElem?_eq_getElem hk⟩
      have he : j / E.s * E.s + j % E.s = j := by rw [Nat.mul_comm]; exact Nat.div_add_mod j E.s
      have hg := flat_get (E := E) hx hr'
      rw [he, hj] at hg
      have hc := (hQ _ x hx).2 _ u hg.symm
      rw [he] at hc
      refine ⟨a, rfl, ?_, hc⟩
      have := World.block_lt_of_cell? _ _ hc
      rwa [block_add] at this
    · obtain ⟨i, hi', rfl⟩ := List.getElem_of_mem hx
      exact (hQ i _ (List.getElem?_eq_getElem hi')).1
/-- A slice of slices: the inner ones' values, what each reads as. -/
theorem rd_arg2 {α : Type} {E : Enc α} {good : α → Prop} {t e1 e2 : TypeId} {v : Value} {d : DataW H} {ps : List MemPlace} {r : Reach} {b0 : Nat} (ht : P.underlying t = some (.slice e1)) (ht1 : P.underlying e1 = some (.slice e2)) (hc1 : P.cellsOf e1 = 1) (hr : ReadsAs P e2 E good)
    (hok : Value.okWide P w r b0 t v) (h : DataW.Trod enc P w base spare held t v d ps) :
    ∃ (L : List (List α)) (vs : List Value) (A : Option Addr) (c : Nat), v = .slice A L.length c ∧ L.length ≤ c ∧ c ≤ maxLen ∧ Src w 1 (.slice A L.length c) L.length vs ∧ (∀ i, i < L.length → Rd E w (vs.getD i undef) (L.getD i [])) ∧ ∀ l ∈ L, ∀ a ∈ l, good a := by
  obtain ⟨a0, len, cap, rfl⟩ := okWide_slice ht hok
  obtain ⟨fuel, hf⟩ := h
  rcases open_slice ht hf with ⟨h0, _⟩ | ⟨a, len', cap', m, k, D, Pl, hcs, hb, hl, hm, hmm, hx, hi⟩
  · simp only [Value.cells, List.cons.injEq, and_true] at h0
    injection h0 with h1 h2 h3
    subst h1 h2 h3
    exact ⟨[], [], none, 0, rfl, Nat.le_refl _, by simp [maxLen], ⟨by simp, none, 0, rfl, by simp⟩, fun i hi => by simp at hi, by simp⟩
  · simp only [Value.cells, List.cons.injEq, and_true] at hcs
    injection hcs with h1 h2 h3
    subst h1 h2 h3
    obtain ⟨M, hM, hQ⟩ := pick_list (Q := fun i (x : Value × List α) => w.cell? (a.add i) = some x.1 ∧ Rd E w x.1 x.2 ∧ ∀ y ∈ x.2, good y) len (fun i hil => by
      have him : i < m := by rw [hmm]; split <;> omega
      obtain ⟨cs', hc, ht'⟩ := hi i him
      obtain ⟨l, A, c, rfl, _, _, h4, h5⟩ := rd_trod ht1 hr ht'
      rw [hc1] at hc
      obtain ⟨_, hcl, hat⟩ := World.cells?_some hc
      have h0 := hat 0 (by omega)
      rw [Nat.mul_one] at h0
      exact ⟨(_, l), h0, h4, h5⟩)
    subst hM
    refine ⟨M.map (·.2), M.map (·.1), some a, cap, by simp, by simpa using hl, hm, ⟨by simp, some a, cap, by simp, fun j u hj => ?_⟩, fun i hi' => ?_, fun l hl' y hy => ?_⟩
    · rw [List.getElem?_map] at hj
      cases hx' : M[j]? with
      | none => rw [hx'] at hj; cases hj
      | some x =>
        rw [hx'] at hj
        injection hj with hj
        subst hj
        have hc := (hQ j x hx').1
        refine ⟨a, rfl, ?_, hc⟩
        have := World.block_lt_of_cell? _ _ hc
        rwa [block_add] at this
    · simp at hi'
      have := (hQ i M[i] (List.getElem?_eq_getElem hi')).2.1
      rw [List.getD_eq_getElem?_getD, List.getD_eq_getElem?_getD, List.getElem?_map, List.getElem?_map, List.getElem?_eq_getElem hi']
      exact this
    · obtain ⟨x, hx', rfl⟩ := List.mem_map.1 hl'
      obtain ⟨i, hi', rfl⟩ := List.getElem_of_mem hx'
      exact (hQ i _ (List.getElem?_eq_getElem hi')).2.2 y hy
end
end Go.Proofs.YteddiknlcdbhjaaGreat

namespace Go.Proofs.YteddiknlcdbhjaaGreat
open Go.RowKit Go.Deep Go.WideShapes Go.ChangeShapes TrP
section
variable {H : Type} {enc : TypeId × Value → H} {W : World} {base b0 : Nat} {spare : Nat → Bool} {held : Bool} {v : Value} {d : DataW H} {ps : List MemPlace} {r : Reach}
set_option maxRecDepth 100000 in
theorem ints2_of (hok : Value.okWide Tryz.prog W r b0 43 v) (h : DataW.Trod enc Tryz.prog W base spare held 43 v d ps) :
    ∃ (L : List (List Int)) (vs : List Value) (A : Option Addr) (c : Nat), v = .slice A L.length c ∧ Src W 1 (.slice A L.length c) L.length vs ∧ (∀ i, i < L.length → Rd encK W (vs.getD i undef) (L.getD i [])) := by
  obtain ⟨L, vs, A, c, h1, h2, h3, h4, h5, _⟩ := rd_arg2 Tryz.underlying43 Tryz.underlying26 (by kernel_rfl) (reads_int Tryz.underlying3 (by kernel_rfl)) hok h
  exact ⟨L, vs, A, c, h1, h4, h5⟩
end
end Go.Proofs.YteddiknlcdbhjaaGreat

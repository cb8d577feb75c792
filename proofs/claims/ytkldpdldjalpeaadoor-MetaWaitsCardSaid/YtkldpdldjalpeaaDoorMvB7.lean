/-
  concordlaw02's On, concordlaw06's Scene by contract.
  concordref06's Same of the same answers; concordlaw06's alive by contract.
  concordlaw06's run of one thread that runs alone.
  Several that lock one cell with one version: just one does. No program in sight.
  Calls of a cell one by one, by one who runs alone. No program in sight.
  MetaWaits, the walk.
  From a walk that ends 'true, and nothing that was there has turned' to what a law's row asks. No program in sight.
  A world that meets the row's listed variable.
-/
import Derived.Test.YtkldpdldjalpeaaDoorMvB5
import Derived.Test.YtkldpdldjalpeaaDoorMvB4
import Derived.Test.YtkldpdldjalpeaaDoorMvB6
import Derived.Deep.Cut
import Derived.Deep.CutRange
import Derived.Test.YtkldpdldjalpeaaDoorMvB0
import Derived.ProofKit
import Derived.Carry
import Derived.OpenShut
import Derived.Deep.Slices
import Derived.Deep.Fields
import Derived.Test.YtkldpdldjalpeaaDoorRows
import Derived.LaidMore
import Derived.LaidHandle
import Derived.Stop.Joined
set_option linter.unusedVariables false
namespace Go.Proofs.YtkldpdldjalpeaaDoor
open Go.RowKit Th
attribute [local go_sem] litStep_value

set_option maxHeartbeats 1000000 in
theorem on_ok (w : World) : Calls Tryd.prog 11 #[.int .i64 300, .int .i64 1] w fun e w' => ∃ F : BFp, e = .returned (.tuple #[.pointer (some ⟨F.a, 0, none⟩), .pointer (some ⟨F.b0, 0, none⟩)]) ∧ BSt w' F Th.B0 ∧ Upd [] w w' ∧ (∀ x ∈ F.l, w.heap.size ≤ x) ∧ F.xs = [] := by
  go_enter Tryd.func11, Tryd.ntmps11
  go_wp2_with fail
  refine (new_ok 300 w (by omega) (by omega)).mono ?_
  rintro e w1 ⟨a, b, rfl, hA, ha, hb, hu⟩
  have HA : Hid (Ar w1 a b (List.replicate 300 0)) := Lib.hid ⟨0, hA⟩
  have HB : Hid (w.heap.size ≤ a ∧ w.heap.size ≤ b) := Lib.hid ⟨ha, hb⟩
  have U1 := Lib.hid hu
  clear hA hu ha hb
  go_wp2_with fail
  refine (no_nil _).mono ?_; rintro e w' ⟨rfl, rfl⟩
  go_wp2_with fail
  refine (bnew_ok a b 1 (List.replicate 300 0) w1 HA.out (by omega) (by rw [List.length_replicate]; omega) (by rw [List.length_replicate]; omega) (fun x hx => by rw [(List.mem_replicate.1 hx).2]; omega)).mono ?_
  rintro e w2 ⟨F, rfl, e1, e2, h3, h4, h5⟩
  have H4 := Lib.hid h4
  have H3 := Lib.hid (fun x hx => (h3 x hx).elim (fun e => e ▸ HB.out.1) (fun h => h.elim (fun e => e ▸ HB.out.2) (fun h => Nat.le_trans U1.out.size h)) : ∀ x ∈ F.l, w.heap.size ≤ x)
  have U2 := Lib.hid (U1.out.trans h5)
  have EA := Lib.hid e1
  have XS : Hid (F.xs = []) := Lib.hid (by have := h4.len; simpa using this)
  clear h3 h4 h5 e1 e2
  go_wp2_with fail
  refine (no_nil _).mono ?_; rintro e w' ⟨rfl, rfl⟩
  go_wp2_with fail
  go_ret2
  exact ⟨F, by rw [EA.out]; rfl, H4.out, U2.out, H3.out, XS.out⟩
/-- What the scene's body keeps. -/
def MSc (xb cbx kb n : Nat) (w : World) (S : List Nat) (r : Option (Int × List Int)) : Prop :=
  S = [xb, cbx, kb] ∧ kb ≠ xb ∧ ∃ (q : Int) (ls : List Int), Blk w xb 24 #[.int .u64 q] ∧ Blk w cbx 25 #[.slice (some ⟨kb, 0, none⟩) n n] ∧ Blk w kb 24 (ls.map (Value.int .u64)).toArray ∧ ls.length = n ∧ ∀ k l, r = some (k, l) → q = k ∧ ls = l
theorem msc_ok (xb cbx kb n : Nat) : MemOk (MSc xb cbx kb n) := by
  refine ⟨fun w w' T S r h hu hT => ?_, fun w S r h x hx => ?_⟩
  · obtain ⟨rfl, hne, q, ls, h1, h2, h3, h4, h5⟩ := h
    exact ⟨rfl, hne, q, ls, h1.upd hu (fun hm => hT _ hm (by simp)), h2.upd hu (fun hm => hT _ hm (by simp)), h3.upd hu (fun hm => hT _ hm (by simp)), h4, h5⟩
  · obtain ⟨rfl, hne, q, ls, h1, h2, h3, h4, h5⟩ := h
    simp at hx
    rcases hx with rfl | rfl | rfl
    · exact h1.lt
    · exact h2.lt
    · exact h3.lt
theorem small_scCells : ∀ (k i : Nat) (l : List Int), SmallP (scCells k i l)
  | 0, _, _ => trivial
  | k + 1, i, l => ⟨fun n h => by injection h with h; omega, fun e => ⟨fun n h => (by cases h), fun e => small_scCells k (i + 1) _⟩⟩
/-- Where the loop of the scene's body stands. -/
structure ScJ (w : World) (F : BFp) (cb : Nat) (lv : Value) (c : CS) (xb kb n : Nat) (q : Int) (j : Nat) (wr : World) (Fj : BFp) (cj : CS) (lj : Value) (R ls : List Int) : Prop where
  st : CSt wr Fj cb lj cj
  up : Upd ([xb, kb] ++ SS F cb lv) w wr
  gr : ∀ x ∈ SS Fj cb lj, x ∈ SS F cb lv ∨ w.heap.size ≤ x
  b0 : Fj.b0 = F.b0
  bq : Blk wr xb 24 #[.int .u64 q]
  bk : Blk wr kb 24 (ls.map (Value.int .u64)).toArray
  ln : ls.length = n
  ha : ls.take j = R
  rl : R.length = j
  near : Near c.B cj
  rdy : Ready (scCells (n - j) j R) cj
  rn : run (sceneT n) c = run ((scCells (n - j) j R).bind fun l => .ret (q, l)) cj
theorem bind_assoc {α β γ : Type} {f : α → Pg β} {g : β → Pg γ} : ∀ (p : Pg α), (p.bind f).bind g = p.bind fun a => (f a).bind g
  | .ret a => rfl
  | .acc a k => by
    show Pg.acc a _ = Pg.acc a _
    congr 1
    funext e
    exact bind_assoc (k e)
def ScPost (F : BFp) (cb : Nat) (lv : Value) (c : CS) (S : List Nat) (xb cbx kb n : Nat) (w : World) (v : Value) (w' : World) : Prop :=
  ∃ F' lv' S', CSt w' F' cb lv' (run (sceneT n) c).2 ∧ F'.b0 = F.b0 ∧ Upd (S ++ SS F cb lv) w w' ∧ (∀ x ∈ S' ++ SS F' cb lv', x ∈ S ++ SS F cb lv ∨ w.heap.size ≤ x) ∧ (∀ x ∈ S', x ∉ SS F' cb lv') ∧ MSc xb cbx kb n w' S' (run (sceneT n) c).1 ∧ BdV w' w.heap.size v (run (sceneT n) c).1
theorem sc_fin {F Fj : BFp} {cb : Nat} {lv lj v : Value} {c : CS} {xb cbx kb n : Nat} {r0 : Option (Int × List Int)} {S : List Nat} {w W : World} {q : Int} {ls : List Int} (hM : MSc xb cbx kb n w S r0) (hS : ∀ x ∈ S, x ∉ SS F cb lv) (st : CSt W Fj cb lj (run (sceneT n) c).2) (up : Upd ([xb, kb] ++ SS F cb lv) w W) (gr : ∀ x ∈ SS Fj cb lj, x ∈ SS F cb lv ∨ w.heap.size ≤ x) (b0 : Fj.b0 = F.b0)
    (bq : Blk W xb 24 #[.int .u64 q]) (bk : Blk W kb 24 (ls.map (Value.int .u64)).toArray) (ln : ls.length = n) (hr : ∀ k l, (run (sceneT n) c).1 = some (k, l) → q = k ∧ ls = l) (hv : BdV W w.heap.size v (run (sceneT n) c).1) : ScPost F cb lv c S xb cbx kb n w v W := by
  have hlt := (msc_ok xb cbx kb n).lt _ _ _ hM
  obtain ⟨rfl, hne, q0, ls0, h1, h2, h3, h4, h5⟩ := hM
  have hcb : cbx ∉ [xb, kb] ++ SS F cb lv := fun hm => by
    simp only [List.cons_append, List.nil_append, List.mem_cons] at hm
    rcases hm with e | e | hm
    · exact h2.ne_ h1 (by decide) e
    · exact h2.ne_ h3 (by decide) e
    · exact hS cbx (by simp) hm
  refine ⟨Fj, lj, _, st, b0, up.mono (fun x hx => .inl ?_), fun x hx => ?_, fun x hx hm => ?_, ⟨rfl, hne, q, ls, bq, h2.upd up hcb, bk, ln, hr⟩, hv⟩
  · simp only [List.cons_append, List.nil_append, List.mem_cons] at hx ⊢
    rcases hx with e | e | hm
    · exact .inl e
    · exact .inr (.inr (.inl e))
    · exact .inr (.inr (.inr hm))
  · rcases List.mem_append.1 hx with hx | hx
    · exact .inl (List.mem_append_left _ hx)
    · exact (gr x hx).imp (List.mem_append_right _) id
  · rcases gr x hm with h | h
    · exact hS x hx h
    · have := hlt x hx; omega
set_option maxRecDepth 20000 in
set_option maxHeartbeats 2000000 in
theorem scene1_ok (n : Nat) (hn : 1 ≤ n ∧ n ≤ 3) {F : BFp} {cb : Nat} {lv : Value} {c : CS} {xb cbx kb : Nat} {r0 : Option (Int × List Int)} {S : List Nat} (w : World) (h : CSt w F cb lv c) (hJ : JT c.B) (hd : c.did = false) (hrd : Ready (sceneT n) c) (hM : MSc xb cbx kb n w S r0) (hS : ∀ x ∈ S, x ∉ SS F cb lv) :
    Calls Tryd.prog 13 #[.pointer (some ⟨cb, 0, none⟩), .int .i64 0, .pointer (some ⟨xb, 0, none⟩), .pointer (some ⟨cbx, 0, none⟩)] w fun e w' => ∃ v, e = .returned v ∧ ScPost F cb lv c S xb cbx kb n w v w' := by
  have H0 := Lib.hid h
  have HJ := Lib.hid hJ
  have HD := Lib.hid hd
  have HRD := Lib.hid hrd
  have HM := Lib.hid hM
  have HS := Lib.hid hS
  have HN := Lib.hid hn
  clear h hJ hd hrd hM hS hn
  go_enter Tryd.func13, Tryd.ntmps13
  go_wp2_with fail
  have hct : c.B.top + 1 + 1 ≤ c.B.ws.length := by have := HJ.out; unfold JT at this; omega
  refine (newclock_ok w H0.out hct).mono ?_
  rintro e w1 ⟨F1, lv1, x, v, rfl, h1, h2, h3, h4⟩
  have HN1 := Lib.hid h2
  have HB1 := Lib.hid h4
  have near1 : Near c.B (access c (.alloc 1)).2 := Near.access (c := c) (a := .alloc 1) (o := (access c (.alloc 1)).1) ⟨rfl, .inl ⟨HD.out, rfl⟩⟩ rfl (fun n h => by injection h with h; omega)
  cases ha : access c (.alloc 1) with
  | mk o c1 =>
    rw [ha] at h1 h3 near1
    have H1 := Lib.hid h1
    cases o with
    | none =>
      obtain ⟨rfl, rfl⟩ := h3
      have HR := Lib.hid (show run (sceneT n) c = (none, c1) from run_none ha)
      obtain ⟨hs0, hne, q0, ls0, m1, m2, m3, m4, m5⟩ := HM.out
      clear hs0
      have n1 : ∀ x ∈ [xb, kb], x ∉ SS F cb lv := fun x hx hm => HS.out x (by rw [HM.out.1]; simp at hx ⊢; rcases hx with rfl | rfl <;> simp) hm
      have Q1 := Lib.hid (m1.upd h2.up (n1 _ (by simp)))
      have K1 := Lib.hid (m3.upd h2.up (n1 _ (by simp)))
      have L1 := Lib.hid m4
      clear h1 h2 h4 ha near1 m1 m2 m3 m4 m5 n1 hne
      go_wp2_with fail
      go_ret
      refine ⟨_, rfl, sc_fin HM.out HS.out (by rw [HR.out]; exact H1.out) (HN1.out.up.mono (fun x hx => .inl (List.mem_append_right _ hx))) HN1.out.gr HB1.out Q1.out K1.out L1.out (by rw [HR.out]; intro k l h; cases h) (by rw [HR.out]; exact .num 2 _ _ 11 (by omega))⟩
    | some en =>
      obtain ⟨rfl, rfl⟩ := h3
      obtain ⟨hs0, hne, q0, ls0, m1, m2, m3, m4, m5⟩ := HM.out
      clear hs0
      have n1 : ∀ x ∈ [xb, kb], x ∉ SS F cb lv := fun x hx hm => HS.out x (by rw [HM.out.1]; simp at hx ⊢; rcases hx with rfl | rfl <;> simp) hm
      have hrd := HRD.out en c1 ha
      have hR : run (sceneT n) c = run ((scCells n 0 []).bind fun l => .ret (en.ref, l)) c1 := run_some (k := fun e : En => (scCells n 0 []).bind fun l => .ret (e.ref, l)) ha
      have q1b := m1.upd h2.up (n1 _ (by simp))
      have Q1 := Lib.hid q1b
      have f1 := q1b.facts
      have K1 := Lib.hid (m3.upd h2.up (n1 _ (by simp)))
      have hc1 : cbx ∉ [xb, kb] ++ SS F cb lv := fun hm => by
        simp only [List.cons_append, List.nil_append, List.mem_cons] at hm
        rcases hm with e | e | hm
        · exact m2.ne_ m1 (by decide) e
        · exact m2.ne_ m3 (by decide) e
        · exact HS.out cbx (by rw [HM.out.1]; simp) hm
      have C1 : Hid (∀ W, Upd ([xb, kb] ++ SS F cb lv) w W → Blk W cbx 25 #[.slice (some ⟨kb, 0, none⟩) n n]) := Lib.hid (fun W hW => m2.upd hW hc1)
      have HNX : Hid ((∀ x ∈ [xb, kb], x ∉ SS F cb lv) ∧ (∀ x ∈ [xb, kb], x < w.heap.size) ∧ kb ≠ xb) := Lib.hid ⟨n1, fun x hx => by simp at hx; rcases hx with rfl | rfl; exact m1.lt; exact m3.lt, hne⟩
      have J0 : Hid (ScJ w F cb lv c xb kb n en.ref 0 (w1.setCell ⟨xb, 0, none⟩ (.int .u64 en.ref)) F1 c1 lv1 [] ls0) := Lib.hid (by
        have hu : Upd [xb] w1 (w1.setCell ⟨xb, 0, none⟩ (.int .u64 en.ref)) := (Upd.refl _ _).setCell (by simp) _
        refine ⟨H1.out.far hu ?_, (HN1.out.up.mono (fun x hx => .inl (List.mem_append_right _ hx))).trans' hu (by simp), HN1.out.gr, HB1.out, q1b.set_ 0 _, K1.out.upd hu (by simp [hne]), m4, by simp, rfl, near1, (ready_bind hrd.2).1, hR⟩
        intro x hx hm
        simp at hx
        subst hx
        rcases HN1.out.gr x hm with h | h
        · exact n1 x (by simp) h
        · have := m1.lt; omega)
      have hcx := (C1.out _ J0.out.up).facts
      clear h1 h2 h4 ha near1 m1 m2 m3 m4 m5 n1 hne hrd hR hc1 q1b hct
      go_wp2_with fail
      have hn3 : (n : Int) ≤ 3 ∧ (1 : Int) ≤ n := by have := HN.out; omega
      clear f1 hcx
      go_loopw [23] (fun u wr => ∃ (j : Nat) (Fj : BFp) (cj : CS) (lj : Value) (R ls : List Int), u = .int .i64 j ∧ j ≤ n ∧ Hid (ScJ w F cb lv c xb kb n en.ref j wr Fj cj lj R ls)) (fun u _ => n - (intOf u).toNat)
      case atStart => exact ⟨0, F1, c1, lv1, [], ls0, rfl, by omega, J0⟩
      case round =>
        obtain ⟨j, Fj, cj, lj, R, ls, rfl, hj, KJ⟩ := hrel
        have fx := (C1.out _ KJ.out.up).facts
        by_cases hlt : j < n
        · have hji : (j : Int) < n := by omega
          have hj3 : (j : Int) ≤ 3 := by omega
          obtain ⟨k, hk⟩ : ∃ k, n - j = k + 1 := ⟨n - j - 1, by omega⟩
          have HK := Lib.hid hk
          have HJN := Lib.hid hlt
          have hrd := KJ.out.rdy
          have hrn := KJ.out.rn
          rw [hk] at hrd hrn
          have HRd := Lib.hid hrd
          have HRn := Lib.hid hrn
          clear hk hlt hj hrd hrn
          go_wp2_with fail
          have hct : cj.B.top + 2 + 1 ≤ cj.B.ws.length := by
            have h1 := HJ.out
            have h2 := KJ.out.near
            unfold JT at h1
            unfold Near at h2
            omega
          refine (newcell_ok wr KJ.out.st (10 + (j : Int)) (by omega) hct (fun e c' he => (HRd.out e c' he).1)).mono ?_
          rintro e w2 ⟨F2, lv2, x, v, rfl, h1, h2, h3, h4⟩
          have up2 : Upd ([xb, kb] ++ SS F cb lv) w w2 := KJ.out.up.trans' h2.up (fun x hx => (KJ.out.gr x hx).imp (fun h => by simp [h]) id)
          have gr2 : ∀ x ∈ SS F2 cb lv2, x ∈ SS F cb lv ∨ w.heap.size ≤ x := fun x hx => (h2.gr x hx).elim (KJ.out.gr x) (fun h => .inr (Nat.le_trans KJ.out.up.size h))
          have hnb : ∀ x ∈ [xb, kb], x ∉ SS Fj cb lj := fun x hx hm => by
            rcases KJ.out.gr x hm with h | h
            · exact HNX.out.1 x hx h
            · have := HNX.out.2.1 x hx; omega
          have Q2 := Lib.hid (KJ.out.bq.upd h2.up (hnb _ (by simp)))
          have K2b := KJ.out.bk.upd h2.up (hnb _ (by simp))
          have K2 := Lib.hid K2b
          have H2 := Lib.hid h1
          have G2 : Hid (_ ∧ _ ∧ _ ∧ _) := Lib.hid ⟨up2, gr2, h4.trans KJ.out.b0, hnb⟩
          have near2 : Hid (Near c.B (run (cellT (10 + j)) cj).2) := Lib.hid (Near.run (o := (run (cellT (10 + j)) cj).1) KJ.out.near (small_cell _) rfl)
          have hB2 : wr.heap.size ≤ w2.heap.size := h2.up.size
          have HB2 := Lib.hid hB2
          cases hr : (run (cellT (10 + (j : Int))) cj).1 with
          | none =>
            rw [hr] at h3
            have h3' : ErK 1 w2 wr.heap.size v 11 := h3
            have HE := Lib.hid h3'
            have HR : Hid (run (sceneT n) c = (none, (run (cellT (10 + (j : Int))) cj).2)) := Lib.hid (by
              rw [HRn.out]
              exact run_bind_none (run_bind_none (p := cellT (10 + (j : Int))) (Prod.ext hr rfl)))
            rcases h3'.form with ⟨_, h⟩ | h
            · omega
            · clear h1 h2 h3 h3' h4 up2 gr2 hnb hr hct K2b hB2
              rcases h with ⟨m, rfl⟩ | ⟨g, rfl⟩
              all_goals
                go_wp2_with fail
                go_ret
                exact ⟨_, rfl, sc_fin HM.out HS.out (by rw [HR.out]; exact H2.out) G2.out.1 G2.out.2.1 G2.out.2.2.1 Q2.out K2.out KJ.out.ln (by rw [HR.out]; intro k l h; cases h) (by rw [HR.out]; exact (HE.out.base KJ.out.up.size).up (by omega))⟩
          | some rr =>
            rw [hr] at h3
            obtain ⟨rfl, rfl⟩ := h3
            have fk := K2b.facts
            have fx2 := (C1.out _ up2).facts
            have hcj : ∃ z, (ls.map (Value.int .u64))[j]? = some z := ⟨_, List.getElem?_eq_getElem (by rw [List.length_map, KJ.out.ln]; exact HJN.out)⟩
            obtain ⟨z, hz⟩ := hcj
            have hzc : w2.cell? ⟨kb, j, none⟩ = some z := by rw [K2b.cell j]; simpa using hz
            have hzf : w2.frozen? ⟨kb, j, none⟩ = false := K2b.frozen j
            have HRR : Hid (run (sceneT n) c = run ((scCells k (j + 1) (R ++ [x])).bind fun l => .ret (en.ref, l)) (run (cellT (10 + (j : Int))) cj).2) := Lib.hid (by
              rw [HRn.out]
              show run (((cellT (10 + (j : Int))).bind fun r => scCells k (j + 1) (R ++ [r])).bind _) cj = _
              rw [bind_assoc]
              exact run_bind_some (p := cellT (10 + (j : Int))) (Prod.ext hr rfl))
            have HRdy : Hid (Ready (scCells k (j + 1) (R ++ [x])) (run (cellT (10 + (j : Int))) cj).2) := Lib.hid ((ready_bind (p := cellT (10 + (j : Int))) (f := fun r => scCells k (j + 1) (R ++ [r])) HRd.out).2 x hr)
            have hkl : kb < w2.heap.size := K2b.lt
            clear h1 h2 h4 up2 gr2 hnb hr hct K2b hB2 fk hz fx
            go_wp2_with fail
            have hu : Upd [kb] w2 (w2.setCell ⟨kb, j, none⟩ (.int .u64 x)) := (Upd.refl _ _).setCell (by simp) _
            have hj' := HJN.out
            refine ⟨⟨j + 1, F2, _, lv2, R ++ [x], ls.set j x, by simp, by omega, Lib.hid ⟨H2.out.far hu ?_, G2.out.1.trans' hu (by simp), G2.out.2.1, G2.out.2.2.1, Q2.out.upd hu (by simpa using fun e => HNX.out.2.2 e.symm), ?_, by rw [List.length_set, KJ.out.ln], ?_, by rw [List.length_append, KJ.out.rl, List.length_singleton], near2.out, ?_, ?_⟩⟩, by simp [intOf]; omega⟩
            · intro y hy hm
              simp at hy
              subst hy
              rcases G2.out.2.1 y hm with h | h
              · exact HNX.out.1 y (by simp) h
              · have := HNX.out.2.1 y (by simp); omega
            · refine K2.out.set_eq ?_
              rw [List.map_set]
              simp
            · rw [List.take_add_one, List.take_set_of_le (by omega), KJ.out.ha]
              congr 1
              rw [List.getElem?_set_self (by rw [KJ.out.ln]; exact hj')]
              rfl
            · rw [show n - (j + 1) = k by have := HK.out; omega]; exact HRdy.out
            · rw [show n - (j + 1) = k by have := HK.out; omega]; exact HRR.out
        · have hji : ¬ ((j : Int) < n) := by omega
          have hjn : j = n := by omega
          have HR : Hid (run (sceneT n) c = (some (en.ref, R), cj)) := Lib.hid (by
            rw [KJ.out.rn, show n - j = 0 by omega]
            rfl)
          have HLS : Hid (ls = R) := Lib.hid (by have := KJ.out.ha; rw [hjn, ← KJ.out.ln, List.take_length] at this; exact this)
          clear hlt hj hjn
          go_wp2_with fail
          go_ret
          exact ⟨_, rfl, sc_fin HM.out HS.out (by rw [HR.out]; exact KJ.out.st) KJ.out.up KJ.out.gr KJ.out.b0 KJ.out.bq KJ.out.bk KJ.out.ln (by rw [HR.out]; intro k l h; injection h with h; injection h with h1 h2; exact ⟨h1, HLS.out.trans h2⟩) (by rw [HR.out]; rfl)⟩
set_option maxRecDepth 20000 in
theorem scene_body (n : Nat) (hn : 1 ≤ n ∧ n ≤ 3) (xb cbx kb : Nat) : BodyOk 13 #[.pointer (some ⟨xb, 0, none⟩), .pointer (some ⟨cbx, 0, none⟩)] (sceneT n) (fun _ => False) JT (MSc xb cbx kb n) where
  ent := fun _ _ => rfl
  run := fun w F cb lv c S r0 h _ hd hJ hrd hM hS _ => by
    refine (scene1_ok n hn w h hJ hd hrd hM hS).mono ?_
    rintro e w' ⟨v, rfl, F', lv', S', q⟩
    exact ⟨F', lv', S', v, rfl, q⟩
set_option maxRecDepth 20000 in
set_option maxHeartbeats 2000000 in
theorem scene_ok (n : Nat) (hn : 1 ≤ n ∧ n ≤ 3) (w : World) :
    Calls Tryd.prog 7 #[.int .i64 n] w fun e w' => ∃ (F : BFp) (kb : Nat), e = .returned (.tuple #[.pointer (some ⟨F.b0, 0, none⟩), .int .u64 1, .slice (some ⟨kb, 0, none⟩) n n]) ∧ BSt w' F (BN n) ∧ Blk w' kb 24 ((refsN n).map (Value.int .u64)).toArray ∧ Upd [] w w' ∧ (∀ x ∈ F.l, w.heap.size ≤ x) ∧ w.heap.size ≤ kb ∧ kb ∉ F.l := by
  have HN := Lib.hid hn
  have hn3 : (n : Int) ≤ 3 ∧ (1 : Int) ≤ n := by omega
  obtain ⟨i0, hi0, hz0, hz1, hz2⟩ := info_parts u64_info
  have hmk := fun W : World => run_make (P := Tryd.prog) W 25 24 i0 _ Tryd.underlying25 hi0 hz0 .i64 .i64 (n : Int) (n : Int) (by omega) (by omega) (by rw [hz2]; omega) (by omega)
  clear hi0 hz0 hz2 hn
  go_enter Tryd.func7, Tryd.ntmps7
  go_wp2_with fail
  refine (on_ok w).mono ?_
  rintro e w1 ⟨F, rfl, h1, h2, h3, h4⟩
  have H1 := Lib.hid h1
  have H2 := Lib.hid h2
  have H3 := Lib.hid h3
  clear h1 h2 h3 h4
  go_wp2_with fail
  obtain ⟨w2, hw2⟩ : ∃ w2, w2 = ((w1.alloc (Obj.cells #[.int .u64 0] 24)).alloc (Obj.cells (madeCells #[.int .u64 0] n) 24)).alloc (Obj.cells #[.slice (some ⟨w1.heap.size + 1, 0, none⟩) n n] 25) := ⟨_, rfl⟩
  have U2 : Hid (Upd [] w1 w2) := Lib.hid (by rw [hw2]; exact (((Upd.refl _ _).alloc _).alloc _).alloc _)
  have M2 : Hid (MSc w1.heap.size (w1.heap.size + 1 + 1) (w1.heap.size + 1) n w2 [w1.heap.size, w1.heap.size + 1 + 1, w1.heap.size + 1] none) := Lib.hid (by
    rw [hw2]
    refine ⟨rfl, by omega, 0, List.replicate n 0, ((Blk.new _ _ _).alloc _).alloc _, Blk.newAt _ _ (by simp), ?_, by simp, by intro k l h; cases h⟩
    have := (Blk.newAt (W := w1.alloc (Obj.cells #[.int .u64 0] 24)) (H := w1.heap.size + 1) 24 (madeCells #[.int .u64 0] n) (by simp)).alloc (Obj.cells #[.slice (some ⟨w1.heap.size + 1, 0, none⟩) n n] 25)
    have e : madeCells #[.int .u64 0] n = ((List.replicate n (0 : Int)).map (Value.int .u64)).toArray := by
      apply Array.ext'
      rw [toList_madeCells_one]
      simp
    rw [e] at this ⊢
    exact this)
  rw [← hw2]
  clear hw2
  refine (tnew_ok w2 (H1.out.upd U2.out (by simp)) 13 _).mono ?_
  rintro e w3 ⟨tb, rfl, t1, t2, t3, t4⟩
  have hlt1 := H1.out.lt
  have T0 : Hid (TAll 13 #[.pointer (some ⟨w1.heap.size, 0, none⟩), .pointer (some ⟨w1.heap.size + 1 + 1, 0, none⟩)] (sceneT n) (MSc w1.heap.size (w1.heap.size + 1 + 1) (w1.heap.size + 1) n) w3 F Th.B0 tb (.slice none 0 0) [w1.heap.size, w1.heap.size + 1 + 1, w1.heap.size + 1] [] none ⟨sceneT n, false⟩) := Lib.hid (by
    have hs := (msc_ok _ _ _ _).lt _ _ _ M2.out
    refine ⟨t1, (H1.out.upd U2.out (by simp)).upd t2 (by simp), ThOk.start _ _, (msc_ok _ _ _ _).fr _ _ _ _ _ M2.out t2 (by simp), fun x hx hm => ?_, fun x hx hm => ?_, fun x hx hm => ?_, fun h => (by cases h)⟩
    · simp [TB, Value.ownBlock] at hx
      subst hx
      have := hlt1 _ hm
      have := U2.out.size
      omega
    · have := hlt1 x hm
      simp at hx
      omega
    · simp [TB, Value.ownBlock] at hm
      subst hm
      have := hs _ hx
      omega)
  have U3 := Lib.hid (U2.out.trans t2)
  have TB3 : Hid (w.heap.size ≤ tb) := Lib.hid (by have := H2.out.size; have := U2.out.size; omega)
  clear t1 t2 t3 t4 hlt1
  go_wp2_with fail
  have HG : Going (α := Int × List Int) (fun _ => False) JT (GSc n) := ⟨gsc_step HN.out, fun _ _ _ _ _ h => h, fun t B h => by obtain ⟨k, hk, e⟩ := h; rw [show B = (soloT k ⟨sceneT n, false⟩ Th.B0).2 from congrArg Prod.snd e]; exact gsc_j HN.out hk⟩
  refine (trun_ok (scene_body n HN.out _ _ _) (msc_ok _ _ _ _) HG w3 100 T0.out ⟨0, by omega, rfl⟩ (by simp)).mono ?_
  rintro e w4 ⟨rfl, F', lv', S', l', r', g1, g2, g3, g4, g5⟩
  rw [gsc_end HN.out] at g1
  obtain ⟨p1, p2, p3, p4, p5, p6, p7, p8⟩ := g1
  obtain rfl : r' = some (1, refsN n) := p8 rfl
  obtain ⟨hs', hne, q, ls, m1, m2, m3, m4, m5⟩ := p4
  obtain ⟨rfl, rfl⟩ := m5 1 (refsN n) rfl
  have hold : ∀ x ∈ F.l ++ TB tb (.slice none 0 0) ++ [w1.heap.size, w1.heap.size + 1 + 1, w1.heap.size + 1], w.heap.size ≤ x := by
    intro x hx
    have := H2.out.size
    simp only [List.mem_append, TB, Value.ownBlock, Option.toList, List.mem_cons, List.not_mem_nil, or_false] at hx
    rcases hx with (hx | hx) | hx | hx | hx
    · exact H3.out x hx
    · subst hx; exact TB3.out
    · omega
    · omega
    · omega
  have P1 := Lib.hid p1
  have P2 := Lib.hid p2
  have UF : Hid (Upd [] w w4) := Lib.hid ((H2.out.trans U3.out).trans' g2.up (fun x hx => .inr (hold x hx)))
  have NF : Hid ((∀ x ∈ F'.l, w.heap.size ≤ x) ∧ w1.heap.size + 1 ∉ F'.l ∧ F'.b0 = F.b0) := Lib.hid ⟨fun x hx => (g2.gr x (by simp [hx])).elim (hold x) (fun h => by have := H2.out.size; have := U3.out.size; omega), p6 _ (by rw [hs']; simp), g2.b0⟩
  have K4 := Lib.hid m3
  have f1 := m1.facts
  have f2 := m2.facts
  have HK1 : Hid (w.heap.size ≤ w1.heap.size) := Lib.hid H2.out.size
  clear g2 g3 g4 g5 p1 p2 p3 p5 p6 p7 p8 hs' hne m1 m2 m3 m4 m5 hold hmk hz1
  go_wp2_with fail
  refine (no_nil _).mono ?_; rintro e w' ⟨rfl, rfl⟩
  go_wp2_with fail
  refine (tdone_ok _ P1.out).mono ?_; rintro e w' ⟨rfl, rfl⟩
  go_wp2_with fail
  go_quiet (fail)
  go_wp2_with fail
  go_ret3
  exact ⟨F', w1.heap.size + 1, by rw [NF.out.2.2]; rfl, P2.out.upd ((Upd.refl [] _).drewN _) (by simp), K4.out.drewN _, UF.out.drewN _, NF.out.1, by have := HK1.out; omega, NF.out.2.1⟩
end Go.Proofs.YtkldpdldjalpeaaDoor

namespace Go.Proofs.YtkldpdldjalpeaaDoor
open Go.RowKit Th
attribute [local go_sem] litStep_value

set_option maxRecDepth 20000 in
set_option maxHeartbeats 1000000 in
theorem asame_ok (L : List An) (v u : Value) (w : World) (hv : Rd AnE w v L) (hu : Rd AnE w u L) (hL : L.length ≤ 1000) :
    Calls Tryd.prog 10 #[v, u] w fun e w' => e = .returned (.bool true) ∧ Upd [] w w' := by
  obtain ⟨A, c, rfl⟩ := hv.form
  obtain ⟨A', c', rfl⟩ := hu.form
  obtain ⟨n, hn⟩ : ∃ n, n = L.length := ⟨_, rfl⟩
  have HV := Lib.hid hv
  have HU := Lib.hid hu
  have HN := Lib.hid hn
  rw [← hn] at hL ⊢
  have hn3 : (n : Int) ≤ 1000 := by omega
  clear hv hu hn hL
  go_enter Tryd.func10, Tryd.ntmps10
  go_wp2_with fail
  go_loopw [5] (fun v wr => ∃ k : Nat, v = .int .i64 k ∧ k ≤ n ∧ Hid (Upd [] w wr)) (fun v _ => n - (intOf v).toNat)
  case atStart => exact ⟨0, rfl, by omega, Lib.hid (.refl _ _)⟩
  case round =>
    obtain ⟨k, rfl, hk, U1⟩ := hrel
    by_cases hkn : k < n
    · obtain ⟨⟨x1, x2, x3⟩, hx⟩ : ∃ x, L[k]? = some x := ⟨_, List.getElem?_eq_getElem (by rw [← HN.out]; omega)⟩
      obtain ⟨ad, e1, h1, _⟩ := HV.out.at_ hx
      obtain ⟨ad', e2, h2, _⟩ := HU.out.at_ hx
      subst e1 e2
      have HX := Lib.hid hx
      have CS : Hid (∀ W, Upd [] wr.drew W → W.cell? (ad.add (k * 3)) = some (.int .i64 x1) ∧ W.cell? ⟨(ad.add (k * 3)).block, (ad.add (k * 3)).off + 1, none⟩ = some (.int .u64 x2) ∧ W.cell? ⟨(ad.add (k * 3)).block, (ad.add (k * 3)).off + 2, none⟩ = some (.int .i64 x3) ∧ W.cell? (ad'.add (k * 3)) = some (.int .i64 x1) ∧ W.cell? ⟨(ad'.add (k * 3)).block, (ad'.add (k * 3)).off + 1, none⟩ = some (.int .u64 x2) ∧ W.cell? ⟨(ad'.add (k * 3)).block, (ad'.add (k * 3)).off + 2, none⟩ = some (.int .i64 x3)) := Lib.hid (fun W hW => by
        have hu : Upd [] w W := U1.out.drew.trans hW
        obtain ⟨a1, e1, _, c1⟩ := (HV.out.upd0 hu).at_ HX.out
        obtain ⟨a2, e2, _, c2⟩ := (HU.out.upd0 hu).at_ HX.out
        injection e1 with e1
        injection e2 with e2
        subst e1 e2
        exact ⟨c1 0 _ rfl, by rw [← add_more]; exact c1 1 _ rfl, by rw [← add_more]; exact c1 2 _ rfl, c2 0 _ rfl, by rw [← add_more]; exact c2 1 _ rfl, by rw [← add_more]; exact c2 2 _ rfl⟩)
      have q1 : (0 : Int) ≤ (k : Int) := by omega
      have q2 : (k : Int) < (n : Int) := by omega
      have b1 : (x1 == x1) = true := by simp
      have b2 : (x2 == x2) = true := by simp
      have b3 : (x3 == x3) = true := by simp
      have HK := Lib.hid hkn
      clear hx h1 h2 hk hkn
      go_wp2_with fail
      refine wp_invN [] [] (by kernel_rfl) (by kernel_rfl) (by kernel_rfl) trivial ?_
      with_reducible apply wpV_light
      · simp only [lightOp]
      · intro W hU hF
        have f0 := CS.out W hU
        clear hU hF
        go_simp
        exact rfl
      simp only [Act.put, List.setIfInBounds_toArray, List.set_cons_zero, List.set_cons_succ]
      with_reducible apply wpV_light
      · simp only [lightOp]
      · intro W hU hF
        have f0 := CS.out W hU
        clear hU hF
        go_simp
        exact rfl
      simp only [Act.put, List.setIfInBounds_toArray, List.set_cons_zero, List.set_cons_succ]
      with_reducible apply wpV_light
      · simp only [lightOp]
      · intro W hU hF
        have f0 := CS.out W hU
        clear hU hF
        go_simp
        exact rfl
      simp only [Act.put, List.setIfInBounds_toArray, List.set_cons_zero, List.set_cons_succ]
      with_reducible apply wpV_light
      · simp only [lightOp]
      · intro W hU hF
        have f0 := CS.out W hU
        clear hU hF
        go_simp
        exact rfl
      simp only [Act.put, List.setIfInBounds_toArray, List.set_cons_zero, List.set_cons_succ]
      with_reducible apply wpV_light
      · simp only [lightOp]
      · intro W hU hF
        have f0 := CS.out W hU
        clear hU hF
        go_simp
        exact rfl
      simp only [Act.put, List.setIfInBounds_toArray, List.set_cons_zero, List.set_cons_succ]
      with_reducible apply wpV_light
      · simp only [lightOp]
      · intro W hU hF
        have f0 := CS.out W hU
        clear hU hF
        go_simp
        exact rfl
      simp only [Act.put, List.setIfInBounds_toArray, List.set_cons_zero, List.set_cons_succ]
      with_reducible apply wpV_light
      · simp only [lightOp]
      · intro W hU hF
        have f0 := CS.out W hU
        clear hU hF
        go_simp
        exact rfl
      simp only [Act.put, List.setIfInBounds_toArray, List.set_cons_zero, List.set_cons_succ]
      with_reducible apply wpV_light
      · simp only [lightOp]
      · intro W hU hF
        have f0 := CS.out W hU
        clear hU hF
        go_simp
        exact rfl
      simp only [Act.put, List.setIfInBounds_toArray, List.set_cons_zero, List.set_cons_succ]
      with_reducible apply wpV_light
      · simp only [lightOp]
      · intro W hU hF
        have f0 := CS.out W hU
        clear hU hF
        go_simp
        exact rfl
      simp only [Act.put, List.setIfInBounds_toArray, List.set_cons_zero, List.set_cons_succ]
      refine wpV_end (fun W hU _ hF => ?_)
      have U2 : Hid (Upd [] w W) := Lib.hid (U1.out.trans ((Upd.refl _ _).drew.trans hU))
      clear hU hF
      refine wpT_end ?_
      go_wp2_with fail
      go_round
      case rel => exact ⟨k + 1, by simp, by have := HK.out; omega, U2⟩
      case measure => have := HK.out; simp [intOf]; omega
    · have q2 : ¬ ((k : Int) < n) := by omega
      clear hk hkn
      go_wp2_with fail
      go_ret
      exact ⟨rfl, U1.out⟩
def aliveC : List Cl := [⟨3, 0, 0, 0, 0⟩, ⟨5, 0, 0, 3, 0⟩, ⟨3, 0, 0, 0, 0⟩, ⟨6, 0, 5, 0, 8⟩, ⟨3, 0, 0, 0, 0⟩, ⟨5, 0, 0, 0, 0⟩, ⟨2, 0, 0, 0, 0⟩]
def aliveA : List An := [⟨0, 10, 0⟩, ⟨0, 0, 0⟩, ⟨12, 0, 0⟩, ⟨0, 0, 0⟩, ⟨0, 8, 5⟩, ⟨12, 0, 0⟩, ⟨0, 0, 1⟩]
set_option maxRecDepth 20000 in
theorem alive_exec : ∃ B', exec 30 (bodyT 1 3 aliveC []) (BN 1) = some (aliveA, B') := ⟨_, rfl⟩
set_option maxRecDepth 20000 in
theorem alive_solo : (soloT 100 ⟨bodyT 1 3 aliveC [], false⟩ (BN 1)).1 = ⟨.ret aliveA, true⟩ := rfl
/-- A literal of a whole block is a slice owned. -/
theorem ow_lit {α : Type} {E : Enc α} {e : TypeId} {w : World} {g : Nat} {cs : Array Value} {L : List α} {n : Nat} (h : Blk w g e cs) (hn : L.length = n) (hc : cs.toList = flat E L) (hm : n ≤ maxLen) : Ow E e w 0 (.slice (some ⟨g, 0, none⟩) n n) L := by
  refine ⟨flat_len, .inr ⟨g, n, cs, by rw [hn], Nat.zero_le _, h, by omega, hm, ?_, ?_⟩⟩
  · have := congrArg List.length hc
    rw [flat_len, hn] at this
    simpa using this
  · rw [hc, ← flat_len, List.take_length]
set_option maxRecDepth 20000 in
set_option maxHeartbeats 2000000 in
theorem malive_ok (w : World) : Calls Tryd.prog 8 #[] w fun e w' => e = .returned (.bool true) ∧ Upd [] w w' := by
  go_enter Tryd.func8, Tryd.ntmps8
  go_wp2_with fail
  refine (scene_ok 1 (by omega) w).mono ?_
  rintro e w1 ⟨F, kb, rfl, h1, h2, h3, h4, h5, h6⟩
  have H1 := Lib.hid h1
  have H2 := Lib.hid h2
  have H3 := Lib.hid h3
  have H4 : Hid ((∀ x ∈ F.l, w.heap.size ≤ x) ∧ w.heap.size ≤ kb ∧ kb ∉ F.l) := Lib.hid ⟨h4, h5, h6⟩
  clear h1 h2 h3 h4 h5 h6
  go_wp2_with fail
  obtain ⟨wa, hwa⟩ : ∃ wa, wa = w1.alloc (Obj.cells #[.slice none 0 0] 59) := ⟨_, rfl⟩
  have Sa : wa.heap.size = w1.heap.size + 1 := by rw [hwa]; simp
  have Ua : Upd [] w1 wa := by rw [hwa]; exact (Upd.refl _ _).alloc _
  have Oa : Blk wa w1.heap.size 59 #[.slice none 0 0] := by rw [hwa]; exact Blk.new _ _ _
  rw [← hwa]
  clear hwa
  obtain ⟨w2, hw2⟩ : ∃ w2, w2 = wa.alloc (Obj.cells #[.int .i64 3, .int .i64 0, .int .i64 0, .int .i64 0, .int .u64 0, .int .i64 5, .int .i64 0, .int .i64 0, .int .i64 3, .int .u64 0, .int .i64 3, .int .i64 0, .int .i64 0, .int .i64 0, .int .u64 0, .int .i64 6, .int .i64 0, .int .i64 5, .int .i64 0, .int .u64 8, .int .i64 3, .int .i64 0, .int .i64 0, .int .i64 0, .int .u64 0, .int .i64 5, .int .i64 0, .int .i64 0, .int .i64 0, .int .u64 0, .int .i64 2, .int .i64 0, .int .i64 0, .int .i64 0, .int .u64 0] 31) := ⟨_, rfl⟩
  have S2 : Hid (w2.heap.size = w1.heap.size + 2) := Lib.hid (by rw [hw2]; simp [Sa])
  have U2 : Hid (Upd [] w1 w2) := Lib.hid (by rw [hw2]; exact Ua.alloc _)
  have O2 : Hid (Blk w2 w1.heap.size 59 #[.slice none 0 0]) := Lib.hid (by rw [hw2]; exact Oa.alloc _)
  have C2 : Hid (Ow ClE 31 w2 0 (.slice (some ⟨w1.heap.size + 1, 0, none⟩) 7 7) aliveC) := Lib.hid (by rw [hw2]; exact ow_lit (Blk.newAt _ _ Sa) rfl rfl (by simp [maxLen]))
  rw [← hw2]
  clear hw2 Sa Ua Oa
  refine (mkbody_ok _ 7 7 1 kb w1.heap.size w2).mono ?_
  rintro e w3 ⟨rfl, b1, b2, b3, b4, u3, s3⟩
  have B3 : Hid (_ ∧ _ ∧ _ ∧ _) := Lib.hid ⟨b1, b2, b3, b4⟩
  have U3 := Lib.hid (U2.out.trans u3)
  have u3' := Lib.hid u3
  have S3 := Lib.hid s3
  clear b1 b2 b3 b4 u3 s3
  go_wp2_with fail
  refine (tnew_ok w3 (H1.out.upd U3.out (by simp)) 28 _).mono ?_
  rintro e w4 ⟨tb, rfl, t1, t2, t3, t4⟩
  have hlt1 := H1.out.lt
  have hkl := H2.out.lt
  have T0 : Hid (TAll 28 #[ptrV w2.heap.size, ptrV (w2.heap.size + 1 + 1), ptrV (w2.heap.size + 1), ptrV (w2.heap.size + 1 + 1 + 1)] (bodyT 1 3 aliveC []) (fun w S r => M06 1 3 kb [⟨aliveC, .slice (some ⟨w1.heap.size + 1, 0, none⟩) 7 7, w2.heap.size, w2.heap.size + 1 + 1, w2.heap.size + 1, w2.heap.size + 1 + 1 + 1, w1.heap.size⟩] (fun _ => none) w S ([none].set 0 r)) w4 F (BN 1) tb (.slice none 0 0) ([kb, w1.heap.size + 1] ++ [w2.heap.size, w2.heap.size + 1 + 1, w2.heap.size + 1, w2.heap.size + 1 + 1 + 1, w1.heap.size]) [] none ⟨bodyT 1 3 aliveC [], false⟩) := Lib.hid (by
    have m0 : M06 1 3 kb [] (fun _ => none) w1 [kb] [] := ⟨by simp, fun x hx => by simp at hx; subst hx; exact hkl, by simp⟩
    have hs2 := S2.out
    have hs3 := S3.out
    have m1 : M06 1 3 kb [] (fun _ => none) w2 [kb, w1.heap.size + 1] [] := ⟨by simp, fun x hx => by simp at hx; omega, by simp⟩
    have m4 : M06 1 3 kb [⟨aliveC, .slice (some ⟨w1.heap.size + 1, 0, none⟩) 7 7, w2.heap.size, w2.heap.size + 1 + 1, w2.heap.size + 1, w2.heap.size + 1 + 1 + 1, w1.heap.size⟩] (fun _ => none) w4 ([kb, w1.heap.size + 1] ++ [w2.heap.size, w2.heap.size + 1 + 1, w2.heap.size + 1, w2.heap.size + 1 + 1 + 1, w1.heap.size]) ([] ++ [none]) := by
      have ub := u3'.out.trans t2
      have hk4 : Blk w4 kb 24 #[.int .u64 3] := H2.out.upd (U3.out.trans t2) (by simp)
      refine ⟨fun i m hi => ?_, fun x hx => ?_, fun i j m m' hij hi hj => ?_⟩
      · have hi0 : i = 0 := by have := (List.getElem?_eq_some_iff.1 hi).1; simp at this; omega
        subst hi0
        simp at hi
        subst hi
        exact ⟨B3.out.1.upd t2 (by simp), B3.out.2.1.upd t2 (by simp), B3.out.2.2.1.upd t2 (by simp), B3.out.2.2.2.upd t2 (by simp), hk4, C2.out.upd0 ub, ⟨_, [], O2.out.upd ub (by simp), Ow.nil _ _ _ _, by simp [Value.ownBlock], by simp, by simp⟩, ⟨by simp, by simp, by simp, by simp, by simp, by simp⟩, fun b hb => by simp [Value.ownBlock] at hb; subst hb; simp⟩
      · have := t2.size
        simp at hx
        omega
      · have hi0 : i = 0 := by have := (List.getElem?_eq_some_iff.1 hi).1; simp at this; omega
        have hj0 : j = 0 := by have := (List.getElem?_eq_some_iff.1 hj).1; simp at this; omega
        omega
    refine ⟨t1, H1.out.upd (U3.out.trans t2) (by simp), ThOk.start _ _, m4, fun x hx hm => ?_, fun x hx hm => ?_, fun x hx hm => ?_, fun h => (by cases h)⟩
    · simp [TB, Value.ownBlock] at hx
      subst hx
      have := hlt1 _ hm
      omega
    · have := hlt1 x hm
      simp at hx
      rcases hx with rfl | hx
      · exact H4.out.2.2 hm
      · omega
    · simp [TB, Value.ownBlock] at hm
      subst hm
      simp at hx
      omega)
  have U4 := Lib.hid (H3.out.trans (U3.out.trans t2))
  have TB4 : Hid (w.heap.size ≤ tb) := Lib.hid (by have := (H3.out.trans U3.out).size; omega)
  clear t1 t2 t3 t4 hlt1 hkl
  go_wp2_with fail
  obtain ⟨B', hex⟩ := alive_exec
  have HG : Going (α := List An) (fun l => ¬ Fine l) (JC 1 3) (fun t B => GoodE aliveA B' 119 [(1, 1), (3, 2)] ([t], B)) := ⟨fun t B h hd => by
    have := goodE_step _ 0 h
    exact this, fun t B a h hp hf => hf (by rw [goodE_bad h (i := 0) (t := t) rfl hp]; unfold Fine; decide), fun t B h => ⟨h.2.1 _ (by simp), h.2.1 _ (by simp)⟩⟩
  have hbody := body_ok 1 3 kb [⟨aliveC, .slice (some ⟨w1.heap.size + 1, 0, none⟩) 7 7, w2.heap.size, w2.heap.size + 1 + 1, w2.heap.size + 1, w2.heap.size + 1 + 1 + 1, w1.heap.size⟩] 0 _ rfl (fun _ => none) rfl (by simp [aliveC, OkC]) (by simp [aliveC]) [none] rfl
  refine (trun_ok hbody ((m06_ok 1 3 kb _ _).at_ [none] 0) HG w4 100 T0.out (goodE_start hex (dep_body 1 3 aliveC []) (by simp [BN])) (by simp)).mono ?_
  rintro e w5 ⟨rfl, F', lv', S', l', r', g1, g2, _⟩
  rw [alive_solo] at g1
  obtain rfl : r' = some aliveA := g1.r0 rfl
  have hold : ∀ x ∈ F.l ++ TB tb (.slice none 0 0) ++ ([kb, w1.heap.size + 1] ++ [w2.heap.size, w2.heap.size + 1 + 1, w2.heap.size + 1, w2.heap.size + 1 + 1 + 1, w1.heap.size]), w.heap.size ≤ x := by
    intro x hx
    have := H3.out.size
    have := S2.out
    simp only [List.mem_append, TB, Value.ownBlock, Option.toList, List.mem_cons, List.not_mem_nil, or_false] at hx
    rcases hx with (hx | hx) | (hx | hx) | hx
    · exact H4.out.1 x hx
    · subst hx; exact TB4.out
    · subst hx; exact H4.out.2.1
    · omega
    · omega
  have U5 : Hid (Upd [] w w5) := Lib.hid (U4.out.trans' g2.up (fun x hx => .inr (hold x hx)))
  obtain ⟨ov, L, q1, q2, _, q4, _⟩ := (g1.m.row 0 _ rfl).out
  have hL : L = aliveA := q4 aliveA rfl
  subst hL
  have OV := Lib.hid q2
  have fo := q1.facts
  obtain ⟨Ao, no, rfl, _, _⟩ := q2.form
  clear g1 g2 hold hbody HG hex q1 q2 q4
  go_wp2_with fail
  refine (no_nil _).mono ?_; rintro e w' ⟨rfl, rfl⟩
  go_wp2_with fail
  refine (asame_ok aliveA _ _ _ (OV.out.upd0 ((Upd.refl [] _).alloc _)).rd (ow_lit (n := 7) (Blk.new w5 _ _) rfl rfl (by simp [maxLen])).rd (by simp [aliveA])).mono ?_
  rintro e w6 ⟨rfl, u6⟩
  have U6 : Hid (Upd [] w w6) := Lib.hid ((U5.out.alloc _).trans u6)
  clear u6
  go_wp2_with fail
  go_ret
  exact ⟨rfl, U6.out⟩
end Go.Proofs.YtkldpdldjalpeaaDoor

namespace Go.Proofs.YtkldpdldjalpeaaDoor
open Go.RowKit Th

theorem sgo_e {ans : List An} {B' : BS} {D : Nat} (hf : Fine ans) : SGo (fun l => ¬ Fine l) (JC 1 3) (GoodE ans B' D [(1, 1), (3, 2)]) :=
  ⟨fun x k h => goodE_step x k h, fun x i t a h ht hp hb => hb (by rw [goodE_bad h ht hp]; exact hf), fun x h => ⟨h.2.1 _ (by simp), h.2.1 _ (by simp)⟩⟩
/-- One list of calls, by one who runs alone. -/
theorem run1_ok {F : BFp} {B B' : BS} (kb g n : Nat) (cs : List Cl) (cv : Value) (ans : List An) (w : World) (hB : BSt w F B) (hcs : Ow ClE 31 w 0 cv cs) (hg : Blk w g 32 #[cv]) (hkb : Blk w kb 24 #[.int .u64 3]) (hkF : kb ∉ F.l) (hcF : ∀ b, cv.ownBlock = some b → b ∉ F.l) (hgF : g ∉ F.l)
    (hc : cs.length ≤ 10 ∧ ∀ x ∈ cs, OkC x) (hsz : ∀ q ∈ [(1, 1), (3, 2)], q ∈ B.sz) (hex : exec n (bodyT 1 3 cs []) B = some (ans, B')) (hf : Fine ans) :
    Calls Tryd.prog 9 #[.pointer (some ⟨F.b0, 0, none⟩), .int .u64 1, .slice (some ⟨kb, 0, none⟩) 1 1, .slice (some ⟨g, 0, none⟩) 1 1, .slice none 0 0] w fun e w' => ∃ av, e = .returned (.tuple #[av, .bool true]) ∧ RunP [ans] F B' kb 3 (callB kb [cv]) w av w' := by
  have hw := exec_whole (m := 500) hex (dep_body 1 3 cs []) (by omega) []
  have hcl := hcs.form
  obtain ⟨A, c, rfl, _, _⟩ := hcl
  have := run_ok (Good := GoodE ans B' (17 * cs.length) [(1, 1), (3, 2)]) 1 3 kb [cs] [.slice A cs.length c] [] [ans] (.slice (some ⟨g, 0, none⟩) 1 1) (.slice none 0 0) w hB
    ⟨.of_blk (m := 1) (s := 1) hg 1 rfl, rfl, fun i sv cs' h1 h2 => by
      cases i with
      | zero => simp at h1 h2; subst h1 h2; exact hcs
      | succ i => simp at h1⟩ (by simp) (by simpa using hc) hkb hkF (fun i sv h1 => by
      cases i with
      | zero => simp at h1; subst h1; exact hcF
      | succ i => simp at h1) (fun b hb => by simp [Value.ownBlock] at hb; subst hb; exact hgF) (fun W _ => ⟨by simp, none, 0, rfl, by simp⟩) (by simp) (sgo_e hf) (goodE_start hex (dep_body 1 3 cs []) hsz) rfl
    (fun i t ht => by
      rw [show ([cs].map fun cs => bodyT 1 3 cs []) = [bodyT 1 3 cs []] from rfl, show ([] : List Int).map (pickI [cs].length) = [] from rfl, hw] at ht
      cases i with
      | zero => simp at ht; exact ⟨ans, rfl, ht.symm⟩
      | succ i => simp at ht)
  rw [show ([cs].map fun cs => bodyT 1 3 cs []) = [bodyT 1 3 cs []] from rfl, show ([] : List Int).map (pickI [cs].length) = [] from rfl, hw] at this
  exact this
end Go.Proofs.YtkldpdldjalpeaaDoor

namespace Go.Proofs.YtkldpdldjalpeaaDoor.Th

/-- The scene's blocks with other words of clock, Meta and value. -/
def B1 (c w v : Int) : BS := ⟨6, [(1, 1), (3, 2)], [0, 3, c, 5, w, v] ++ List.replicate 294 0⟩
theorem b1_clock (c w v : Int) : (B1 c w v).ws.getD (1 + 1 + 0) 0 = c := rfl
theorem b1_meta (c w v : Int) : (B1 c w v).ws.getD (3 + 1 + 0) 0 = w := rfl
theorem b1_val (c w v : Int) : (B1 c w v).ws.getD (3 + 1 + 1) 0 = v := rfl
theorem b1_load_clock (c w v : Int) : ex (B1 c w v) (.load 1 0) = (⟨1, 1, 0, c, false⟩, B1 c w v) := rfl
theorem b1_load_meta (c w v : Int) : ex (B1 c w v) (.load 3 0) = (⟨1, 3, 0, w, false⟩, B1 c w v) := rfl
theorem b1_load_val (c w v : Int) : ex (B1 c w v) (.load 3 1) = (⟨1, 3, 1, v, false⟩, B1 c w v) := rfl
theorem b1_store_meta (c w v x : Int) : ex (B1 c w v) (.store 3 0 x) = (⟨2, 3, 0, x, false⟩, B1 c x v) := rfl
theorem b1_store_val (c w v x : Int) : ex (B1 c w v) (.store 3 1 x) = (⟨2, 3, 1, x, false⟩, B1 c w x) := rfl
theorem b1_cas_meta (c w v o x : Int) : ex (B1 c w v) (.cas 3 0 o x) = (⟨3, 3, 0, x, w == o⟩, if w = o then B1 c x v else B1 c w v) := by
  simp only [ex]
  rw [b1_meta]
  by_cases h : w = o <;> simp only [h, if_true, if_false] <;> rfl
theorem b1_cas_clock (c w v o x : Int) : ex (B1 c w v) (.cas 1 0 o x) = (⟨3, 1, 0, x, c == o⟩, if c = o then B1 x w v else B1 c w v) := by
  simp only [ex]
  rw [b1_clock]
  by_cases h : c = o <;> simp only [h, if_true, if_false] <;> rfl

/-- Who has locked it. -/
def wO : Option Nat → Int
  | none => 0
  | some j => pk ⟨0, j + 1, true, false⟩
def IO (m : Nat) (s : Option Nat) (B : BS) : Prop := B = B1 0 (wO s) 10 ∧ ∀ j, s = some j → j < m
def RO (i : Nat) (s s' : Option Nat) : Prop := s' = s ∨ (s = none ∧ ∃ j, j ≠ i ∧ s' = some j)
def QO (i : Nat) (l : List An) (s : Option Nat) : Prop := (l = [⟨0, 0, 0⟩] ∧ s = some i) ∨ (l = [⟨12, 0, 0⟩] ∧ ∃ j, j ≠ i ∧ s = some j)
theorem ro_ok : RelOk RO QO where
  refl i s := .inl rfl
  trans i s s' s'' h k := by
    rcases h with rfl | ⟨h, j, h1, rfl⟩
    · exact k
    · rcases k with rfl | ⟨k, _⟩
      · exact .inr ⟨h, j, h1, rfl⟩
      · cases k
  post i a s s' h q := by
    rcases h with rfl | ⟨rfl, _⟩
    · exact q
    · rcases q with ⟨_, e⟩ | ⟨_, j, _, e⟩ <;> cases e
theorem wO_some {j : Nat} (h : j < 4) : unp (wO (some j)) = ⟨0, j + 1, true, false⟩ ∧ wO (some j) ≠ 0 := by
  have h1 : unp (wO (some j)) = ⟨0, j + 1, true, false⟩ := unp_pk ⟨by simp, by simp, by simp only; omega, by simp only; omega⟩
  refine ⟨h1, fun e => ?_⟩
  unfold wO pk at e
  simp at e
  omega
def calO (i : Nat) : Cl := ⟨5, 0, 0, (i + 1 : Nat), 0⟩
def QA (i : Nat) (a : An) (s : Option Nat) : Prop := QO i [a] s
theorem turn_lost {m i j : Nat} (hm : m ≤ 4) (hj : j ≠ i) : ∀ n, Safe (IO m) RO i (QA i) (turnT 3 0 (lockTo ((i + 1 : Nat) : Int)) n) (some j)
  | 0 => .inr ⟨rfl, j, hj, rfl⟩
  | n + 1 => by
    intro s' hr B hB
    have : s' = some j := hr.elim id (fun e => by cases e.1)
    subst this
    obtain ⟨rfl, hl⟩ := hB
    refine ⟨some j, fun _ _ => .inl rfl, ⟨rfl, hl⟩, ?_⟩
    rw [b1_load_meta]
    have := (wO_some (Nat.lt_of_lt_of_le (hl j rfl) hm)).1
    simp only [this, true_or, if_true]
    exact .inr ⟨rfl, j, hj, rfl⟩
theorem turn_one {m i : Nat} (hm : m ≤ 4) (hi : i < m) (n : Nat) : Safe (IO m) RO i (QA i) (turnT 3 0 (lockTo ((i + 1 : Nat) : Int)) (n + 1)) none := by
  intro s' hr B hB
  rcases hr with rfl | ⟨_, j, hj, rfl⟩
  · obtain ⟨rfl, hl⟩ := hB
    refine ⟨none, fun _ _ => .inl rfl, ⟨rfl, hl⟩, ?_⟩
    rw [b1_load_meta]
    have h0 : unp (wO none) = ⟨0, 0, false, false⟩ := by decide
    have hne : ¬ (lockTo ((i + 1 : Nat) : Int) ⟨0, 0, false, false⟩ = ⟨0, 0, false, false⟩) := by simp [lockTo]
    simp only [h0, Bool.false_eq_true, ne_eq, not_true_eq_false, or_self, if_false, hne]
    intro s2 hr2 B2 hB2
    rcases hr2 with rfl | ⟨_, j, hj, rfl⟩
    · obtain ⟨rfl, hl⟩ := hB2
      have hp : pk ⟨0, 0, false, false⟩ = 0 := rfl
      refine ⟨some i, fun j hj => .inr ⟨rfl, i, fun e => hj e.symm, rfl⟩, ⟨?_, ?_⟩, ?_⟩
      · rw [b1_cas_meta, hp]
        simp only [show wO none = 0 from rfl, if_true]
        rfl
      · intro j e; injection e with e; omega
      · rw [b1_cas_meta, hp]
        exact .inl ⟨rfl, rfl⟩
    · obtain ⟨rfl, hl⟩ := hB2
      have hw := (wO_some (Nat.lt_of_lt_of_le (hl j rfl) hm)).2
      have hp : pk ⟨0, 0, false, false⟩ = 0 := rfl
      refine ⟨some j, fun _ _ => .inl rfl, ⟨?_, hl⟩, ?_⟩
      · rw [b1_cas_meta, hp, if_neg hw]
      · rw [b1_cas_meta, hp]
        have : (wO (some j) == 0) = false := by simpa using hw
        simp only [this, Bool.false_eq_true, if_false]
        exact turn_lost hm hj n
  · obtain ⟨rfl, hl⟩ := hB
    refine ⟨some j, fun _ _ => .inl rfl, ⟨rfl, hl⟩, ?_⟩
    rw [b1_load_meta]
    have := (wO_some (Nat.lt_of_lt_of_le (hl j rfl) hm)).1
    simp only [this, true_or, if_true]
    exact .inr ⟨rfl, j, hj, rfl⟩
theorem one_safe {m i : Nat} (hm : m ≤ 4) (hi : i < m) : Safe (IO m) RO i (QO i) (bodyT 1 3 [calO i] []) none := by
  unfold bodyT
  rw [if_neg (by simp [calO])]
  refine Safe.bind (Q := QA i) ?_ fun a s h => by
    by_cases e : a.err = 98
    · rw [if_pos e]; exact h
    · rw [if_neg e]; exact h
  exact turn_one hm hi 7
theorem qo_fine {i : Nat} {l : List An} {s : Option Nat} (h : QO i l s) : Fine l := by
  intro a ha
  rcases h with ⟨rfl, _⟩ | ⟨rfl, _⟩ <;> (simp at ha; subst ha; decide)
/-- All who lock it, in whichever order. -/
theorem one_whole {n : Nat} (hn : n ≤ 4) (hn2 : 2 ≤ n) (picks : List Nat) :
    ∃ (j : Nat), j < n ∧ wholeT 500 ((List.range n).map fun i => bodyT 1 3 [calO i] []) (B1 0 0 10) picks
      = ((List.range n).map (fun i => (⟨.ret [⟨if i = j then 0 else 12, 0, 0⟩], true⟩ : TS (List An))), B1 0 (pk ⟨0, j + 1, true, false⟩) 10) := by
  obtain ⟨as_, s, h1, h2, h3, h4⟩ := whole_safe (I := IO n) (Q := QO) (D := 17) ro_ok (n := 500) (by omega) (ps := (List.range n).map fun i => bodyT 1 3 [calO i] []) (B := B1 0 0 10) (s := none) ⟨rfl, by simp⟩ (by
    intro i p hp
    simp only [List.getElem?_map, Option.map_eq_some_iff] at hp
    obtain ⟨k, hk, rfl⟩ := hp
    have hlt := (List.getElem?_eq_some_iff.1 hk).1
    rw [List.length_range] at hlt
    rw [List.getElem?_range hlt] at hk
    injection hk with hk
    subst hk
    exact ⟨one_safe hn (by omega), dep_body 1 3 [calO i] []⟩) picks
  rw [List.length_map, List.length_range] at h2
  obtain ⟨h3, h5⟩ := h3
  have hget : ∀ i, i < n → ∃ a, as_[i]? = some a := fun i hi => ⟨as_[i], List.getElem?_eq_getElem (by omega)⟩
  have hs : ∃ j, s = some j := by
    obtain ⟨a, ha⟩ := hget 0 (by omega)
    rcases h4 0 a ha with ⟨_, e⟩ | ⟨_, j, _, e⟩
    · exact ⟨_, e⟩
    · exact ⟨_, e⟩
  obtain ⟨j, rfl⟩ := hs
  have hq : ∀ i a, as_[i]? = some a → a = [(⟨if i = j then 0 else 12, 0, 0⟩ : An)] := by
    intro i a ha
    rcases h4 i a ha with ⟨rfl, e⟩ | ⟨rfl, k, hk, e⟩
    · injection e with e; subst e; simp
    · injection e with e; subst e; rw [if_neg (fun e => hk e.symm)]
  have hj : j < n := h5 j rfl
  refine ⟨j, hj, ?_⟩
  have has : as_ = (List.range n).map (fun i => [(⟨if i = j then 0 else 12, 0, 0⟩ : An)]) := by
    apply List.ext_getElem?
    intro i
    by_cases hi : i < n
    · obtain ⟨a, ha⟩ := hget i hi
      rw [ha, List.getElem?_map, List.getElem?_range hi, hq i a ha]
      rfl
    · rw [List.getElem?_eq_none (by omega), List.getElem?_eq_none (by simp; omega)]
  rw [← show ((wholeT 500 ((List.range n).map fun i => bodyT 1 3 [calO i] []) (B1 0 0 10) picks).1, (wholeT 500 ((List.range n).map fun i => bodyT 1 3 [calO i] []) (B1 0 0 10) picks).2) = wholeT 500 ((List.range n).map fun i => bodyT 1 3 [calO i] []) (B1 0 0 10) picks from rfl, h1, h3, has, List.map_map]
  rfl
end Go.Proofs.YtkldpdldjalpeaaDoor.Th

namespace Go.Proofs.YtkldpdldjalpeaaDoor.Th

theorem exec_lock {c v : Int} {m : Mt} (hm : Fit m) (hc : m.ch = false) {o : Int} (ho : 0 ≤ o ∧ o < 256) : exec 17 (turnT 3 m.ver (lockTo o) 8) (B1 c (pk m) v) = some (⟨0, 0, 0⟩, B1 c (pk (lockTo o m)) v) := by
  have hf : Fit (lockTo o m) := ⟨hm.1, hm.2.1, ho.1, ho.2⟩
  have hne : lockTo o m ≠ m := fun e => by have := congrArg Mt.ch e; rw [hc] at this; cases this
  unfold turnT
  rw [exec_acc, b1_load_meta]
  simp only [unp_pk hm, hc, Bool.false_eq_true, ne_eq, not_true, or_self, if_false, if_neg hne]
  rw [exec_acc, b1_cas_meta]
  simp only [if_true, beq_self_eq_true]
  exact exec_ret _ _ _
theorem exec_wait {c v : Int} {m : Mt} (hm : Fit m) (hc : m.ch = false) (hw : m.wt = false) : exec 17 (turnT 3 m.ver waitTo 8) (B1 c (pk m) v) = some (⟨0, 0, 0⟩, B1 c (pk (waitTo m)) v) := by
  have hne : waitTo m ≠ m := fun e => by have := congrArg Mt.wt e; rw [hw] at this; cases this
  unfold turnT
  rw [exec_acc, b1_load_meta]
  simp only [unp_pk hm, hc, Bool.false_eq_true, ne_eq, not_true, or_self, if_false, if_neg hne]
  rw [exec_acc, b1_cas_meta]
  simp only [if_true, beq_self_eq_true]
  exact exec_ret _ _ _
theorem exec_turn_no {c v : Int} {m : Mt} (hm : Fit m) (n : Int) (tf : Mt → Mt) (h : m.ch = true ∨ m.ver ≠ n) : exec 17 (turnT 3 n tf 8) (B1 c (pk m) v) = some (⟨12, 0, 0⟩, B1 c (pk m) v) := by
  unfold turnT
  rw [exec_acc, b1_load_meta]
  simp only [unp_pk hm]
  rw [if_pos h]
  exact exec_ret _ _ _
theorem exec_commit {c v : Int} {m : Mt} (hm : Fit m) (hc : m.ch = true) (val ver : Int) : exec 17 (commitT 3 val ver) (B1 c (pk m) v) = some (⟨0, 0, if m.wt = true then 1 else 0⟩, B1 c (pk ⟨ver, 0, false, false⟩) val) := by
  unfold commitT
  rw [exec_acc, b1_load_meta]
  simp only [unp_pk hm, hc, Bool.true_eq_false, if_false]
  rw [exec_acc, b1_store_val, exec_acc, b1_store_meta]
  exact exec_ret _ _ _
theorem exec_rel {c v : Int} {m : Mt} (hm : Fit m) (hc : m.ch = true) : exec 17 (relT 3) (B1 c (pk m) v) = some (⟨0, 0, 0⟩, B1 c (pk ⟨m.ver, 0, false, m.wt⟩) v) := by
  unfold relT
  rw [exec_acc, b1_load_meta]
  simp only [unp_pk hm, hc, Bool.true_eq_false, if_false]
  rw [exec_acc, b1_store_meta]
  exact exec_ret _ _ _
theorem exec_rel_no {c v : Int} {m : Mt} (hm : Fit m) (hc : m.ch = false) : exec 17 (relT 3) (B1 c (pk m) v) = some (⟨2, 0, 0⟩, B1 c (pk m) v) := by
  unfold relT
  rw [exec_acc, b1_load_meta]
  simp only [unp_pk hm, hc, if_true]
  exact exec_ret _ _ _
theorem exec_read {c v : Int} {m : Mt} (hm : Fit m) (hc : m.ch = false) : exec 17 (readT 3) (B1 c (pk m) v) = some (⟨0, v, m.ver⟩, B1 c (pk m) v) := by
  unfold readT
  rw [exec_acc, b1_load_meta]
  unfold readL
  simp only [unp_pk hm, hc, Bool.false_eq_true, if_false]
  rw [exec_acc, b1_load_val, exec_acc, b1_load_meta]
  simp only [if_true]
  exact exec_ret _ _ _
theorem exec_now {c w v : Int} : exec 17 (nowT 1) (B1 c w v) = some (⟨0, 0, s64 c⟩, B1 c w v) := by
  unfold nowT
  rw [exec_acc, b1_load_clock]
  exact exec_ret _ _ _
/-- One more call. -/
theorem exec_cons {x : Cl} {r : List Cl} {l : List An} {a : An} {B B1 : BS} {k : Nat} {res : List An × BS} (hk : x.kind ≠ 9) (h : exec 17 (ansT 1 3 x) B = some (a, B1)) (ha : a.err ≠ 98) (h2 : exec k (bodyT 1 3 r (l ++ [a])) B1 = some res) : exec (17 + k) (bodyT 1 3 (x :: r) l) B = some res := by
  unfold bodyT
  rw [if_neg (fun e => hk e.1)]
  refine exec_bind 17 k h ?_
  rw [if_neg ha]
  exact h2
theorem exec_nil {l : List An} {B : BS} : exec 0 (bodyT 1 3 [] l) B = some (l, B) := rfl
/-- Who waits is told of; a release keeps that. -/
def waitsC (val ver : Int) (ws rl : Bool) : List Cl := (if ws then [⟨8, 0, 0, 0, 0⟩] else []) ++ (if rl then [⟨5, 0, 0, 1, 0⟩, ⟨8, 0, 0, 0, 0⟩, ⟨7, 0, 0, 0, 0⟩] else []) ++ [⟨5, 0, 0, 1, 0⟩, ⟨6, 0, ver, 0, val⟩, ⟨3, 0, 0, 0, 0⟩, ⟨5, 0, ver, 0, 0⟩, ⟨6, 0, ver + 1, 0, val⟩]
def waitsA (val ver : Int) (ws rl : Bool) : List An := (if ws then [⟨0, 0, 0⟩] else []) ++ (if rl then [⟨0, 0, 0⟩, ⟨12, 0, 0⟩, ⟨0, 0, 0⟩] else []) ++ [⟨0, 0, 0⟩, ⟨0, 0, if ws then 1 else 0⟩, ⟨0, val, ver⟩, ⟨0, 0, 0⟩, ⟨0, 0, 0⟩]
theorem waits_tail {c v val ver : Int} {ws : Bool} (hv : 1 ≤ ver ∧ ver ≤ 1000) (l : List An) : exec (17 + (17 + (17 + (17 + (17 + 0))))) (bodyT 1 3 [⟨5, 0, 0, 1, 0⟩, ⟨6, 0, ver, 0, val⟩, ⟨3, 0, 0, 0, 0⟩, ⟨5, 0, ver, 0, 0⟩, ⟨6, 0, ver + 1, 0, val⟩] l) (B1 c (pk ⟨0, 0, false, ws⟩) v)
    = some (l ++ [⟨0, 0, 0⟩] ++ [⟨0, 0, if ws then 1 else 0⟩] ++ [⟨0, val, ver⟩] ++ [⟨0, 0, 0⟩] ++ [⟨0, 0, 0⟩], B1 c (pk ⟨ver + 1, 0, false, false⟩) val) := by
  have f0 : Fit ⟨0, 0, false, ws⟩ := ⟨by simp, by simp, by simp, by simp⟩
  have f1 : Fit (lockTo 1 ⟨0, 0, false, ws⟩) := ⟨by simp [lockTo], by simp [lockTo], by simp [lockTo], by simp [lockTo]⟩
  have f2 : Fit ⟨ver, 0, false, false⟩ := ⟨by simp; omega, by simp; omega, by simp, by simp⟩
  have f3 : Fit (lockTo 0 ⟨ver, 0, false, false⟩) := ⟨by simp [lockTo]; omega, by simp [lockTo]; omega, by simp [lockTo], by simp [lockTo]⟩
  refine exec_cons (by simp) (exec_lock f0 rfl (by simp)) (by simp) ?_
  refine exec_cons (by simp) (exec_commit f1 rfl val ver) (by simp) ?_
  refine exec_cons (by simp) (exec_read f2 rfl) (by simp) ?_
  refine exec_cons (by simp) (exec_lock f2 rfl (by simp)) (by simp) ?_
  refine exec_cons (by simp) (exec_commit f3 rfl val (ver + 1)) (by simp) ?_
  exact exec_nil
theorem waits_exec {val ver : Int} (hv : 1 ≤ ver ∧ ver ≤ 1000) (ws rl : Bool) : ∃ n B', exec n (bodyT 1 3 (waitsC val ver ws rl) []) (B1 0 0 10) = some (waitsA val ver ws rl, B') := by
  have f0 : Fit ⟨0, 0, false, false⟩ := ⟨by simp, by simp, by simp, by simp⟩
  have f1 : ∀ ws, Fit ⟨0, 0, false, ws⟩ := fun ws => ⟨by simp, by simp, by simp, by simp⟩
  have f2 : ∀ ws, Fit (lockTo 1 ⟨0, 0, false, ws⟩) := fun ws => ⟨by simp [lockTo], by simp [lockTo], by simp [lockTo], by simp [lockTo]⟩
  have hz : B1 0 0 10 = B1 0 (pk ⟨0, 0, false, false⟩) 10 := rfl
  rw [hz]
  have mid : ∀ (ws : Bool) (l : List An), exec (17 + (17 + (17 + (17 + (17 + (17 + (17 + (17 + 0)))))))) (bodyT 1 3 ([⟨5, 0, 0, 1, 0⟩, ⟨8, 0, 0, 0, 0⟩, ⟨7, 0, 0, 0, 0⟩] ++ [⟨5, 0, 0, 1, 0⟩, ⟨6, 0, ver, 0, val⟩, ⟨3, 0, 0, 0, 0⟩, ⟨5, 0, ver, 0, 0⟩, ⟨6, 0, ver + 1, 0, val⟩]) l) (B1 0 (pk ⟨0, 0, false, ws⟩) 10)
      = some (l ++ [⟨0, 0, 0⟩] ++ [⟨12, 0, 0⟩] ++ [⟨0, 0, 0⟩] ++ [⟨0, 0, 0⟩] ++ [⟨0, 0, if ws then 1 else 0⟩] ++ [⟨0, val, ver⟩] ++ [⟨0, 0, 0⟩] ++ [⟨0, 0, 0⟩], B1 0 (pk ⟨ver + 1, 0, false, false⟩) val) := fun ws l => by
    refine exec_cons (by simp) (exec_lock (f1 ws) rfl (by simp)) (by simp) ?_
    refine exec_cons (by simp) (exec_turn_no (f2 ws) 0 waitTo (.inl rfl)) (by simp) ?_
    refine exec_cons (by simp) (exec_rel (f2 ws) rfl) (by simp) ?_
    exact waits_tail hv _
  have fst : ∀ (r : List Cl) (k : Nat) (res : List An × BS), exec k (bodyT 1 3 r [⟨0, 0, 0⟩]) (B1 0 (pk ⟨0, 0, false, true⟩) 10) = some res → exec (17 + k) (bodyT 1 3 (⟨8, 0, 0, 0, 0⟩ :: r) []) (B1 0 (pk ⟨0, 0, false, false⟩) 10) = some res := fun r k res h =>
    exec_cons (by simp) (exec_wait f0 rfl rfl) (by simp) h
  cases ws <;> cases rl
  · exact ⟨_, _, waits_tail hv []⟩
  · exact ⟨_, _, mid false []⟩
  · exact ⟨_, _, fst _ _ _ (waits_tail hv _)⟩
  · exact ⟨_, _, fst _ _ _ (mid true _)⟩
end Go.Proofs.YtkldpdldjalpeaaDoor.Th

namespace Go.Proofs.YtkldpdldjalpeaaDoor
open Go.RowKit Th
attribute [local go_sem] litStep_value

theorem call_elem : Elem Tryd.prog 32 31 5 40 := .mk' (z := ((Tryd.prog.info? 31).bind (·.zero)).getD undef) Tryd.underlying32 (by kernel_rfl) (by kernel_rfl) (by omega)
/-- Calls and wanted answers, while they are laid. -/
structure Two (w1 wr : World) (cv av : Value) (L : List Cl) (M : List An) : Prop where
  cs : Ow ClE 31 wr w1.heap.size cv L
  an : Ow AnE 38 wr w1.heap.size av M
  up : Upd [] w1 wr
theorem Two.upd0 {w1 wr w2 : World} {cv av : Value} {L : List Cl} {M : List An} (h : Two w1 wr cv av L M) (hu : Upd [] wr w2) : Two w1 w2 cv av L M := ⟨h.cs.upd0 hu, h.an.upd0 hu, h.up.trans hu⟩
theorem Two.addC {w1 W w5 : World} {cv av v5 : Value} {L : List Cl} {M : List An} (h : Two w1 W cv av L M) (X : List Cl) {m : Nat} {lit : List Value} (o5 : w5.ownsRow w1.heap.size 31 5 v5 (L.length + m) (flat ClE L ++ lit)) (u5 : Upd cv.ownBlock.toList W w5) (hl : lit = flat ClE X) (hm : X.length = m) : Two w1 w5 v5 av (L ++ X) M := by
  refine ⟨?_, h.an.upd u5 (fun b hb hmm => own_apart h.cs h.an (by decide) (b := b) (by simpa using hmm) hb), h.up.trans' u5 (fun x hx => .inr (own_lt h.cs (b := x) (by simpa using hx)).1)⟩
  unfold Ow
  rw [flat_append, List.length_append, hm, ← hl]
  exact o5
theorem Two.addA {w1 W w5 : World} {cv av v5 : Value} {L : List Cl} {M : List An} (h : Two w1 W cv av L M) (X : List An) {m : Nat} {lit : List Value} (o5 : w5.ownsRow w1.heap.size 38 3 v5 (M.length + m) (flat AnE M ++ lit)) (u5 : Upd av.ownBlock.toList W w5) (hl : lit = flat AnE X) (hm : X.length = m) : Two w1 w5 cv v5 L (M ++ X) := by
  refine ⟨h.cs.upd u5 (fun b hb hmm => own_apart h.cs h.an (by decide) (b := b) hb (by simpa using hmm)), ?_, h.up.trans' u5 (fun x hx => .inr (own_lt h.an (b := x) (by simpa using hx)).1)⟩
  unfold Ow
  rw [flat_append, List.length_append, hm, ← hl]
  exact o5
theorem waits_ok {val ver : Int} (hval : 0 ≤ val ∧ val < 18446744073709551616) (hv : 1 ≤ ver ∧ ver ≤ 1000) (ws rl : Bool) : (waitsC val ver ws rl).length ≤ 10 ∧ ∀ x ∈ waitsC val ver ws rl, OkC x := by
  cases ws <;> cases rl <;> simp [waitsC, OkC] <;> omega
theorem waits_fine (val ver : Int) (ws rl : Bool) : Fine (waitsA val ver ws rl) := by
  cases ws <;> cases rl <;> simp [waitsA, Fine]
theorem waits_len (val ver : Int) (ws rl : Bool) : (waitsA val ver ws rl).length ≤ 1000 := by
  cases ws <;> cases rl <;> simp [waitsA]
set_option maxRecDepth 20000 in
set_option maxHeartbeats 4000000 in
theorem law_waits (val ver : Int) (ws rl : Bool) (w : World) (hval : 0 ≤ val ∧ val ≤ 18446744073709551615) :
    Calls Tryd.prog 6 #[.int .u64 val, .int .i64 ver, .bool ws, .bool rl] w fun e w' => e = .returned (.bool true) ∧ Upd [] w w' := by
  have hr : -1000 < ver.tmod 1000 ∧ ver.tmod 1000 < 1000 := ⟨Int.lt_tmod_of_pos ver (by omega), Int.tmod_lt_of_pos ver (by omega)⟩
  have HV : Hid (0 ≤ val ∧ val < 18446744073709551616) := Lib.hid (by omega)
  clear hval
  go_enter Tryd.func6, Tryd.ntmps6
  go_wp2_with fail
  refine (scene_ok 1 (by omega) w).mono ?_
  rintro e w1 ⟨F, kb, rfl, h1, h2, h3, h4, h5, h6⟩
  have H1 := Lib.hid h1
  have H2 : Hid (Blk w1 kb 24 #[.int .u64 3]) := Lib.hid h2
  have H3 := Lib.hid h3
  have H4 : Hid ((∀ x ∈ F.l, w.heap.size ≤ x) ∧ w.heap.size ≤ kb ∧ kb ∉ F.l) := Lib.hid ⟨h4, h5, h6⟩
  clear h1 h2 h3 h4 h5 h6 hr
  have hv0 : 1 ≤ 1 + ver.tmod 1000 % 1000 ∧ 1 + ver.tmod 1000 % 1000 ≤ 1000 := by omega
  generalize 1 + ver.tmod 1000 % 1000 = v at hv0 ⊢
  have HR := Lib.hid hv0
  go_upto_region 8 with fail
  obtain ⟨wa, hwa⟩ : ∃ wa, wa = w1.alloc (Obj.cells #[] 38) := ⟨_, rfl⟩
  have TA : Hid (Two w1 wa (.slice none 0 0) (.slice (some ⟨w1.heap.size, 0, none⟩) 0 0) [] []) := Lib.hid (by
    rw [hwa]
    exact ⟨Ow.nil _ _ _ _, own_made 3 (Blk.new _ _ _) (Nat.le_refl _), (Upd.refl _ _).alloc _⟩)
  rw [← hwa]
  clear hwa
  cases ws with
  | false =>
    cases rl with
    | false =>
      go_wp2_with (at_builtin; refine stoppedM ?_)
      refine Lib.hid ?_
      refine wpList_app _ (by rfl) (.tmp 52) (.tmp 64) _ (by rfl) call_elem _ _ (by rfl) (by rfl) (TA.out.upd0 ((Upd.refl [] wa).alloc _)).cs (.of_blk (Blk.new wa _ _) (m := 5) 5 rfl) (flat_cells (E := ClE) (L := [⟨5, 0, 0, 1, 0⟩, ⟨6, 0, v, 0, val⟩, ⟨3, 0, 0, 0, 0⟩, ⟨5, 0, v, 0, 0⟩, ⟨6, 0, v + 1, 0, val⟩])) (by simp [maxLen]) (by simp) (Nat.le_trans TA.out.up.size (by simp)) ?_
      intro cv wc o5 u5 b5
      have TC := Lib.hid ((TA.out.upd0 ((Upd.refl [] wa).alloc _)).addC [⟨5, 0, 0, 1, 0⟩, ⟨6, 0, v, 0, val⟩, ⟨3, 0, 0, 0, 0⟩, ⟨5, 0, v, 0, 0⟩, ⟨6, 0, v + 1, 0, val⟩] o5 u5 rfl rfl)
      clear o5 u5 b5
      go_wp2_with (at_builtin; refine stoppedM ?_)
      refine Lib.hid ?_
      refine wpList_app _ (by rfl) (.tmp 66) (.tmp 75) _ (by rfl) ans_elem _ _ (by rfl) (by rfl) (TC.out.upd0 ((Upd.refl [] wc).alloc _)).an (.of_blk (Blk.new wc _ _) (m := 5) 5 rfl) (flat_cells (E := AnE) (L := [⟨0, 0, 0⟩, ⟨0, 0, 0⟩, ⟨0, val, v⟩, ⟨0, 0, 0⟩, ⟨0, 0, 0⟩])) (by simp [maxLen]) (by simp) (Nat.le_trans TC.out.up.size (by simp)) ?_
      intro av wd o5 u5 b5
      have TD0 := Lib.hid ((TC.out.upd0 ((Upd.refl [] wc).alloc _)).addA [⟨0, 0, 0⟩, ⟨0, 0, 0⟩, ⟨0, val, v⟩, ⟨0, 0, 0⟩, ⟨0, 0, 0⟩] o5 u5 rfl rfl)
      clear o5 u5 b5
      have TDD : Hid (Two w1 wd cv av (waitsC val v false false) (waitsA val v false false)) := Lib.hid TD0.out
      obtain ⟨Ac, nc, rfl, _, _⟩ := TDD.out.cs.form
      obtain ⟨n, B', hex⟩ := waits_exec (val := val) HR.out false false
      have HX := Lib.hid hex
      clear TD0 TC hex
      go_wp2_with fail
      have hul : Upd [] wd (wd.alloc (Obj.cells #[.slice Ac (waitsC val v false false).length nc] 32)) := (Upd.refl _ _).alloc _
      have hFl : ∀ x ∈ F.l, x < w1.heap.size := H1.out.lt
      refine (run1_ok kb wd.heap.size n _ _ _ _ (H1.out.upd (TDD.out.up.trans hul) (by simp)) (own_base (TDD.out.cs.upd0 hul) (Nat.zero_le _)) (Blk.new wd _ _) (H2.out.upd (TDD.out.up.trans hul) (by simp)) H4.out.2.2 (fun b hb hm => by have := (own_lt TDD.out.cs hb).1; have := hFl b hm; omega) (fun hm => by have := hFl _ hm; have := TDD.out.up.size; omega) (waits_ok HV.out HR.out false false) (by simp [BN]) HX.out (waits_fine val v false false)).mono ?_
      rintro e we ⟨rv, rfl, F', vs, q1, q2, q3, q4, q5, q6, q7, q8, q9⟩
      obtain ⟨v0, rfl⟩ : ∃ v0, vs = [v0] := by
        match vs, q8 with
        | [v0], _ => exact ⟨v0, rfl⟩
      have hwn : ∀ b, av.ownBlock = some b → b ∉ F.l ++ callB kb [.slice Ac (waitsC val v false false).length nc] := fun b hb hm => by
        have h1 := own_lt TDD.out.an hb
        simp only [callB, List.mem_append, List.mem_cons, List.flatMap_cons, List.flatMap_nil, List.append_nil] at hm
        rcases hm with hm | rfl | hm
        · have := hFl b hm; omega
        · exact own_type TDD.out.an (H2.out.upd TDD.out.up (by simp)) (by decide) hb
        · exact own_apart TDD.out.cs TDD.out.an (by decide) (b := b) (by simpa using hm) hb
      have WE := Lib.hid ((TDD.out.an.upd0 hul).upd q3 hwn).rd
      have VE := Lib.hid (q9 0 v0 _ rfl rfl).rd
      have UE : Hid (Upd [] w we) := Lib.hid ((H3.out.trans (TDD.out.up.trans hul)).trans' q3 (fun x hx => .inr (by
        have hsz := H3.out.size
        simp only [callB, List.mem_append, List.mem_cons, List.flatMap_cons, List.flatMap_nil, List.append_nil] at hx
        rcases hx with hx | rfl | hx
        · exact H4.out.1 x hx
        · exact H4.out.2.1
        · have := (own_lt TDD.out.cs (b := x) (by simpa using hx)).1; omega)))
      obtain ⟨g0, c0, rfl⟩ : ∃ g cap, rv = .slice (some ⟨g, 0, none⟩) 1 cap := by
        obtain ⟨g, cap, _, e, _⟩ := own_form q7 (by simp)
        exact ⟨g, cap, e⟩
      have c0 : we.cell? ⟨g0, 0, none⟩ = some v0 := own_cell q7 0 v0 rfl
      have g0l : g0 < we.heap.size := (own_lt q7 (b := g0) rfl).2
      clear q1 q2 q3 q4 q5 q6 q7 q8 q9 hul hFl hwn
      go_wp2_with fail
      refine (asame_ok _ _ _ _ VE.out WE.out (waits_len val v false false)).mono ?_
      rintro e wf ⟨rfl, uf⟩
      have UF := Lib.hid (UE.out.trans uf)
      clear uf
      go_wp2_with fail
      refine (malive_ok wf).mono ?_
      rintro e wg ⟨rfl, ug⟩
      have UG := Lib.hid (UF.out.trans ug)
      clear ug
      go_wp2_with fail
      go_ret
      exact ⟨rfl, UG.out⟩
    | true =>
      go_wp2_with (at_builtin; refine stoppedM ?_)
      refine Lib.hid ?_
      refine wpList_app _ (by rfl) (.tmp 40) (.tmp 44) _ (by rfl) call_elem _ _ (by rfl) (by rfl) (TA.out.upd0 ((Upd.refl [] wa).alloc _)).cs (.of_blk (Blk.new wa _ _) (m := 3) 3 rfl) (flat_cells (E := ClE) (L := [⟨5, 0, 0, 1, 0⟩, ⟨8, 0, 0, 0, 0⟩, ⟨7, 0, 0, 0, 0⟩])) (by simp [maxLen]) (by simp) (Nat.le_trans TA.out.up.size (by simp)) ?_
      intro cr wp o5 u5 b5
      have TP := Lib.hid ((TA.out.upd0 ((Upd.refl [] wa).alloc _)).addC [⟨5, 0, 0, 1, 0⟩, ⟨8, 0, 0, 0, 0⟩, ⟨7, 0, 0, 0, 0⟩] o5 u5 rfl rfl)
      clear o5 u5 b5
      go_wp2_with (at_builtin; refine stoppedM ?_)
      refine Lib.hid ?_
      refine wpList_app _ (by rfl) (.tmp 46) (.tmp 50) _ (by rfl) ans_elem _ _ (by rfl) (by rfl) (TP.out.upd0 ((Upd.refl [] wp).alloc _)).an (.of_blk (Blk.new wp _ _) (m := 3) 3 rfl) (flat_cells (E := AnE) (L := [⟨0, 0, 0⟩, ⟨12, 0, 0⟩, ⟨0, 0, 0⟩])) (by simp [maxLen]) (by simp) (Nat.le_trans TP.out.up.size (by simp)) ?_
      intro ar wq o5 u5 b5
      have TQ := Lib.hid ((TP.out.upd0 ((Upd.refl [] wp).alloc _)).addA [⟨0, 0, 0⟩, ⟨12, 0, 0⟩, ⟨0, 0, 0⟩] o5 u5 rfl rfl)
      clear o5 u5 b5
      clear TP
      go_wp2_with (at_builtin; refine stoppedM ?_)
      refine Lib.hid ?_
      refine wpList_app _ (by rfl) (.tmp 52) (.tmp 64) _ (by rfl) call_elem _ _ (by rfl) (by rfl) (TQ.out.upd0 ((Upd.refl [] wq).alloc _)).cs (.of_blk (Blk.new wq _ _) (m := 5) 5 rfl) (flat_cells (E := ClE) (L := [⟨5, 0, 0, 1, 0⟩, ⟨6, 0, v, 0, val⟩, ⟨3, 0, 0, 0, 0⟩, ⟨5, 0, v, 0, 0⟩, ⟨6, 0, v + 1, 0, val⟩])) (by simp [maxLen]) (by simp) (Nat.le_trans TQ.out.up.size (by simp)) ?_
      intro cv wc o5 u5 b5
      have TC := Lib.hid ((TQ.out.upd0 ((Upd.refl [] wq).alloc _)).addC [⟨5, 0, 0, 1, 0⟩, ⟨6, 0, v, 0, val⟩, ⟨3, 0, 0, 0, 0⟩, ⟨5, 0, v, 0, 0⟩, ⟨6, 0, v + 1, 0, val⟩] o5 u5 rfl rfl)
      clear o5 u5 b5
      go_wp2_with (at_builtin; refine stoppedM ?_)
      refine Lib.hid ?_
      refine wpList_app _ (by rfl) (.tmp 66) (.tmp 75) _ (by rfl) ans_elem _ _ (by rfl) (by rfl) (TC.out.upd0 ((Upd.refl [] wc).alloc _)).an (.of_blk (Blk.new wc _ _) (m := 5) 5 rfl) (flat_cells (E := AnE) (L := [⟨0, 0, 0⟩, ⟨0, 0, 0⟩, ⟨0, val, v⟩, ⟨0, 0, 0⟩, ⟨0, 0, 0⟩])) (by simp [maxLen]) (by simp) (Nat.le_trans TC.out.up.size (by simp)) ?_
      intro av wd o5 u5 b5
      have TD0 := Lib.hid ((TC.out.upd0 ((Upd.refl [] wc).alloc _)).addA [⟨0, 0, 0⟩, ⟨0, 0, 0⟩, ⟨0, val, v⟩, ⟨0, 0, 0⟩, ⟨0, 0, 0⟩] o5 u5 rfl rfl)
      clear o5 u5 b5
      have TDD : Hid (Two w1 wd cv av (waitsC val v false true) (waitsA val v false true)) := Lib.hid TD0.out
      obtain ⟨Ac, nc, rfl, _, _⟩ := TDD.out.cs.form
      obtain ⟨n, B', hex⟩ := waits_exec (val := val) HR.out false true
      have HX := Lib.hid hex
      clear TD0 TC hex
      go_wp2_with fail
      have hul : Upd [] wd (wd.alloc (Obj.cells #[.slice Ac (waitsC val v false true).length nc] 32)) := (Upd.refl _ _).alloc _
      have hFl : ∀ x ∈ F.l, x < w1.heap.size := H1.out.lt
      refine (run1_ok kb wd.heap.size n _ _ _ _ (H1.out.upd (TDD.out.up.trans hul) (by simp)) (own_base (TDD.out.cs.upd0 hul) (Nat.zero_le _)) (Blk.new wd _ _) (H2.out.upd (TDD.out.up.trans hul) (by simp)) H4.out.2.2 (fun b hb hm => by have := (own_lt TDD.out.cs hb).1; have := hFl b hm; omega) (fun hm => by have := hFl _ hm; have := TDD.out.up.size; omega) (waits_ok HV.out HR.out false true) (by simp [BN]) HX.out (waits_fine val v false true)).mono ?_
      rintro e we ⟨rv, rfl, F', vs, q1, q2, q3, q4, q5, q6, q7, q8, q9⟩
      obtain ⟨v0, rfl⟩ : ∃ v0, vs = [v0] := by
        match vs, q8 with
        | [v0], _ => exact ⟨v0, rfl⟩
      have hwn : ∀ b, av.ownBlock = some b → b ∉ F.l ++ callB kb [.slice Ac (waitsC val v false true).length nc] := fun b hb hm => by
        have h1 := own_lt TDD.out.an hb
        simp only [callB, List.mem_append, List.mem_cons, List.flatMap_cons, List.flatMap_nil, List.append_nil] at hm
        rcases hm with hm | rfl | hm
        · have := hFl b hm; omega
        · exact own_type TDD.out.an (H2.out.upd TDD.out.up (by simp)) (by decide) hb
        · exact own_apart TDD.out.cs TDD.out.an (by decide) (b := b) (by simpa using hm) hb
      have WE := Lib.hid ((TDD.out.an.upd0 hul).upd q3 hwn).rd
      have VE := Lib.hid (q9 0 v0 _ rfl rfl).rd
      have UE : Hid (Upd [] w we) := Lib.hid ((H3.out.trans (TDD.out.up.trans hul)).trans' q3 (fun x hx => .inr (by
        have hsz := H3.out.size
        simp only [callB, List.mem_append, List.mem_cons, List.flatMap_cons, List.flatMap_nil, List.append_nil] at hx
        rcases hx with hx | rfl | hx
        · exact H4.out.1 x hx
        · exact H4.out.2.1
        · have := (own_lt TDD.out.cs (b := x) (by simpa using hx)).1; omega)))
      obtain ⟨g0, c0, rfl⟩ : ∃ g cap, rv = .slice (some ⟨g, 0, none⟩) 1 cap := by
        obtain ⟨g, cap, _, e, _⟩ := own_form q7 (by simp)
        exact ⟨g, cap, e⟩
      have c0 : we.cell? ⟨g0, 0, none⟩ = some v0 := own_cell q7 0 v0 rfl
      have g0l : g0 < we.heap.size := (own_lt q7 (b := g0) rfl).2
      clear q1 q2 q3 q4 q5 q6 q7 q8 q9 hul hFl hwn
      go_wp2_with fail
      refine (asame_ok _ _ _ _ VE.out WE.out (waits_len val v false true)).mono ?_
      rintro e wf ⟨rfl, uf⟩
      have UF := Lib.hid (UE.out.trans uf)
      clear uf
      go_wp2_with fail
      refine (malive_ok wf).mono ?_
      rintro e wg ⟨rfl, ug⟩
      have UG := Lib.hid (UF.out.trans ug)
      clear ug
      go_wp2_with fail
      go_ret
      exact ⟨rfl, UG.out⟩
  | true =>
    go_wp2_with (at_builtin; refine stoppedM ?_)
    refine Lib.hid ?_
    refine wpList_app _ (by rfl) (.tmp 31) (.tmp 33) _ (by rfl) call_elem _ _ (by rfl) (by rfl) (TA.out.upd0 ((Upd.refl [] wa).alloc _)).cs (.of_blk (Blk.new wa _ _) (m := 1) 1 rfl) (flat_cells (E := ClE) (L := [⟨8, 0, 0, 0, 0⟩])) (by simp [maxLen]) (by simp) (Nat.le_trans TA.out.up.size (by simp)) ?_
    intro cw wu o5 u5 b5
    have TU := Lib.hid ((TA.out.upd0 ((Upd.refl [] wa).alloc _)).addC [⟨8, 0, 0, 0, 0⟩] o5 u5 rfl rfl)
    clear o5 u5 b5
    go_wp2_with (at_builtin; refine stoppedM ?_)
    refine Lib.hid ?_
    refine wpList_app _ (by rfl) (.tmp 35) (.tmp 37) _ (by rfl) ans_elem _ _ (by rfl) (by rfl) (TU.out.upd0 ((Upd.refl [] wu).alloc _)).an (.of_blk (Blk.new wu _ _) (m := 1) 1 rfl) (flat_cells (E := AnE) (L := [⟨0, 0, 0⟩])) (by simp [maxLen]) (by simp) (Nat.le_trans TU.out.up.size (by simp)) ?_
    intro aw wv o5 u5 b5
    have TV := Lib.hid ((TU.out.upd0 ((Upd.refl [] wu).alloc _)).addA [⟨0, 0, 0⟩] o5 u5 rfl rfl)
    clear o5 u5 b5
    clear TA TU
    cases rl with
    | false =>
      go_wp2_with (at_builtin; refine stoppedM ?_)
      refine Lib.hid ?_
      refine wpList_app _ (by rfl) (.tmp 52) (.tmp 64) _ (by rfl) call_elem _ _ (by rfl) (by rfl) (TV.out.upd0 ((Upd.refl [] wv).alloc _)).cs (.of_blk (Blk.new wv _ _) (m := 5) 5 rfl) (flat_cells (E := ClE) (L := [⟨5, 0, 0, 1, 0⟩, ⟨6, 0, v, 0, val⟩, ⟨3, 0, 0, 0, 0⟩, ⟨5, 0, v, 0, 0⟩, ⟨6, 0, v + 1, 0, val⟩])) (by simp [maxLen]) (by simp) (Nat.le_trans TV.out.up.size (by simp)) ?_
      intro cv wc o5 u5 b5
      have TC := Lib.hid ((TV.out.upd0 ((Upd.refl [] wv).alloc _)).addC [⟨5, 0, 0, 1, 0⟩, ⟨6, 0, v, 0, val⟩, ⟨3, 0, 0, 0, 0⟩, ⟨5, 0, v, 0, 0⟩, ⟨6, 0, v + 1, 0, val⟩] o5 u5 rfl rfl)
      clear o5 u5 b5
      go_wp2_with (at_builtin; refine stoppedM ?_)
      refine Lib.hid ?_
      refine wpList_app _ (by rfl) (.tmp 66) (.tmp 75) _ (by rfl) ans_elem _ _ (by rfl) (by rfl) (TC.out.upd0 ((Upd.refl [] wc).alloc _)).an (.of_blk (Blk.new wc _ _) (m := 5) 5 rfl) (flat_cells (E := AnE) (L := [⟨0, 0, 0⟩, ⟨0, 0, 1⟩, ⟨0, val, v⟩, ⟨0, 0, 0⟩, ⟨0, 0, 0⟩])) (by simp [maxLen]) (by simp) (Nat.le_trans TC.out.up.size (by simp)) ?_
      intro av wd o5 u5 b5
      have TD0 := Lib.hid ((TC.out.upd0 ((Upd.refl [] wc).alloc _)).addA [⟨0, 0, 0⟩, ⟨0, 0, 1⟩, ⟨0, val, v⟩, ⟨0, 0, 0⟩, ⟨0, 0, 0⟩] o5 u5 rfl rfl)
      clear o5 u5 b5
      have TDD : Hid (Two w1 wd cv av (waitsC val v true false) (waitsA val v true false)) := Lib.hid TD0.out
      obtain ⟨Ac, nc, rfl, _, _⟩ := TDD.out.cs.form
      obtain ⟨n, B', hex⟩ := waits_exec (val := val) HR.out true false
      have HX := Lib.hid hex
      clear TD0 TC hex
      go_wp2_with fail
      have hul : Upd [] wd (wd.alloc (Obj.cells #[.slice Ac (waitsC val v true false).length nc] 32)) := (Upd.refl _ _).alloc _
      have hFl : ∀ x ∈ F.l, x < w1.heap.size := H1.out.lt
      refine (run1_ok kb wd.heap.size n _ _ _ _ (H1.out.upd (TDD.out.up.trans hul) (by simp)) (own_base (TDD.out.cs.upd0 hul) (Nat.zero_le _)) (Blk.new wd _ _) (H2.out.upd (TDD.out.up.trans hul) (by simp)) H4.out.2.2 (fun b hb hm => by have := (own_lt TDD.out.cs hb).1; have := hFl b hm; omega) (fun hm => by have := hFl _ hm; have := TDD.out.up.size; omega) (waits_ok HV.out HR.out true false) (by simp [BN]) HX.out (waits_fine val v true false)).mono ?_
      rintro e we ⟨rv, rfl, F', vs, q1, q2, q3, q4, q5, q6, q7, q8, q9⟩
      obtain ⟨v0, rfl⟩ : ∃ v0, vs = [v0] := by
        match vs, q8 with
        | [v0], _ => exact ⟨v0, rfl⟩
      have hwn : ∀ b, av.ownBlock = some b → b ∉ F.l ++ callB kb [.slice Ac (waitsC val v true false).length nc] := fun b hb hm => by
        have h1 := own_lt TDD.out.an hb
        simp only [callB, List.mem_append, List.mem_cons, List.flatMap_cons, List.flatMap_nil, List.append_nil] at hm
        rcases hm with hm | rfl | hm
        · have := hFl b hm; omega
        · exact own_type TDD.out.an (H2.out.upd TDD.out.up (by simp)) (by decide) hb
        · exact own_apart TDD.out.cs TDD.out.an (by decide) (b := b) (by simpa using hm) hb
      have WE := Lib.hid ((TDD.out.an.upd0 hul).upd q3 hwn).rd
      have VE := Lib.hid (q9 0 v0 _ rfl rfl).rd
      have UE : Hid (Upd [] w we) := Lib.hid ((H3.out.trans (TDD.out.up.trans hul)).trans' q3 (fun x hx => .inr (by
        have hsz := H3.out.size
        simp only [callB, List.mem_append, List.mem_cons, List.flatMap_cons, List.flatMap_nil, List.append_nil] at hx
        rcases hx with hx | rfl | hx
        · exact H4.out.1 x hx
        · exact H4.out.2.1
        · have := (own_lt TDD.out.cs (b := x) (by simpa using hx)).1; omega)))
      obtain ⟨g0, c0, rfl⟩ : ∃ g cap, rv = .slice (some ⟨g, 0, none⟩) 1 cap := by
        obtain ⟨g, cap, _, e, _⟩ := own_form q7 (by simp)
        exact ⟨g, cap, e⟩
      have c0 : we.cell? ⟨g0, 0, none⟩ = some v0 := own_cell q7 0 v0 rfl
      have g0l : g0 < we.heap.size := (own_lt q7 (b := g0) rfl).2
      clear q1 q2 q3 q4 q5 q6 q7 q8 q9 hul hFl hwn
      go_wp2_with fail
      refine (asame_ok _ _ _ _ VE.out WE.out (waits_len val v true false)).mono ?_
      rintro e wf ⟨rfl, uf⟩
      have UF := Lib.hid (UE.out.trans uf)
      clear uf
      go_wp2_with fail
      refine (malive_ok wf).mono ?_
      rintro e wg ⟨rfl, ug⟩
      have UG := Lib.hid (UF.out.trans ug)
      clear ug
      go_wp2_with fail
      go_ret
      exact ⟨rfl, UG.out⟩
    | true =>
      go_wp2_with (at_builtin; refine stoppedM ?_)
      refine Lib.hid ?_
      refine wpList_app _ (by rfl) (.tmp 40) (.tmp 44) _ (by rfl) call_elem _ _ (by rfl) (by rfl) (TV.out.upd0 ((Upd.refl [] wv).alloc _)).cs (.of_blk (Blk.new wv _ _) (m := 3) 3 rfl) (flat_cells (E := ClE) (L := [⟨5, 0, 0, 1, 0⟩, ⟨8, 0, 0, 0, 0⟩, ⟨7, 0, 0, 0, 0⟩])) (by simp [maxLen]) (by simp) (Nat.le_trans TV.out.up.size (by simp)) ?_
      intro cr wp o5 u5 b5
      have TP := Lib.hid ((TV.out.upd0 ((Upd.refl [] wv).alloc _)).addC [⟨5, 0, 0, 1, 0⟩, ⟨8, 0, 0, 0, 0⟩, ⟨7, 0, 0, 0, 0⟩] o5 u5 rfl rfl)
      clear o5 u5 b5
      go_wp2_with (at_builtin; refine stoppedM ?_)
      refine Lib.hid ?_
      refine wpList_app _ (by rfl) (.tmp 46) (.tmp 50) _ (by rfl) ans_elem _ _ (by rfl) (by rfl) (TP.out.upd0 ((Upd.refl [] wp).alloc _)).an (.of_blk (Blk.new wp _ _) (m := 3) 3 rfl) (flat_cells (E := AnE) (L := [⟨0, 0, 0⟩, ⟨12, 0, 0⟩, ⟨0, 0, 0⟩])) (by simp [maxLen]) (by simp) (Nat.le_trans TP.out.up.size (by simp)) ?_
      intro ar wq o5 u5 b5
      have TQ := Lib.hid ((TP.out.upd0 ((Upd.refl [] wp).alloc _)).addA [⟨0, 0, 0⟩, ⟨12, 0, 0⟩, ⟨0, 0, 0⟩] o5 u5 rfl rfl)
      clear o5 u5 b5
      clear TP
      go_wp2_with (at_builtin; refine stoppedM ?_)
      refine Lib.hid ?_
      refine wpList_app _ (by rfl) (.tmp 52) (.tmp 64) _ (by rfl) call_elem _ _ (by rfl) (by rfl) (TQ.out.upd0 ((Upd.refl [] wq).alloc _)).cs (.of_blk (Blk.new wq _ _) (m := 5) 5 rfl) (flat_cells (E := ClE) (L := [⟨5, 0, 0, 1, 0⟩, ⟨6, 0, v, 0, val⟩, ⟨3, 0, 0, 0, 0⟩, ⟨5, 0, v, 0, 0⟩, ⟨6, 0, v + 1, 0, val⟩])) (by simp [maxLen]) (by simp) (Nat.le_trans TQ.out.up.size (by simp)) ?_
      intro cv wc o5 u5 b5
      have TC := Lib.hid ((TQ.out.upd0 ((Upd.refl [] wq).alloc _)).addC [⟨5, 0, 0, 1, 0⟩, ⟨6, 0, v, 0, val⟩, ⟨3, 0, 0, 0, 0⟩, ⟨5, 0, v, 0, 0⟩, ⟨6, 0, v + 1, 0, val⟩] o5 u5 rfl rfl)
      clear o5 u5 b5
      go_wp2_with (at_builtin; refine stoppedM ?_)
      refine Lib.hid ?_
      refine wpList_app _ (by rfl) (.tmp 66) (.tmp 75) _ (by rfl) ans_elem _ _ (by rfl) (by rfl) (TC.out.upd0 ((Upd.refl [] wc).alloc _)).an (.of_blk (Blk.new wc _ _) (m := 5) 5 rfl) (flat_cells (E := AnE) (L := [⟨0, 0, 0⟩, ⟨0, 0, 1⟩, ⟨0, val, v⟩, ⟨0, 0, 0⟩, ⟨0, 0, 0⟩])) (by simp [maxLen]) (by simp) (Nat.le_trans TC.out.up.size (by simp)) ?_
      intro av wd o5 u5 b5
      have TD0 := Lib.hid ((TC.out.upd0 ((Upd.refl [] wc).alloc _)).addA [⟨0, 0, 0⟩, ⟨0, 0, 1⟩, ⟨0, val, v⟩, ⟨0, 0, 0⟩, ⟨0, 0, 0⟩] o5 u5 rfl rfl)
      clear o5 u5 b5
      have TDD : Hid (Two w1 wd cv av (waitsC val v true true) (waitsA val v true true)) := Lib.hid TD0.out
      obtain ⟨Ac, nc, rfl, _, _⟩ := TDD.out.cs.form
      obtain ⟨n, B', hex⟩ := waits_exec (val := val) HR.out true true
      have HX := Lib.hid hex
      clear TD0 TC hex
      go_wp2_with fail
      have hul : Upd [] wd (wd.alloc (Obj.cells #[.slice Ac (waitsC val v true true).length nc] 32)) := (Upd.refl _ _).alloc _
      have hFl : ∀ x ∈ F.l, x < w1.heap.size := H1.out.lt
      refine (run1_ok kb wd.heap.size n _ _ _ _ (H1.out.upd (TDD.out.up.trans hul) (by simp)) (own_base (TDD.out.cs.upd0 hul) (Nat.zero_le _)) (Blk.new wd _ _) (H2.out.upd (TDD.out.up.trans hul) (by simp)) H4.out.2.2 (fun b hb hm => by have := (own_lt TDD.out.cs hb).1; have := hFl b hm; omega) (fun hm => by have := hFl _ hm; have := TDD.out.up.size; omega) (waits_ok HV.out HR.out true true) (by simp [BN]) HX.out (waits_fine val v true true)).mono ?_
      rintro e we ⟨rv, rfl, F', vs, q1, q2, q3, q4, q5, q6, q7, q8, q9⟩
      obtain ⟨v0, rfl⟩ : ∃ v0, vs = [v0] := by
        match vs, q8 with
        | [v0], _ => exact ⟨v0, rfl⟩
      have hwn : ∀ b, av.ownBlock = some b → b ∉ F.l ++ callB kb [.slice Ac (waitsC val v true true).length nc] := fun b hb hm => by
        have h1 := own_lt TDD.out.an hb
        simp only [callB, List.mem_append, List.mem_cons, List.flatMap_cons, List.flatMap_nil, List.append_nil] at hm
        rcases hm with hm | rfl | hm
        · have := hFl b hm; omega
        · exact own_type TDD.out.an (H2.out.upd TDD.out.up (by simp)) (by decide) hb
        · exact own_apart TDD.out.cs TDD.out.an (by decide) (b := b) (by simpa using hm) hb
      have WE := Lib.hid ((TDD.out.an.upd0 hul).upd q3 hwn).rd
      have VE := Lib.hid (q9 0 v0 _ rfl rfl).rd
      have UE : Hid (Upd [] w we) := Lib.hid ((H3.out.trans (TDD.out.up.trans hul)).trans' q3 (fun x hx => .inr (by
        have hsz := H3.out.size
        simp only [callB, List.mem_append, List.mem_cons, List.flatMap_cons, List.flatMap_nil, List.append_nil] at hx
        rcases hx with hx | rfl | hx
        · exact H4.out.1 x hx
        · exact H4.out.2.1
        · have := (own_lt TDD.out.cs (b := x) (by simpa using hx)).1; omega)))
      obtain ⟨g0, c0, rfl⟩ : ∃ g cap, rv = .slice (some ⟨g, 0, none⟩) 1 cap := by
        obtain ⟨g, cap, _, e, _⟩ := own_form q7 (by simp)
        exact ⟨g, cap, e⟩
      have c0 : we.cell? ⟨g0, 0, none⟩ = some v0 := own_cell q7 0 v0 rfl
      have g0l : g0 < we.heap.size := (own_lt q7 (b := g0) rfl).2
      clear q1 q2 q3 q4 q5 q6 q7 q8 q9 hul hFl hwn
      go_wp2_with fail
      refine (asame_ok _ _ _ _ VE.out WE.out (waits_len val v true true)).mono ?_
      rintro e wf ⟨rfl, uf⟩
      have UF := Lib.hid (UE.out.trans uf)
      clear uf
      go_wp2_with fail
      refine (malive_ok wf).mono ?_
      rintro e wg ⟨rfl, ug⟩
      have UG := Lib.hid (UF.out.trans ug)
      clear ug
      go_wp2_with fail
      go_ret
      exact ⟨rfl, UG.out⟩
end Go.Proofs.YtkldpdldjalpeaaDoor

namespace Go.Proofs.YtkldpdldjalpeaaDoor
open Go.RowKit Go.WideShapes Go.ChangeShapes Go.Deep

section
variable {H : Type} {enc : TypeId × Value → H} {P : Program}
theorem trodAll_stays (hl : laidOutB P = true) {W W' : World} (hb : Below W.heap.size W W') {sp : Nat → Bool} :
    ∀ {ts : List TypeId} {vs : List Value} {ds : List (DataW H)} {ps : List MemPlace}, (∀ t ∈ ts, P.readableRec t = true ∧ t < P.types.size) →
      DataW.TrodAll enc P W 0 (fun _ => true) true ts vs ds ps → (∀ p ∈ ps, p.block < W.heap.size ∧ sp p.block = true) → DataW.TrodAll enc P W' 0 sp true ts vs ds ps
  | [], [], [], _, _, h, _ => h
  | _ :: _, _ :: _, _ :: _, _, ht, ⟨p, q, h1, h2, e⟩, hs =>
    ⟨p, q, WideElems.Trod_stays hl (ht _ (List.mem_cons_self ..)).1 (ht _ (List.mem_cons_self ..)).2 h1 (fun x hx => hb.same (hs x (by rw [e]; exact List.mem_append_left _ hx)).1) (fun x hx => (hs x (by rw [e]; exact List.mem_append_left _ hx)).2),
      trodAll_stays hl hb (fun t h => ht t (List.mem_cons_of_mem _ h)) h2 (fun x hx => hs x (by rw [e]; exact List.mem_append_right _ hx)), e⟩

theorem law_post {fn : Func} {s : ChangeSpec} {tb : TypeId} {W W' : World} {args : Array Value} {ds gs : List (DataW H)} {before : List MemPlace} (hl : laidOutB P = true)
    (ht : fn.params.toList.all (fun t => P.readableRec t && decide (t < P.types.size)) = true) (hv : s.vars = []) (hrt : fn.resultTypes = #[tb]) (hb : P.underlying tb = some .bool)
    (hspec : s.fn H (ds ++ []) = { results := [.lit (.bool true)], args := ds })
    (hW : DataW.Whole enc P fn.params.toList s.vars false W args.toList ds gs before) (hbel : Below W.heap.size W W') :
    s.post enc P fn false true false false W args (.bool true) W' := by
  have hW0 := hW
  have hlt := fun x hx => hW.lt (p := x) hx
  obtain ⟨p, q, hA, hV, rfl, hfz, hnd⟩ := hW
  have hg : gs = [] ∧ q = [] := by
    rw [hv] at hV
    exact trodVars_none hV
  obtain ⟨rfl, rfl⟩ := hg
  simp only [List.append_nil] at hW0 hlt
  refine ⟨ds, [], p, [], p, [], hW0, ?_, ?_, ?_, ?_, fun h => by cases h⟩
  · rw [hspec, hrt]
    exact trodAll_cons_mk (shut_bool hb true) trodAll_mk0
  · rw [hspec]
    refine trodAll_stays hl hbel (fun t h => ?_) hA (fun x hx => ⟨hlt x hx, by simpa using hlt x hx⟩)
    have := List.all_eq_true.1 ht t h
    simpa using this
  · rw [hspec, hv]
    rfl
  · exact hbel.frame _
end

section
variable {H : Type} {enc : TypeId × Value → H} {P : Program} {w : World} {base : Nat} {spare : Nat → Bool} {held : Bool}
/-- An argument that is a slice of structs whose fields are one cell each: its address, and for each element its cells, each with its own reading. -/
theorem rows_of_slice {t e : TypeId} {fs : Array Field} {v : Value} {d : DataW H} {ps : List MemPlace} {r : Reach} {b0 : Nat} (ht : P.underlying t = some (.slice e)) (he : P.underlying e = some (.struct fs))
    (hone : oneCellFields P fs = true) (hC : P.cellsOf e = fs.size) (hok : Value.okWide P w r b0 t v) (h : DataW.Trod enc P w base spare held t v d ps) :
    ∃ (A : Option Addr) (n c : Nat), v = .slice A n c ∧ n ≤ c ∧ c ≤ maxLen ∧ (∀ i, i < n → ∃ a, A = some a ∧ ∃ vs : List Value, vs.length = fs.size ∧ (∀ (j : Nat) (u : Value), vs[j]? = some u → w.cell? (a.add (i * fs.size + j)) = some u) ∧
      ∀ (j : Nat) (f : Field), fs[j]? = some f → ∃ (u : Value) (y : DataW H × List MemPlace) (k : Nat), vs[j]? = some u ∧ DataW.trod enc P w base spare held k f.type [u] = some y) := by
  obtain ⟨a0, len, cap, rfl⟩ := okWide_slice ht hok
  obtain ⟨fuel, hf⟩ := h
  rcases open_slice ht hf with ⟨h0, _⟩ | ⟨a, len', cap', m, k, D, Pl, hcs, hb, hl, hm, hmm, hx, hi⟩
  · simp only [Value.cells, List.cons.injEq, and_true] at h0
    injection h0 with h1 h2 h3
    subst h1 h2 h3
    exact ⟨_, _, _, rfl, Nat.le_refl _, by simp [maxLen], fun i hi => by omega⟩
  · simp only [Value.cells, List.cons.injEq, and_true] at hcs
    injection hcs with h1 h2 h3
    subst h1 h2 h3
    refine ⟨_, _, _, rfl, hl, hm, fun i hin => ⟨a, rfl, ?_⟩⟩
    have hin' : i < m := by rw [hmm]; split <;> omega
    obtain ⟨cs', hc, ht'⟩ := hi i hin'
    rw [hC] at hc
    obtain ⟨ys, n', _, _, hlen, hyl, hfld⟩ := DataW.trod_struct he ht'
    obtain ⟨_, hcl, hat⟩ := World.cells?_some hc
    refine ⟨cs', by omega, fun j u hu => ?_, fun j f hj => ?_⟩
    · have hjl : j < fs.size := by have := (List.getElem?_eq_some_iff.1 hu).1; omega
      rw [← Go.Deep.add_add, hat j hjl]
      exact hu
    · obtain ⟨ho, hk⟩ := hone_of hone j f hj
      have hjl : j < fs.size := (Array.getElem?_eq_some_iff.1 hj).1
      have hcj : cs'[j]? = some (cs'[j]'(by omega)) := List.getElem?_eq_getElem (by omega)
      have h1 := hfld j f hj
      rw [ho, hk, show (cs'.drop j).take 1 = [cs'[j]'(by omega)] by rw [List.drop_eq_getElem_cons (by omega)]; rfl] at h1
      have hys : ys[j]? = some (ys[j]'(by omega)) := List.getElem?_eq_getElem (by omega)
      exact ⟨_, _, _, hcj, h1.trans hys⟩
end
end Go.Proofs.YtkldpdldjalpeaaDoor

namespace Go.Proofs.YtkldpdldjalpeaaDoor
open Go.ChangeShapes Go.WideShapes Go.ChangeAt Go.RowKit
theorem in_u64 {n : Int} (h : (Lit.int .u64 n).wf = true) : 0 ≤ n ∧ n ≤ 18446744073709551615 := by
  simp only [Lit.wf, Bool.and_eq_true, decide_eq_true_eq] at h
  have h1 : IntKind.u64.min = 0 := by decide
  have h2 : IntKind.u64.max = 18446744073709551615 := by decide
  rw [h1, h2] at h
  exact h
end Go.Proofs.YtkldpdldjalpeaaDoor
namespace Go.Proofs.YtkldpdldjalpeaaDoor.DoorKit
open Go.ChangeShapes Go.WideShapes Go.ChangeAt Go.RowKit

theorem own : ownKnob Tryd.prog.godebug = none := by kernel_rfl
theorem laidOut : laidOutB Tryd.prog = true := by kernel_rfl
theorem door_met (os : Os) (args : Array Value) : laidMetH Tryd.prog [("errors.errorType", Rows.laid_errors_errorType)] ((World.doorLaid Tryd.prog 400 os).forCall (fun _ _ => 0) ⟨#[], args, []⟩).memory :=
  laidMetH_of_parts3 (fuel := 8) (laidMet_nil _ _) (by kernel_rfl) (by kernel_rfl)
end Go.Proofs.YtkldpdldjalpeaaDoor.DoorKit

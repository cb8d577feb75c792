/-
  concordlaw02's On, concordlaw06's Scene by contract.
  concordlaw15's scene by contract: a room beside the cells.
  The closures of concordlaw15's alive, as bodies.
  The closure of WaitRooms, as a body; what it comes to, alone.
  concordlaw15's sleeper and committer make closures; WaitLost's own closure, as a body.
-/
import Derived.Test.YtkldpdldjalpeaaGreatDoorWoB5
import Derived.Test.YtkldpdldjalpeaaGreatDoorWoB4
import Derived.Test.YtkldpdldjalpeaaGreatDoorWoB6
import Derived.BigQuiet
import Derived.Deep.RegionWith
import Derived.Deep.RegionHeld3
import Derived.Deep.QuietTactic
set_option linter.unusedVariables false
namespace Go.Proofs.YtkldpdldjalpeaaGreatDoor
open Go.RowKit Th
attribute [local go_sem] litStep_value

set_option maxHeartbeats 1000000 in
theorem on_ok (w : World) : Calls Tryz.prog 46 #[.int .i64 300, .int .i64 1] w fun e w' => ∃ F : BFp, e = .returned (.tuple #[.pointer (some ⟨F.a, 0, none⟩), .pointer (some ⟨F.b0, 0, none⟩)]) ∧ BSt w' F Th.B0 ∧ Upd [] w w' ∧ (∀ x ∈ F.l, w.heap.size ≤ x) ∧ F.xs = [] := by
  go_enter Tryz.func46, Tryz.ntmps46
  go_wp2_with fail
  refine (new_ok 300 w (by omega) (by omega)).mono ?_
  rintro e w1 ⟨a, b, rfl, hA, ha, hb, hu⟩
  have HA : Hid (Ar w1 a b (List.replicate 300 0)) := Lib.hid ⟨0, hA⟩
  have HB : Hid (w.heap.size ≤ a ∧ w.heap.size ≤ b) := Lib.hid ⟨ha, hb⟩
  have U1 := Lib.hid hu
  clear hA hu ha hb
  go_wp2_with fail
  refine (no_nil _).mono ?_; rintro e w' ⟨rfl, rfl⟩
  go_wp2_with fail
  refine (bnew_ok a b 1 (List.replicate 300 0) w1 HA.out (by omega) (by rw [List.length_replicate]; omega) (by rw [List.length_replicate]; omega) (fun x hx => by rw [(List.mem_replicate.1 hx).2]; omega)).mono ?_
  rintro e w2 ⟨F, rfl, e1, e2, h3, h4, h5⟩
  have H4 := Lib.hid h4
  have H3 := Lib.hid (fun x hx => (h3 x hx).elim (fun e => e ▸ HB.out.1) (fun h => h.elim (fun e => e ▸ HB.out.2) (fun h => Nat.le_trans U1.out.size h)) : ∀ x ∈ F.l, w.heap.size ≤ x)
  have U2 := Lib.hid (U1.out.trans h5)
  have EA := Lib.hid e1
  have XS : Hid (F.xs = []) := Lib.hid (by have := h4.len; simpa using this)
  clear h3 h4 h5 e1 e2
  go_wp2_with fail
  refine (no_nil _).mono ?_; rintro e w' ⟨rfl, rfl⟩
  go_wp2_with fail
  go_ret2
  exact ⟨F, by rw [EA.out]; rfl, H4.out, U2.out, H3.out, XS.out⟩
/-- What the scene's body keeps. -/
def MSc (xb cbx kb n : Nat) (w : World) (S : List Nat) (r : Option (Int × List Int)) : Prop :=
  S = [xb, cbx, kb] ∧ kb ≠ xb ∧ ∃ (q : Int) (ls : List Int), Blk w xb 26 #[.int .u64 q] ∧ Blk w cbx 27 #[.slice (some ⟨kb, 0, none⟩) n n] ∧ Blk w kb 26 (ls.map (Value.int .u64)).toArray ∧ ls.length = n ∧ ∀ k l, r = some (k, l) → q = k ∧ ls = l
theorem msc_ok (xb cbx kb n : Nat) : MemOk (MSc xb cbx kb n) := by
  refine ⟨fun w w' T S r h hu hT => ?_, fun w S r h x hx => ?_⟩
  · obtain ⟨rfl, hne, q, ls, h1, h2, h3, h4, h5⟩ := h
    exact ⟨rfl, hne, q, ls, h1.upd hu (fun hm => hT _ hm (by simp)), h2.upd hu (fun hm => hT _ hm (by simp)), h3.upd hu (fun hm => hT _ hm (by simp)), h4, h5⟩
  · obtain ⟨rfl, hne, q, ls, h1, h2, h3, h4, h5⟩ := h
    simp at hx
    rcases hx with rfl | rfl | rfl
    · exact h1.lt
    · exact h2.lt
    · exact h3.lt
theorem small_scCells : ∀ (k i : Nat) (l : List Int), SmallP (scCells k i l)
  | 0, _, _ => trivial
  | k + 1, i, l => ⟨fun n h => by injection h with h; omega, fun e => ⟨fun n h => (by cases h), fun e => small_scCells k (i + 1) _⟩⟩
/-- Where the loop of the scene's body stands. -/
structure ScJ (w : World) (F : BFp) (cb : Nat) (lv : Value) (c : CS) (xb kb n : Nat) (q : Int) (j : Nat) (wr : World) (Fj : BFp) (cj : CS) (lj : Value) (R ls : List Int) : Prop where
  st : CSt wr Fj cb lj cj
  up : Upd ([xb, kb] ++ SS F cb lv) w wr
  gr : ∀ x ∈ SS Fj cb lj, x ∈ SS F cb lv ∨ w.heap.size ≤ x
  b0 : Fj.b0 = F.b0
  bq : Blk wr xb 26 #[.int .u64 q]
  bk : Blk wr kb 26 (ls.map (Value.int .u64)).toArray
  ln : ls.length = n
  ha : ls.take j = R
  rl : R.length = j
  near : Near c.B cj
  rdy : Ready (scCells (n - j) j R) cj
  rn : run (sceneT n) c = run ((scCells (n - j) j R).bind fun l => .ret (q, l)) cj
theorem bind_assoc {α β γ : Type} {f : α → Pg β} {g : β → Pg γ} : ∀ (p : Pg α), (p.bind f).bind g = p.bind fun a => (f a).bind g
  | .ret a => rfl
  | .acc a k => by
    show Pg.acc a _ = Pg.acc a _
    congr 1
    funext e
    exact bind_assoc (k e)
def ScPost (F : BFp) (cb : Nat) (lv : Value) (c : CS) (S : List Nat) (xb cbx kb n : Nat) (w : World) (v : Value) (w' : World) : Prop :=
  ∃ F' lv' S', CSt w' F' cb lv' (run (sceneT n) c).2 ∧ F'.b0 = F.b0 ∧ Upd (S ++ SS F cb lv) w w' ∧ (∀ x ∈ S' ++ SS F' cb lv', x ∈ S ++ SS F cb lv ∨ w.heap.size ≤ x) ∧ (∀ x ∈ S', x ∉ SS F' cb lv') ∧ MSc xb cbx kb n w' S' (run (sceneT n) c).1 ∧ BdV w' w.heap.size v (run (sceneT n) c).1
theorem sc_fin {F Fj : BFp} {cb : Nat} {lv lj v : Value} {c : CS} {xb cbx kb n : Nat} {r0 : Option (Int × List Int)} {S : List Nat} {w W : World} {q : Int} {ls : List Int} (hM : MSc xb cbx kb n w S r0) (hS : ∀ x ∈ S, x ∉ SS F cb lv) (st : CSt W Fj cb lj (run (sceneT n) c).2) (up : Upd ([xb, kb] ++ SS F cb lv) w W) (gr : ∀ x ∈ SS Fj cb lj, x ∈ SS F cb lv ∨ w.heap.size ≤ x) (b0 : Fj.b0 = F.b0)
    (bq : Blk W xb 26 #[.int .u64 q]) (bk : Blk W kb 26 (ls.map (Value.int .u64)).toArray) (ln : ls.length = n) (hr : ∀ k l, (run (sceneT n) c).1 = some (k, l) → q = k ∧ ls = l) (hv : BdV W w.heap.size v (run (sceneT n) c).1) : ScPost F cb lv c S xb cbx kb n w v W := by
  have hlt := (msc_ok xb cbx kb n).lt _ _ _ hM
  obtain ⟨rfl, hne, q0, ls0, h1, h2, h3, h4, h5⟩ := hM
  have hcb : cbx ∉ [xb, kb] ++ SS F cb lv := fun hm => by
    simp only [List.cons_append, List.nil_append, List.mem_cons] at hm
    rcases hm with e | e | hm
    · exact h2.ne_ h1 (by decide) e
    · exact h2.ne_ h3 (by decide) e
    · exact hS cbx (by simp) hm
  refine ⟨Fj, lj, _, st, b0, up.mono (fun x hx => .inl ?_), fun x hx => ?_, fun x hx hm => ?_, ⟨rfl, hne, q, ls, bq, h2.upd up hcb, bk, ln, hr⟩, hv⟩
  · simp only [List.cons_append, List.nil_append, List.mem_cons] at hx ⊢
    rcases hx with e | e | hm
    · exact .inl e
    · exact .inr (.inr (.inl e))
    · exact .inr (.inr (.inr hm))
  · rcases List.mem_append.1 hx with hx | hx
    · exact .inl (List.mem_append_left _ hx)
    · exact (gr x hx).imp (List.mem_append_right _) id
  · rcases gr x hm with h | h
    · exact hS x hx h
    · have := hlt x hx; omega
set_option maxRecDepth 20000 in
set_option maxHeartbeats 2000000 in
theorem scene1_ok (n : Nat) (hn : 1 ≤ n ∧ n ≤ 3) {F : BFp} {cb : Nat} {lv : Value} {c : CS} {xb cbx kb : Nat} {r0 : Option (Int × List Int)} {S : List Nat} (w : World) (h : CSt w F cb lv c) (hJ : JT c.B) (hd : c.did = false) (hrd : Ready (sceneT n) c) (hM : MSc xb cbx kb n w S r0) (hS : ∀ x ∈ S, x ∉ SS F cb lv) :
    Calls Tryz.prog 47 #[.pointer (some ⟨cb, 0, none⟩), .int .i64 0, .pointer (some ⟨xb, 0, none⟩), .pointer (some ⟨cbx, 0, none⟩)] w fun e w' => ∃ v, e = .returned v ∧ ScPost F cb lv c S xb cbx kb n w v w' := by
  have H0 := Lib.hid h
  have HJ := Lib.hid hJ
  have HD := Lib.hid hd
  have HRD := Lib.hid hrd
  have HM := Lib.hid hM
  have HS := Lib.hid hS
  have HN := Lib.hid hn
  clear h hJ hd hrd hM hS hn
  go_enter Tryz.func47, Tryz.ntmps47
  go_wp2_with fail
  have hct : c.B.top + 1 + 1 ≤ c.B.ws.length := by have := HJ.out; unfold JT at this; omega
  refine (newclock_ok w H0.out hct).mono ?_
  rintro e w1 ⟨F1, lv1, x, v, rfl, h1, h2, h3, h4⟩
  have HN1 := Lib.hid h2
  have HB1 := Lib.hid h4
  have near1 : Near c.B (access c (.alloc 1)).2 := Near.access (c := c) (a := .alloc 1) (o := (access c (.alloc 1)).1) ⟨rfl, .inl ⟨HD.out, rfl⟩⟩ rfl (fun n h => by injection h with h; omega)
  cases ha : access c (.alloc 1) with
  | mk o c1 =>
    rw [ha] at h1 h3 near1
    have H1 := Lib.hid h1
    cases o with
    | none =>
      obtain ⟨rfl, rfl⟩ := h3
      have HR := Lib.hid (show run (sceneT n) c = (none, c1) from run_none ha)
      obtain ⟨hs0, hne, q0, ls0, m1, m2, m3, m4, m5⟩ := HM.out
      clear hs0
      have n1 : ∀ x ∈ [xb, kb], x ∉ SS F cb lv := fun x hx hm => HS.out x (by rw [HM.out.1]; simp at hx ⊢; rcases hx with rfl | rfl <;> simp) hm
      have Q1 := Lib.hid (m1.upd h2.up (n1 _ (by simp)))
      have K1 := Lib.hid (m3.upd h2.up (n1 _ (by simp)))
      have L1 := Lib.hid m4
      clear h1 h2 h4 ha near1 m1 m2 m3 m4 m5 n1 hne
      go_wp2_with fail
      go_ret
      refine ⟨_, rfl, sc_fin HM.out HS.out (by rw [HR.out]; exact H1.out) (HN1.out.up.mono (fun x hx => .inl (List.mem_append_right _ hx))) HN1.out.gr HB1.out Q1.out K1.out L1.out (by rw [HR.out]; intro k l h; cases h) (by rw [HR.out]; exact .num 2 _ _ 11 (by omega))⟩
    | some en =>
      obtain ⟨rfl, rfl⟩ := h3
      obtain ⟨hs0, hne, q0, ls0, m1, m2, m3, m4, m5⟩ := HM.out
      clear hs0
      have n1 : ∀ x ∈ [xb, kb], x ∉ SS F cb lv := fun x hx hm => HS.out x (by rw [HM.out.1]; simp at hx ⊢; rcases hx with rfl | rfl <;> simp) hm
      have hrd := HRD.out en c1 ha
      have hR : run (sceneT n) c = run ((scCells n 0 []).bind fun l => .ret (en.ref, l)) c1 := run_some (k := fun e : En => (scCells n 0 []).bind fun l => .ret (e.ref, l)) ha
      have q1b := m1.upd h2.up (n1 _ (by simp))
      have Q1 := Lib.hid q1b
      have f1 := q1b.facts
      have K1 := Lib.hid (m3.upd h2.up (n1 _ (by simp)))
      have hc1 : cbx ∉ [xb, kb] ++ SS F cb lv := fun hm => by
        simp only [List.cons_append, List.nil_append, List.mem_cons] at hm
        rcases hm with e | e | hm
        · exact m2.ne_ m1 (by decide) e
        · exact m2.ne_ m3 (by decide) e
        · exact HS.out cbx (by rw [HM.out.1]; simp) hm
      have C1 : Hid (∀ W, Upd ([xb, kb] ++ SS F cb lv) w W → Blk W cbx 27 #[.slice (some ⟨kb, 0, none⟩) n n]) := Lib.hid (fun W hW => m2.upd hW hc1)
      have HNX : Hid ((∀ x ∈ [xb, kb], x ∉ SS F cb lv) ∧ (∀ x ∈ [xb, kb], x < w.heap.size) ∧ kb ≠ xb) := Lib.hid ⟨n1, fun x hx => by simp at hx; rcases hx with rfl | rfl; exact m1.lt; exact m3.lt, hne⟩
      have J0 : Hid (ScJ w F cb lv c xb kb n en.ref 0 (w1.setCell ⟨xb, 0, none⟩ (.int .u64 en.ref)) F1 c1 lv1 [] ls0) := Lib.hid (by
        have hu : Upd [xb] w1 (w1.setCell ⟨xb, 0, none⟩ (.int .u64 en.ref)) := (Upd.refl _ _).setCell (by simp) _
        refine ⟨H1.out.far hu ?_, (HN1.out.up.mono (fun x hx => .inl (List.mem_append_right _ hx))).trans' hu (by simp), HN1.out.gr, HB1.out, q1b.set_ 0 _, K1.out.upd hu (by simp [hne]), m4, by simp, rfl, near1, (ready_bind hrd.2).1, hR⟩
        intro x hx hm
        simp at hx
        subst hx
        rcases HN1.out.gr x hm with h | h
        · exact n1 x (by simp) h
        · have := m1.lt; omega)
      have hcx := (C1.out _ J0.out.up).facts
      clear h1 h2 h4 ha near1 m1 m2 m3 m4 m5 n1 hne hrd hR hc1 q1b hct
      go_wp2_with fail
      have hn3 : (n : Int) ≤ 3 ∧ (1 : Int) ≤ n := by have := HN.out; omega
      clear f1 hcx
      go_loopw [23] (fun u wr => ∃ (j : Nat) (Fj : BFp) (cj : CS) (lj : Value) (R ls : List Int), u = .int .i64 j ∧ j ≤ n ∧ Hid (ScJ w F cb lv c xb kb n en.ref j wr Fj cj lj R ls)) (fun u _ => n - (intOf u).toNat)
      case atStart => exact ⟨0, F1, c1, lv1, [], ls0, rfl, by omega, J0⟩
      case round =>
        obtain ⟨j, Fj, cj, lj, R, ls, rfl, hj, KJ⟩ := hrel
        have fx := (C1.out _ KJ.out.up).facts
        by_cases hlt : j < n
        · have hji : (j : Int) < n := by omega
          have hj3 : (j : Int) ≤ 3 := by omega
          obtain ⟨k, hk⟩ : ∃ k, n - j = k + 1 := ⟨n - j - 1, by omega⟩
          have HK := Lib.hid hk
          have HJN := Lib.hid hlt
          have hrd := KJ.out.rdy
          have hrn := KJ.out.rn
          rw [hk] at hrd hrn
          have HRd := Lib.hid hrd
          have HRn := Lib.hid hrn
          clear hk hlt hj hrd hrn
          go_wp2_with fail
          have hct : cj.B.top + 2 + 1 ≤ cj.B.ws.length := by
            have h1 := HJ.out
            have h2 := KJ.out.near
            unfold JT at h1
            unfold Near at h2
            omega
          refine (newcell_ok wr KJ.out.st (10 + (j : Int)) (by omega) hct (fun e c' he => (HRd.out e c' he).1)).mono ?_
          rintro e w2 ⟨F2, lv2, x, v, rfl, h1, h2, h3, h4⟩
          have up2 : Upd ([xb, kb] ++ SS F cb lv) w w2 := KJ.out.up.trans' h2.up (fun x hx => (KJ.out.gr x hx).imp (fun h => by simp [h]) id)
          have gr2 : ∀ x ∈ SS F2 cb lv2, x ∈ SS F cb lv ∨ w.heap.size ≤ x := fun x hx => (h2.gr x hx).elim (KJ.out.gr x) (fun h => .inr (Nat.le_trans KJ.out.up.size h))
          have hnb : ∀ x ∈ [xb, kb], x ∉ SS Fj cb lj := fun x hx hm => by
            rcases KJ.out.gr x hm with h | h
            · exact HNX.out.1 x hx h
            · have := HNX.out.2.1 x hx; omega
          have Q2 := Lib.hid (KJ.out.bq.upd h2.up (hnb _ (by simp)))
          have K2b := KJ.out.bk.upd h2.up (hnb _ (by simp))
          have K2 := Lib.hid K2b
          have H2 := Lib.hid h1
          have G2 : Hid (_ ∧ _ ∧ _ ∧ _) := Lib.hid ⟨up2, gr2, h4.trans KJ.out.b0, hnb⟩
          have near2 : Hid (Near c.B (run (cellT (10 + j)) cj).2) := Lib.hid (Near.run (o := (run (cellT (10 + j)) cj).1) KJ.out.near (small_cell _) rfl)
          have hB2 : wr.heap.size ≤ w2.heap.size := h2.up.size
          have HB2 := Lib.hid hB2
          cases hr : (run (cellT (10 + (j : Int))) cj).1 with
          | none =>
            rw [hr] at h3
            have h3' : ErK 1 w2 wr.heap.size v 11 := h3
            have HE := Lib.hid h3'
            have HR : Hid (run (sceneT n) c = (none, (run (cellT (10 + (j : Int))) cj).2)) := Lib.hid (by
              rw [HRn.out]
              exact run_bind_none (run_bind_none (p := cellT (10 + (j : Int))) (Prod.ext hr rfl)))
            rcases h3'.form with ⟨_, h⟩ | h
            · omega
            · clear h1 h2 h3 h3' h4 up2 gr2 hnb hr hct K2b hB2
              rcases h with ⟨m, rfl⟩ | ⟨g, rfl⟩
              all_goals
                go_wp2_with fail
                go_ret
                exact ⟨_, rfl, sc_fin HM.out HS.out (by rw [HR.out]; exact H2.out) G2.out.1 G2.out.2.1 G2.out.2.2.1 Q2.out K2.out KJ.out.ln (by rw [HR.out]; intro k l h; cases h) (by rw [HR.out]; exact (HE.out.base KJ.out.up.size).up (by omega))⟩
          | some rr =>
            rw [hr] at h3
            obtain ⟨rfl, rfl⟩ := h3
            have fk := K2b.facts
            have fx2 := (C1.out _ up2).facts
            have hcj : ∃ z, (ls.map (Value.int .u64))[j]? = some z := ⟨_, List.getElem?_eq_getElem (by rw [List.length_map, KJ.out.ln]; exact HJN.out)⟩
            obtain ⟨z, hz⟩ := hcj
            have hzc : w2.cell? ⟨kb, j, none⟩ = some z := by rw [K2b.cell j]; simpa using hz
            have hzf : w2.frozen? ⟨kb, j, none⟩ = false := K2b.frozen j
            have HRR : Hid (run (sceneT n) c = run ((scCells k (j + 1) (R ++ [x])).bind fun l => .ret (en.ref, l)) (run (cellT (10 + (j : Int))) cj).2) := Lib.hid (by
              rw [HRn.out]
              show run (((cellT (10 + (j : Int))).bind fun r => scCells k (j + 1) (R ++ [r])).bind _) cj = _
              rw [bind_assoc]
              exact run_bind_some (p := cellT (10 + (j : Int))) (Prod.ext hr rfl))
            have HRdy : Hid (Ready (scCells k (j + 1) (R ++ [x])) (run (cellT (10 + (j : Int))) cj).2) := Lib.hid ((ready_bind (p := cellT (10 + (j : Int))) (f := fun r => scCells k (j + 1) (R ++ [r])) HRd.out).2 x hr)
            have hkl : kb < w2.heap.size := K2b.lt
            clear h1 h2 h4 up2 gr2 hnb hr hct K2b hB2 fk hz fx
            go_wp2_with fail
            have hu : Upd [kb] w2 (w2.setCell ⟨kb, j, none⟩ (.int .u64 x)) := (Upd.refl _ _).setCell (by simp) _
            have hj' := HJN.out
            refine ⟨⟨j + 1, F2, _, lv2, R ++ [x], ls.set j x, by simp, by omega, Lib.hid ⟨H2.out.far hu ?_, G2.out.1.trans' hu (by simp), G2.out.2.1, G2.out.2.2.1, Q2.out.upd hu (by simpa using fun e => HNX.out.2.2 e.symm), ?_, by rw [List.length_set, KJ.out.ln], ?_, by rw [List.length_append, KJ.out.rl, List.length_singleton], near2.out, ?_, ?_⟩⟩, by simp [intOf]; omega⟩
            · intro y hy hm
              simp at hy
              subst hy
              rcases G2.out.2.1 y hm with h | h
              · exact HNX.out.1 y (by simp) h
              · have := HNX.out.2.1 y (by simp); omega
            · refine K2.out.set_eq ?_
              rw [List.map_set]
              simp
            · rw [List.take_add_one, List.take_set_of_le (by omega), KJ.out.ha]
              congr 1
              rw [List.getElem?_set_self (by rw [KJ.out.ln]; exact hj')]
              rfl
            · rw [show n - (j + 1) = k by have := HK.out; omega]; exact HRdy.out
            · rw [show n - (j + 1) = k by have := HK.out; omega]; exact HRR.out
        · have hji : ¬ ((j : Int) < n) := by omega
          have hjn : j = n := by omega
          have HR : Hid (run (sceneT n) c = (some (en.ref, R), cj)) := Lib.hid (by
            rw [KJ.out.rn, show n - j = 0 by omega]
            rfl)
          have HLS : Hid (ls = R) := Lib.hid (by have := KJ.out.ha; rw [hjn, ← KJ.out.ln, List.take_length] at this; exact this)
          clear hlt hj hjn
          go_wp2_with fail
          go_ret
          exact ⟨_, rfl, sc_fin HM.out HS.out (by rw [HR.out]; exact KJ.out.st) KJ.out.up KJ.out.gr KJ.out.b0 KJ.out.bq KJ.out.bk KJ.out.ln (by rw [HR.out]; intro k l h; injection h with h; injection h with h1 h2; exact ⟨h1, HLS.out.trans h2⟩) (by rw [HR.out]; rfl)⟩
set_option maxRecDepth 20000 in
theorem scene_body (n : Nat) (hn : 1 ≤ n ∧ n ≤ 3) (xb cbx kb : Nat) : BodyOk 47 #[.pointer (some ⟨xb, 0, none⟩), .pointer (some ⟨cbx, 0, none⟩)] (sceneT n) (fun _ => False) JT (MSc xb cbx kb n) where
  ent := fun _ _ => rfl
  run := fun w F cb lv c S r0 h _ hd hJ hrd hM hS _ => by
    refine (scene1_ok n hn w h hJ hd hrd hM hS).mono ?_
    rintro e w' ⟨v, rfl, F', lv', S', q⟩
    exact ⟨F', lv', S', v, rfl, q⟩
set_option maxRecDepth 20000 in
set_option maxHeartbeats 2000000 in
theorem scene_ok (n : Nat) (hn : 1 ≤ n ∧ n ≤ 3) (w : World) :
    Calls Tryz.prog 28 #[.int .i64 n] w fun e w' => ∃ (F : BFp) (kb : Nat), e = .returned (.tuple #[.pointer (some ⟨F.b0, 0, none⟩), .int .u64 1, .slice (some ⟨kb, 0, none⟩) n n]) ∧ BSt w' F (BN n) ∧ Blk w' kb 26 ((refsN n).map (Value.int .u64)).toArray ∧ Upd [] w w' ∧ (∀ x ∈ F.l, w.heap.size ≤ x) ∧ w.heap.size ≤ kb ∧ kb ∉ F.l := by
  have HN := Lib.hid hn
  have hn3 : (n : Int) ≤ 3 ∧ (1 : Int) ≤ n := by omega
  obtain ⟨i0, hi0, hz0, hz1, hz2⟩ := info_parts u64_info
  have hmk := fun W : World => run_make (P := Tryz.prog) W 27 26 i0 _ Tryz.underlying27 hi0 hz0 .i64 .i64 (n : Int) (n : Int) (by omega) (by omega) (by rw [hz2]; omega) (by omega)
  clear hi0 hz0 hz2 hn
  go_enter Tryz.func28, Tryz.ntmps28
  go_wp2_with fail
  refine (on_ok w).mono ?_
  rintro e w1 ⟨F, rfl, h1, h2, h3, h4⟩
  have H1 := Lib.hid h1
  have H2 := Lib.hid h2
  have H3 := Lib.hid h3
  clear h1 h2 h3 h4
  go_wp2_with fail
  obtain ⟨w2, hw2⟩ : ∃ w2, w2 = ((w1.alloc (Obj.cells #[.int .u64 0] 26)).alloc (Obj.cells (madeCells #[.int .u64 0] n) 26)).alloc (Obj.cells #[.slice (some ⟨w1.heap.size + 1, 0, none⟩) n n] 27) := ⟨_, rfl⟩
  have U2 : Hid (Upd [] w1 w2) := Lib.hid (by rw [hw2]; exact (((Upd.refl _ _).alloc _).alloc _).alloc _)
  have M2 : Hid (MSc w1.heap.size (w1.heap.size + 1 + 1) (w1.heap.size + 1) n w2 [w1.heap.size, w1.heap.size + 1 + 1, w1.heap.size + 1] none) := Lib.hid (by
    rw [hw2]
    refine ⟨rfl, by omega, 0, List.replicate n 0, ((Blk.new _ _ _).alloc _).alloc _, Blk.newAt _ _ (by simp), ?_, by simp, by intro k l h; cases h⟩
    have := (Blk.newAt (W := w1.alloc (Obj.cells #[.int .u64 0] 26)) (H := w1.heap.size + 1) 26 (madeCells #[.int .u64 0] n) (by simp)).alloc (Obj.cells #[.slice (some ⟨w1.heap.size + 1, 0, none⟩) n n] 27)
    have e : madeCells #[.int .u64 0] n = ((List.replicate n (0 : Int)).map (Value.int .u64)).toArray := by
      apply Array.ext'
      rw [toList_madeCells_one]
      simp
    rw [e] at this ⊢
    exact this)
  rw [← hw2]
  clear hw2
  refine (tnew_ok w2 (H1.out.upd U2.out (by simp)) 47 _).mono ?_
  rintro e w3 ⟨tb, rfl, t1, t2, t3, t4⟩
  have hlt1 := H1.out.lt
  have T0 : Hid (TAll 47 #[.pointer (some ⟨w1.heap.size, 0, none⟩), .pointer (some ⟨w1.heap.size + 1 + 1, 0, none⟩)] (sceneT n) (MSc w1.heap.size (w1.heap.size + 1 + 1) (w1.heap.size + 1) n) w3 F Th.B0 tb (.slice none 0 0) [w1.heap.size, w1.heap.size + 1 + 1, w1.heap.size + 1] [] none ⟨sceneT n, false⟩) := Lib.hid (by
    have hs := (msc_ok _ _ _ _).lt _ _ _ M2.out
    refine ⟨t1, (H1.out.upd U2.out (by simp)).upd t2 (by simp), ThOk.start _ _, (msc_ok _ _ _ _).fr _ _ _ _ _ M2.out t2 (by simp), fun x hx hm => ?_, fun x hx hm => ?_, fun x hx hm => ?_, fun h => (by cases h)⟩
    · simp [TB, Value.ownBlock] at hx
      subst hx
      have := hlt1 _ hm
      have := U2.out.size
      omega
    · have := hlt1 x hm
      simp at hx
      omega
    · simp [TB, Value.ownBlock] at hm
      subst hm
      have := hs _ hx
      omega)
  have U3 := Lib.hid (U2.out.trans t2)
  have TB3 : Hid (w.heap.size ≤ tb) := Lib.hid (by have := H2.out.size; have := U2.out.size; omega)
  clear t1 t2 t3 t4 hlt1
  go_wp2_with fail
  have HG : Going (α := Int × List Int) (fun _ => False) JT (GSc n) := ⟨gsc_step HN.out, fun _ _ _ _ _ h => h, fun t B h => by obtain ⟨k, hk, e⟩ := h; rw [show B = (soloT k ⟨sceneT n, false⟩ Th.B0).2 from congrArg Prod.snd e]; exact gsc_j HN.out hk⟩
  refine (trun_ok (scene_body n HN.out _ _ _) (msc_ok _ _ _ _) HG w3 100 T0.out ⟨0, by omega, rfl⟩ (by simp)).mono ?_
  rintro e w4 ⟨rfl, F', lv', S', l', r', g1, g2, g3, g4, g5⟩
  rw [gsc_end HN.out] at g1
  obtain ⟨p1, p2, p3, p4, p5, p6, p7, p8⟩ := g1
  obtain rfl : r' = some (1, refsN n) := p8 rfl
  obtain ⟨hs', hne, q, ls, m1, m2, m3, m4, m5⟩ := p4
  obtain ⟨rfl, rfl⟩ := m5 1 (refsN n) rfl
  have hold : ∀ x ∈ F.l ++ TB tb (.slice none 0 0) ++ [w1.heap.size, w1.heap.size + 1 + 1, w1.heap.size + 1], w.heap.size ≤ x := by
    intro x hx
    have := H2.out.size
    simp only [List.mem_append, TB, Value.ownBlock, Option.toList, List.mem_cons, List.not_mem_nil, or_false] at hx
    rcases hx with (hx | hx) | hx | hx | hx
    · exact H3.out x hx
    · subst hx; exact TB3.out
    · omega
    · omega
    · omega
  have P1 := Lib.hid p1
  have P2 := Lib.hid p2
  have UF : Hid (Upd [] w w4) := Lib.hid ((H2.out.trans U3.out).trans' g2.up (fun x hx => .inr (hold x hx)))
  have NF : Hid ((∀ x ∈ F'.l, w.heap.size ≤ x) ∧ w1.heap.size + 1 ∉ F'.l ∧ F'.b0 = F.b0) := Lib.hid ⟨fun x hx => (g2.gr x (by simp [hx])).elim (hold x) (fun h => by have := H2.out.size; have := U3.out.size; omega), p6 _ (by rw [hs']; simp), g2.b0⟩
  have K4 := Lib.hid m3
  have f1 := m1.facts
  have f2 := m2.facts
  have HK1 : Hid (w.heap.size ≤ w1.heap.size) := Lib.hid H2.out.size
  clear g2 g3 g4 g5 p1 p2 p3 p5 p6 p7 p8 hs' hne m1 m2 m3 m4 m5 hold hmk hz1
  go_wp2_with fail
  refine (no_nil _).mono ?_; rintro e w' ⟨rfl, rfl⟩
  go_wp2_with fail
  refine (tdone_ok _ P1.out).mono ?_; rintro e w' ⟨rfl, rfl⟩
  go_wp2_with fail
  go_quiet (fail)
  go_wp2_with fail
  go_ret3
  exact ⟨F', w1.heap.size + 1, by rw [NF.out.2.2]; rfl, P2.out.upd ((Upd.refl [] _).drewN _) (by simp), K4.out.drewN _, UF.out.drewN _, NF.out.1, by have := HK1.out; omega, NF.out.2.1⟩
end Go.Proofs.YtkldpdldjalpeaaGreatDoor

namespace Go.Proofs.YtkldpdldjalpeaaGreatDoor.Th
def roomT : Pg Int := .acc (.alloc 1) fun e => .ret e.ref
/-- The scene's blocks with a room. -/
def BR (n : Nat) : BS := (ex (BN n) (.alloc 1)).2
def rmN (n : Nat) : Int := ((BN n).top : Nat)
def GRm (n : Nat) (t : TS Int) (B : BS) : Prop := (t = ⟨roomT, false⟩ ∧ B = BN n) ∨ (t = ⟨.ret (rmN n), true⟩ ∧ B = BR n)
theorem grm_step {n : Nat} (t : TS Int) (B : BS) (h : GRm n t B) (hd : t.done = false) : GRm n (stepT t B).1 (stepT t B).2 := by
  rcases h with ⟨rfl, rfl⟩ | ⟨rfl, rfl⟩
  · exact .inr ⟨rfl, rfl⟩
  · cases hd
theorem grm_end (n : Nat) : soloT 21 ⟨roomT, false⟩ (BN n) = (⟨.ret (rmN n), true⟩, BR n) := rfl
set_option maxRecDepth 20000 in
theorem grm_j {n : Nat} (hn : 1 ≤ n ∧ n ≤ 3) (t : TS Int) (B : BS) (h : GRm n t B) : JT B := by
  have h1 : n = 1 ∨ n = 2 ∨ n = 3 := by omega
  rcases h with ⟨_, rfl⟩ | ⟨_, rfl⟩
  · rcases h1 with rfl | rfl | rfl <;> exact Nat.le_of_ble_eq_true rfl
  · rcases h1 with rfl | rfl | rfl <;> exact Nat.le_of_ble_eq_true rfl
end Go.Proofs.YtkldpdldjalpeaaGreatDoor.Th
namespace Go.Proofs.YtkldpdldjalpeaaGreatDoor
open Go.RowKit Th
attribute [local go_sem] litStep_value

/-- What the scene's body keeps. -/
def MRm (xb : Nat) (w : World) (S : List Nat) (r : Option Int) : Prop := S = [xb] ∧ ∃ q : Int, Blk w xb 26 #[.int .u64 q] ∧ ∀ k, r = some k → q = k
theorem mrm_ok (xb : Nat) : MemOk (MRm xb) := by
  refine ⟨fun w w' T S r h hu hT => ?_, fun w S r h x hx => ?_⟩
  · obtain ⟨rfl, q, h1, h2⟩ := h
    exact ⟨rfl, q, h1.upd hu (fun hm => hT _ hm (by simp)), h2⟩
  · obtain ⟨rfl, q, h1, h2⟩ := h
    simp at hx
    subst hx
    exact h1.lt
def RmPost (F : BFp) (cb : Nat) (lv : Value) (c : CS) (xb : Nat) (w : World) (v : Value) (w' : World) : Prop :=
  ∃ F' lv', CSt w' F' cb lv' (run roomT c).2 ∧ F'.b0 = F.b0 ∧ Upd ([xb] ++ SS F cb lv) w w' ∧ (∀ x ∈ SS F' cb lv', x ∈ SS F cb lv ∨ w.heap.size ≤ x) ∧ MRm xb w' [xb] (run roomT c).1 ∧ BdV w' w.heap.size v (run roomT c).1
set_option maxRecDepth 20000 in
theorem room1_ok {F : BFp} {cb : Nat} {lv : Value} {c : CS} {xb : Nat} {r0 : Option Int} {S : List Nat} (w : World) (h : CSt w F cb lv c) (hJ : JT c.B) (hM : MRm xb w S r0) (hS : ∀ x ∈ S, x ∉ SS F cb lv) :
    Calls Tryz.prog 29 #[.pointer (some ⟨cb, 0, none⟩), .int .i64 0, .pointer (some ⟨xb, 0, none⟩)] w fun e w' => ∃ v, e = .returned v ∧ RmPost F cb lv c xb w v w' := by
  obtain ⟨rfl, q0, m1, _⟩ := hM
  have HN := Lib.hid (newroom_ok w h (by unfold JT at hJ; omega))
  have HM := Lib.hid m1
  have HS : Hid (xb ∉ SS F cb lv) := Lib.hid (hS xb (by simp))
  clear h hJ m1 hS
  go_enter Tryz.func29, Tryz.ntmps29
  go_wp2_with fail
  refine HN.out.mono ?_
  rintro e w1 ⟨F1, lv1, x, v, rfl, h1, h2, h3, h4⟩
  have b1 := HM.out.upd h2.up HS.out
  have f1 := b1.facts
  have hxs : xb ∉ SS F1 cb lv1 := fun hm => by
    rcases h2.gr xb hm with h | h
    · exact HS.out h
    · have := HM.out.lt; omega
  have hu : Upd [xb] w1 (w1.setCell ⟨xb, 0, none⟩ (.int .u64 x)) := (Upd.refl _ _).setCell (by simp) _
  have FIN : Hid (RmPost F cb lv c xb w v (w1.setCell ⟨xb, 0, none⟩ (.int .u64 x))) := Lib.hid (by
    cases ha : access c (.alloc 1) with
    | mk o c1 =>
      rw [ha] at h1 h3
      refine ⟨F1, lv1, ?_, h4, ((h2.up.mono (fun y hy => .inl (by simp [hy]))).trans' hu (by simp)), h2.gr, ⟨rfl, x, b1.set_ 0 _, ?_⟩, ?_⟩
      all_goals
        cases o with
        | none =>
          obtain ⟨rfl, rfl⟩ := h3
          rw [show run roomT c = (none, c1) from run_none ha]
          first
            | exact h1.far hu (by simpa using hxs)
            | exact (by intro k hk; cases hk)
            | exact .num 2 _ _ 11 (by omega)
        | some en =>
          obtain ⟨rfl, rfl⟩ := h3
          rw [show run roomT c = (some en.ref, c1) from run_some ha]
          first
            | exact h1.far hu (by simpa using hxs)
            | exact (by intro k hk; injection hk)
            | rfl)
  clear h1 h2 h3 h4 hu hxs b1
  go_wp2_with fail
  go_ret
  exact ⟨_, rfl, FIN.out⟩
set_option maxRecDepth 20000 in
theorem room_body (xb : Nat) : BodyOk 29 #[.pointer (some ⟨xb, 0, none⟩)] roomT (fun _ => False) JT (MRm xb) where
  ent := fun _ _ => rfl
  run := fun w F cb lv c S r0 h _ _ hJ _ hM hS _ => by
    have hS' : S = [xb] := hM.1
    have hxl := (mrm_ok xb).lt _ _ _ hM
    refine (room1_ok w h hJ hM hS).mono ?_
    subst hS'
    rintro e w' ⟨v, rfl, F', lv', q1, q2, q3, q4, q5, q6⟩
    refine ⟨F', lv', [xb], v, rfl, q1, q2, q3, fun x hx => ?_, fun x hx hm => ?_, q5, q6⟩
    · rcases List.mem_append.1 hx with hx | hx
      · exact .inl (List.mem_append_left _ hx)
      · exact (q4 x hx).imp (List.mem_append_right _) id
    · rcases q4 x hm with h | h
      · exact hS x hx h
      · have := hxl x hx; omega
set_option maxRecDepth 20000 in
set_option maxHeartbeats 1000000 in
theorem scene15_ok (n : Nat) (hn : 1 ≤ n ∧ n ≤ 3) (w : World) :
    Calls Tryz.prog 7 #[.int .i64 n] w fun e w' => ∃ (F : BFp) (kb : Nat), e = .returned (.tuple #[.pointer (some ⟨F.b0, 0, none⟩), .int .u64 (rmN n), .slice (some ⟨kb, 0, none⟩) n n]) ∧ BSt w' F (BR n) ∧ Blk w' kb 26 ((refsN n).map (Value.int .u64)).toArray ∧ Upd [] w w' ∧ (∀ x ∈ F.l, w.heap.size ≤ x) ∧ w.heap.size ≤ kb ∧ kb ∉ F.l := by
  have HN := Lib.hid hn
  have hn3 : (n : Int) ≤ 3 ∧ (1 : Int) ≤ n := by omega
  clear hn
  go_enter Tryz.func7, Tryz.ntmps7
  go_wp2_with fail
  refine (scene_ok n HN.out w).mono ?_
  rintro e w1 ⟨F, kb, rfl, h1, h2, h3, h4, h5, h6⟩
  have H1 := Lib.hid h1
  have H2 := Lib.hid h2
  have H3 := Lib.hid h3
  have H4 : Hid ((∀ x ∈ F.l, w.heap.size ≤ x) ∧ w.heap.size ≤ kb ∧ kb ∉ F.l) := Lib.hid ⟨h4, h5, h6⟩
  clear h1 h2 h3 h4 h5 h6
  go_wp2_with fail
  obtain ⟨w2, hw2⟩ : ∃ w2, w2 = w1.alloc (Obj.cells #[.int .u64 0] 26) := ⟨_, rfl⟩
  have U2 : Hid (Upd [] w1 w2) := Lib.hid (by rw [hw2]; exact (Upd.refl _ _).alloc _)
  have M2 : Hid (MRm w1.heap.size w2 [w1.heap.size] none) := Lib.hid (by rw [hw2]; exact ⟨rfl, 0, Blk.new _ _ _, by intro k h; cases h⟩)
  rw [← hw2]
  clear hw2
  refine (tnew_ok w2 (H1.out.upd U2.out (by simp)) 29 _).mono ?_
  rintro e w3 ⟨tb, rfl, t1, t2, t3, t4⟩
  have hlt1 := H1.out.lt
  have T0 : Hid (TAll 29 #[.pointer (some ⟨w1.heap.size, 0, none⟩)] roomT (MRm w1.heap.size) w3 F (BN n) tb (.slice none 0 0) [w1.heap.size] [] none ⟨roomT, false⟩) := Lib.hid (by
    have hs := (mrm_ok _).lt _ _ _ M2.out
    refine ⟨t1, (H1.out.upd U2.out (by simp)).upd t2 (by simp), ThOk.start _ _, (mrm_ok _).fr _ _ _ _ _ M2.out t2 (by simp), fun x hx hm => ?_, fun x hx hm => ?_, fun x hx hm => ?_, fun h => (by cases h)⟩
    · simp [TB, Value.ownBlock] at hx
      subst hx
      have := hlt1 _ hm
      have := U2.out.size
      omega
    · have := hlt1 x hm
      simp at hx
      omega
    · simp [TB, Value.ownBlock] at hm
      subst hm
      have := hs _ hx
      omega)
  have U3 := Lib.hid (U2.out.trans t2)
  have TB3 : Hid (w.heap.size ≤ tb) := Lib.hid (by have := H3.out.size; have := U2.out.size; omega)
  have K3 := Lib.hid ((H2.out.upd U2.out (by simp)).upd t2 (by simp))
  have KL : Hid (kb < w1.heap.size) := Lib.hid H2.out.lt
  have NT : Hid (w2.heap.size ≤ tb ∧ w1.heap.size ≤ w2.heap.size) := Lib.hid ⟨t3, U2.out.size⟩
  clear t1 t2 t3 t4 hlt1
  go_wp2_with fail
  have HG : Going (α := Int) (fun _ => False) JT (GRm n) := ⟨grm_step, fun _ _ _ _ _ h => h, grm_j HN.out⟩
  refine (trun_ok (room_body _) (mrm_ok _) HG w3 21 T0.out (.inl ⟨rfl, rfl⟩) (by simp)).mono ?_
  rintro e w4 ⟨rfl, F', lv', S', l', r', g1, g2, g3, g4, g5⟩
  rw [grm_end n] at g1
  obtain ⟨p1, p2, p3, p4, p5, p6, p7, p8⟩ := g1
  obtain rfl : r' = some (rmN n) := p8 rfl
  obtain ⟨rfl, q, m1, m5⟩ := p4
  obtain rfl := m5 _ rfl
  have hold : ∀ x ∈ F.l ++ TB tb (.slice none 0 0) ++ [w1.heap.size], w.heap.size ≤ x ∧ x ≠ kb := by
    intro x hx
    have := H3.out.size
    have := KL.out
    have := NT.out
    simp only [List.mem_append, TB, Value.ownBlock, Option.toList, List.mem_cons, List.not_mem_nil, or_false] at hx
    rcases hx with (hx | hx) | hx
    · exact ⟨H4.out.1 x hx, fun e => H4.out.2.2 (e ▸ hx)⟩
    · subst hx; omega
    · omega
  have P2 := Lib.hid p2
  have UF : Hid (Upd [] w w4) := Lib.hid ((H3.out.trans U3.out).trans' g2.up (fun x hx => .inr (hold x hx).1))
  have NF : Hid ((∀ x ∈ F'.l, w.heap.size ≤ x) ∧ kb ∉ F'.l ∧ F'.b0 = F.b0) := Lib.hid ⟨fun x hx => (g2.gr x (by simp [hx])).elim (fun h => (hold x h).1) (fun h => by have := H3.out.size; have := U3.out.size; omega), fun hm => (g2.gr kb (by simp [hm])).elim (fun h => (hold kb h).2 rfl) (fun h => by have := KL.out; have := U3.out.size; omega), g2.b0⟩
  have K4 := Lib.hid (K3.out.upd g2.up (fun hm => (hold kb hm).2 rfl))
  have f1 := m1.facts
  clear g2 g3 g4 g5 p1 p2 p3 p5 p6 p7 p8 m1 m5 hold
  go_wp2_with fail
  refine (no_nil _).mono ?_; rintro e w' ⟨rfl, rfl⟩
  go_wp2_with fail
  go_quiet (fail)
  go_wp2_with fail
  go_ret3
  exact ⟨F', kb, by rw [NF.out.2.2]; rfl, P2.out.upd ((Upd.refl [] _).drewN _) (by simp), K4.out.drewN _, UF.out.drewN _, NF.out.1, H4.out.2.1, NF.out.2.1⟩
end Go.Proofs.YtkldpdldjalpeaaGreatDoor

namespace Go.Proofs.YtkldpdldjalpeaaGreatDoor
open Go.RowKit Th
attribute [local go_sem] litStep_value

section
variable {α : Type}
/-- Boxes that stay as they are; boxes that hold what a body came to. -/
def MBx (cs : List (Nat × TypeId × Array Value)) (os : List (Nat × TypeId × (α → Value))) (w : World) (S : List Nat) (r : Option α) : Prop :=
  S = cs.map (·.1) ++ os.map (·.1) ∧ S.Nodup ∧ (∀ x ∈ cs, Blk w x.1 x.2.1 x.2.2) ∧ ∀ y ∈ os, ∃ v, Blk w y.1 y.2.1 #[v] ∧ ∀ a, r = some a → v = y.2.2 a
theorem mbx_ok (cs : List (Nat × TypeId × Array Value)) (os : List (Nat × TypeId × (α → Value))) : MemOk (MBx cs os) := by
  refine ⟨fun w w' T S r h hu hT => ?_, fun w S r h x hx => ?_⟩
  · obtain ⟨rfl, h0, h1, h2⟩ := h
    refine ⟨rfl, h0, fun x hx => (h1 x hx).upd hu (fun hm => hT _ hm (List.mem_append_left _ (List.mem_map_of_mem hx))), fun y hy => ?_⟩
    obtain ⟨v, g1, g2⟩ := h2 y hy
    exact ⟨v, g1.upd hu (fun hm => hT _ hm (List.mem_append_right _ (List.mem_map_of_mem hy))), g2⟩
  · obtain ⟨rfl, h0, h1, h2⟩ := h
    rcases List.mem_append.1 hx with hx | hx
    · obtain ⟨y, hy, rfl⟩ := List.mem_map.1 hx
      exact (h1 y hy).lt
    · obtain ⟨y, hy, rfl⟩ := List.mem_map.1 hx
      obtain ⟨v, g1, _⟩ := h2 y hy
      exact g1.lt
/-- What a closure leaves. -/
def DoP (F : BFp) (cb : Nat) (lv : Value) (S : List Nat) (M : World → List Nat → Option α → Prop) (w : World) (R : Option α × CS) (v : Value) (w' : World) : Prop :=
  ∃ lv', CSt w' F cb lv' R.2 ∧ Upd (S ++ SS F cb lv) w w' ∧ (∀ x ∈ SS F cb lv', x ∈ SS F cb lv ∨ w.heap.size ≤ x) ∧ M w' S R.1 ∧ BdV w' w.heap.size v R.1
end
/-- One box is written, behind all. -/
theorem dop_one {α : Type} {F : BFp} {cb : Nat} {lv lv1 : Value} {cs : List (Nat × TypeId × Array Value)} {b : Nat} {t : TypeId} {f : α → Value} {w w1 : World} {c1 : CS} {r0 r : Option α} {v x : Value} {S : List Nat} (hM : MBx cs [(b, t, f)] w S r0) (hS : ∀ x ∈ S, x ∉ SS F cb lv)
    (h1 : CSt w1 F cb lv1 c1) (h2 : CNx w w1 F F cb lv lv1) (hx : ∀ a, r = some a → x = f a) (hv : BdV w1 w.heap.size v r) : DoP F cb lv S (MBx cs [(b, t, f)]) w (r, c1) v (w1.setCell ⟨b, 0, none⟩ x) := by
  have hM1 := (mbx_ok cs [(b, t, f)]).fr _ _ _ _ _ hM h2.up (fun x hx hm => hS x hm hx)
  have hlt := (mbx_ok cs [(b, t, f)]).lt _ _ _ hM
  obtain ⟨rfl, h0, g1, g2⟩ := hM1
  obtain ⟨x0, g3, _⟩ := g2 (b, t, f) (by simp)
  have hb : b ∈ cs.map (·.1) ++ [(b, t, f)].map (·.1) := by simp
  have hu : Upd [b] w1 (w1.setCell ⟨b, 0, none⟩ x) := (Upd.refl _ _).setCell (by simp) _
  have hnb : b ∉ SS F cb lv1 := fun hm => (h2.gr b hm).elim (hS b hb) (fun h => by have := hlt b hb; omega)
  refine ⟨lv1, h1.far hu (by simpa using hnb), (h2.up.mono (fun y hy => .inl (List.mem_append_right _ hy))).trans' hu (fun y hy => .inl (by simp at hy; subst hy; exact List.mem_append_left _ hb)), h2.gr, ⟨rfl, h0, fun y hy => (g1 y hy).upd hu (fun hm => ?_), fun y hy => ?_⟩, ?_⟩
  · simp only [List.mem_singleton] at hm
    have := (List.nodup_append.1 h0).2.2 y.1 (List.mem_map_of_mem hy) b (by simp)
    exact this hm
  · simp only [List.mem_singleton] at hy
    subst hy
    exact ⟨x, g3.set_ 0 x, hx⟩
  · cases r with
    | none => exact ErK.upd hv hu (by intro y hy; simp at hy; subst hy; exact hlt _ hb)
    | some a => exact hv
theorem dop_none {α : Type} {F : BFp} {cb : Nat} {lv lv1 : Value} {M : World → List Nat → Option α → Prop} {w w1 : World} {c1 : CS} {r0 r : Option α} {v : Value} {S : List Nat} (MO : MemOk M) (hM : M w S r0) (hr : ∀ W S, M W S r0 → M W S r) (hS : ∀ x ∈ S, x ∉ SS F cb lv)
    (h1 : CSt w1 F cb lv1 c1) (h2 : CNx w w1 F F cb lv lv1) (hv : BdV w1 w.heap.size v r) : DoP F cb lv S M w (r, c1) v w1 :=
  ⟨lv1, h1, h2.up.mono (fun y hy => .inl (List.mem_append_right _ hy)), h2.gr, hr _ _ (MO.fr _ _ _ _ _ hM h2.up (fun x hx hm => hS x hm hx)), hv⟩
/-- A literal of a whole block is a slice owned. -/
theorem ow_lit {α : Type} {E : Enc α} {e : TypeId} {w : World} {g : Nat} {cs : Array Value} {L : List α} {n : Nat} (h : Blk w g e cs) (hn : L.length = n) (hc : cs.toList = flat E L) (hm : n ≤ maxLen) : Ow E e w 0 (.slice (some ⟨g, 0, none⟩) n n) L := by
  refine ⟨flat_len, .inr ⟨g, n, cs, by rw [hn], Nat.zero_le _, h, by omega, hm, ?_, ?_⟩⟩
  · have := congrArg List.length hc
    rw [flat_len, hn] at this
    simpa using this
  · rw [hc, ← flat_len, List.take_length]
def aliM1 (rb cbx kb tk : Nat) : World → List Nat → Option An → Prop := MBx [(rb, 26, #[.int .u64 6]), (cbx, 27, #[.slice (some ⟨kb, 0, none⟩) 1 1]), (kb, 26, #[.int .u64 3])] [(tk, 3, fun a => .int .i64 a.n)]
set_option maxRecDepth 20000 in
set_option maxHeartbeats 1000000 in
theorem ali1_ok (rb cbx kb tk : Nat) {F : BFp} {cb : Nat} {lv : Value} {c : CS} {S : List Nat} {r0 : Option An} (w : World) (h : CSt w F cb lv c) (hJ : ∀ q ∈ [(3, 2), (6, 1)], q ∈ c.B.sz) (hM : aliM1 rb cbx kb tk w S r0) (hS : ∀ x ∈ S, x ∉ SS F cb lv) (hf : ∀ a, (run (sleepT 6 [(3, 0)]) c).1 = some a → ¬ a.err ≠ 0) :
    Calls Tryz.prog 23 #[.pointer (some ⟨cb, 0, none⟩), .pointer (some ⟨rb, 0, none⟩), .pointer (some ⟨cbx, 0, none⟩), .pointer (some ⟨tk, 0, none⟩)] w fun e w' => ∃ v, e = .returned v ∧ DoP F cb lv S (aliM1 rb cbx kb tk) w (run (sleepT 6 [(3, 0)]) c) v w' := by
  have HM := Lib.hid hM
  have hM' := hM
  obtain ⟨h0, _, m1, m2⟩ := hM'
  simp only [List.mem_cons, forall_eq_or_imp, List.not_mem_nil, false_imp_iff, implies_true, and_true] at m1 m2
  obtain ⟨e1, e2, e3⟩ := m1
  obtain ⟨x0, e4, _⟩ := m2
  have b1 := e1.facts
  have b2 := e2.facts
  have b3 := e3.facts
  have b4 := e4.facts
  have H0 := Lib.hid h
  have HJ := Lib.hid hJ
  have HS := Lib.hid hS
  have HF := Lib.hid hf
  obtain ⟨W, hW⟩ : ∃ W, W = (w.alloc (Obj.cells #[.int .u64 3, .int .i64 0] 56)).drew := ⟨_, rfl⟩
  have UW : Hid (Upd [] w W) := Lib.hid (by rw [hW]; exact ((Upd.refl _ _).alloc _).drew)
  have OW : Hid (Ow SnE 56 W 0 (.slice (some ⟨w.heap.size, 0, none⟩) 1 1) [(3, 0)]) := Lib.hid (by rw [hW]; exact (ow_lit (Blk.new _ _ _) rfl rfl (by simp [maxLen])).upd0 (Upd.refl _ _).drew)
  have HC := Lib.hid (sleep_ok W (h.upd0 UW.out) 6 (hJ _ (by simp)) [(3, 0)] (.slice (some ⟨w.heap.size, 0, none⟩) 1 1) OW.out (fun b hb hm => by
    simp [Value.ownBlock] at hb
    subst hb
    have := SS_lt h _ hm
    omega) (by simp) (fun x hx => by simp at hx; subst hx; exact hJ _ (by simp)))
  have HX : Hid (∀ w1, Upd (SS F cb lv) w w1 → Blk w1 tk 3 #[x0]) := Lib.hid (fun w1 hu => e4.upd hu (fun hm => hS tk (by rw [h0]; simp) hm))
  rw [hW] at HC
  clear h hJ hM hS hf e1 e2 e3 e4 OW h0
  go_enter Tryz.func23, Tryz.ntmps23
  go_wp2_with fail
  go_region_with (go_at_call 20; refine HC.out.mono ?_; rintro e w1 ⟨lv1, v, rfl, h1, h2, h3⟩; have FX := (HX.out w1 (by rw [hW] at UW; exact (UW.out.mono (by simp)).trans h2.up)).facts; have HH := Lib.hid (And.intro h1 (And.intro h2 h3)); clear h1 h2 h3)
  all_goals
    go_wp2_with fail
    go_ret
    obtain ⟨h1, h2, h3⟩ := HH.out
    rw [← hW] at h2 h3
    have h2' : CNx w w1 F F cb lv lv1 := h2.upd0 UW.out
    cases hr : run (sleepT 6 [(3, 0)]) c with
    | mk o c1 =>
      rw [hr] at h1 h3
      refine ⟨_, rfl, dop_one HM.out HS.out h1 h2' (fun a ha => ?_) ?_⟩
      · subst ha; rfl
      · cases o with
        | none => exact h3.base UW.out.size
        | some a =>
          have := HF.out a (by rw [hr])
          have e0 : a.err = 0 := Classical.byContradiction this
          simp only [resA, e0] at h3
          exact h3.zero
/-- Lock, and Commit. -/
def lcT : Pg An := (turnT 3 0 (lockTo 1) 8).bind fun a => if a.err = 0 then commitT 3 5 1 else .ret ⟨a.err, 0, 0⟩
def aliM2 (cbx kb wb : Nat) : World → List Nat → Option An → Prop := MBx [(cbx, 27, #[.slice (some ⟨kb, 0, none⟩) 1 1]), (kb, 26, #[.int .u64 3])] [(wb, 4, fun a => .bool (a.n == 1))]
set_option maxRecDepth 20000 in
set_option maxHeartbeats 1000000 in
theorem ali2_ok (cbx kb wb : Nat) {F : BFp} {cb : Nat} {lv : Value} {c : CS} {S : List Nat} {r0 : Option An} (w : World) (h : CSt w F cb lv c) (hJ : ∀ q ∈ [(3, 2), (6, 1)], q ∈ c.B.sz) (hM : aliM2 cbx kb wb w S r0) (hS : ∀ x ∈ S, x ∉ SS F cb lv) (hf : ∀ a, (run lcT c).1 = some a → ¬ a.err ≠ 0) :
    Calls Tryz.prog 24 #[.pointer (some ⟨cb, 0, none⟩), .pointer (some ⟨cbx, 0, none⟩), .pointer (some ⟨wb, 0, none⟩)] w fun e w' => ∃ v, e = .returned v ∧ DoP F cb lv S (aliM2 cbx kb wb) w (run lcT c) v w' := by
  have HM := Lib.hid hM
  have hM' := hM
  obtain ⟨h0, _, m1, m2⟩ := hM'
  simp only [List.mem_cons, forall_eq_or_imp, List.not_mem_nil, false_imp_iff, implies_true, and_true] at m1 m2
  obtain ⟨e2, e3⟩ := m1
  obtain ⟨x0, e4, _⟩ := m2
  have b2 := e2.facts
  have b3 := e3.facts
  have HX : Hid (∀ w1, Upd (SS F cb lv) w w1 → Blk w1 cbx 27 #[.slice (some ⟨kb, 0, none⟩) 1 1] ∧ Blk w1 kb 26 #[.int .u64 3] ∧ Blk w1 wb 4 #[x0]) := Lib.hid (fun w1 hu => ⟨e2.upd hu (fun hm => hS cbx (by rw [h0]; simp) hm), e3.upd hu (fun hm => hS kb (by rw [h0]; simp) hm), e4.upd hu (fun hm => hS wb (by rw [h0]; simp) hm)⟩)
  have HL := Lib.hid (mlock_ok w h 3 (hJ _ (by simp)) 0 1 (by omega))
  have HJ := Lib.hid hJ
  have HS := Lib.hid hS
  have HF := Lib.hid hf
  clear h hJ hM hS hf e2 e3 e4 h0
  go_enter Tryz.func24, Tryz.ntmps24
  go_wp2_with fail
  refine HL.out.mono ?_
  rintro e w1 ⟨lv1, v, rfl, h1, h2, h3⟩
  cases hr : run (turnT 3 0 (lockTo 1) 8) c with
  | mk o c1 =>
    rw [hr] at h1 h3
    have H1 := Lib.hid h1
    have H2 := Lib.hid h2
    have H3 := Lib.hid h3
    cases o with
    | none =>
      have HR : Hid (run lcT c = (none, c1)) := Lib.hid (run_bind_none hr)
      have hc := h3.cases
      simp only [resA] at hc
      obtain ⟨⟨t, x, rfl⟩, _⟩ := hc.resolve_left (by omega)
      clear h1 h2 h3 hc hr
      go_wp2_with fail
      go_ret
      rw [HR.out]
      exact ⟨_, rfl, dop_none (mbx_ok _ _) HM.out (fun W S hh => ⟨hh.1, hh.2.1, hh.2.2.1, fun y hy => by obtain ⟨v, g1, _⟩ := hh.2.2.2 y hy; exact ⟨v, g1, by intro a ha; cases ha⟩⟩) HS.out H1.out H2.out H3.out⟩
    | some a =>
      have hb := run_bind_some (f := fun a : An => if a.err = 0 then commitT 3 5 1 else .ret ⟨a.err, 0, 0⟩) hr
      have hb' : run lcT c = run (if a.err = 0 then commitT 3 5 1 else .ret ⟨a.err, 0, 0⟩) c1 := hb
      by_cases he : a.err = 0
      · rw [if_pos he] at hb'
        have HR := Lib.hid hb'
        simp only [resA, he] at h3
        obtain rfl := h3.zero
        obtain ⟨g1, g2, g3⟩ := HX.out w1 h2.up
        have b5 := g1.facts
        have b6 := g2.facts
        have b7 := g3.facts
        have HC := Lib.hid (mcommit_ok w1 h1 3 (run_mem hr (HJ.out _ (by simp))) 5 1 (by omega) (by omega))
        clear h1 h2 h3 hr hb hb' he g1 g2 g3
        go_wp2_with fail
        refine HC.out.mono ?_
        rintro e w2 ⟨lv2, v, rfl, h1, h2, h3⟩
        have HN := H2.out.trans h2
        have b8 := (HX.out w2 HN.up).2.2.facts
        have HH := Lib.hid (And.intro h1 (And.intro HN (h3.base H2.out.up.size)))
        clear h1 h2 h3 HN b5 b6 b7
        go_wp2_with fail
        go_ret
        obtain ⟨h1, h2, h3⟩ := HH.out
        rw [HR.out]
        cases hr : run (commitT 3 5 1) c1 with
        | mk o c2 =>
          rw [hr] at h1 h3
          refine ⟨_, rfl, dop_one HM.out HS.out h1 h2 (fun a ha => ?_) ?_⟩
          · subst ha; rfl
          · cases o with
            | none => exact h3
            | some a =>
              have := HF.out a (by rw [HR.out, hr])
              have e0 : a.err = 0 := Classical.byContradiction this
              simp only [resA, e0] at h3
              exact h3.zero
      · rw [if_neg he] at hb'
        exact absurd he (HF.out ⟨a.err, 0, 0⟩ (by rw [hb']; rfl))
def aliM3 (rb : Nat) : World → List Nat → Option An → Prop := MBx [(rb, 26, #[.int .u64 6])] []
set_option maxRecDepth 20000 in
set_option maxHeartbeats 1000000 in
theorem ali3_ok (rb : Nat) {F : BFp} {cb : Nat} {lv : Value} {c : CS} {S : List Nat} {r0 : Option An} (w : World) (h : CSt w F cb lv c) (hJ : ∀ q ∈ [(3, 2), (6, 1)], q ∈ c.B.sz) (hM : aliM3 rb w S r0) (hS : ∀ x ∈ S, x ∉ SS F cb lv) (hf : ∀ a, (run (wakeT 6) c).1 = some a → ¬ a.err ≠ 0) :
    Calls Tryz.prog 26 #[.pointer (some ⟨cb, 0, none⟩), .pointer (some ⟨rb, 0, none⟩)] w fun e w' => ∃ v, e = .returned v ∧ DoP F cb lv S (aliM3 rb) w (run (wakeT 6) c) v w' := by
  have HM := Lib.hid hM
  have hM' := hM
  obtain ⟨h0, _, m1, _⟩ := hM'
  simp only [List.mem_cons, forall_eq, List.not_mem_nil, or_false] at m1
  have b1 := m1.facts
  have HL := Lib.hid (wake_ok w h 6 (hJ _ (by simp)) (fun a ha => by have := Classical.byContradiction (hf a ha); omega))
  have HS := Lib.hid hS
  have HF := Lib.hid hf
  clear h hJ hM hS hf m1 h0
  go_enter Tryz.func26, Tryz.ntmps26
  go_wp2_with fail
  refine HL.out.mono ?_
  rintro e w1 ⟨lv1, v, rfl, h1, h2, h3⟩
  have HH := Lib.hid (And.intro h1 (And.intro h2 h3))
  clear h1 h2 h3
  go_wp2_with fail
  go_ret
  obtain ⟨h1, h2, h3⟩ := HH.out
  cases hr : run (wakeT 6) c with
  | mk o c2 =>
    rw [hr] at h1 h3
    refine ⟨_, rfl, dop_none (mbx_ok _ _) HM.out (fun W S hh => ⟨hh.1, hh.2.1, hh.2.2.1, fun y hy => by cases hy⟩) HS.out h1 h2 ?_⟩
    cases o with
    | none => exact h3.up (by omega)
    | some a =>
      have e0 : a.err = 0 := Classical.byContradiction (HF.out a (by rw [hr]))
      simp only [resA, e0] at h3
      exact h3.zero
def aliM4 (rb tk aw : Nat) : World → List Nat → Option An → Prop := MBx [(rb, 26, #[.int .u64 6]), (tk, 3, #[.int .i64 0])] [(aw, 4, fun a => .bool (a.n == 1))]
set_option maxRecDepth 20000 in
set_option maxHeartbeats 1000000 in
theorem ali4_ok (rb tk aw : Nat) {F : BFp} {cb : Nat} {lv : Value} {c : CS} {S : List Nat} {r0 : Option An} (w : World) (h : CSt w F cb lv c) (hJ : ∀ q ∈ [(3, 2), (6, 1)], q ∈ c.B.sz) (hM : aliM4 rb tk aw w S r0) (hS : ∀ x ∈ S, x ∉ SS F cb lv) (hf : ∀ a, (run (awakeT 6 0) c).1 = some a → ¬ a.err ≠ 0) :
    Calls Tryz.prog 27 #[.pointer (some ⟨cb, 0, none⟩), .pointer (some ⟨rb, 0, none⟩), .pointer (some ⟨tk, 0, none⟩), .pointer (some ⟨aw, 0, none⟩)] w fun e w' => ∃ v, e = .returned v ∧ DoP F cb lv S (aliM4 rb tk aw) w (run (awakeT 6 0) c) v w' := by
  have HM := Lib.hid hM
  have hM' := hM
  obtain ⟨h0, _, m1, m2⟩ := hM'
  simp only [List.mem_cons, forall_eq_or_imp, List.not_mem_nil, false_imp_iff, implies_true, and_true] at m1 m2
  obtain ⟨e1, e2⟩ := m1
  obtain ⟨x0, e4, _⟩ := m2
  have b1 := e1.facts
  have b2 := e2.facts
  have HX : Hid (∀ w1, Upd (SS F cb lv) w w1 → Blk w1 aw 4 #[x0]) := Lib.hid (fun w1 hu => e4.upd hu (fun hm => hS aw (by rw [h0]; simp) hm))
  have HL := Lib.hid (awake_ok w h 6 (hJ _ (by simp)) 0)
  have HS := Lib.hid hS
  have HF := Lib.hid hf
  clear h hJ hM hS hf e1 e2 e4 h0
  go_enter Tryz.func27, Tryz.ntmps27
  go_wp2_with fail
  refine HL.out.mono ?_
  rintro e w1 ⟨lv1, v, rfl, h1, h2, h3⟩
  have b5 := (HX.out w1 h2.up).facts
  have HH := Lib.hid (And.intro h1 (And.intro h2 h3))
  clear h1 h2 h3
  go_wp2_with fail
  go_ret
  obtain ⟨h1, h2, h3⟩ := HH.out
  cases hr : run (awakeT 6 0) c with
  | mk o c2 =>
    rw [hr] at h1 h3
    refine ⟨_, rfl, dop_one HM.out HS.out h1 h2 (fun a ha => ?_) ?_⟩
    · subst ha; rfl
    · cases o with
      | none => exact h3
      | some a =>
        have e0 : a.err = 0 := Classical.byContradiction (HF.out a (by rw [hr]))
        simp only [resA, e0] at h3
        exact h3.zero
end Go.Proofs.YtkldpdldjalpeaaGreatDoor

namespace Go.Proofs.YtkldpdldjalpeaaGreatDoor.Th
def wakesT (ck : Nat) : Nat → Pg An
  | 0 => .ret ⟨0, 0, 0⟩
  | n + 1 => (wakeT ck).bind fun a => if a.err = 0 then wakesT ck n else .ret ⟨a.err, 0, 0⟩
def rmsT (n : Nat) (tk : Int) : Pg An := (wakesT 6 n).bind fun a => if a.err = 0 then ((sleepT 6 []).bind fun b => if b.err = 0 then (awakeT 6 tk).bind fun d => .ret ⟨0, d.n, b.n⟩ else .ret ⟨b.err, 0, 0⟩) else .ret ⟨a.err, 0, 0⟩
theorem dep_wakes (ck : Nat) : ∀ n, Dep (wakesT ck n) (16 * n)
  | 0 => .ret _ _
  | n + 1 => by
    rw [show 16 * (n + 1) = 16 + 16 * n by omega]
    exact (dep_wake ck).bind fun a => by
      split
      · exact dep_wakes ck n
      · exact .ret _ _
theorem dep_rms (n : Nat) (tk : Int) : Dep (rmsT n tk) (16 * n + 2) := (dep_wakes 6 n).bind fun a => by
  split
  · exact (dep_sleep 6 []).bind (m := 1) fun b => by
      split
      · exact (dep_awake 6 tk).bind (m := 0) fun d => .ret _ _
      · exact .ret _ _
  · exact .ret _ _
end Go.Proofs.YtkldpdldjalpeaaGreatDoor.Th
namespace Go.Proofs.YtkldpdldjalpeaaGreatDoor
open Go.RowKit Th
attribute [local go_sem] litStep_value

/-- Amid a closure: what is there. -/
structure DoW {α : Type} (F : BFp) (cb : Nat) (lv : Value) (S : List Nat) (cs : List (Nat × TypeId × Array Value)) (os : List (Nat × TypeId × (α → Value))) (w : World) (lv1 : Value) (c1 : CS) (w1 : World) : Prop where
  st : CSt w1 F cb lv1 c1
  up : Upd (S ++ SS F cb lv) w w1
  gr : ∀ x ∈ SS F cb lv1, x ∈ SS F cb lv ∨ w.heap.size ≤ x
  m : MBx cs os w1 S (none : Option α)
  ns : ∀ x ∈ S, x ∉ SS F cb lv1
section
variable {α : Type} {F : BFp} {cb : Nat} {lv lv1 lv2 : Value} {S : List Nat} {cs : List (Nat × TypeId × Array Value)} {os : List (Nat × TypeId × (α → Value))} {w w1 w2 : World} {c1 c2 : CS}
theorem MBx.none {r0 : Option α} (h : MBx cs os w S r0) : MBx cs os w S (none : Option α) := ⟨h.1, h.2.1, h.2.2.1, fun y hy => by obtain ⟨v, g1, _⟩ := h.2.2.2 y hy; exact ⟨v, g1, by intro a ha; cases ha⟩⟩
theorem DoW.start {c : CS} {r0 : Option α} (h : CSt w F cb lv c) (hM : MBx cs os w S r0) (hS : ∀ x ∈ S, x ∉ SS F cb lv) : DoW F cb lv S cs os w lv c w := ⟨h, .refl _ _, fun _ h => .inl h, hM.none, hS⟩
theorem DoW.upd (h : DoW F cb lv S cs os w lv1 c1 w1) (hu : Upd [] w1 w2) : DoW F cb lv S cs os w lv1 c1 w2 :=
  ⟨h.st.upd0 hu, h.up.trans' hu (by simp), h.gr, (mbx_ok cs os).fr _ _ _ _ _ h.m hu (by simp), h.ns⟩
theorem DoW.call (h : DoW F cb lv S cs os w lv1 c1 w1) (h1 : CSt w2 F cb lv2 c2) (h2 : CNx w1 w2 F F cb lv1 lv2) : DoW F cb lv S cs os w lv2 c2 w2 := by
  have hlt := (mbx_ok cs os).lt _ _ _ h.m
  refine ⟨h1, h.up.trans' h2.up (fun x hx => (h.gr x hx).imp (List.mem_append_right _) id), fun x hx => ?_, (mbx_ok cs os).fr _ _ _ _ _ h.m h2.up (fun x hx hm => h.ns x hm hx), fun x hx hm => ?_⟩
  · rcases h2.gr x hx with h3 | h3
    · exact h.gr x h3
    · exact .inr (Nat.le_trans h.up.size h3)
  · rcases h2.gr x hm with h3 | h3
    · exact h.ns x hx h3
    · have := hlt x hx; omega
theorem DoW.put (h : DoW F cb lv S cs os w lv1 c1 w1) {b : Nat} {t : TypeId} {f : α → Value} (hb : (b, t, f) ∈ os) (x : Value) : DoW F cb lv S cs os w lv1 c1 (w1.setCell ⟨b, 0, none⟩ x) ∧ Blk (w1.setCell ⟨b, 0, none⟩ x) b t #[x] ∧ Upd [b] w1 (w1.setCell ⟨b, 0, none⟩ x) := by
  have hu : Upd [b] w1 (w1.setCell ⟨b, 0, none⟩ x) := (Upd.refl _ _).setCell (by simp) _
  obtain ⟨h0, hn, g1, g2⟩ := h.m
  have hbS : b ∈ S := by rw [h0]; exact List.mem_append_right _ (List.mem_map_of_mem hb)
  obtain ⟨x0, g3, _⟩ := g2 (b, t, f) hb
  have g4 : Blk (w1.setCell ⟨b, 0, none⟩ x) b t #[x] := g3.set_ 0 x
  refine ⟨⟨h.st.far hu (by simpa using h.ns b hbS), h.up.trans' hu (fun y hy => by simp at hy; subst hy; exact .inl (List.mem_append_left _ hbS)), h.gr, ⟨h0, hn, fun y hy => (g1 y hy).upd hu (fun hm => ?_), fun y hy => ?_⟩, h.ns⟩, g4, hu⟩
  · simp only [List.mem_singleton] at hm
    rw [h0] at hn
    have := (List.nodup_append.1 hn).2.2 y.1 (List.mem_map_of_mem hy) b (List.mem_map_of_mem hb)
    exact this hm
  · obtain ⟨v, g5, _⟩ := g2 y hy
    by_cases e : y.1 = b
    · refine ⟨x, ?_, by intro a ha; cases ha⟩
      have g6 := g5.set_ 0 x
      rw [e] at g6 ⊢
      exact g6
    · exact ⟨v, g5.upd hu (by simpa using e), by intro a ha; cases ha⟩
theorem DoW.fin (h : DoW F cb lv S cs os w lv1 c1 w1) {r : Option α} {v : Value} (hr : ∀ a, r = some a → ∀ y ∈ os, Blk w1 y.1 y.2.1 #[y.2.2 a]) (hv : BdV w1 w.heap.size v r) : DoP F cb lv S (MBx cs os) w (r, c1) v w1 := by
  obtain ⟨h0, hn, g1, g2⟩ := h.m
  refine ⟨lv1, h.st, h.up, h.gr, ⟨h0, hn, g1, fun y hy => ?_⟩, hv⟩
  cases r with
  | none => obtain ⟨v, g5, _⟩ := g2 y hy; exact ⟨v, g5, by intro a ha; cases ha⟩
  | some a => exact ⟨_, hr a rfl y hy, by intro b hb; injection hb with hb; rw [hb]⟩
end
abbrev rmsC (nb rb tb : Nat) (n : Nat) (tk : Int) : List (Nat × TypeId × Array Value) := [(nb, 3, #[.int .i64 n]), (rb, 26, #[.int .u64 6]), (tb, 3, #[.int .i64 tk])]
abbrev rmsO (gb ab : Nat) : List (Nat × TypeId × (An → Value)) := [(gb, 3, fun a => .int .i64 a.n), (ab, 4, fun a => .bool (a.val == 1))]
theorem awake_e0 {ck : Nat} {tk : Int} {c c' : CS} {a : An} (h : run (awakeT ck tk) c = (some a, c')) : a.err = 0 := by
  have : RetAll (fun a : An => a.err = 0) (awakeT ck tk) := fun e => rfl
  exact retAll_run (P := fun a : An => a.err = 0) this (by rw [h])
set_option maxRecDepth 20000 in
set_option maxHeartbeats 2000000 in
theorem rms_ok (nb rb tb gb ab n : Nat) (hn : n ≤ 20) (tk : Int) {F : BFp} {cb : Nat} {lv : Value} {c : CS} {S : List Nat} {r0 : Option An} (w : World) (h : CSt w F cb lv c) (hJ : ∀ q ∈ [(3, 2), (6, 1)], q ∈ c.B.sz) (hM : MBx (rmsC nb rb tb n tk) (rmsO gb ab) w S r0) (hS : ∀ x ∈ S, x ∉ SS F cb lv) (hf : ∀ a, (run (rmsT n tk) c).1 = some a → ¬ a.err ≠ 0) :
    Calls Tryz.prog 18 #[.pointer (some ⟨cb, 0, none⟩), .pointer (some ⟨nb, 0, none⟩), .pointer (some ⟨rb, 0, none⟩), .pointer (some ⟨gb, 0, none⟩), .pointer (some ⟨tb, 0, none⟩), .pointer (some ⟨ab, 0, none⟩)] w fun e w' => ∃ v, e = .returned v ∧ DoP F cb lv S (MBx (rmsC nb rb tb n tk) (rmsO gb ab)) w (run (rmsT n tk) c) v w' := by
  have D0 : Hid (DoW F cb lv S (rmsC nb rb tb n tk) (rmsO gb ab) w lv c w) := Lib.hid (.start h hM hS)
  have FX : Hid (∀ W lv1 c1, DoW F cb lv S (rmsC nb rb tb n tk) (rmsO gb ab) w lv1 c1 W → Blk W nb 3 #[.int .i64 n] ∧ Blk W rb 26 #[.int .u64 6] ∧ Blk W tb 3 #[.int .i64 tk] ∧ (∃ x, Blk W gb 3 #[x]) ∧ ∃ x, Blk W ab 4 #[x]) := Lib.hid (fun W lv1 c1 hD => by
    obtain ⟨_, _, m1, m2⟩ := hD.m
    simp only [List.mem_cons, forall_eq_or_imp, List.not_mem_nil, false_imp_iff, implies_true, and_true] at m1 m2
    obtain ⟨⟨x, e1, _⟩, y, e2, _⟩ := m2
    exact ⟨m1.1, m1.2.1, m1.2.2, ⟨x, e1⟩, y, e2⟩)
  have HNE : Hid (gb ≠ ab ∧ rb ≠ gb ∧ tb ≠ gb ∧ gb ≠ rb ∧ gb ≠ tb) := Lib.hid (by
    obtain ⟨rfl, hnd, _⟩ := hM
    simp at hnd
    omega)
  have HAB : Hid (ab < w.heap.size) := Lib.hid ((mbx_ok _ _).lt _ _ _ hM ab (by rw [hM.1]; simp))
  have b1 := (FX.out _ _ _ D0.out).1.facts
  have HJ : Hid ((6, 1) ∈ c.B.sz) := Lib.hid (hJ _ (by simp))
  have HF := Lib.hid hf
  have hn3 : (n : Int) ≤ 20 := by omega
  have HN := Lib.hid hn
  clear h hJ hM hS hf hn
  go_enter Tryz.func18, Tryz.ntmps18
  go_wp2_with fail
  clear b1
  go_loopw [8, 12] (fun u8 u12 wr => ∃ (j : Nat) (cj : CS) (lj : Value), u12 = .int .i64 j ∧ j ≤ n ∧ Hid (DoW F cb lv S (rmsC nb rb tb n tk) (rmsO gb ab) w lj cj wr) ∧ Hid (run ((wakesT 6 (n - j)).bind fun a => if a.err = 0 then ((sleepT 6 []).bind fun b => if b.err = 0 then (awakeT 6 tk).bind fun d => .ret ⟨0, d.n, b.n⟩ else .ret ⟨b.err, 0, 0⟩) else .ret ⟨a.err, 0, 0⟩) cj = run (rmsT n tk) c ∧ (6, 1) ∈ cj.B.sz)) (fun _ u _ => n - (intOf u).toNat)
  case atStart => exact ⟨0, c, lv, rfl, by omega, D0, Lib.hid ⟨by rw [Nat.sub_zero]; rfl, HJ.out⟩⟩
  case round =>
    obtain ⟨j, cj, lj, rfl, hj, KD, KR⟩ := hrel
    rename World => wr
    have b2 := (FX.out _ _ _ KD.out).2.1.facts
    by_cases hlt : j < n
    · have hjn : (j : Int) < n := by omega
      have hdr := KR.out.1
      obtain ⟨m, hm⟩ : ∃ m, n - j = m + 1 := ⟨n - j - 1, by omega⟩
      rw [hm] at hdr
      have hdr : run (((wakeT 6).bind fun a => if a.err = 0 then wakesT 6 m else .ret ⟨a.err, 0, 0⟩).bind fun a => if a.err = 0 then ((sleepT 6 []).bind fun b => if b.err = 0 then (awakeT 6 tk).bind fun d => .ret ⟨0, d.n, b.n⟩ else .ret ⟨b.err, 0, 0⟩) else .ret ⟨a.err, 0, 0⟩) cj = run (rmsT n tk) c := hdr
      have hz : ∀ a c', run (wakeT 6) cj = (some a, c') → a.err = 0 := fun a c' ha => by
        rw [run_bind_some' (run_bind_some ha)] at hdr
        refine Classical.byContradiction fun h0 => ?_
        rw [if_neg h0] at hdr
        have hdr : run (if (a.err = 0) then ((sleepT 6 []).bind fun b => if b.err = 0 then (awakeT 6 tk).bind fun d => .ret ⟨0, d.n, b.n⟩ else .ret ⟨b.err, 0, 0⟩) else .ret ⟨a.err, 0, 0⟩) c' = run (rmsT n tk) c := hdr
        rw [if_neg h0] at hdr
        exact HF.out ⟨a.err, 0, 0⟩ (by rw [← hdr]; rfl) h0
      have HW := Lib.hid (wake_ok wr KD.out.st 6 KR.out.2 (fun a ha => by
        have := hz a _ (Prod.ext ha rfl)
        omega))
      have HZ := Lib.hid hz
      have HDR := Lib.hid hdr
      have HM := Lib.hid hm
      have HJ2 := Lib.hid hlt
      clear hj hlt hdr hz hm
      go_wp2_with fail
      refine HW.out.mono ?_
      rintro e w1 ⟨lv1, v, rfl, h1, h2, h3⟩
      have D1 := Lib.hid (KD.out.call h1 h2)
      cases hr : run (wakeT 6) cj with
      | mk o c1 =>
        rw [hr] at h3 D1
        have H3 := Lib.hid ((h3.base KD.out.up.size).up (show 1 ≤ 2 by omega))
        cases o with
        | none =>
          have HR : Hid (run (rmsT n tk) c = (none, c1)) := Lib.hid (by rw [← HDR.out]; exact run_bind_none (run_bind_none hr))
          have hc := h3.cases
          simp only [resA] at hc
          obtain ⟨⟨t, x, rfl⟩, _⟩ := hc.resolve_left (by omega)
          clear h1 h2 h3 hc hr b2
          go_wp2_with fail
          go_ret
          rw [HR.out]
          exact ⟨_, rfl, D1.out.fin (by intro a ha; cases ha) H3.out⟩
        | some a =>
          have he := HZ.out a c1 hr
          simp only [resA, he] at h3
          obtain rfl := h3.zero
          have HR : Hid (run ((wakesT 6 m).bind fun a => if a.err = 0 then ((sleepT 6 []).bind fun b => if b.err = 0 then (awakeT 6 tk).bind fun d => .ret ⟨0, d.n, b.n⟩ else .ret ⟨b.err, 0, 0⟩) else .ret ⟨a.err, 0, 0⟩) c1 = run (rmsT n tk) c ∧ (6, 1) ∈ c1.B.sz) := Lib.hid ⟨by
            rw [← HDR.out, run_bind_some' (run_bind_some hr), if_pos he], run_mem hr KR.out.2⟩
          clear h1 h2 h3 hr b2 he
          go_wp2_with fail
          go_round
          case rel => exact ⟨j + 1, c1, lv1, by simp, by have := HJ2.out; omega, D1, by rw [show n - (j + 1) = m by have := HM.out; omega]; exact HR⟩
          case measure => have := HJ2.out; simp [intOf]; omega
    · have hjn : ¬ ((j : Int) < n) := by omega
      have HR0 : Hid (run ((sleepT 6 []).bind fun b => if b.err = 0 then (awakeT 6 tk).bind fun d => .ret ⟨0, d.n, b.n⟩ else .ret ⟨b.err, 0, 0⟩) cj = run (rmsT n tk) c) := Lib.hid (by
        rw [← KR.out.1, show n - j = 0 by omega]
        rfl)
      have HSl := Lib.hid (sleep_ok wr KD.out.st 6 KR.out.2 [] (.slice none 0 0) (Ow.nil _ _ _ _) (by simp [Value.ownBlock]) (by simp) (by simp))
      clear hj hlt
      go_wp2_with fail
      refine HSl.out.mono ?_
      rintro e w1 ⟨lv1, v, rfl, h1, h2, h3⟩
      have D1 := Lib.hid (KD.out.call h1 h2)
      cases hr : run (sleepT 6 []) cj with
      | mk o c1 =>
        rw [hr] at h3 D1
        have H3 := Lib.hid (h3.base KD.out.up.size)
        cases o with
        | none =>
          have HR : Hid (run (rmsT n tk) c = (none, c1)) := Lib.hid (by rw [← HR0.out]; exact run_bind_none hr)
          have hc := h3.cases
          simp only [resA] at hc
          obtain ⟨⟨t, x, rfl⟩, _⟩ := hc.resolve_left (by omega)
          clear h1 h2 h3 hc hr b2
          go_wp2_with fail
          go_ret
          rw [HR.out]
          exact ⟨_, rfl, D1.out.fin (by intro a ha; cases ha) H3.out⟩
        | some b =>
          have hR1 : run (if b.err = 0 then (awakeT 6 tk).bind fun d => .ret (⟨0, d.n, b.n⟩ : An) else .ret ⟨b.err, 0, 0⟩) c1 = run (rmsT n tk) c := by rw [← HR0.out, run_bind_some hr]
          have he : b.err = 0 := Classical.byContradiction fun h0 => by
            rw [if_neg h0] at hR1
            exact HF.out ⟨b.err, 0, 0⟩ (by rw [← hR1]; rfl) h0
          rw [if_pos he] at hR1
          have HR1 := Lib.hid hR1
          simp only [resA, he] at h3
          obtain rfl := h3.zero
          obtain ⟨g1, g2, g3, ⟨x4, g4⟩, x5, g5⟩ := FX.out _ _ _ D1.out
          have f2 := g2.facts
          have f3 := g3.facts
          have f4 := g4.facts
          obtain ⟨bn, hbn⟩ : ∃ bn, bn = b.n := ⟨_, rfl⟩
          have HBN := Lib.hid hbn
          have hmem := run_mem hr KR.out.2
          have HMEM := Lib.hid hmem
          simp only [resA]
          rw [← hbn]
          obtain ⟨D2, x6, u6⟩ := D1.out.put (b := gb) (t := 3) (f := fun a => .int .i64 a.n) (by simp) (.int .i64 bn)
          have D2 := Lib.hid D2
          have X6 := Lib.hid x6
          have HA := Lib.hid (awake_ok _ D2.out.st 6 hmem tk)
          obtain ⟨_, z1, z2, z3, z4⟩ := HNE.out
          clear h1 h2 h3 hr b2 he hR1 g1 g2 g3 g4 g5 hbn hmem x6 u6
          go_wp2_with fail
          refine HA.out.mono ?_
          rintro e w2 ⟨lv2, v, rfl, h1, h2, h3⟩
          have D3 := Lib.hid (D2.out.call h1 h2)
          have X7 : Hid (Blk w2 gb 3 #[.int .i64 bn]) := Lib.hid (X6.out.upd h2.up (D2.out.ns gb (by rw [D2.out.m.1]; simp)))
          have H3 := Lib.hid (h3.base D2.out.up.size)
          obtain ⟨_, _, _, _, x5, g5⟩ := FX.out _ _ _ D3.out
          have f5 := g5.facts
          obtain ⟨D4, x8, u8⟩ := D3.out.put (b := ab) (t := 4) (f := fun a => .bool (a.val == 1)) (by simp) (.bool ((resA (run (awakeT 6 tk) c1).1).n == 1))
          have D4 := Lib.hid D4
          have X8 := Lib.hid x8
          have X9 := Lib.hid (X7.out.upd u8 (by simpa using HNE.out.1))
          have hlt5 : Hid (ab < w2.heap.size) := Lib.hid g5.lt
          clear h1 h2 h3 f2 f3 f4 g5 x8 u8 z1 z2 z3 z4
          go_wp2_with fail
          go_ret
          refine ⟨_, rfl, ?_⟩
          cases hr : run (awakeT 6 tk) c1 with
          | mk o c2 =>
            have D4' := D4.out
            have X8' := X8.out
            have X9' := X9.out
            have H3' := H3.out
            rw [hr] at D4' X8' X9' H3'
            cases o with
            | none =>
              have HR : run (rmsT n tk) c = (none, c2) := by rw [← HR1.out]; exact run_bind_none hr
              rw [HR]
              exact D4'.fin (by intro a ha; cases ha) (ErK.upd H3' (S := [ab]) ((Upd.refl _ _).setCell (by simp) _) (by intro x hx; simp at hx; subst hx; exact HAB.out))
            | some d =>
              have HR : run (rmsT n tk) c = (some ⟨0, d.n, b.n⟩, c2) := by rw [← HR1.out]; exact run_bind_some hr
              rw [HR]
              refine D4'.fin (fun a ha => ?_) ?_
              · injection ha with ha
                subst ha
                simp only [List.mem_cons, forall_eq_or_imp, List.not_mem_nil, false_imp_iff, implies_true, and_true]
                exact ⟨HBN.out ▸ X9', X8'⟩
              · have e0 := awake_e0 hr
                simp only [resA, e0] at H3'
                exact H3'.zero
end Go.Proofs.YtkldpdldjalpeaaGreatDoor

namespace Go.Proofs.YtkldpdldjalpeaaGreatDoor
open Go.RowKit Th
attribute [local go_sem] litStep_value

theorem boxes3 (w : World) (t0 t1 t2 : TypeId) (a b c : Value) : Blk (((w.alloc (.cells #[a] t0)).alloc (.cells #[b] t1)).alloc (.cells #[c] t2)) w.heap.size t0 #[a] ∧ Blk (((w.alloc (.cells #[a] t0)).alloc (.cells #[b] t1)).alloc (.cells #[c] t2)) (w.heap.size + 1) t1 #[b] ∧ Blk (((w.alloc (.cells #[a] t0)).alloc (.cells #[b] t1)).alloc (.cells #[c] t2)) (w.heap.size + 1 + 1) t2 #[c] ∧ Upd [] w (((w.alloc (.cells #[a] t0)).alloc (.cells #[b] t1)).alloc (.cells #[c] t2)) ∧ (((w.alloc (.cells #[a] t0)).alloc (.cells #[b] t1)).alloc (.cells #[c] t2)).heap.size = w.heap.size + 3 :=
  ⟨((Blk.new _ _ _).alloc _).alloc _, (Blk.newAt _ _ (by simp)).alloc _, Blk.newAt _ _ (by simp), (((Upd.refl _ _).alloc _).alloc _).alloc _, by simp⟩
theorem sleeper_mk (A : Option Addr) (n0 cp : Nat) (tb i : Nat) (w : World) : Calls Tryz.prog 9 #[.int .u64 12, .slice A n0 cp, .pointer (some ⟨tb, i, none⟩)] w fun e w' =>
    e = .returned (.func (.func 31) #[] #[.pointer (some ⟨w.heap.size + 1, 0, none⟩), .pointer (some ⟨w.heap.size, 0, none⟩), .pointer (some ⟨w.heap.size + 1 + 1, 0, none⟩)]) ∧ Blk w' w.heap.size 26 #[.int .u64 12] ∧ Blk w' (w.heap.size + 1) 27 #[.slice A n0 cp] ∧ Blk w' (w.heap.size + 1 + 1) 36 #[.pointer (some ⟨tb, i, none⟩)] ∧ Upd [] w w' ∧ w'.heap.size = w.heap.size + 3 := by
  go_enter Tryz.func9, Tryz.ntmps9
  go_wp2_with fail
  go_ret
  exact ⟨rfl, boxes3 _ _ _ _ _ _ _⟩
theorem committer_mk (r : Int) (db j : Nat) (w : World) : Calls Tryz.prog 10 #[.int .u64 12, .int .u64 r, .pointer (some ⟨db, j, none⟩)] w fun e w' =>
    e = .returned (.func (.func 32) #[] #[.pointer (some ⟨w.heap.size + 1 + 1, 0, none⟩), .pointer (some ⟨w.heap.size + 1, 0, none⟩), .pointer (some ⟨w.heap.size, 0, none⟩)]) ∧ Blk w' w.heap.size 26 #[.int .u64 12] ∧ Blk w' (w.heap.size + 1) 26 #[.int .u64 r] ∧ Blk w' (w.heap.size + 1 + 1) 38 #[.pointer (some ⟨db, j, none⟩)] ∧ Upd [] w w' ∧ w'.heap.size = w.heap.size + 3 := by
  go_enter Tryz.func10, Tryz.ntmps10
  go_wp2_with fail
  go_ret
  exact ⟨rfl, boxes3 _ _ _ _ _ _ _⟩
abbrev askC (rb tkb ib tb i : Nat) (n : Nat) (tv : List Int) : List (Nat × TypeId × Array Value) := [(rb, 26, #[.int .u64 12]), (tkb, 23, #[.slice (some ⟨tb, 0, none⟩) n n]), (ib, 3, #[.int .i64 i]), (tb, 3, (tv.map (Value.int .i64)).toArray)]
abbrev askO (ab : Nat) : List (Nat × TypeId × (An → Value)) := [(ab, 4, fun a => .bool (a.n == 1))]
set_option maxRecDepth 20000 in
set_option maxHeartbeats 1000000 in
theorem ask_ok (rb tkb ib tb i ab n : Nat) (tv : List Int) (hn : tv.length = n) (hi : i < n) (hn3 : n ≤ 3) {F : BFp} {cb : Nat} {lv : Value} {c : CS} {S : List Nat} {r0 : Option An} (w : World) (h : CSt w F cb lv c) (hJ : ∀ q ∈ [(12, 1)], q ∈ c.B.sz) (hM : MBx (askC rb tkb ib tb i n tv) (askO ab) w S r0) (hS : ∀ x ∈ S, x ∉ SS F cb lv) (hf : ∀ a, (run (awakeT 12 (tv.getD i 0)) c).1 = some a → ¬ a.err ≠ 0) :
    Calls Tryz.prog 16 #[.pointer (some ⟨cb, 0, none⟩), .pointer (some ⟨rb, 0, none⟩), .pointer (some ⟨tkb, 0, none⟩), .pointer (some ⟨ib, 0, none⟩), .pointer (some ⟨ab, 0, none⟩)] w fun e w' => ∃ v, e = .returned v ∧ DoP F cb lv S (MBx (askC rb tkb ib tb i n tv) (askO ab)) w (run (awakeT 12 (tv.getD i 0)) c) v w' := by
  have HM := Lib.hid hM
  have hM' := hM
  obtain ⟨h0, hnd, m1, m2⟩ := hM'
  simp only [List.mem_cons, forall_eq_or_imp, List.not_mem_nil, false_imp_iff, implies_true, and_true] at m1 m2
  obtain ⟨e1, e2, e3, e5⟩ := m1
  obtain ⟨x0, e4, _⟩ := m2
  obtain ⟨t, ht⟩ : ∃ t, t = tv.getD i 0 := ⟨_, rfl⟩
  have hab : ∀ b ∈ [rb, tkb, ib, tb], b ≠ ab := fun b hb e => by
    rw [h0] at hnd
    simp at hnd hb
    omega
  have KP : Hid (∀ V, Upd (ab :: SS F cb lv) w V → V.cell? ⟨rb, 0, none⟩ = some (.int .u64 12) ∧ V.cell? ⟨tkb, 0, none⟩ = some (.slice (some ⟨tb, 0, none⟩) n n) ∧ V.cell? ⟨ib, 0, none⟩ = some (.int .i64 i) ∧ V.cell? ⟨tb, i, none⟩ = some (.int .i64 t)) := Lib.hid (fun V hu => by
    have hin : ∀ b ∈ [rb, tkb, ib, tb], b ∉ ab :: SS F cb lv := fun b hb hm => (List.mem_cons.1 hm).elim (hab b hb) (hS b (by rw [h0]; simp at hb ⊢; omega))
    refine ⟨(e1.upd hu (hin _ (by simp))).cell 0, (e2.upd hu (hin _ (by simp))).cell 0, (e3.upd hu (hin _ (by simp))).cell 0, ?_⟩
    rw [(e5.upd hu (hin _ (by simp))).cell i, ht]
    simp [List.getD_eq_getElem?_getD, List.getElem?_eq_getElem (show i < tv.length by omega)])
  have HX : Hid (∀ w1, Upd (SS F cb lv) w w1 → Blk w1 ab 4 #[x0]) := Lib.hid (fun w1 hu => e4.upd hu (fun hm => hS ab (by rw [h0]; simp) hm))
  rw [← ht] at hf ⊢
  have HC := Lib.hid (awake_ok w.drew (h.upd0 (Upd.refl _ _).drew) 12 (hJ _ (by simp)) t)
  have HF := Lib.hid hf
  have HS := Lib.hid hS
  have hi3 : (i : Int) < n := by omega
  have hn33 : (n : Int) ≤ 3 := by omega
  clear h hJ hM hS hf e1 e2 e3 e4 e5 h0 hnd ht hn hi hn3 hab
  go_enter Tryz.func16, Tryz.ntmps16
  go_wp2_with fail
  go_region_held3 (fun V => V.cell? ⟨rb, 0, none⟩ = some (.int .u64 12) ∧ V.cell? ⟨tkb, 0, none⟩ = some (.slice (some ⟨tb, 0, none⟩) n n) ∧ V.cell? ⟨ib, 0, none⟩ = some (.int .i64 i) ∧ V.cell? ⟨tb, i, none⟩ = some (.int .i64 t)) (first | exact KP.out _ hu2 | exact KP.out _ (Upd.refl _ _).drew | exact KP.out _ (hu2.setCell (.inl (by simp)) _)) (first
    | (go_at_call 17; refine HC.out.mono ?_; rintro e w1 ⟨lv1, v, rfl, h1, h2, h3⟩; have h2' : CNx w w1 F F cb lv lv1 := h2.upd0 (Upd.refl _ _).drew; have FX := (HX.out w1 h2'.up).facts; have hu2 : Upd (ab :: SS F cb lv) w w1 := h2'.up.mono (fun y hy => .inl (by simp [hy])); have HH := Lib.hid (And.intro h1 (And.intro h2' h3)); clear h1 h2 h3 h2'))
  all_goals
    go_wp2_with fail
    go_ret
    obtain ⟨h1, h2, h3⟩ := HH.out
    cases hr : run (awakeT 12 t) c with
    | mk o c2 =>
      rw [hr] at h1 h3
      refine ⟨_, rfl, dop_one HM.out HS.out h1 h2 (fun a ha => ?_) ?_⟩
      · subst ha; rfl
      · cases o with
        | none => exact h3
        | some a =>
          have e0 : a.err = 0 := Classical.byContradiction (HF.out a (by rw [hr]))
          simp only [resA, e0] at h3
          exact h3.zero
end Go.Proofs.YtkldpdldjalpeaaGreatDoor

/-
  concordlaw15's alone by contract: what one body does, alone.
  concordlaw15's scene by contract: a room beside the cells.
  The closures of concordlaw15's alive, as bodies.
  The closure of WaitRooms, as a body; what it comes to, alone.
  concordlaw15's alive by contract.
  WaitRooms, the walk.
  From a walk that ends 'true, and nothing that was there has turned' to what a law's row asks. No program in sight.
  A world that meets the row's listed variable.
-/
import Derived.Test.YtkldpdldjalpeaaGreatDoorWrB5
import Derived.BigQuiet
import Derived.Deep.RegionWith
import Derived.Deep.RegionHeld3
import Derived.Deep.QuietTactic
import Derived.Test.YtkldpdldjalpeaaGreatDoorWrB0
import Derived.ProofKit
import Derived.Carry
import Derived.OpenShut
import Derived.Deep.Slices
import Derived.Deep.Fields
import Derived.Test.YtkldpdldjalpeaaGreatDoorRows
import Derived.LaidMore
import Derived.LaidHandle
import Derived.Stop.Joined
set_option linter.unusedVariables false
namespace Go.Proofs.YtkldpdldjalpeaaGreatDoor
open Go.RowKit Th
attribute [local go_sem] litStep_value

section
variable {α : Type}
/-- A closure of a Ctx alone that is a body. -/
structure DoOk (fid : FuncId) (caps : Array Value) (p : Pg α) (Bad : α → Prop) (J : BS → Prop) (M : World → List Nat → Option α → Prop) : Prop where
  ent : ∀ args w, (callFunc fid args).run Tryz.prog w = .ok (.enter fid args) w
  run : ∀ (w : World) (F : BFp) (cb : Nat) (lv : Value) (c : CS) (S : List Nat) (r0 : Option α), CSt w F cb lv c → J c.B → M w S r0 → (∀ x ∈ S, x ∉ SS F cb lv) → (∀ a, (Th.run p c).1 = some a → ¬ Bad a) →
    Calls Tryz.prog fid (#[.pointer (some ⟨cb, 0, none⟩)] ++ caps) w fun e w' => ∃ lv' v, e = .returned v ∧ CSt w' F cb lv' (Th.run p c).2 ∧ Upd (S ++ SS F cb lv) w w' ∧ (∀ x ∈ SS F cb lv', x ∈ SS F cb lv ∨ w.heap.size ≤ x) ∧ M w' S (Th.run p c).1 ∧ BdV w' w.heap.size v (Th.run p c).1
/-- What alone's closure keeps. -/
def MAlo (ab : Nat) (fid : FuncId) (caps : Array Value) (S0 : List Nat) (M : World → List Nat → Option α → Prop) (w : World) (S : List Nat) (r : Option α) : Prop :=
  S = ab :: S0 ∧ ab ∉ S0 ∧ Blk w ab 48 #[.func (.func fid) #[] caps] ∧ M w S0 r
theorem malo_ok {ab : Nat} {fid : FuncId} {caps : Array Value} {S0 : List Nat} {M : World → List Nat → Option α → Prop} (MO : MemOk M) : MemOk (MAlo ab fid caps S0 M) := by
  refine ⟨fun w w' T S r h hu hT => ?_, fun w S r h x hx => ?_⟩
  · obtain ⟨rfl, h1, h2, h3⟩ := h
    exact ⟨rfl, h1, h2.upd hu (fun hm => hT _ hm (by simp)), MO.fr _ _ _ _ _ h3 hu (fun x hx hm => hT x hx (by simp [hm]))⟩
  · obtain ⟨rfl, h1, h2, h3⟩ := h
    rcases List.mem_cons.1 hx with rfl | hx
    · exact h2.lt
    · exact MO.lt _ _ _ h3 x hx
variable {fid : FuncId} {caps : Array Value} {p : Pg α} {Bad : α → Prop} {J : BS → Prop} {M : World → List Nat → Option α → Prop}
set_option maxRecDepth 20000 in
theorem alone1_ok (MO : MemOk M) (D : DoOk fid caps p Bad J M) (ab : Nat) (S0 : List Nat) : BodyOk 36 #[.pointer (some ⟨ab, 0, none⟩)] p Bad J (MAlo ab fid caps S0 M) where
  ent := fun _ _ => rfl
  run := fun w F cb lv c S r0 h _ _ hJ _ hM hS hf => by
    have HLT := Lib.hid (MO.lt w S0 r0 hM.2.2.2)
    obtain ⟨rfl, h1, h2, h3⟩ := hM
    have ent := D.ent
    have HD := Lib.hid (D.run w F cb lv c S0 r0 h hJ h3 (fun x hx => hS x (by simp [hx])) hf)
    have f := h2.facts
    have H2 := Lib.hid h2
    have H1 := Lib.hid h1
    have HS := Lib.hid hS
    clear h hJ h3 hf h1 h2 hS D
    simp only [List.append_toArray, List.cons_append, List.nil_append]
    go_enter Tryz.func36, Tryz.ntmps36
    go_wp2_with fail
    refine HD.out.mono ?_
    rintro e w' ⟨lv', v, rfl, g1, g2, g3, g4, g5⟩
    have HG : Hid (_ ∧ _ ∧ _ ∧ _ ∧ _) := Lib.hid ⟨g1, g2, g3, g4, g5⟩
    clear g1 g2 g3 g4 g5
    go_wp2_with fail
    go_ret
    obtain ⟨g1, g2, g3, g4, g5⟩ := HG.out
    refine ⟨F, lv', ab :: S0, v, rfl, g1, rfl, g2.mono (fun x hx => .inl (by simp only [List.cons_append, List.mem_cons]; exact .inr hx)), fun x hx => ?_, fun x hx hm => ?_, ⟨rfl, H1.out, H2.out.upd g2 (fun hm => ?_), g4⟩, g5⟩
    · rcases List.mem_append.1 hx with hx | hx
      · exact .inl (List.mem_append_left _ hx)
      · exact (g3 x hx).imp (fun h => by simp [h]) id
    · rcases g3 x hm with h | h
      · exact HS.out x hx h
      · rcases List.mem_cons.1 hx with rfl | hx'
        · have := H2.out.lt; omega
        · have := HLT.out x hx'; omega
    · rcases List.mem_append.1 hm with hm | hm
      · exact H1.out hm
      · exact HS.out ab (by simp) hm
theorem goodE_j {a : α} {B' : BS} {D : Nat} {qs : List (Nat × Nat)} {ts : List (TS α)} {B : BS} (h : GoodE a B' D qs (ts, B)) : ∀ q ∈ qs, q ∈ B.sz := h.2.1
/-- One body alone: it comes to its end, without an error. -/
theorem alone_ok (MO : MemOk M) {a : α} {B B' : BS} {n Dp : Nat} {qs : List (Nat × Nat)} (D : DoOk fid caps p Bad (fun B => ∀ q ∈ qs, q ∈ B.sz) M) {F : BFp} {S : List Nat} {r0 : Option α} (w : World) (hB : BSt w F B) (hM : M w S r0) (hS : ∀ x ∈ S, x ∉ F.l)
    (hex : exec n p B = some (a, B')) (hd : Dep p Dp) (hDp : Dp < 500) (hq : ∀ q ∈ qs, q ∈ B.sz) (hbad : ¬ Bad a) :
    Calls Tryz.prog 15 #[.pointer (some ⟨F.b0, 0, none⟩), .func (.func fid) #[] caps] w fun e w' => e = .returned (.int .i64 0) ∧ ∃ F', BSt w' F' B' ∧ M w' S (some a) ∧ F'.b0 = F.b0 ∧ Upd (F.l ++ S) w w' ∧ (∀ x ∈ F'.l, x ∈ F.l ∨ w.heap.size ≤ x) ∧ (∀ x ∈ S, x ∉ F'.l) := by
  have HB := Lib.hid hB
  have HM := Lib.hid hM
  have HS := Lib.hid hS
  have HE := Lib.hid hex
  have HDp := Lib.hid hd
  have H500 := Lib.hid hDp
  have HQ := Lib.hid hq
  have HBad := Lib.hid hbad
  have HMO := Lib.hid MO
  have HDo := Lib.hid D
  clear hB hM hS hex hd hDp hq hbad MO D
  go_enter Tryz.func15, Tryz.ntmps15
  go_wp2_with fail
  obtain ⟨w1, hw1⟩ : ∃ w1, w1 = w.alloc (Obj.cells #[.func (.func fid) #[] caps] 48) := ⟨_, rfl⟩
  have U1 : Hid (Upd [] w w1) := Lib.hid (by rw [hw1]; exact (Upd.refl _ _).alloc _)
  have X1 : Hid (Blk w1 w.heap.size 48 #[.func (.func fid) #[] caps]) := Lib.hid (by rw [hw1]; exact Blk.new _ _ _)
  rw [← hw1]
  clear hw1
  refine (tnew_ok w1 (HB.out.upd U1.out (by simp)) 36 _).mono ?_
  rintro e w2 ⟨tb, rfl, t1, t2, t3, t4⟩
  have hlt1 := HB.out.lt
  have hltS := HMO.out.lt _ _ _ HM.out
  have T0 : Hid (TAll 36 #[.pointer (some ⟨w.heap.size, 0, none⟩)] p (MAlo w.heap.size fid caps S M) w2 F B tb (.slice none 0 0) (w.heap.size :: S) [] r0 ⟨p, false⟩) := Lib.hid (by
    refine ⟨t1, (HB.out.upd U1.out (by simp)).upd t2 (by simp), ThOk.start _ _, ⟨rfl, fun hm => ?_, X1.out.upd t2 (by simp), HMO.out.fr _ _ _ _ _ HM.out (U1.out.trans t2) (by simp)⟩, fun x hx hm => ?_, fun x hx hm => ?_, fun x hx hm => ?_, fun h => (by cases h)⟩
    · have := hltS _ hm; omega
    · simp [TB, Value.ownBlock] at hx
      subst hx
      have := hlt1 _ hm
      have := U1.out.size
      omega
    · rcases List.mem_cons.1 hx with rfl | hx
      · have := hlt1 _ hm; omega
      · exact HS.out x hx hm
    · simp [TB, Value.ownBlock] at hm
      subst hm
      have := U1.out.size
      have := X1.out.lt
      rcases List.mem_cons.1 hx with hx | hx
      · omega
      · have := hltS _ hx; omega)
  have U2 := Lib.hid (U1.out.trans t2)
  have TB2 : Hid (w.heap.size ≤ tb) := Lib.hid (Nat.le_trans U1.out.size t3)
  clear t1 t2 t3 t4
  go_wp2_with fail
  have HG : Going (α := α) Bad (fun B => ∀ q ∈ qs, q ∈ B.sz) (fun t B => GoodE a B' Dp qs ([t], B)) := ⟨fun t B h hd => by
      have := goodE_step _ 0 h
      rwa [show sysStep [t] B 0 = _ from sysStep_at (B := B) (t := t) rfl] at this, fun t B b h hp => by
      have := goodE_bad (i := 0) h rfl hp
      rw [this]; exact HBad.out, fun t B h => h.2.1⟩
  refine (trun_ok (alone1_ok HMO.out HDo.out w.heap.size S) (malo_ok HMO.out) HG w2 500 T0.out (goodE_start HE.out HDp.out HQ.out) (by simp)).mono ?_
  rintro e w3 ⟨rfl, F', lv', S', l', r', g1, g2, g3, g4, g5⟩
  have hsolo : soloT 500 ⟨p, false⟩ B = (⟨.ret a, true⟩, B') := by
    have := exec_whole (m := 500) HE.out HDp.out H500.out []
    rw [solo_whole] at this
    injection this with h1 h2
    injection h1 with h1
    exact Prod.ext h1 h2
  rw [hsolo] at g1
  obtain ⟨p1, p2, p3, p4, p5, p6, p7, p8⟩ := g1
  obtain rfl : r' = some a := p8 rfl
  obtain ⟨rfl, m1, m2, m3⟩ := p4
  have hold : ∀ x ∈ F.l ++ TB tb (.slice none 0 0) ++ (w.heap.size :: S), x ∈ F.l ++ S ∨ w.heap.size ≤ x := by
    intro x hx
    simp only [List.mem_append, TB, Value.ownBlock, Option.toList, List.mem_cons, List.not_mem_nil, or_false] at hx ⊢
    rcases hx with (hx | hx) | hx | hx
    · exact .inl (.inl hx)
    · subst hx; exact .inr TB2.out
    · omega
    · exact .inl (.inr hx)
  have FIN : Hid (∃ F', BSt w3 F' B' ∧ M w3 S (some a) ∧ F'.b0 = F.b0 ∧ Upd (F.l ++ S) w w3 ∧ (∀ x ∈ F'.l, x ∈ F.l ∨ w.heap.size ≤ x) ∧ (∀ x ∈ S, x ∉ F'.l)) := Lib.hid (by
    refine ⟨F', p2, m3, g2.b0, (U2.out.mono (by simp)).trans' g2.up hold, fun x hx => ?_, fun x hx => p6 x (by simp [hx])⟩
    rcases g2.gr x (by simp [hx]) with h | h
    · rcases hold x h with h | h
      · rcases List.mem_append.1 h with h | h
        · exact .inl h
        · exact absurd hx (p6 x (by simp [h]))
      · exact .inr h
    · exact .inr (Nat.le_trans U2.out.size h))
  clear g2 g3 g4 g5 p1 p2 p3 p5 p6 p7 p8 m1 m2 m3 hold hsolo hlt1 hltS
  go_wp2_with fail
  refine (no_nil _).mono ?_; rintro e w' ⟨rfl, rfl⟩
  go_wp2_with fail
  go_ret
  exact ⟨rfl, FIN.out⟩
end
end Go.Proofs.YtkldpdldjalpeaaGreatDoor

namespace Go.Proofs.YtkldpdldjalpeaaGreatDoor.Th
def roomT : Pg Int := .acc (.alloc 1) fun e => .ret e.ref
/-- The scene's blocks with a room. -/
def BR (n : Nat) : BS := (ex (BN n) (.alloc 1)).2
def rmN (n : Nat) : Int := ((BN n).top : Nat)
def GRm (n : Nat) (t : TS Int) (B : BS) : Prop := (t = ⟨roomT, false⟩ ∧ B = BN n) ∨ (t = ⟨.ret (rmN n), true⟩ ∧ B = BR n)
theorem grm_step {n : Nat} (t : TS Int) (B : BS) (h : GRm n t B) (hd : t.done = false) : GRm n (stepT t B).1 (stepT t B).2 := by
  rcases h with ⟨rfl, rfl⟩ | ⟨rfl, rfl⟩
  · exact .inr ⟨rfl, rfl⟩
  · cases hd
theorem grm_end (n : Nat) : soloT 21 ⟨roomT, false⟩ (BN n) = (⟨.ret (rmN n), true⟩, BR n) := rfl
set_option maxRecDepth 20000 in
theorem grm_j {n : Nat} (hn : 1 ≤ n ∧ n ≤ 3) (t : TS Int) (B : BS) (h : GRm n t B) : JT B := by
  have h1 : n = 1 ∨ n = 2 ∨ n = 3 := by omega
  rcases h with ⟨_, rfl⟩ | ⟨_, rfl⟩
  · rcases h1 with rfl | rfl | rfl <;> exact Nat.le_of_ble_eq_true rfl
  · rcases h1 with rfl | rfl | rfl <;> exact Nat.le_of_ble_eq_true rfl
end Go.Proofs.YtkldpdldjalpeaaGreatDoor.Th
namespace Go.Proofs.YtkldpdldjalpeaaGreatDoor
open Go.RowKit Th
attribute [local go_sem] litStep_value

/-- What the scene's body keeps. -/
def MRm (xb : Nat) (w : World) (S : List Nat) (r : Option Int) : Prop := S = [xb] ∧ ∃ q : Int, Blk w xb 26 #[.int .u64 q] ∧ ∀ k, r = some k → q = k
theorem mrm_ok (xb : Nat) : MemOk (MRm xb) := by
  refine ⟨fun w w' T S r h hu hT => ?_, fun w S r h x hx => ?_⟩
  · obtain ⟨rfl, q, h1, h2⟩ := h
    exact ⟨rfl, q, h1.upd hu (fun hm => hT _ hm (by simp)), h2⟩
  · obtain ⟨rfl, q, h1, h2⟩ := h
    simp at hx
    subst hx
    exact h1.lt
def RmPost (F : BFp) (cb : Nat) (lv : Value) (c : CS) (xb : Nat) (w : World) (v : Value) (w' : World) : Prop :=
  ∃ F' lv', CSt w' F' cb lv' (run roomT c).2 ∧ F'.b0 = F.b0 ∧ Upd ([xb] ++ SS F cb lv) w w' ∧ (∀ x ∈ SS F' cb lv', x ∈ SS F cb lv ∨ w.heap.size ≤ x) ∧ MRm xb w' [xb] (run roomT c).1 ∧ BdV w' w.heap.size v (run roomT c).1
set_option maxRecDepth 20000 in
theorem room1_ok {F : BFp} {cb : Nat} {lv : Value} {c : CS} {xb : Nat} {r0 : Option Int} {S : List Nat} (w : World) (h : CSt w F cb lv c) (hJ : JT c.B) (hM : MRm xb w S r0) (hS : ∀ x ∈ S, x ∉ SS F cb lv) :
    Calls Tryz.prog 29 #[.pointer (some ⟨cb, 0, none⟩), .int .i64 0, .pointer (some ⟨xb, 0, none⟩)] w fun e w' => ∃ v, e = .returned v ∧ RmPost F cb lv c xb w v w' := by
  obtain ⟨rfl, q0, m1, _⟩ := hM
  have HN := Lib.hid (newroom_ok w h (by unfold JT at hJ; omega))
  have HM := Lib.hid m1
  have HS : Hid (xb ∉ SS F cb lv) := Lib.hid (hS xb (by simp))
  clear h hJ m1 hS
  go_enter Tryz.func29, Tryz.ntmps29
  go_wp2_with fail
  refine HN.out.mono ?_
  rintro e w1 ⟨F1, lv1, x, v, rfl, h1, h2, h3, h4⟩
  have b1 := HM.out.upd h2.up HS.out
  have f1 := b1.facts
  have hxs : xb ∉ SS F1 cb lv1 := fun hm => by
    rcases h2.gr xb hm with h | h
    · exact HS.out h
    · have := HM.out.lt; omega
  have hu : Upd [xb] w1 (w1.setCell ⟨xb, 0, none⟩ (.int .u64 x)) := (Upd.refl _ _).setCell (by simp) _
  have FIN : Hid (RmPost F cb lv c xb w v (w1.setCell ⟨xb, 0, none⟩ (.int .u64 x))) := Lib.hid (by
    cases ha : access c (.alloc 1) with
    | mk o c1 =>
      rw [ha] at h1 h3
      refine ⟨F1, lv1, ?_, h4, ((h2.up.mono (fun y hy => .inl (by simp [hy]))).trans' hu (by simp)), h2.gr, ⟨rfl, x, b1.set_ 0 _, ?_⟩, ?_⟩
      all_goals
        cases o with
        | none =>
          obtain ⟨rfl, rfl⟩ := h3
          rw [show run roomT c = (none, c1) from run_none ha]
          first
            | exact h1.far hu (by simpa using hxs)
            | exact (by intro k hk; cases hk)
            | exact .num 2 _ _ 11 (by omega)
        | some en =>
          obtain ⟨rfl, rfl⟩ := h3
          rw [show run roomT c = (some en.ref, c1) from run_some ha]
          first
            | exact h1.far hu (by simpa using hxs)
            | exact (by intro k hk; injection hk)
            | rfl)
  clear h1 h2 h3 h4 hu hxs b1
  go_wp2_with fail
  go_ret
  exact ⟨_, rfl, FIN.out⟩
set_option maxRecDepth 20000 in
theorem room_body (xb : Nat) : BodyOk 29 #[.pointer (some ⟨xb, 0, none⟩)] roomT (fun _ => False) JT (MRm xb) where
  ent := fun _ _ => rfl
  run := fun w F cb lv c S r0 h _ _ hJ _ hM hS _ => by
    have hS' : S = [xb] := hM.1
    have hxl := (mrm_ok xb).lt _ _ _ hM
    refine (room1_ok w h hJ hM hS).mono ?_
    subst hS'
    rintro e w' ⟨v, rfl, F', lv', q1, q2, q3, q4, q5, q6⟩
    refine ⟨F', lv', [xb], v, rfl, q1, q2, q3, fun x hx => ?_, fun x hx hm => ?_, q5, q6⟩
    · rcases List.mem_append.1 hx with hx | hx
      · exact .inl (List.mem_append_left _ hx)
      · exact (q4 x hx).imp (List.mem_append_right _) id
    · rcases q4 x hm with h | h
      · exact hS x hx h
      · have := hxl x hx; omega
set_option maxRecDepth 20000 in
set_option maxHeartbeats 1000000 in
theorem scene15_ok (n : Nat) (hn : 1 ≤ n ∧ n ≤ 3) (w : World) :
    Calls Tryz.prog 7 #[.int .i64 n] w fun e w' => ∃ (F : BFp) (kb : Nat), e = .returned (.tuple #[.pointer (some ⟨F.b0, 0, none⟩), .int .u64 (rmN n), .slice (some ⟨kb, 0, none⟩) n n]) ∧ BSt w' F (BR n) ∧ Blk w' kb 26 ((refsN n).map (Value.int .u64)).toArray ∧ Upd [] w w' ∧ (∀ x ∈ F.l, w.heap.size ≤ x) ∧ w.heap.size ≤ kb ∧ kb ∉ F.l := by
  have HN := Lib.hid hn
  have hn3 : (n : Int) ≤ 3 ∧ (1 : Int) ≤ n := by omega
  clear hn
  go_enter Tryz.func7, Tryz.ntmps7
  go_wp2_with fail
  refine (scene_ok n HN.out w).mono ?_
  rintro e w1 ⟨F, kb, rfl, h1, h2, h3, h4, h5, h6⟩
  have H1 := Lib.hid h1
  have H2 := Lib.hid h2
  have H3 := Lib.hid h3
  have H4 : Hid ((∀ x ∈ F.l, w.heap.size ≤ x) ∧ w.heap.size ≤ kb ∧ kb ∉ F.l) := Lib.hid ⟨h4, h5, h6⟩
  clear h1 h2 h3 h4 h5 h6
  go_wp2_with fail
  obtain ⟨w2, hw2⟩ : ∃ w2, w2 = w1.alloc (Obj.cells #[.int .u64 0] 26) := ⟨_, rfl⟩
  have U2 : Hid (Upd [] w1 w2) := Lib.hid (by rw [hw2]; exact (Upd.refl _ _).alloc _)
  have M2 : Hid (MRm w1.heap.size w2 [w1.heap.size] none) := Lib.hid (by rw [hw2]; exact ⟨rfl, 0, Blk.new _ _ _, by intro k h; cases h⟩)
  rw [← hw2]
  clear hw2
  refine (tnew_ok w2 (H1.out.upd U2.out (by simp)) 29 _).mono ?_
  rintro e w3 ⟨tb, rfl, t1, t2, t3, t4⟩
  have hlt1 := H1.out.lt
  have T0 : Hid (TAll 29 #[.pointer (some ⟨w1.heap.size, 0, none⟩)] roomT (MRm w1.heap.size) w3 F (BN n) tb (.slice none 0 0) [w1.heap.size] [] none ⟨roomT, false⟩) := Lib.hid (by
    have hs := (mrm_ok _).lt _ _ _ M2.out
    refine ⟨t1, (H1.out.upd U2.out (by simp)).upd t2 (by simp), ThOk.start _ _, (mrm_ok _).fr _ _ _ _ _ M2.out t2 (by simp), fun x hx hm => ?_, fun x hx hm => ?_, fun x hx hm => ?_, fun h => (by cases h)⟩
    · simp [TB, Value.ownBlock] at hx
      subst hx
      have := hlt1 _ hm
      have := U2.out.size
      omega
    · have := hlt1 x hm
      simp at hx
      omega
    · simp [TB, Value.ownBlock] at hm
      subst hm
      have := hs _ hx
      omega)
  have U3 := Lib.hid (U2.out.trans t2)
  have TB3 : Hid (w.heap.size ≤ tb) := Lib.hid (by have := H3.out.size; have := U2.out.size; omega)
  have K3 := Lib.hid ((H2.out.upd U2.out (by simp)).upd t2 (by simp))
  have KL : Hid (kb < w1.heap.size) := Lib.hid H2.out.lt
  have NT : Hid (w2.heap.size ≤ tb ∧ w1.heap.size ≤ w2.heap.size) := Lib.hid ⟨t3, U2.out.size⟩
  clear t1 t2 t3 t4 hlt1
  go_wp2_with fail
  have HG : Going (α := Int) (fun _ => False) JT (GRm n) := ⟨grm_step, fun _ _ _ _ _ h => h, grm_j HN.out⟩
  refine (trun_ok (room_body _) (mrm_ok _) HG w3 21 T0.out (.inl ⟨rfl, rfl⟩) (by simp)).mono ?_
  rintro e w4 ⟨rfl, F', lv', S', l', r', g1, g2, g3, g4, g5⟩
  rw [grm_end n] at g1
  obtain ⟨p1, p2, p3, p4, p5, p6, p7, p8⟩ := g1
  obtain rfl : r' = some (rmN n) := p8 rfl
  obtain ⟨rfl, q, m1, m5⟩ := p4
  obtain rfl := m5 _ rfl
  have hold : ∀ x ∈ F.l ++ TB tb (.slice none 0 0) ++ [w1.heap.size], w.heap.size ≤ x ∧ x ≠ kb := by
    intro x hx
    have := H3.out.size
    have := KL.out
    have := NT.out
    simp only [List.mem_append, TB, Value.ownBlock, Option.toList, List.mem_cons, List.not_mem_nil, or_false] at hx
    rcases hx with (hx | hx) | hx
    · exact ⟨H4.out.1 x hx, fun e => H4.out.2.2 (e ▸ hx)⟩
    · subst hx; omega
    · omega
  have P2 := Lib.hid p2
  have UF : Hid (Upd [] w w4) := Lib.hid ((H3.out.trans U3.out).trans' g2.up (fun x hx => .inr (hold x hx).1))
  have NF : Hid ((∀ x ∈ F'.l, w.heap.size ≤ x) ∧ kb ∉ F'.l ∧ F'.b0 = F.b0) := Lib.hid ⟨fun x hx => (g2.gr x (by simp [hx])).elim (fun h => (hold x h).1) (fun h => by have := H3.out.size; have := U3.out.size; omega), fun hm => (g2.gr kb (by simp [hm])).elim (fun h => (hold kb h).2 rfl) (fun h => by have := KL.out; have := U3.out.size; omega), g2.b0⟩
  have K4 := Lib.hid (K3.out.upd g2.up (fun hm => (hold kb hm).2 rfl))
  have f1 := m1.facts
  clear g2 g3 g4 g5 p1 p2 p3 p5 p6 p7 p8 m1 m5 hold
  go_wp2_with fail
  refine (no_nil _).mono ?_; rintro e w' ⟨rfl, rfl⟩
  go_wp2_with fail
  go_quiet (fail)
  go_wp2_with fail
  go_ret3
  exact ⟨F', kb, by rw [NF.out.2.2]; rfl, P2.out.upd ((Upd.refl [] _).drewN _) (by simp), K4.out.drewN _, UF.out.drewN _, NF.out.1, H4.out.2.1, NF.out.2.1⟩
end Go.Proofs.YtkldpdldjalpeaaGreatDoor

namespace Go.Proofs.YtkldpdldjalpeaaGreatDoor
open Go.RowKit Th
attribute [local go_sem] litStep_value

section
variable {α : Type}
/-- Boxes that stay as they are; boxes that hold what a body came to. -/
def MBx (cs : List (Nat × TypeId × Array Value)) (os : List (Nat × TypeId × (α → Value))) (w : World) (S : List Nat) (r : Option α) : Prop :=
  S = cs.map (·.1) ++ os.map (·.1) ∧ S.Nodup ∧ (∀ x ∈ cs, Blk w x.1 x.2.1 x.2.2) ∧ ∀ y ∈ os, ∃ v, Blk w y.1 y.2.1 #[v] ∧ ∀ a, r = some a → v = y.2.2 a
theorem mbx_ok (cs : List (Nat × TypeId × Array Value)) (os : List (Nat × TypeId × (α → Value))) : MemOk (MBx cs os) := by
  refine ⟨fun w w' T S r h hu hT => ?_, fun w S r h x hx => ?_⟩
  · obtain ⟨rfl, h0, h1, h2⟩ := h
    refine ⟨rfl, h0, fun x hx => (h1 x hx).upd hu (fun hm => hT _ hm (List.mem_append_left _ (List.mem_map_of_mem hx))), fun y hy => ?_⟩
    obtain ⟨v, g1, g2⟩ := h2 y hy
    exact ⟨v, g1.upd hu (fun hm => hT _ hm (List.mem_append_right _ (List.mem_map_of_mem hy))), g2⟩
  · obtain ⟨rfl, h0, h1, h2⟩ := h
    rcases List.mem_append.1 hx with hx | hx
    · obtain ⟨y, hy, rfl⟩ := List.mem_map.1 hx
      exact (h1 y hy).lt
    · obtain ⟨y, hy, rfl⟩ := List.mem_map.1 hx
      obtain ⟨v, g1, _⟩ := h2 y hy
      exact g1.lt
/-- What a closure leaves. -/
def DoP (F : BFp) (cb : Nat) (lv : Value) (S : List Nat) (M : World → List Nat → Option α → Prop) (w : World) (R : Option α × CS) (v : Value) (w' : World) : Prop :=
  ∃ lv', CSt w' F cb lv' R.2 ∧ Upd (S ++ SS F cb lv) w w' ∧ (∀ x ∈ SS F cb lv', x ∈ SS F cb lv ∨ w.heap.size ≤ x) ∧ M w' S R.1 ∧ BdV w' w.heap.size v R.1
end
/-- One box is written, behind all. -/
theorem dop_one {α : Type} {F : BFp} {cb : Nat} {lv lv1 : Value} {cs : List (Nat × TypeId × Array Value)} {b : Nat} {t : TypeId} {f : α → Value} {w w1 : World} {c1 : CS} {r0 r : Option α} {v x : Value} {S : List Nat} (hM : MBx cs [(b, t, f)] w S r0) (hS : ∀ x ∈ S, x ∉ SS F cb lv)
    (h1 : CSt w1 F cb lv1 c1) (h2 : CNx w w1 F F cb lv lv1) (hx : ∀ a, r = some a → x = f a) (hv : BdV w1 w.heap.size v r) : DoP F cb lv S (MBx cs [(b, t, f)]) w (r, c1) v (w1.setCell ⟨b, 0, none⟩ x) := by
  have hM1 := (mbx_ok cs [(b, t, f)]).fr _ _ _ _ _ hM h2.up (fun x hx hm => hS x hm hx)
  have hlt := (mbx_ok cs [(b, t, f)]).lt _ _ _ hM
  obtain ⟨rfl, h0, g1, g2⟩ := hM1
  obtain ⟨x0, g3, _⟩ := g2 (b, t, f) (by simp)
  have hb : b ∈ cs.map (·.1) ++ [(b, t, f)].map (·.1) := by simp
  have hu : Upd [b] w1 (w1.setCell ⟨b, 0, none⟩ x) := (Upd.refl _ _).setCell (by simp) _
  have hnb : b ∉ SS F cb lv1 := fun hm => (h2.gr b hm).elim (hS b hb) (fun h => by have := hlt b hb; omega)
  refine ⟨lv1, h1.far hu (by simpa using hnb), (h2.up.mono (fun y hy => .inl (List.mem_append_right _ hy))).trans' hu (fun y hy => .inl (by simp at hy; subst hy; exact List.mem_append_left _ hb)), h2.gr, ⟨rfl, h0, fun y hy => (g1 y hy).upd hu (fun hm => ?_), fun y hy => ?_⟩, ?_⟩
  · simp only [List.mem_singleton] at hm
    have := (List.nodup_append.1 h0).2.2 y.1 (List.mem_map_of_mem hy) b (by simp)
    exact this hm
  · simp only [List.mem_singleton] at hy
    subst hy
    exact ⟨x, g3.set_ 0 x, hx⟩
  · cases r with
    | none => exact ErK.upd hv hu (by intro y hy; simp at hy; subst hy; exact hlt _ hb)
    | some a => exact hv
theorem dop_none {α : Type} {F : BFp} {cb : Nat} {lv lv1 : Value} {M : World → List Nat → Option α → Prop} {w w1 : World} {c1 : CS} {r0 r : Option α} {v : Value} {S : List Nat} (MO : MemOk M) (hM : M w S r0) (hr : ∀ W S, M W S r0 → M W S r) (hS : ∀ x ∈ S, x ∉ SS F cb lv)
    (h1 : CSt w1 F cb lv1 c1) (h2 : CNx w w1 F F cb lv lv1) (hv : BdV w1 w.heap.size v r) : DoP F cb lv S M w (r, c1) v w1 :=
  ⟨lv1, h1, h2.up.mono (fun y hy => .inl (List.mem_append_right _ hy)), h2.gr, hr _ _ (MO.fr _ _ _ _ _ hM h2.up (fun x hx hm => hS x hm hx)), hv⟩
/-- A literal of a whole block is a slice owned. -/
theorem ow_lit {α : Type} {E : Enc α} {e : TypeId} {w : World} {g : Nat} {cs : Array Value} {L : List α} {n : Nat} (h : Blk w g e cs) (hn : L.length = n) (hc : cs.toList = flat E L) (hm : n ≤ maxLen) : Ow E e w 0 (.slice (some ⟨g, 0, none⟩) n n) L := by
  refine ⟨flat_len, .inr ⟨g, n, cs, by rw [hn], Nat.zero_le _, h, by omega, hm, ?_, ?_⟩⟩
  · have := congrArg List.length hc
    rw [flat_len, hn] at this
    simpa using this
  · rw [hc, ← flat_len, List.take_length]
def aliM1 (rb cbx kb tk : Nat) : World → List Nat → Option An → Prop := MBx [(rb, 26, #[.int .u64 6]), (cbx, 27, #[.slice (some ⟨kb, 0, none⟩) 1 1]), (kb, 26, #[.int .u64 3])] [(tk, 3, fun a => .int .i64 a.n)]
set_option maxRecDepth 20000 in
set_option maxHeartbeats 1000000 in
theorem ali1_ok (rb cbx kb tk : Nat) {F : BFp} {cb : Nat} {lv : Value} {c : CS} {S : List Nat} {r0 : Option An} (w : World) (h : CSt w F cb lv c) (hJ : ∀ q ∈ [(3, 2), (6, 1)], q ∈ c.B.sz) (hM : aliM1 rb cbx kb tk w S r0) (hS : ∀ x ∈ S, x ∉ SS F cb lv) (hf : ∀ a, (run (sleepT 6 [(3, 0)]) c).1 = some a → ¬ a.err ≠ 0) :
    Calls Tryz.prog 23 #[.pointer (some ⟨cb, 0, none⟩), .pointer (some ⟨rb, 0, none⟩), .pointer (some ⟨cbx, 0, none⟩), .pointer (some ⟨tk, 0, none⟩)] w fun e w' => ∃ v, e = .returned v ∧ DoP F cb lv S (aliM1 rb cbx kb tk) w (run (sleepT 6 [(3, 0)]) c) v w' := by
  have HM := Lib.hid hM
  have hM' := hM
  obtain ⟨h0, _, m1, m2⟩ := hM'
  simp only [List.mem_cons, forall_eq_or_imp, List.not_mem_nil, false_imp_iff, implies_true, and_true] at m1 m2
  obtain ⟨e1, e2, e3⟩ := m1
  obtain ⟨x0, e4, _⟩ := m2
  have b1 := e1.facts
  have b2 := e2.facts
  have b3 := e3.facts
  have b4 := e4.facts
  have H0 := Lib.hid h
  have HJ := Lib.hid hJ
  have HS := Lib.hid hS
  have HF := Lib.hid hf
  obtain ⟨W, hW⟩ : ∃ W, W = (w.alloc (Obj.cells #[.int .u64 3, .int .i64 0] 56)).drew := ⟨_, rfl⟩
  have UW : Hid (Upd [] w W) := Lib.hid (by rw [hW]; exact ((Upd.refl _ _).alloc _).drew)
  have OW : Hid (Ow SnE 56 W 0 (.slice (some ⟨w.heap.size, 0, none⟩) 1 1) [(3, 0)]) := Lib.hid (by rw [hW]; exact (ow_lit (Blk.new _ _ _) rfl rfl (by simp [maxLen])).upd0 (Upd.refl _ _).drew)
  have HC := Lib.hid (sleep_ok W (h.upd0 UW.out) 6 (hJ _ (by simp)) [(3, 0)] (.slice (some ⟨w.heap.size, 0, none⟩) 1 1) OW.out (fun b hb hm => by
    simp [Value.ownBlock] at hb
    subst hb
    have := SS_lt h _ hm
    omega) (by simp) (fun x hx => by simp at hx; subst hx; exact hJ _ (by simp)))
  have HX : Hid (∀ w1, Upd (SS F cb lv) w w1 → Blk w1 tk 3 #[x0]) := Lib.hid (fun w1 hu => e4.upd hu (fun hm => hS tk (by rw [h0]; simp) hm))
  rw [hW] at HC
  clear h hJ hM hS hf e1 e2 e3 e4 OW h0
  go_enter Tryz.func23, Tryz.ntmps23
  go_wp2_with fail
  go_region_with (go_at_call 20; refine HC.out.mono ?_; rintro e w1 ⟨lv1, v, rfl, h1, h2, h3⟩; have FX := (HX.out w1 (by rw [hW] at UW; exact (UW.out.mono (by simp)).trans h2.up)).facts; have HH := Lib.hid (And.intro h1 (And.intro h2 h3)); clear h1 h2 h3)
  all_goals
    go_wp2_with fail
    go_ret
    obtain ⟨h1, h2, h3⟩ := HH.out
    rw [← hW] at h2 h3
    have h2' : CNx w w1 F F cb lv lv1 := h2.upd0 UW.out
    cases hr : run (sleepT 6 [(3, 0)]) c with
    | mk o c1 =>
      rw [hr] at h1 h3
      refine ⟨_, rfl, dop_one HM.out HS.out h1 h2' (fun a ha => ?_) ?_⟩
      · subst ha; rfl
      · cases o with
        | none => exact h3.base UW.out.size
        | some a =>
          have := HF.out a (by rw [hr])
          have e0 : a.err = 0 := Classical.byContradiction this
          simp only [resA, e0] at h3
          exact h3.zero
/-- Lock, and Commit. -/
def lcT : Pg An := (turnT 3 0 (lockTo 1) 8).bind fun a => if a.err = 0 then commitT 3 5 1 else .ret ⟨a.err, 0, 0⟩
def aliM2 (cbx kb wb : Nat) : World → List Nat → Option An → Prop := MBx [(cbx, 27, #[.slice (some ⟨kb, 0, none⟩) 1 1]), (kb, 26, #[.int .u64 3])] [(wb, 4, fun a => .bool (a.n == 1))]
set_option maxRecDepth 20000 in
set_option maxHeartbeats 1000000 in
theorem ali2_ok (cbx kb wb : Nat) {F : BFp} {cb : Nat} {lv : Value} {c : CS} {S : List Nat} {r0 : Option An} (w : World) (h : CSt w F cb lv c) (hJ : ∀ q ∈ [(3, 2), (6, 1)], q ∈ c.B.sz) (hM : aliM2 cbx kb wb w S r0) (hS : ∀ x ∈ S, x ∉ SS F cb lv) (hf : ∀ a, (run lcT c).1 = some a → ¬ a.err ≠ 0) :
    Calls Tryz.prog 24 #[.pointer (some ⟨cb, 0, none⟩), .pointer (some ⟨cbx, 0, none⟩), .pointer (some ⟨wb, 0, none⟩)] w fun e w' => ∃ v, e = .returned v ∧ DoP F cb lv S (aliM2 cbx kb wb) w (run lcT c) v w' := by
  have HM := Lib.hid hM
  have hM' := hM
  obtain ⟨h0, _, m1, m2⟩ := hM'
  simp only [List.mem_cons, forall_eq_or_imp, List.not_mem_nil, false_imp_iff, implies_true, and_true] at m1 m2
  obtain ⟨e2, e3⟩ := m1
  obtain ⟨x0, e4, _⟩ := m2
  have b2 := e2.facts
  have b3 := e3.facts
  have HX : Hid (∀ w1, Upd (SS F cb lv) w w1 → Blk w1 cbx 27 #[.slice (some ⟨kb, 0, none⟩) 1 1] ∧ Blk w1 kb 26 #[.int .u64 3] ∧ Blk w1 wb 4 #[x0]) := Lib.hid (fun w1 hu => ⟨e2.upd hu (fun hm => hS cbx (by rw [h0]; simp) hm), e3.upd hu (fun hm => hS kb (by rw [h0]; simp) hm), e4.upd hu (fun hm => hS wb (by rw [h0]; simp) hm)⟩)
  have HL := Lib.hid (mlock_ok w h 3 (hJ _ (by simp)) 0 1 (by omega))
  have HJ := Lib.hid hJ
  have HS := Lib.hid hS
  have HF := Lib.hid hf
  clear h hJ hM hS hf e2 e3 e4 h0
  go_enter Tryz.func24, Tryz.ntmps24
  go_wp2_with fail
  refine HL.out.mono ?_
  rintro e w1 ⟨lv1, v, rfl, h1, h2, h3⟩
  cases hr : run (turnT 3 0 (lockTo 1) 8) c with
  | mk o c1 =>
    rw [hr] at h1 h3
    have H1 := Lib.hid h1
    have H2 := Lib.hid h2
    have H3 := Lib.hid h3
    cases o with
    | none =>
      have HR : Hid (run lcT c = (none, c1)) := Lib.hid (run_bind_none hr)
      have hc := h3.cases
      simp only [resA] at hc
      obtain ⟨⟨t, x, rfl⟩, _⟩ := hc.resolve_left (by omega)
      clear h1 h2 h3 hc hr
      go_wp2_with fail
      go_ret
      rw [HR.out]
      exact ⟨_, rfl, dop_none (mbx_ok _ _) HM.out (fun W S hh => ⟨hh.1, hh.2.1, hh.2.2.1, fun y hy => by obtain ⟨v, g1, _⟩ := hh.2.2.2 y hy; exact ⟨v, g1, by intro a ha; cases ha⟩⟩) HS.out H1.out H2.out H3.out⟩
    | some a =>
      have hb := run_bind_some (f := fun a : An => if a.err = 0 then commitT 3 5 1 else .ret ⟨a.err, 0, 0⟩) hr
      have hb' : run lcT c = run (if a.err = 0 then commitT 3 5 1 else .ret ⟨a.err, 0, 0⟩) c1 := hb
      by_cases he : a.err = 0
      · rw [if_pos he] at hb'
        have HR := Lib.hid hb'
        simp only [resA, he] at h3
        obtain rfl := h3.zero
        obtain ⟨g1, g2, g3⟩ := HX.out w1 h2.up
        have b5 := g1.facts
        have b6 := g2.facts
        have b7 := g3.facts
        have HC := Lib.hid (mcommit_ok w1 h1 3 (run_mem hr (HJ.out _ (by simp))) 5 1 (by omega) (by omega))
        clear h1 h2 h3 hr hb hb' he g1 g2 g3
        go_wp2_with fail
        refine HC.out.mono ?_
        rintro e w2 ⟨lv2, v, rfl, h1, h2, h3⟩
        have HN := H2.out.trans h2
        have b8 := (HX.out w2 HN.up).2.2.facts
        have HH := Lib.hid (And.intro h1 (And.intro HN (h3.base H2.out.up.size)))
        clear h1 h2 h3 HN b5 b6 b7
        go_wp2_with fail
        go_ret
        obtain ⟨h1, h2, h3⟩ := HH.out
        rw [HR.out]
        cases hr : run (commitT 3 5 1) c1 with
        | mk o c2 =>
          rw [hr] at h1 h3
          refine ⟨_, rfl, dop_one HM.out HS.out h1 h2 (fun a ha => ?_) ?_⟩
          · subst ha; rfl
          · cases o with
            | none => exact h3
            | some a =>
              have := HF.out a (by rw [HR.out, hr])
              have e0 : a.err = 0 := Classical.byContradiction this
              simp only [resA, e0] at h3
              exact h3.zero
      · rw [if_neg he] at hb'
        exact absurd he (HF.out ⟨a.err, 0, 0⟩ (by rw [hb']; rfl))
def aliM3 (rb : Nat) : World → List Nat → Option An → Prop := MBx [(rb, 26, #[.int .u64 6])] []
set_option maxRecDepth 20000 in
set_option maxHeartbeats 1000000 in
theorem ali3_ok (rb : Nat) {F : BFp} {cb : Nat} {lv : Value} {c : CS} {S : List Nat} {r0 : Option An} (w : World) (h : CSt w F cb lv c) (hJ : ∀ q ∈ [(3, 2), (6, 1)], q ∈ c.B.sz) (hM : aliM3 rb w S r0) (hS : ∀ x ∈ S, x ∉ SS F cb lv) (hf : ∀ a, (run (wakeT 6) c).1 = some a → ¬ a.err ≠ 0) :
    Calls Tryz.prog 26 #[.pointer (some ⟨cb, 0, none⟩), .pointer (some ⟨rb, 0, none⟩)] w fun e w' => ∃ v, e = .returned v ∧ DoP F cb lv S (aliM3 rb) w (run (wakeT 6) c) v w' := by
  have HM := Lib.hid hM
  have hM' := hM
  obtain ⟨h0, _, m1, _⟩ := hM'
  simp only [List.mem_cons, forall_eq, List.not_mem_nil, or_false] at m1
  have b1 := m1.facts
  have HL := Lib.hid (wake_ok w h 6 (hJ _ (by simp)) (fun a ha => by have := Classical.byContradiction (hf a ha); omega))
  have HS := Lib.hid hS
  have HF := Lib.hid hf
  clear h hJ hM hS hf m1 h0
  go_enter Tryz.func26, Tryz.ntmps26
  go_wp2_with fail
  refine HL.out.mono ?_
  rintro e w1 ⟨lv1, v, rfl, h1, h2, h3⟩
  have HH := Lib.hid (And.intro h1 (And.intro h2 h3))
  clear h1 h2 h3
  go_wp2_with fail
  go_ret
  obtain ⟨h1, h2, h3⟩ := HH.out
  cases hr : run (wakeT 6) c with
  | mk o c2 =>
    rw [hr] at h1 h3
    refine ⟨_, rfl, dop_none (mbx_ok _ _) HM.out (fun W S hh => ⟨hh.1, hh.2.1, hh.2.2.1, fun y hy => by cases hy⟩) HS.out h1 h2 ?_⟩
    cases o with
    | none => exact h3.up (by omega)
    | some a =>
      have e0 : a.err = 0 := Classical.byContradiction (HF.out a (by rw [hr]))
      simp only [resA, e0] at h3
      exact h3.zero
def aliM4 (rb tk aw : Nat) : World → List Nat → Option An → Prop := MBx [(rb, 26, #[.int .u64 6]), (tk, 3, #[.int .i64 0])] [(aw, 4, fun a => .bool (a.n == 1))]
set_option maxRecDepth 20000 in
set_option maxHeartbeats 1000000 in
theorem ali4_ok (rb tk aw : Nat) {F : BFp} {cb : Nat} {lv : Value} {c : CS} {S : List Nat} {r0 : Option An} (w : World) (h : CSt w F cb lv c) (hJ : ∀ q ∈ [(3, 2), (6, 1)], q ∈ c.B.sz) (hM : aliM4 rb tk aw w S r0) (hS : ∀ x ∈ S, x ∉ SS F cb lv) (hf : ∀ a, (run (awakeT 6 0) c).1 = some a → ¬ a.err ≠ 0) :
    Calls Tryz.prog 27 #[.pointer (some ⟨cb, 0, none⟩), .pointer (some ⟨rb, 0, none⟩), .pointer (some ⟨tk, 0, none⟩), .pointer (some ⟨aw, 0, none⟩)] w fun e w' => ∃ v, e = .returned v ∧ DoP F cb lv S (aliM4 rb tk aw) w (run (awakeT 6 0) c) v w' := by
  have HM := Lib.hid hM
  have hM' := hM
  obtain ⟨h0, _, m1, m2⟩ := hM'
  simp only [List.mem_cons, forall_eq_or_imp, List.not_mem_nil, false_imp_iff, implies_true, and_true] at m1 m2
  obtain ⟨e1, e2⟩ := m1
  obtain ⟨x0, e4, _⟩ := m2
  have b1 := e1.facts
  have b2 := e2.facts
  have HX : Hid (∀ w1, Upd (SS F cb lv) w w1 → Blk w1 aw 4 #[x0]) := Lib.hid (fun w1 hu => e4.upd hu (fun hm => hS aw (by rw [h0]; simp) hm))
  have HL := Lib.hid (awake_ok w h 6 (hJ _ (by simp)) 0)
  have HS := Lib.hid hS
  have HF := Lib.hid hf
  clear h hJ hM hS hf e1 e2 e4 h0
  go_enter Tryz.func27, Tryz.ntmps27
  go_wp2_with fail
  refine HL.out.mono ?_
  rintro e w1 ⟨lv1, v, rfl, h1, h2, h3⟩
  have b5 := (HX.out w1 h2.up).facts
  have HH := Lib.hid (And.intro h1 (And.intro h2 h3))
  clear h1 h2 h3
  go_wp2_with fail
  go_ret
  obtain ⟨h1, h2, h3⟩ := HH.out
  cases hr : run (awakeT 6 0) c with
  | mk o c2 =>
    rw [hr] at h1 h3
    refine ⟨_, rfl, dop_one HM.out HS.out h1 h2 (fun a ha => ?_) ?_⟩
    · subst ha; rfl
    · cases o with
      | none => exact h3
      | some a =>
        have e0 : a.err = 0 := Classical.byContradiction (HF.out a (by rw [hr]))
        simp only [resA, e0] at h3
        exact h3.zero
end Go.Proofs.YtkldpdldjalpeaaGreatDoor

namespace Go.Proofs.YtkldpdldjalpeaaGreatDoor.Th
def wakesT (ck : Nat) : Nat → Pg An
  | 0 => .ret ⟨0, 0, 0⟩
  | n + 1 => (wakeT ck).bind fun a => if a.err = 0 then wakesT ck n else .ret ⟨a.err, 0, 0⟩
def rmsT (n : Nat) (tk : Int) : Pg An := (wakesT 6 n).bind fun a => if a.err = 0 then ((sleepT 6 []).bind fun b => if b.err = 0 then (awakeT 6 tk).bind fun d => .ret ⟨0, d.n, b.n⟩ else .ret ⟨b.err, 0, 0⟩) else .ret ⟨a.err, 0, 0⟩
theorem dep_wakes (ck : Nat) : ∀ n, Dep (wakesT ck n) (16 * n)
  | 0 => .ret _ _
  | n + 1 => by
    rw [show 16 * (n + 1) = 16 + 16 * n by omega]
    exact (dep_wake ck).bind fun a => by
      split
      · exact dep_wakes ck n
      · exact .ret _ _
theorem dep_rms (n : Nat) (tk : Int) : Dep (rmsT n tk) (16 * n + 2) := (dep_wakes 6 n).bind fun a => by
  split
  · exact (dep_sleep 6 []).bind (m := 1) fun b => by
      split
      · exact (dep_awake 6 tk).bind (m := 0) fun d => .ret _ _
      · exact .ret _ _
  · exact .ret _ _
end Go.Proofs.YtkldpdldjalpeaaGreatDoor.Th
namespace Go.Proofs.YtkldpdldjalpeaaGreatDoor
open Go.RowKit Th
attribute [local go_sem] litStep_value

/-- Amid a closure: what is there. -/
structure DoW {α : Type} (F : BFp) (cb : Nat) (lv : Value) (S : List Nat) (cs : List (Nat × TypeId × Array Value)) (os : List (Nat × TypeId × (α → Value))) (w : World) (lv1 : Value) (c1 : CS) (w1 : World) : Prop where
  st : CSt w1 F cb lv1 c1
  up : Upd (S ++ SS F cb lv) w w1
  gr : ∀ x ∈ SS F cb lv1, x ∈ SS F cb lv ∨ w.heap.size ≤ x
  m : MBx cs os w1 S (none : Option α)
  ns : ∀ x ∈ S, x ∉ SS F cb lv1
section
variable {α : Type} {F : BFp} {cb : Nat} {lv lv1 lv2 : Value} {S : List Nat} {cs : List (Nat × TypeId × Array Value)} {os : List (Nat × TypeId × (α → Value))} {w w1 w2 : World} {c1 c2 : CS}
theorem MBx.none {r0 : Option α} (h : MBx cs os w S r0) : MBx cs os w S (none : Option α) := ⟨h.1, h.2.1, h.2.2.1, fun y hy => by obtain ⟨v, g1, _⟩ := h.2.2.2 y hy; exact ⟨v, g1, by intro a ha; cases ha⟩⟩
theorem DoW.start {c : CS} {r0 : Option α} (h : CSt w F cb lv c) (hM : MBx cs os w S r0) (hS : ∀ x ∈ S, x ∉ SS F cb lv) : DoW F cb lv S cs os w lv c w := ⟨h, .refl _ _, fun _ h => .inl h, hM.none, hS⟩
theorem DoW.upd (h : DoW F cb lv S cs os w lv1 c1 w1) (hu : Upd [] w1 w2) : DoW F cb lv S cs os w lv1 c1 w2 :=
  ⟨h.st.upd0 hu, h.up.trans' hu (by simp), h.gr, (mbx_ok cs os).fr _ _ _ _ _ h.m hu (by simp), h.ns⟩
theorem DoW.call (h : DoW F cb lv S cs os w lv1 c1 w1) (h1 : CSt w2 F cb lv2 c2) (h2 : CNx w1 w2 F F cb lv1 lv2) : DoW F cb lv S cs os w lv2 c2 w2 := by
  have hlt := (mbx_ok cs os).lt _ _ _ h.m
  refine ⟨h1, h.up.trans' h2.up (fun x hx => (h.gr x hx).imp (List.mem_append_right _) id), fun x hx => ?_, (mbx_ok cs os).fr _ _ _ _ _ h.m h2.up (fun x hx hm => h.ns x hm hx), fun x hx hm => ?_⟩
  · rcases h2.gr x hx with h3 | h3
    · exact h.gr x h3
    · exact .inr (Nat.le_trans h.up.size h3)
  · rcases h2.gr x hm with h3 | h3
    · exact h.ns x hx h3
    · have := hlt x hx; omega
theorem DoW.put (h : DoW F cb lv S cs os w lv1 c1 w1) {b : Nat} {t : TypeId} {f : α → Value} (hb : (b, t, f) ∈ os) (x : Value) : DoW F cb lv S cs os w lv1 c1 (w1.setCell ⟨b, 0, none⟩ x) ∧ Blk (w1.setCell ⟨b, 0, none⟩ x) b t #[x] ∧ Upd [b] w1 (w1.setCell ⟨b, 0, none⟩ x) := by
  have hu : Upd [b] w1 (w1.setCell ⟨b, 0, none⟩ x) := (Upd.refl _ _).setCell (by simp) _
  obtain ⟨h0, hn, g1, g2⟩ := h.m
  have hbS : b ∈ S := by rw [h0]; exact List.mem_append_right _ (List.mem_map_of_mem hb)
  obtain ⟨x0, g3, _⟩ := g2 (b, t, f) hb
  have g4 : Blk (w1.setCell ⟨b, 0, none⟩ x) b t #[x] := g3.set_ 0 x
  refine ⟨⟨h.st.far hu (by simpa using h.ns b hbS), h.up.trans' hu (fun y hy => by simp at hy; subst hy; exact .inl (List.mem_append_left _ hbS)), h.gr, ⟨h0, hn, fun y hy => (g1 y hy).upd hu (fun hm => ?_), fun y hy => ?_⟩, h.ns⟩, g4, hu⟩
  · simp only [List.mem_singleton] at hm
    rw [h0] at hn
    have := (List.nodup_append.1 hn).2.2 y.1 (List.mem_map_of_mem hy) b (List.mem_map_of_mem hb)
    exact this hm
  · obtain ⟨v, g5, _⟩ := g2 y hy
    by_cases e : y.1 = b
    · refine ⟨x, ?_, by intro a ha; cases ha⟩
      have g6 := g5.set_ 0 x
      rw [e] at g6 ⊢
      exact g6
    · exact ⟨v, g5.upd hu (by simpa using e), by intro a ha; cases ha⟩
theorem DoW.fin (h : DoW F cb lv S cs os w lv1 c1 w1) {r : Option α} {v : Value} (hr : ∀ a, r = some a → ∀ y ∈ os, Blk w1 y.1 y.2.1 #[y.2.2 a]) (hv : BdV w1 w.heap.size v r) : DoP F cb lv S (MBx cs os) w (r, c1) v w1 := by
  obtain ⟨h0, hn, g1, g2⟩ := h.m
  refine ⟨lv1, h.st, h.up, h.gr, ⟨h0, hn, g1, fun y hy => ?_⟩, hv⟩
  cases r with
  | none => obtain ⟨v, g5, _⟩ := g2 y hy; exact ⟨v, g5, by intro a ha; cases ha⟩
  | some a => exact ⟨_, hr a rfl y hy, by intro b hb; injection hb with hb; rw [hb]⟩
end
abbrev rmsC (nb rb tb : Nat) (n : Nat) (tk : Int) : List (Nat × TypeId × Array Value) := [(nb, 3, #[.int .i64 n]), (rb, 26, #[.int .u64 6]), (tb, 3, #[.int .i64 tk])]
abbrev rmsO (gb ab : Nat) : List (Nat × TypeId × (An → Value)) := [(gb, 3, fun a => .int .i64 a.n), (ab, 4, fun a => .bool (a.val == 1))]
theorem awake_e0 {ck : Nat} {tk : Int} {c c' : CS} {a : An} (h : run (awakeT ck tk) c = (some a, c')) : a.err = 0 := by
  have : RetAll (fun a : An => a.err = 0) (awakeT ck tk) := fun e => rfl
  exact retAll_run (P := fun a : An => a.err = 0) this (by rw [h])
set_option maxRecDepth 20000 in
set_option maxHeartbeats 2000000 in
theorem rms_ok (nb rb tb gb ab n : Nat) (hn : n ≤ 20) (tk : Int) {F : BFp} {cb : Nat} {lv : Value} {c : CS} {S : List Nat} {r0 : Option An} (w : World) (h : CSt w F cb lv c) (hJ : ∀ q ∈ [(3, 2), (6, 1)], q ∈ c.B.sz) (hM : MBx (rmsC nb rb tb n tk) (rmsO gb ab) w S r0) (hS : ∀ x ∈ S, x ∉ SS F cb lv) (hf : ∀ a, (run (rmsT n tk) c).1 = some a → ¬ a.err ≠ 0) :
    Calls Tryz.prog 18 #[.pointer (some ⟨cb, 0, none⟩), .pointer (some ⟨nb, 0, none⟩), .pointer (some ⟨rb, 0, none⟩), .pointer (some ⟨gb, 0, none⟩), .pointer (some ⟨tb, 0, none⟩), .pointer (some ⟨ab, 0, none⟩)] w fun e w' => ∃ v, e = .returned v ∧ DoP F cb lv S (MBx (rmsC nb rb tb n tk) (rmsO gb ab)) w (run (rmsT n tk) c) v w' := by
  have D0 : Hid (DoW F cb lv S (rmsC nb rb tb n tk) (rmsO gb ab) w lv c w) := Lib.hid (.start h hM hS)
  have FX : Hid (∀ W lv1 c1, DoW F cb lv S (rmsC nb rb tb n tk) (rmsO gb ab) w lv1 c1 W → Blk W nb 3 #[.int .i64 n] ∧ Blk W rb 26 #[.int .u64 6] ∧ Blk W tb 3 #[.int .i64 tk] ∧ (∃ x, Blk W gb 3 #[x]) ∧ ∃ x, Blk W ab 4 #[x]) := Lib.hid (fun W lv1 c1 hD => by
    obtain ⟨_, _, m1, m2⟩ := hD.m
    simp only [List.mem_cons, forall_eq_or_imp, List.not_mem_nil, false_imp_iff, implies_true, and_true] at m1 m2
    obtain ⟨⟨x, e1, _⟩, y, e2, _⟩ := m2
    exact ⟨m1.1, m1.2.1, m1.2.2, ⟨x, e1⟩, y, e2⟩)
  have HNE : Hid (gb ≠ ab ∧ rb ≠ gb ∧ tb ≠ gb ∧ gb ≠ rb ∧ gb ≠ tb) := Lib.hid (by
    obtain ⟨rfl, hnd, _⟩ := hM
    simp at hnd
    omega)
  have HAB : Hid (ab < w.heap.size) := Lib.hid ((mbx_ok _ _).lt _ _ _ hM ab (by rw [hM.1]; simp))
  have b1 := (FX.out _ _ _ D0.out).1.facts
  have HJ : Hid ((6, 1) ∈ c.B.sz) := Lib.hid (hJ _ (by simp))
  have HF := Lib.hid hf
  have hn3 : (n : Int) ≤ 20 := by omega
  have HN := Lib.hid hn
  clear h hJ hM hS hf hn
  go_enter Tryz.func18, Tryz.ntmps18
  go_wp2_with fail
  clear b1
  go_loopw [8, 12] (fun u8 u12 wr => ∃ (j : Nat) (cj : CS) (lj : Value), u12 = .int .i64 j ∧ j ≤ n ∧ Hid (DoW F cb lv S (rmsC nb rb tb n tk) (rmsO gb ab) w lj cj wr) ∧ Hid (run ((wakesT 6 (n - j)).bind fun a => if a.err = 0 then ((sleepT 6 []).bind fun b => if b.err = 0 then (awakeT 6 tk).bind fun d => .ret ⟨0, d.n, b.n⟩ else .ret ⟨b.err, 0, 0⟩) else .ret ⟨a.err, 0, 0⟩) cj = run (rmsT n tk) c ∧ (6, 1) ∈ cj.B.sz)) (fun _ u _ => n - (intOf u).toNat)
  case atStart => exact ⟨0, c, lv, rfl, by omega, D0, Lib.hid ⟨by rw [Nat.sub_zero]; rfl, HJ.out⟩⟩
  case round =>
    obtain ⟨j, cj, lj, rfl, hj, KD, KR⟩ := hrel
    rename World => wr
    have b2 := (FX.out _ _ _ KD.out).2.1.facts
    by_cases hlt : j < n
    · have hjn : (j : Int) < n := by omega
      have hdr := KR.out.1
      obtain ⟨m, hm⟩ : ∃ m, n - j = m + 1 := ⟨n - j - 1, by omega⟩
      rw [hm] at hdr
      have hdr : run (((wakeT 6).bind fun a => if a.err = 0 then wakesT 6 m else .ret ⟨a.err, 0, 0⟩).bind fun a => if a.err = 0 then ((sleepT 6 []).bind fun b => if b.err = 0 then (awakeT 6 tk).bind fun d => .ret ⟨0, d.n, b.n⟩ else .ret ⟨b.err, 0, 0⟩) else .ret ⟨a.err, 0, 0⟩) cj = run (rmsT n tk) c := hdr
      have hz : ∀ a c', run (wakeT 6) cj = (some a, c') → a.err = 0 := fun a c' ha => by
        rw [run_bind_some' (run_bind_some ha)] at hdr
        refine Classical.byContradiction fun h0 => ?_
        rw [if_neg h0] at hdr
        have hdr : run (if (a.err = 0) then ((sleepT 6 []).bind fun b => if b.err = 0 then (awakeT 6 tk).bind fun d => .ret ⟨0, d.n, b.n⟩ else .ret ⟨b.err, 0, 0⟩) else .ret ⟨a.err, 0, 0⟩) c' = run (rmsT n tk) c := hdr
        rw [if_neg h0] at hdr
        exact HF.out ⟨a.err, 0, 0⟩ (by rw [← hdr]; rfl) h0
      have HW := Lib.hid (wake_ok wr KD.out.st 6 KR.out.2 (fun a ha => by
        have := hz a _ (Prod.ext ha rfl)
        omega))
      have HZ := Lib.hid hz
      have HDR := Lib.hid hdr
      have HM := Lib.hid hm
      have HJ2 := Lib.hid hlt
      clear hj hlt hdr hz hm
      go_wp2_with fail
      refine HW.out.mono ?_
      rintro e w1 ⟨lv1, v, rfl, h1, h2, h3⟩
      have D1 := Lib.hid (KD.out.call h1 h2)
      cases hr : run (wakeT 6) cj with
      | mk o c1 =>
        rw [hr] at h3 D1
        have H3 := Lib.hid ((h3.base KD.out.up.size).up (show 1 ≤ 2 by omega))
        cases o with
        | none =>
          have HR : Hid (run (rmsT n tk) c = (none, c1)) := Lib.hid (by rw [← HDR.out]; exact run_bind_none (run_bind_none hr))
          have hc := h3.cases
          simp only [resA] at hc
          obtain ⟨⟨t, x, rfl⟩, _⟩ := hc.resolve_left (by omega)
          clear h1 h2 h3 hc hr b2
          go_wp2_with fail
          go_ret
          rw [HR.out]
          exact ⟨_, rfl, D1.out.fin (by intro a ha; cases ha) H3.out⟩
        | some a =>
          have he := HZ.out a c1 hr
          simp only [resA, he] at h3
          obtain rfl := h3.zero
          have HR : Hid (run ((wakesT 6 m).bind fun a => if a.err = 0 then ((sleepT 6 []).bind fun b => if b.err = 0 then (awakeT 6 tk).bind fun d => .ret ⟨0, d.n, b.n⟩ else .ret ⟨b.err, 0, 0⟩) else .ret ⟨a.err, 0, 0⟩) c1 = run (rmsT n tk) c ∧ (6, 1) ∈ c1.B.sz) := Lib.hid ⟨by
            rw [← HDR.out, run_bind_some' (run_bind_some hr), if_pos he], run_mem hr KR.out.2⟩
          clear h1 h2 h3 hr b2 he
          go_wp2_with fail
          go_round
          case rel => exact ⟨j + 1, c1, lv1, by simp, by have := HJ2.out; omega, D1, by rw [show n - (j + 1) = m by have := HM.out; omega]; exact HR⟩
          case measure => have := HJ2.out; simp [intOf]; omega
    · have hjn : ¬ ((j : Int) < n) := by omega
      have HR0 : Hid (run ((sleepT 6 []).bind fun b => if b.err = 0 then (awakeT 6 tk).bind fun d => .ret ⟨0, d.n, b.n⟩ else .ret ⟨b.err, 0, 0⟩) cj = run (rmsT n tk) c) := Lib.hid (by
        rw [← KR.out.1, show n - j = 0 by omega]
        rfl)
      have HSl := Lib.hid (sleep_ok wr KD.out.st 6 KR.out.2 [] (.slice none 0 0) (Ow.nil _ _ _ _) (by simp [Value.ownBlock]) (by simp) (by simp))
      clear hj hlt
      go_wp2_with fail
      refine HSl.out.mono ?_
      rintro e w1 ⟨lv1, v, rfl, h1, h2, h3⟩
      have D1 := Lib.hid (KD.out.call h1 h2)
      cases hr : run (sleepT 6 []) cj with
      | mk o c1 =>
        rw [hr] at h3 D1
        have H3 := Lib.hid (h3.base KD.out.up.size)
        cases o with
        | none =>
          have HR : Hid (run (rmsT n tk) c = (none, c1)) := Lib.hid (by rw [← HR0.out]; exact run_bind_none hr)
          have hc := h3.cases
          simp only [resA] at hc
          obtain ⟨⟨t, x, rfl⟩, _⟩ := hc.resolve_left (by omega)
          clear h1 h2 h3 hc hr b2
          go_wp2_with fail
          go_ret
          rw [HR.out]
          exact ⟨_, rfl, D1.out.fin (by intro a ha; cases ha) H3.out⟩
        | some b =>
          have hR1 : run (if b.err = 0 then (awakeT 6 tk).bind fun d => .ret (⟨0, d.n, b.n⟩ : An) else .ret ⟨b.err, 0, 0⟩) c1 = run (rmsT n tk) c := by rw [← HR0.out, run_bind_some hr]
          have he : b.err = 0 := Classical.byContradiction fun h0 => by
            rw [if_neg h0] at hR1
            exact HF.out ⟨b.err, 0, 0⟩ (by rw [← hR1]; rfl) h0
          rw [if_pos he] at hR1
          have HR1 := Lib.hid hR1
          simp only [resA, he] at h3
          obtain rfl := h3.zero
          obtain ⟨g1, g2, g3, ⟨x4, g4⟩, x5, g5⟩ := FX.out _ _ _ D1.out
          have f2 := g2.facts
          have f3 := g3.facts
          have f4 := g4.facts
          obtain ⟨bn, hbn⟩ : ∃ bn, bn = b.n := ⟨_, rfl⟩
          have HBN := Lib.hid hbn
          have hmem := run_mem hr KR.out.2
          have HMEM := Lib.hid hmem
          simp only [resA]
          rw [← hbn]
          obtain ⟨D2, x6, u6⟩ := D1.out.put (b := gb) (t := 3) (f := fun a => .int .i64 a.n) (by simp) (.int .i64 bn)
          have D2 := Lib.hid D2
          have X6 := Lib.hid x6
          have HA := Lib.hid (awake_ok _ D2.out.st 6 hmem tk)
          obtain ⟨_, z1, z2, z3, z4⟩ := HNE.out
          clear h1 h2 h3 hr b2 he hR1 g1 g2 g3 g4 g5 hbn hmem x6 u6
          go_wp2_with fail
          refine HA.out.mono ?_
          rintro e w2 ⟨lv2, v, rfl, h1, h2, h3⟩
          have D3 := Lib.hid (D2.out.call h1 h2)
          have X7 : Hid (Blk w2 gb 3 #[.int .i64 bn]) := Lib.hid (X6.out.upd h2.up (D2.out.ns gb (by rw [D2.out.m.1]; simp)))
          have H3 := Lib.hid (h3.base D2.out.up.size)
          obtain ⟨_, _, _, _, x5, g5⟩ := FX.out _ _ _ D3.out
          have f5 := g5.facts
          obtain ⟨D4, x8, u8⟩ := D3.out.put (b := ab) (t := 4) (f := fun a => .bool (a.val == 1)) (by simp) (.bool ((resA (run (awakeT 6 tk) c1).1).n == 1))
          have D4 := Lib.hid D4
          have X8 := Lib.hid x8
          have X9 := Lib.hid (X7.out.upd u8 (by simpa using HNE.out.1))
          have hlt5 : Hid (ab < w2.heap.size) := Lib.hid g5.lt
          clear h1 h2 h3 f2 f3 f4 g5 x8 u8 z1 z2 z3 z4
          go_wp2_with fail
          go_ret
          refine ⟨_, rfl, ?_⟩
          cases hr : run (awakeT 6 tk) c1 with
          | mk o c2 =>
            have D4' := D4.out
            have X8' := X8.out
            have X9' := X9.out
            have H3' := H3.out
            rw [hr] at D4' X8' X9' H3'
            cases o with
            | none =>
              have HR : run (rmsT n tk) c = (none, c2) := by rw [← HR1.out]; exact run_bind_none hr
              rw [HR]
              exact D4'.fin (by intro a ha; cases ha) (ErK.upd H3' (S := [ab]) ((Upd.refl _ _).setCell (by simp) _) (by intro x hx; simp at hx; subst hx; exact HAB.out))
            | some d =>
              have HR : run (rmsT n tk) c = (some ⟨0, d.n, b.n⟩, c2) := by rw [← HR1.out]; exact run_bind_some hr
              rw [HR]
              refine D4'.fin (fun a ha => ?_) ?_
              · injection ha with ha
                subst ha
                simp only [List.mem_cons, forall_eq_or_imp, List.not_mem_nil, false_imp_iff, implies_true, and_true]
                exact ⟨HBN.out ▸ X9', X8'⟩
              · have e0 := awake_e0 hr
                simp only [resA, e0] at H3'
                exact H3'.zero
end Go.Proofs.YtkldpdldjalpeaaGreatDoor

namespace Go.Proofs.YtkldpdldjalpeaaGreatDoor.Th
def RB1 (w v r : Int) : BS := ⟨8, [(1, 1), (3, 2), (6, 1)], [0, 3, 0, 5, w, v, 3, r] ++ List.replicate 292 0⟩
set_option maxRecDepth 20000 in
theorem br1 : BR 1 = RB1 0 10 0 := rfl
set_option maxRecDepth 20000 in
theorem al_e1 : exec 30 (sleepT 6 [(3, 0)]) (RB1 0 10 0) = some (⟨0, 0, 0⟩, RB1 2 10 0) := rfl
set_option maxRecDepth 20000 in
theorem al_e2 : exec 30 Go.Proofs.YtkldpdldjalpeaaGreatDoor.lcT (RB1 2 10 0) = some (⟨0, 0, 1⟩, RB1 65536 5 0) := rfl
set_option maxRecDepth 20000 in
theorem al_e3 : exec 30 (wakeT 6) (RB1 65536 5 0) = some (⟨0, 0, 1⟩, RB1 65536 5 1) := rfl
set_option maxRecDepth 20000 in
theorem al_e4 : exec 30 (awakeT 6 0) (RB1 65536 5 1) = some (⟨0, 0, 1⟩, RB1 65536 5 1) := rfl
end Go.Proofs.YtkldpdldjalpeaaGreatDoor.Th
namespace Go.Proofs.YtkldpdldjalpeaaGreatDoor
open Go.RowKit Th
attribute [local go_sem] litStep_value

theorem dep_lc : Dep lcT 20 := ((dep_turn 3 0 (lockTo 1) 8).bind (m := 4) fun a => by
  split
  · refine .acc _ _ 3 fun e => ?_
    split
    · exact .ret _ _
    · exact .acc _ _ 2 fun _ => .acc _ _ 1 fun _ => .ret _ _
  · exact .ret _ _)
theorem doOk_of {α : Type} {fid : FuncId} {caps : Array Value} {p : Pg α} {Bad : α → Prop} {J : BS → Prop} {M : World → List Nat → Option α → Prop} (he : ∀ args w, (callFunc fid args).run Tryz.prog w = .ok (.enter fid args) w)
    (h : ∀ (w : World) (F : BFp) (cb : Nat) (lv : Value) (c : CS) (S : List Nat) (r0 : Option α), CSt w F cb lv c → J c.B → M w S r0 → (∀ x ∈ S, x ∉ SS F cb lv) → (∀ a, (Th.run p c).1 = some a → ¬ Bad a) →
      Calls Tryz.prog fid (#[.pointer (some ⟨cb, 0, none⟩)] ++ caps) w fun e w' => ∃ v, e = .returned v ∧ DoP F cb lv S M w (Th.run p c) v w') : DoOk fid caps p Bad J M :=
  ⟨he, fun w F cb lv c S r0 h1 h2 h3 h4 h5 => (h w F cb lv c S r0 h1 h2 h3 h4 h5).mono fun e w' ⟨v, e1, lv', q1, q2, q3, q4, q5⟩ => ⟨lv', v, e1, q1, q2, q3, q4, q5⟩⟩
set_option maxRecDepth 20000 in
theorem ali1_do (rb cbx kb tk : Nat) : DoOk 23 #[.pointer (some ⟨rb, 0, none⟩), .pointer (some ⟨cbx, 0, none⟩), .pointer (some ⟨tk, 0, none⟩)] (sleepT 6 [(3, 0)]) (fun a => a.err ≠ 0) (fun B => ∀ q ∈ [(3, 2), (6, 1)], q ∈ B.sz) (aliM1 rb cbx kb tk) :=
  doOk_of (fun _ _ => rfl) fun w F cb lv c S r0 h1 h2 h3 h4 h5 => ali1_ok rb cbx kb tk w h1 h2 h3 h4 h5
set_option maxRecDepth 20000 in
theorem ali2_do (cbx kb wb : Nat) : DoOk 24 #[.pointer (some ⟨cbx, 0, none⟩), .pointer (some ⟨wb, 0, none⟩)] lcT (fun a => a.err ≠ 0) (fun B => ∀ q ∈ [(3, 2), (6, 1)], q ∈ B.sz) (aliM2 cbx kb wb) :=
  doOk_of (fun _ _ => rfl) fun w F cb lv c S r0 h1 h2 h3 h4 h5 => ali2_ok cbx kb wb w h1 h2 h3 h4 h5
set_option maxRecDepth 20000 in
theorem ali3_do (rb : Nat) : DoOk 26 #[.pointer (some ⟨rb, 0, none⟩)] (wakeT 6) (fun a => a.err ≠ 0) (fun B => ∀ q ∈ [(3, 2), (6, 1)], q ∈ B.sz) (aliM3 rb) :=
  doOk_of (fun _ _ => rfl) fun w F cb lv c S r0 h1 h2 h3 h4 h5 => ali3_ok rb w h1 h2 h3 h4 h5
set_option maxRecDepth 20000 in
theorem ali4_do (rb tk aw : Nat) : DoOk 27 #[.pointer (some ⟨rb, 0, none⟩), .pointer (some ⟨tk, 0, none⟩), .pointer (some ⟨aw, 0, none⟩)] (awakeT 6 0) (fun a => a.err ≠ 0) (fun B => ∀ q ∈ [(3, 2), (6, 1)], q ∈ B.sz) (aliM4 rb tk aw) :=
  doOk_of (fun _ _ => rfl) fun w F cb lv c S r0 h1 h2 h3 h4 h5 => ali4_ok rb tk aw w h1 h2 h3 h4 h5
/-- Behind one that ran alone: the blocks L beside it. -/
theorem alone_next {w w1 w2 : World} {F F' : BFp} {L S : List Nat} (nf : ∀ x ∈ F.l, w.heap.size ≤ x ∧ x ∉ L) (hL : ∀ x ∈ L, w.heap.size ≤ x ∧ x < w1.heap.size) (hu : Upd [] w w1) (p4 : Upd (F.l ++ S) w1 w2) (hSL : ∀ x ∈ S, x ∈ L) (p5 : ∀ x ∈ F'.l, x ∈ F.l ∨ w1.heap.size ≤ x) :
    Upd [] w w2 ∧ (∀ x ∈ F'.l, w.heap.size ≤ x ∧ x ∉ L) ∧ (∀ x ∈ L, w.heap.size ≤ x ∧ x < w2.heap.size) ∧ ∀ b ∈ L, b ∉ S → b ∉ F.l ++ S := by
  refine ⟨hu.trans' p4 (fun x hx => .inr ?_), fun x hx => ?_, fun x hx => ⟨(hL x hx).1, Nat.lt_of_lt_of_le (hL x hx).2 p4.size⟩, fun b hb hn hm => ?_⟩
  · rcases List.mem_append.1 hx with hx | hx
    · exact (nf x hx).1
    · exact (hL x (hSL x hx)).1
  · rcases p5 x hx with h | h
    · exact nf x h
    · exact ⟨Nat.le_trans hu.size h, fun hm => by have := (hL x hm).2; omega⟩
  · rcases List.mem_append.1 hm with hm | hm
    · exact (nf b hm).2 hb
    · exact hn hm
set_option maxRecDepth 20000 in
set_option maxHeartbeats 2000000 in
theorem alive15_ok (w : World) : Calls Tryz.prog 6 #[] w fun e w' => e = .returned (.bool true) ∧ Upd [] w w' := by
  go_enter Tryz.func6, Tryz.ntmps6
  go_wp2_with fail
  refine (scene15_ok 1 (by omega) w).mono ?_
  rintro e w1 ⟨F, kb, rfl, h1, h2, h3, h4, h5, h6⟩
  rw [br1] at h1
  have H1 := Lib.hid h1
  have H2 : Hid (Blk w1 kb 26 #[.int .u64 3]) := Lib.hid h2
  have H3 := Lib.hid h3
  have H4 : Hid ((∀ x ∈ F.l, w.heap.size ≤ x) ∧ w.heap.size ≤ kb ∧ kb ∉ F.l) := Lib.hid ⟨h4, h5, h6⟩
  have hr : rmN 1 = 6 := rfl
  rw [hr]
  clear h1 h2 h3 h4 h5 h6 hr
  go_wp2_with fail
  obtain ⟨n0, hn0⟩ : ∃ n0, n0 = w1.heap.size := ⟨_, rfl⟩
  obtain ⟨w2, hw2⟩ : ∃ w2, w2 = ((((w1.alloc (Obj.cells #[.int .u64 6] 26)).alloc (Obj.cells #[.slice (some ⟨kb, 0, none⟩) 1 1] 27)).alloc (Obj.cells #[.int .i64 9] 3)).alloc (Obj.cells #[.bool false] 4)).alloc (Obj.cells #[.bool false] 4) := ⟨_, rfl⟩
  have U2 : Hid (Upd [] w1 w2) := Lib.hid (by rw [hw2]; exact (((((Upd.refl _ _).alloc _).alloc _).alloc _).alloc _).alloc _)
  have S2 : Hid (w2.heap.size = n0 + 5) := Lib.hid (by rw [hw2, hn0]; simp)
  have X0 : Blk w2 n0 26 #[.int .u64 6] := by rw [hw2, hn0]; exact ((((Blk.new _ _ _).alloc _).alloc _).alloc _).alloc _
  have X1 : Blk w2 (n0 + 1) 27 #[.slice (some ⟨kb, 0, none⟩) 1 1] := by rw [hw2, hn0]; exact (((Blk.newAt _ _ (by simp)).alloc _).alloc _).alloc _
  have X2 : Blk w2 (n0 + 1 + 1) 3 #[.int .i64 9] := by rw [hw2, hn0]; exact ((Blk.newAt _ _ (by simp)).alloc _).alloc _
  have X3 : Blk w2 (n0 + 1 + 1 + 1) 4 #[.bool false] := by rw [hw2, hn0]; exact (Blk.newAt _ _ (by simp)).alloc _
  have X4 : Blk w2 (n0 + 1 + 1 + 1 + 1) 4 #[.bool false] := by rw [hw2, hn0]; exact Blk.newAt _ _ (by simp)
  have XX : Hid (Blk w2 n0 26 #[.int .u64 6] ∧ Blk w2 (n0 + 1) 27 #[.slice (some ⟨kb, 0, none⟩) 1 1] ∧ Blk w2 (n0 + 1 + 1) 3 #[.int .i64 9] ∧ Blk w2 (n0 + 1 + 1 + 1) 4 #[.bool false] ∧ Blk w2 (n0 + 1 + 1 + 1 + 1) 4 #[.bool false]) := Lib.hid ⟨X0, X1, X2, X3, X4⟩
  have KL : Hid (kb < n0 ∧ ∀ x ∈ F.l, x < n0) := Lib.hid ⟨hn0 ▸ H2.out.lt, hn0 ▸ H1.out.lt⟩
  have HN0 : Hid (w.heap.size ≤ n0) := Lib.hid (hn0 ▸ H3.out.size)
  rw [← hw2, ← hn0]
  clear hw2 hn0 X0 X1 X2 X3 X4
  obtain ⟨L, hL⟩ : ∃ L, L = [n0, n0 + 1, kb, n0 + 1 + 1, n0 + 1 + 1 + 1, n0 + 1 + 1 + 1 + 1] := ⟨_, rfl⟩
  have hL1 : ∀ x ∈ L, w.heap.size ≤ x ∧ x < w2.heap.size := fun x hx => by
    have := S2.out; have := HN0.out; have := KL.out.1
    rw [hL] at hx
    simp at hx
    rcases hx with rfl | rfl | rfl | rfl | rfl | rfl
    · omega
    · omega
    · exact ⟨H4.out.2.1, by omega⟩
    · omega
    · omega
    · omega
  have hF1 : ∀ x ∈ F.l, w.heap.size ≤ x ∧ x ∉ L := fun x hx => ⟨H4.out.1 x hx, fun hm => by
    have := KL.out.2 x hx
    rw [hL] at hm
    simp at hm
    rcases hm with rfl | rfl | rfl | rfl | rfl | rfl
    · omega
    · omega
    · exact H4.out.2.2 hx
    · omega
    · omega
    · omega⟩
  have HL := Lib.hid hL
  have HQ : Hid (kb < n0) := Lib.hid KL.out.1
  have UU : Hid (Upd [] w w2) := Lib.hid (H3.out.trans U2.out)
  have G1 : Hid (BSt w2 F (RB1 0 10 0) ∧ Blk w2 n0 26 #[.int .u64 6] ∧ Blk w2 (n0 + 1) 27 #[.slice (some ⟨kb, 0, none⟩) 1 1] ∧ Blk w2 kb 26 #[.int .u64 3] ∧ Blk w2 (n0 + 1 + 1) 3 #[.int .i64 9] ∧ Blk w2 (n0 + 1 + 1 + 1) 4 #[.bool false] ∧ Blk w2 (n0 + 1 + 1 + 1 + 1) 4 #[.bool false]) := Lib.hid ⟨H1.out.upd U2.out (by simp), XX.out.1, XX.out.2.1, H2.out.upd U2.out (by simp), XX.out.2.2⟩
  have NL1 := Lib.hid hL1
  have NF1 := Lib.hid hF1
  clear hL1 hF1 hL H1 H2 H4 XX U2 S2 KL H3
  -- the sleeper
  have hM1 : aliM1 n0 (n0 + 1) kb (n0 + 1 + 1) w2 [n0, n0 + 1, kb, n0 + 1 + 1] (none : Option An) := ⟨rfl, by have := HQ.out; simp; omega, by simp only [List.mem_cons, forall_eq_or_imp, List.not_mem_nil, false_imp_iff, implies_true, and_true]; exact ⟨G1.out.2.1, G1.out.2.2.1, G1.out.2.2.2.1⟩, by simp only [List.mem_cons, forall_eq_or_imp, List.not_mem_nil, false_imp_iff, implies_true, and_true]; exact ⟨_, G1.out.2.2.2.2.1, by intro a ha; cases ha⟩⟩
  have hS1 : ∀ x ∈ [n0, n0 + 1, kb, n0 + 1 + 1], x ∈ L := fun x hx => by rw [HL.out]; simp at hx ⊢; omega
  refine (alone_ok (mbx_ok _ _) (ali1_do n0 (n0 + 1) kb (n0 + 1 + 1)) w2 G1.out.1 hM1 (fun x hx hm => (NF1.out x hm).2 (hS1 x hx)) al_e1 (dep_sleep _ _) (by simp) (by decide) (by simp)).mono ?_
  rintro e w3 ⟨rfl, F1, p1, p2, p3, p4, p5, p6⟩
  obtain ⟨_, _, m1, m2⟩ := p2
  simp only [List.mem_cons, forall_eq_or_imp, List.not_mem_nil, false_imp_iff, implies_true, and_true] at m1 m2
  obtain ⟨x0, m3, m4⟩ := m2
  obtain rfl := m4 _ rfl
  obtain ⟨g1, g2, g3, g4⟩ := alone_next NF1.out NL1.out UU.out p4 hS1 p5
  have G2 : Hid (BSt w3 F1 (RB1 2 10 0) ∧ Blk w3 n0 26 #[.int .u64 6] ∧ Blk w3 (n0 + 1) 27 #[.slice (some ⟨kb, 0, none⟩) 1 1] ∧ Blk w3 kb 26 #[.int .u64 3] ∧ Blk w3 (n0 + 1 + 1) 3 #[.int .i64 0] ∧ Blk w3 (n0 + 1 + 1 + 1) 4 #[.bool false] ∧ Blk w3 (n0 + 1 + 1 + 1 + 1) 4 #[.bool false]) := Lib.hid (by
    have := HQ.out
    exact ⟨p1, m1.1, m1.2.1, m1.2.2, m3, G1.out.2.2.2.2.2.1.upd p4 (g4 _ (by rw [HL.out]; simp) (by simp; omega)), G1.out.2.2.2.2.2.2.upd p4 (g4 _ (by rw [HL.out]; simp) (by simp; omega))⟩)
  have U3 := Lib.hid g1
  have NF2 := Lib.hid g2
  have NL2 := Lib.hid g3
  have E1 := Lib.hid p3
  rw [← E1.out]
  clear p1 p3 p4 p5 p6 m1 m3 hM1 hS1 g1 g2 g3 g4 G1 NF1 NL1 UU
  go_wp2_with fail
  -- the committer
  have hM1 : aliM2 (n0 + 1) kb (n0 + 1 + 1 + 1) w3 [n0 + 1, kb, n0 + 1 + 1 + 1] (none : Option An) := ⟨rfl, by have := HQ.out; simp; omega, by simp only [List.mem_cons, forall_eq_or_imp, List.not_mem_nil, false_imp_iff, implies_true, and_true]; exact ⟨G2.out.2.2.1, G2.out.2.2.2.1⟩, by simp only [List.mem_cons, forall_eq_or_imp, List.not_mem_nil, false_imp_iff, implies_true, and_true]; exact ⟨_, G2.out.2.2.2.2.2.1, by intro a ha; cases ha⟩⟩
  have hS1 : ∀ x ∈ [n0 + 1, kb, n0 + 1 + 1 + 1], x ∈ L := fun x hx => by rw [HL.out]; simp at hx ⊢; omega
  refine (alone_ok (mbx_ok _ _) (ali2_do (n0 + 1) kb (n0 + 1 + 1 + 1)) w3 G2.out.1 hM1 (fun x hx hm => (NF2.out x hm).2 (hS1 x hx)) al_e2 dep_lc (by simp) (by decide) (by simp)).mono ?_
  rintro e w4 ⟨rfl, F2, p1, p2, p3, p4, p5, p6⟩
  obtain ⟨_, _, m1, m2⟩ := p2
  simp only [List.mem_cons, forall_eq_or_imp, List.not_mem_nil, false_imp_iff, implies_true, and_true] at m1 m2
  obtain ⟨x0, m3, m4⟩ := m2
  obtain rfl := m4 _ rfl
  obtain ⟨g1, g2, g3, g4⟩ := alone_next NF2.out NL2.out U3.out p4 hS1 p5
  have G3 : Hid (BSt w4 F2 (RB1 65536 5 0) ∧ Blk w4 n0 26 #[.int .u64 6] ∧ Blk w4 (n0 + 1 + 1) 3 #[.int .i64 0] ∧ Blk w4 (n0 + 1 + 1 + 1) 4 #[.bool true] ∧ Blk w4 (n0 + 1 + 1 + 1 + 1) 4 #[.bool false]) := Lib.hid (by
    have := HQ.out
    exact ⟨p1, G2.out.2.1.upd p4 (g4 _ (by rw [HL.out]; simp) (by simp; omega)), G2.out.2.2.2.2.1.upd p4 (g4 _ (by rw [HL.out]; simp) (by simp; omega)), m3, G2.out.2.2.2.2.2.2.upd p4 (g4 _ (by rw [HL.out]; simp) (by simp; omega))⟩)
  have U4 := Lib.hid g1
  have NF3 := Lib.hid g2
  have NL3 := Lib.hid g3
  have E2 := Lib.hid p3
  rw [← E2.out]
  clear p1 p3 p4 p5 p6 m1 m3 hM1 hS1 g1 g2 g3 g4 G2 NF2 NL2 U3
  go_wp2_with fail
  -- who wakes
  have hM1 : aliM3 n0 w4 [n0] (none : Option An) := ⟨rfl, by simp, by simp only [List.mem_cons, forall_eq_or_imp, List.not_mem_nil, false_imp_iff, implies_true, and_true]; exact G3.out.2.1, by simp⟩
  have hS1 : ∀ x ∈ [n0], x ∈ L := fun x hx => by rw [HL.out]; simp at hx ⊢; omega
  refine (alone_ok (mbx_ok _ _) (ali3_do n0) w4 G3.out.1 hM1 (fun x hx hm => (NF3.out x hm).2 (hS1 x hx)) al_e3 (dep_wake _) (by simp) (by decide) (by simp)).mono ?_
  rintro e w5 ⟨rfl, F3, p1, p2, p3, p4, p5, p6⟩
  obtain ⟨_, _, m1, m2⟩ := p2
  simp only [List.mem_cons, forall_eq_or_imp, List.not_mem_nil, false_imp_iff, implies_true, and_true] at m1
  obtain ⟨g1, g2, g3, g4⟩ := alone_next NF3.out NL3.out U4.out p4 hS1 p5
  have G4 : Hid (BSt w5 F3 (RB1 65536 5 1) ∧ Blk w5 n0 26 #[.int .u64 6] ∧ Blk w5 (n0 + 1 + 1) 3 #[.int .i64 0] ∧ Blk w5 (n0 + 1 + 1 + 1) 4 #[.bool true] ∧ Blk w5 (n0 + 1 + 1 + 1 + 1) 4 #[.bool false]) := Lib.hid (by
    exact ⟨p1, m1, G3.out.2.2.1.upd p4 (g4 _ (by rw [HL.out]; simp) (by simp; omega)), G3.out.2.2.2.1.upd p4 (g4 _ (by rw [HL.out]; simp) (by simp; omega)), G3.out.2.2.2.2.upd p4 (g4 _ (by rw [HL.out]; simp) (by simp; omega))⟩)
  have U5 := Lib.hid g1
  have NF4 := Lib.hid g2
  have NL4 := Lib.hid g3
  have E3 := Lib.hid p3
  rw [← E3.out]
  clear p1 p3 p4 p5 p6 m1 m2 hM1 hS1 g1 g2 g3 g4 G3 NF3 NL3 U4
  go_wp2_with fail
  -- who asks
  have hM1 : aliM4 n0 (n0 + 1 + 1) (n0 + 1 + 1 + 1 + 1) w5 [n0, n0 + 1 + 1, n0 + 1 + 1 + 1 + 1] (none : Option An) := ⟨rfl, by simp; omega, by simp only [List.mem_cons, forall_eq_or_imp, List.not_mem_nil, false_imp_iff, implies_true, and_true]; exact ⟨G4.out.2.1, G4.out.2.2.1⟩, by simp only [List.mem_cons, forall_eq_or_imp, List.not_mem_nil, false_imp_iff, implies_true, and_true]; exact ⟨_, G4.out.2.2.2.2, by intro a ha; cases ha⟩⟩
  have hS1 : ∀ x ∈ [n0, n0 + 1 + 1, n0 + 1 + 1 + 1 + 1], x ∈ L := fun x hx => by rw [HL.out]; simp at hx ⊢; omega
  refine (alone_ok (mbx_ok _ _) (ali4_do n0 (n0 + 1 + 1) (n0 + 1 + 1 + 1 + 1)) w5 G4.out.1 hM1 (fun x hx hm => (NF4.out x hm).2 (hS1 x hx)) al_e4 (dep_awake _ _) (by simp) (by decide) (by simp)).mono ?_
  rintro e w6 ⟨rfl, F4, p1, p2, p3, p4, p5, p6⟩
  obtain ⟨_, _, m1, m2⟩ := p2
  simp only [List.mem_cons, forall_eq_or_imp, List.not_mem_nil, false_imp_iff, implies_true, and_true] at m1 m2
  obtain ⟨x0, m3, m4⟩ := m2
  obtain rfl := m4 _ rfl
  obtain ⟨g1, g2, g3, g4⟩ := alone_next NF4.out NL4.out U5.out p4 hS1 p5
  have z1 := m1.2.facts
  have z2 := (G4.out.2.2.2.1.upd p4 (g4 _ (by rw [HL.out]; simp) (by simp; omega))).facts
  have m3' : Blk w6 (n0 + 1 + 1 + 1 + 1) 4 #[.bool true] := m3
  have z3 := m3'.facts
  have U6 := Lib.hid g1
  clear p1 p3 p4 p5 p6 m1 m3 m3' hM1 hS1 g1 g2 g3 g4 G4 NF4 NL4 U5
  go_wp2_with fail
  go_ret
  exact ⟨rfl, U6.out⟩
end Go.Proofs.YtkldpdldjalpeaaGreatDoor

namespace Go.Proofs.YtkldpdldjalpeaaGreatDoor.Th
theorem rb_load_room (w v r : Int) : ex (RB1 w v r) (.load 6 0) = (⟨1, 6, 0, r, false⟩, RB1 w v r) := rfl
theorem rb_cas_room (w v r o x : Int) : ex (RB1 w v r) (.cas 6 0 o x) = (⟨3, 6, 0, x, r == o⟩, if r = o then RB1 w v x else RB1 w v r) := by
  simp only [ex]
  rw [show (RB1 w v r).ws.getD (6 + 1 + 0) 0 = r from rfl]
  by_cases h : r = o <;> simp only [h, if_true, if_false] <;> rfl
theorem exec_wake {w v : Int} {r : Nat} (hr : r ≤ 1000) : exec 2 (wakeT 6) (RB1 w v r) = some (⟨0, 0, (r : Int) + 1⟩, RB1 w v ((r + 1 : Nat) : Int)) := by
  have hu : u64 ((r : Int) + 1) = ((r + 1 : Nat) : Int) := by unfold u64; omega
  have hs : s64 (((r + 1 : Nat) : Int)) = (r : Int) + 1 := by unfold s64; omega
  show exec 2 (.acc (.load 6 0) _) _ = _
  rw [exec_acc, rb_load_room]
  show exec 1 (.acc (.cas 6 0 _ _) _) _ = _
  simp only
  rw [exec_acc, rb_cas_room]
  simp only [beq_self_eq_true, if_true, hu, hs]
  show exec 0 (.ret _) _ = _
  rw [exec_ret]
  simp
theorem exec_wakes {w v : Int} : ∀ (n r : Nat), r + n ≤ 1000 → exec (2 * n) (wakesT 6 n) (RB1 w v r) = some (⟨0, 0, 0⟩, RB1 w v ((r + n : Nat) : Int))
  | 0, r, _ => rfl
  | n + 1, r, h => by
    rw [show 2 * (n + 1) = 2 + 2 * n by omega]
    refine exec_bind 2 (2 * n) (exec_wake (by omega)) ?_
    rw [if_pos rfl]
    rw [exec_wakes n (r + 1) (by omega), show r + 1 + n = r + (n + 1) by omega]
theorem exec_now6 {w v r : Int} : exec 1 (nowT 6) (RB1 w v r) = some (⟨0, 0, s64 r⟩, RB1 w v r) := by
  unfold nowT
  rw [exec_acc, rb_load_room]
  exact exec_ret _ _ _
theorem exec_rms {n : Nat} (hn : n ≤ 20) (tk : Int) : exec (2 * n + 2) (rmsT n tk) (RB1 0 10 0) = some (⟨0, if (n : Int) = tk then 0 else 1, n⟩, RB1 0 10 n) := by
  have hs : s64 (n : Int) = n := by unfold s64; omega
  have h1 := exec_wakes (w := 0) (v := 10) n 0 (by omega)
  rw [Nat.zero_add] at h1
  refine exec_bind (2 * n) 2 h1 ?_
  rw [if_pos rfl]
  have h2 : exec 1 (sleepT 6 []) (RB1 0 10 n) = some (⟨0, 0, n⟩, RB1 0 10 n) := by
    refine exec_bind 1 0 exec_now6 ?_
    rw [hs]
    rfl
  refine exec_bind 1 1 h2 ?_
  rw [if_pos rfl]
  have h3 : exec 1 (awakeT 6 tk) (RB1 0 10 n) = some (⟨0, 0, if (n : Int) = tk then 0 else 1⟩, RB1 0 10 n) := by
    refine exec_bind 1 0 exec_now6 ?_
    rw [hs]
    rfl
  exact exec_bind 1 0 h3 rfl
end Go.Proofs.YtkldpdldjalpeaaGreatDoor.Th
namespace Go.Proofs.YtkldpdldjalpeaaGreatDoor
open Go.RowKit Th
attribute [local go_sem] litStep_value

set_option maxRecDepth 20000 in
theorem rms_do (nb rb tb gb ab n : Nat) (hn : n ≤ 20) (tk : Int) : DoOk 18 #[.pointer (some ⟨nb, 0, none⟩), .pointer (some ⟨rb, 0, none⟩), .pointer (some ⟨gb, 0, none⟩), .pointer (some ⟨tb, 0, none⟩), .pointer (some ⟨ab, 0, none⟩)] (rmsT n tk) (fun a => a.err ≠ 0) (fun B => ∀ q ∈ [(3, 2), (6, 1)], q ∈ B.sz) (MBx (rmsC nb rb tb n tk) (rmsO gb ab)) :=
  doOk_of (fun _ _ => rfl) fun w F cb lv c S r0 h1 h2 h3 h4 h5 => rms_ok nb rb tb gb ab n hn tk w h1 h2 h3 h4 h5
set_option maxRecDepth 20000 in
set_option maxHeartbeats 2000000 in
theorem law_rooms (nn tk : Int) (w : World) :
    Calls Tryz.prog 4 #[.int .i64 nn, .int .i64 tk] w fun e w' => e = .returned (.bool true) ∧ Upd [] w w' := by
  have hr : -21 < nn.tmod 21 ∧ nn.tmod 21 < 21 := ⟨Int.lt_tmod_of_pos nn (by omega), Int.tmod_lt_of_pos nn (by omega)⟩
  go_enter Tryz.func4, Tryz.ntmps4
  go_wp2_with fail
  obtain ⟨n, hn, hn2⟩ : ∃ n : Nat, nn.tmod 21 % 21 = n ∧ n ≤ 20 := ⟨(nn.tmod 21 % 21).toNat, by omega, by omega⟩
  rw [hn]
  have HN := Lib.hid hn2
  obtain ⟨nb, hnb⟩ : ∃ nb, nb = w.heap.size := ⟨_, rfl⟩
  obtain ⟨wa, hwa⟩ : ∃ wa, wa = (w.alloc (Obj.cells #[.int .i64 n] 3)).alloc (Obj.cells #[.int .i64 tk] 3) := ⟨_, rfl⟩
  have Ua : Hid (Upd [] w wa) := Lib.hid (by rw [hwa]; exact ((Upd.refl _ _).alloc _).alloc _)
  have Sa : Hid (wa.heap.size = nb + 2 ∧ nb = w.heap.size) := Lib.hid ⟨by rw [hwa, hnb]; simp, hnb⟩
  have Xa : Hid (Blk wa nb 3 #[.int .i64 n] ∧ Blk wa (nb + 1) 3 #[.int .i64 tk]) := Lib.hid ⟨by rw [hwa, hnb]; exact (Blk.new _ _ _).alloc _, by rw [hwa, hnb]; exact Blk.newAt _ _ (by simp)⟩
  rw [← hwa, ← hnb]
  clear hwa hnb hn hn2 hr
  refine (scene15_ok 1 (by omega) wa).mono ?_
  rintro e w1 ⟨F, kb, rfl, h1, h2, h3, h4, h5, h6⟩
  rw [br1] at h1
  have H1 := Lib.hid h1
  have H3 := Lib.hid h3
  have H4 : Hid (∀ x ∈ F.l, wa.heap.size ≤ x) := Lib.hid h4
  have hr : rmN 1 = 6 := rfl
  rw [hr]
  clear h1 h2 h3 h4 h5 h6 hr
  go_wp2_with fail
  obtain ⟨n0, hn0⟩ : ∃ n0, n0 = w1.heap.size := ⟨_, rfl⟩
  obtain ⟨w2, hw2⟩ : ∃ w2, w2 = ((w1.alloc (Obj.cells #[.int .u64 6] 26)).alloc (Obj.cells #[.int .i64 (-1)] 3)).alloc (Obj.cells #[.bool false] 4) := ⟨_, rfl⟩
  have U2 : Hid (Upd [] w1 w2) := Lib.hid (by rw [hw2]; exact (((Upd.refl _ _).alloc _).alloc _).alloc _)
  have S2 : Hid (w2.heap.size = n0 + 3) := Lib.hid (by rw [hw2, hn0]; simp)
  have XX : Hid (Blk w2 n0 26 #[.int .u64 6] ∧ Blk w2 (n0 + 1) 3 #[.int .i64 (-1)] ∧ Blk w2 (n0 + 1 + 1) 4 #[.bool false]) := Lib.hid (by
    rw [hw2, hn0]
    exact ⟨((Blk.new _ _ _).alloc _).alloc _, (Blk.newAt _ _ (by simp)).alloc _, Blk.newAt _ _ (by simp)⟩)
  have KL : Hid ((∀ x ∈ F.l, x < n0) ∧ nb + 2 ≤ n0) := Lib.hid ⟨hn0 ▸ H1.out.lt, by have := H3.out.size; have := Sa.out; omega⟩
  rw [← hw2, ← hn0]
  clear hw2 hn0
  obtain ⟨L, hL⟩ : ∃ L, L = [nb, n0, nb + 1, n0 + 1, n0 + 1 + 1] := ⟨_, rfl⟩
  have HL := Lib.hid hL
  have hL1 : ∀ x ∈ L, w.heap.size ≤ x ∧ x < w2.heap.size := fun x hx => by
    have := S2.out; have := Sa.out; have := KL.out.2
    rw [hL] at hx
    simp at hx
    omega
  have hF1 : ∀ x ∈ F.l, w.heap.size ≤ x ∧ x ∉ L := fun x hx => ⟨by have := H4.out x hx; have := Sa.out; omega, fun hm => by
    have := KL.out.1 x hx
    have := H4.out x hx
    have := Sa.out
    rw [hL] at hm
    simp at hm
    omega⟩
  have UU : Hid (Upd [] w w2) := Lib.hid ((Ua.out.trans H3.out).trans U2.out)
  have U12 := Lib.hid (H3.out.trans U2.out)
  have hM1 : MBx (rmsC nb n0 (nb + 1) n tk) (rmsO (n0 + 1) (n0 + 1 + 1)) w2 L (none : Option An) := ⟨hL, by have := KL.out.2; rw [hL]; simp; omega, by simp only [List.mem_cons, forall_eq_or_imp, List.not_mem_nil, false_imp_iff, implies_true, and_true]; exact ⟨Xa.out.1.upd U12.out (by simp), XX.out.1, Xa.out.2.upd U12.out (by simp)⟩, by simp only [List.mem_cons, forall_eq_or_imp, List.not_mem_nil, false_imp_iff, implies_true, and_true]; exact ⟨⟨_, XX.out.2.1, by intro a ha; cases ha⟩, _, XX.out.2.2, by intro a ha; cases ha⟩⟩
  refine (alone_ok (mbx_ok _ _) (rms_do nb n0 (nb + 1) (n0 + 1) (n0 + 1 + 1) n HN.out tk) w2 (H1.out.upd U2.out (by simp)) hM1 (fun x hx hm => (hF1 x hm).2 hx) (exec_rms HN.out tk) (dep_rms _ _) (by have := HN.out; omega) (by decide) (by simp)).mono ?_
  rintro e w3 ⟨rfl, F1, p1, p2, p3, p4, p5, p6⟩
  obtain ⟨_, _, m1, m2⟩ := p2
  simp only [List.mem_cons, forall_eq_or_imp, List.not_mem_nil, false_imp_iff, implies_true, and_true] at m1 m2
  obtain ⟨⟨x0, m3, m4⟩, x1, m5, m6⟩ := m2
  obtain rfl := m4 _ rfl
  obtain rfl := m6 _ rfl
  obtain ⟨g1, g2, g3, g4⟩ := alone_next hF1 hL1 UU.out p4 (fun x hx => hx) p5
  have z1 := m1.1.facts
  have z2 := m1.2.2.facts
  have z3 := m3.facts
  have U3 := Lib.hid g1
  by_cases ht : (n : Int) = tk
  · rw [if_pos ht] at m5
    have m5' : Blk w3 (n0 + 1 + 1) 4 #[.bool false] := m5
    have z4 := m5'.facts
    subst ht
    clear p1 p3 p4 p5 p6 m1 m3 m4 m5 m5' m6 g1 g2 g3 g4 hM1 hL1 hF1 hL
    go_wp2_with fail
    refine (alive15_ok w3).mono ?_
    rintro e w4 ⟨rfl, u4⟩
    have U4 := Lib.hid (U3.out.trans u4)
    clear u4
    go_wp2_with fail
    go_ret
    exact ⟨rfl, U4.out⟩
  · rw [if_neg ht] at m5
    have m5' : Blk w3 (n0 + 1 + 1) 4 #[.bool true] := m5
    have z4 := m5'.facts
    have ht2 : (tk == (n : Int)) = false := by simpa using fun e : tk = (n : Int) => ht e.symm
    have ht3 : (tk != (n : Int)) = true := by simpa using fun e : tk = (n : Int) => ht e.symm
    clear p1 p3 p4 p5 p6 m1 m3 m4 m5 m5' m6 g1 g2 g3 g4 hM1 hL1 hF1 hL
    go_wp2_with fail
    refine (alive15_ok w3).mono ?_
    rintro e w4 ⟨rfl, u4⟩
    have U4 := Lib.hid (U3.out.trans u4)
    clear u4
    go_wp2_with fail
    go_ret
    exact ⟨rfl, U4.out⟩
end Go.Proofs.YtkldpdldjalpeaaGreatDoor

namespace Go.Proofs.YtkldpdldjalpeaaGreatDoor
open Go.RowKit Go.WideShapes Go.ChangeShapes Go.Deep

section
variable {H : Type} {enc : TypeId × Value → H} {P : Program}
theorem trodAll_stays (hl : laidOutB P = true) {W W' : World} (hb : Below W.heap.size W W') {sp : Nat → Bool} :
    ∀ {ts : List TypeId} {vs : List Value} {ds : List (DataW H)} {ps : List MemPlace}, (∀ t ∈ ts, P.readableRec t = true ∧ t < P.types.size) →
      DataW.TrodAll enc P W 0 (fun _ => true) true ts vs ds ps → (∀ p ∈ ps, p.block < W.heap.size ∧ sp p.block = true) → DataW.TrodAll enc P W' 0 sp true ts vs ds ps
  | [], [], [], _, _, h, _ => h
  | _ :: _, _ :: _, _ :: _, _, ht, ⟨p, q, h1, h2, e⟩, hs =>
    ⟨p, q, WideElems.Trod_stays hl (ht _ (List.mem_cons_self ..)).1 (ht _ (List.mem_cons_self ..)).2 h1 (fun x hx => hb.same (hs x (by rw [e]; exact List.mem_append_left _ hx)).1) (fun x hx => (hs x (by rw [e]; exact List.mem_append_left _ hx)).2),
      trodAll_stays hl hb (fun t h => ht t (List.mem_cons_of_mem _ h)) h2 (fun x hx => hs x (by rw [e]; exact List.mem_append_right _ hx)), e⟩

theorem law_post {fn : Func} {s : ChangeSpec} {tb : TypeId} {W W' : World} {args : Array Value} {ds gs : List (DataW H)} {before : List MemPlace} (hl : laidOutB P = true)
    (ht : fn.params.toList.all (fun t => P.readableRec t && decide (t < P.types.size)) = true) (hv : s.vars = []) (hrt : fn.resultTypes = #[tb]) (hb : P.underlying tb = some .bool)
    (hspec : s.fn H (ds ++ []) = { results := [.lit (.bool true)], args := ds })
    (hW : DataW.Whole enc P fn.params.toList s.vars false W args.toList ds gs before) (hbel : Below W.heap.size W W') :
    s.post enc P fn false true false false W args (.bool true) W' := by
  have hW0 := hW
  have hlt := fun x hx => hW.lt (p := x) hx
  obtain ⟨p, q, hA, hV, rfl, hfz, hnd⟩ := hW
  have hg : gs = [] ∧ q = [] := by
    rw [hv] at hV
    exact trodVars_none hV
  obtain ⟨rfl, rfl⟩ := hg
  simp only [List.append_nil] at hW0 hlt
  refine ⟨ds, [], p, [], p, [], hW0, ?_, ?_, ?_, ?_, fun h => by cases h⟩
  · rw [hspec, hrt]
    exact trodAll_cons_mk (shut_bool hb true) trodAll_mk0
  · rw [hspec]
    refine trodAll_stays hl hbel (fun t h => ?_) hA (fun x hx => ⟨hlt x hx, by simpa using hlt x hx⟩)
    have := List.all_eq_true.1 ht t h
    simpa using this
  · rw [hspec, hv]
    rfl
  · exact hbel.frame _
end

section
variable {H : Type} {enc : TypeId × Value → H} {P : Program} {w : World} {base : Nat} {spare : Nat → Bool} {held : Bool}
/-- An argument that is a slice of structs whose fields are one cell each: its address, and for each element its cells, each with its own reading. -/
theorem rows_of_slice {t e : TypeId} {fs : Array Field} {v : Value} {d : DataW H} {ps : List MemPlace} {r : Reach} {b0 : Nat} (ht : P.underlying t = some (.slice e)) (he : P.underlying e = some (.struct fs))
    (hone : oneCellFields P fs = true) (hC : P.cellsOf e = fs.size) (hok : Value.okWide P w r b0 t v) (h : DataW.Trod enc P w base spare held t v d ps) :
    ∃ (A : Option Addr) (n c : Nat), v = .slice A n c ∧ n ≤ c ∧ c ≤ maxLen ∧ (∀ i, i < n → ∃ a, A = some a ∧ ∃ vs : List Value, vs.length = fs.size ∧ (∀ (j : Nat) (u : Value), vs[j]? = some u → w.cell? (a.add (i * fs.size + j)) = some u) ∧
      ∀ (j : Nat) (f : Field), fs[j]? = some f → ∃ (u : Value) (y : DataW H × List MemPlace) (k : Nat), vs[j]? = some u ∧ DataW.trod enc P w base spare held k f.type [u] = some y) := by
  obtain ⟨a0, len, cap, rfl⟩ := okWide_slice ht hok
  obtain ⟨fuel, hf⟩ := h
  rcases open_slice ht hf with ⟨h0, _⟩ | ⟨a, len', cap', m, k, D, Pl, hcs, hb, hl, hm, hmm, hx, hi⟩
  · simp only [Value.cells, List.cons.injEq, and_true] at h0
    injection h0 with h1 h2 h3
    subst h1 h2 h3
    exact ⟨_, _, _, rfl, Nat.le_refl _, by simp [maxLen], fun i hi => by omega⟩
  · simp only [Value.cells, List.cons.injEq, and_true] at hcs
    injection hcs with h1 h2 h3
    subst h1 h2 h3
    refine ⟨_, _, _, rfl, hl, hm, fun i hin => ⟨a, rfl, ?_⟩⟩
    have hin' : i < m := by rw [hmm]; split <;> omega
    obtain ⟨cs', hc, ht'⟩ := hi i hin'
    rw [hC] at hc
    obtain ⟨ys, n', _, _, hlen, hyl, hfld⟩ := DataW.trod_struct he ht'
    obtain ⟨_, hcl, hat⟩ := World.cells?_some hc
    refine ⟨cs', by omega, fun j u hu => ?_, fun j f hj => ?_⟩
    · have hjl : j < fs.size := by have := (List.getElem?_eq_some_iff.1 hu).1; omega
      rw [← Go.Deep.add_add, hat j hjl]
      exact hu
    · obtain ⟨ho, hk⟩ := hone_of hone j f hj
      have hjl : j < fs.size := (Array.getElem?_eq_some_iff.1 hj).1
      have hcj : cs'[j]? = some (cs'[j]'(by omega)) := List.getElem?_eq_getElem (by omega)
      have h1 := hfld j f hj
      rw [ho, hk, show (cs'.drop j).take 1 = [cs'[j]'(by omega)] by rw [List.drop_eq_getElem_cons (by omega)]; rfl] at h1
      have hys : ys[j]? = some (ys[j]'(by omega)) := List.getElem?_eq_getElem (by omega)
      exact ⟨_, _, _, hcj, h1.trans hys⟩
end
end Go.Proofs.YtkldpdldjalpeaaGreatDoor

namespace Go.Proofs.YtkldpdldjalpeaaGreatDoor
open Go.ChangeShapes Go.WideShapes Go.ChangeAt Go.RowKit
theorem in_u64 {n : Int} (h : (Lit.int .u64 n).wf = true) : 0 ≤ n ∧ n ≤ 18446744073709551615 := by
  simp only [Lit.wf, Bool.and_eq_true, decide_eq_true_eq] at h
  have h1 : IntKind.u64.min = 0 := by decide
  have h2 : IntKind.u64.max = 18446744073709551615 := by decide
  rw [h1, h2] at h
  exact h
end Go.Proofs.YtkldpdldjalpeaaGreatDoor
namespace Go.Proofs.YtkldpdldjalpeaaGreatDoor.DoorKit
open Go.ChangeShapes Go.WideShapes Go.ChangeAt Go.RowKit

theorem own : ownKnob Tryz.prog.godebug = none := by kernel_rfl
theorem laidOut : laidOutB Tryz.prog = true := by kernel_rfl
theorem door_met (os : Os) (args : Array Value) : laidMetH Tryz.prog [("errors.errorType", Rows.laid_errors_errorType)] ((World.doorLaid Tryz.prog 400 os).forCall (fun _ _ => 0) ⟨#[], args, []⟩).memory :=
  laidMetH_of_parts3 (fuel := 8) (laidMet_nil _ _) (by kernel_rfl) (by kernel_rfl)
end Go.Proofs.YtkldpdldjalpeaaGreatDoor.DoorKit

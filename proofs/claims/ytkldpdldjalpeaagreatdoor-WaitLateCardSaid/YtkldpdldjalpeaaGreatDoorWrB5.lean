/-
  Package meta by contracts: NewClock, NewCell.
  Package thread's Thread by contracts: New, Done, Err, end, Step, Run.
  Package thread's Thread by contracts: Run.
  Package blocks by contracts: New.
  concordlaw02's On, concordlaw06's Scene by contract.
  A body that runs alone, to its end. No program in sight.
  Package wait as bodies that do accesses: Sleep, Awake, Wake. No program in sight.
  Package wait by contracts: NewRoom, Awake, Wake, Sleep.
-/
import Derived.Test.YtkldpdldjalpeaaGreatDoorWrB4
import Derived.Test.YtkldpdldjalpeaaGreatDoorWrB3
set_option linter.unusedVariables false
namespace Go.Proofs.YtkldpdldjalpeaaGreatDoor
open Go.RowKit Th
attribute [local go_sem] litStep_value

set_option maxRecDepth 20000 in
set_option maxHeartbeats 1000000 in
theorem newclock_ok {F : BFp} {cb : Nat} {lv : Value} {c : CS} (w : World) (h : CSt w F cb lv c) (hn : c.B.top + 1 + 1 ≤ c.B.ws.length) :
    Calls Tryz.prog 48 #[.pointer (some ⟨cb, 0, none⟩)] w fun e w' => ∃ F' lv' x v,
      e = .returned (.tuple #[.int .u64 x, v]) ∧ CSt w' F' cb lv' (access c (.alloc 1)).2 ∧ CNx w w' F F' cb lv lv' ∧ AlV x v (access c (.alloc 1)).1 ∧ F'.b0 = F.b0 := by
  have HC := Lib.hid (calloc_ok w h 1 ⟨by omega, by omega, hn⟩)
  clear h hn
  go_enter Tryz.func48, Tryz.ntmps48
  go_wp2_with fail
  refine HC.out.mono ?_
  rintro e w1 ⟨F', lv', x, v, rfl, h1, h2, h3, h4⟩
  have H1 := Lib.hid h1
  have H2 := Lib.hid h2
  have H3 := Lib.hid h3
  have H4 := Lib.hid h4
  clear h1 h2 h3 h4
  go_wp2_with fail
  go_ret2
  exact ⟨F', lv', x, v, rfl, H1.out, H2.out, H3.out, H4.out⟩
/-- What a new cell tells. -/
def NcV (w' : World) (B : Nat) (x : Int) (v : Value) : Option Int → Prop
  | some r => x = r ∧ v = .nilIface
  | none => ErK 1 w' B v 11
theorem alloc_ref {w : World} {F : BFp} {cb : Nat} {lv : Value} {c c' : CS} {n : Nat} {e : En} (ha : access c (.alloc n) = (some e, c')) (hl : c.next = c.log.length) : e.ref = c.B.top ∧ (c.B.top, n) ∈ c'.B.sz := by
  unfold access at ha
  rw [List.getElem?_eq_none (by omega)] at ha
  simp only at ha
  split at ha
  · injection ha with h1; cases h1
  · injection ha with h1 h2
    injection h1 with h1
    subst h1 h2
    exact ⟨rfl, by simp [ex]⟩
set_option maxRecDepth 20000 in
set_option maxHeartbeats 1000000 in
/-- What was given out, or is given out now, is there. -/
theorem newcell_ok {F : BFp} {cb : Nat} {lv : Value} {c : CS} (w : World) (h : CSt w F cb lv c) (val : Int) (hv : 0 ≤ val ∧ val < 18446744073709551616) (hn : c.B.top + 2 + 1 ≤ c.B.ws.length)
    (hr : ∀ e c', access c (.alloc 2) = (some e, c') → 0 ≤ e.ref ∧ (e.ref.toNat, 2) ∈ c'.B.sz) :
    Calls Tryz.prog 49 #[.pointer (some ⟨cb, 0, none⟩), .int .u64 val] w fun e w' => ∃ F' lv' x v,
      e = .returned (.tuple #[.int .u64 x, v]) ∧ CSt w' F' cb lv' (run (cellT val) c).2 ∧ CNx w w' F F' cb lv lv' ∧ NcV w' w.heap.size x v (run (cellT val) c).1 ∧ F'.b0 = F.b0 := by
  have HC := Lib.hid (calloc_ok w h 2 ⟨by omega, by omega, hn⟩)
  have HV := Lib.hid hv
  have HR0 := Lib.hid hr
  clear h hn hv hr
  go_enter Tryz.func49, Tryz.ntmps49
  go_wp2_with fail
  refine HC.out.mono ?_
  rintro e w1 ⟨F1, lv1, x, v, rfl, h1, h2, h3, h4⟩
  have H2 := Lib.hid h2
  have H4 := Lib.hid h4
  have hB : w.heap.size ≤ w1.heap.size := h2.up.size
  cases ha : access c (.alloc 2) with
  | mk o c1 =>
    rw [ha] at h1 h3
    have H1 := Lib.hid h1
    cases o with
    | none =>
      obtain ⟨rfl, rfl⟩ := h3
      have HR := Lib.hid (show run (cellT val) c = (none, c1) from run_none ha)
      clear h1 h2 h4 ha
      go_wp2_with fail
      refine (in_ok (k := 0) (B := w.heap.size) _ _ (.num 0 _ _ 11 (by omega)) hB).mono ?_; rintro e w4 ⟨v', rfl, he, hu⟩
      have HE := Lib.hid he
      have HU := Lib.hid hu
      clear he hu
      go_wp2_with fail
      go_ret2
      rw [HR.out]
      exact ⟨F1, lv1, 0, v', rfl, H1.out.upd0 HU.out, H2.out.upd HU.out, HE.out, H4.out⟩
    | some en =>
      obtain ⟨rfl, rfl⟩ := h3
      obtain ⟨hr0, hr1⟩ := HR0.out _ _ ha
      have hr := run_some (k := fun e : En => Pg.acc (.store e.ref.toNat 1 val) fun _ => .ret e.ref) ha
      have HR := Lib.hid (show run (cellT val) c = _ from hr)
      obtain ⟨q, hq⟩ : ∃ q : Nat, en.ref = q := ⟨en.ref.toNat, by omega⟩
      rw [hq] at HR hr1
      rw [Int.toNat_natCast] at HR hr1
      have HM := Lib.hid hr1
      rw [hq]
      clear h1 h2 h4 ha hr hr0 hr1
      go_wp2_with fail
      refine (cstore_ok w1 H1.out q 2 1 val HV.out HM.out (by omega)).mono ?_
      rintro e w2 ⟨lv2, v, rfl, h1, h2, h3⟩
      have N2 := Lib.hid (H2.out.trans h2)
      have hB2 : w.heap.size ≤ w2.heap.size := N2.out.up.size
      cases hb : access c1 (.store q 1 val) with
      | mk o2 c2 =>
        rw [hb] at h1 h3
        have H3 := Lib.hid h1
        cases o2 with
        | none =>
          have h3' : v = _ := h3
          subst h3'
          have HR2 := Lib.hid (HR.out.trans (run_none hb))
          clear h1 h2 h3 hb
          go_wp2_with fail
          refine (in_ok (k := 0) (B := w.heap.size) _ _ (.num 0 _ _ 11 (by omega)) hB2).mono ?_; rintro e w4 ⟨v', rfl, he, hu⟩
          have HE := Lib.hid he
          have HU := Lib.hid hu
          clear he hu
          go_wp2_with fail
          go_ret2
          rw [HR2.out]
          exact ⟨F1, lv2, 0, v', rfl, H3.out.upd0 HU.out, N2.out.upd HU.out, HE.out, H4.out⟩
        | some sn =>
          have h3' : v = _ := h3
          subst h3'
          have HR2 := Lib.hid (HR.out.trans (run_some hb))
          clear h1 h2 h3 hb
          go_wp2_with fail
          go_ret2
          rw [HR2.out]
          exact ⟨F1, lv2, q, .nilIface, rfl, H3.out, N2.out, ⟨rfl, rfl⟩, H4.out⟩
end Go.Proofs.YtkldpdldjalpeaaGreatDoor

namespace Go.Proofs.YtkldpdldjalpeaaGreatDoor
open Go.RowKit Th
attribute [local go_sem] litStep_value

/-- A thread: block tb, its body, its log's value lv. -/
structure ThSt (w : World) (b0 : Nat) (tb : Nat) (lv : Value) (fid : FuncId) (caps : Array Value) (l : List En) (d : Bool) : Prop where
  hdr : ∃ n : Int, Blk w tb 64 #[.pointer (some ⟨b0, 0, none⟩), .func (.func fid) #[] caps, lv, .int .i64 0, .int .i64 n, .bool d, .nilIface]
  log : Ow EnE 94 w 0 lv l
  lwd : ∀ e, e ∈ l → 0 ≤ e.word ∧ e.word < 18446744073709551616
theorem ThSt.upd {w w' : World} {b0 tb : Nat} {lv : Value} {fid : FuncId} {caps : Array Value} {l : List En} {d : Bool} {S : List Nat} (h : ThSt w b0 tb lv fid caps l d) (hu : Upd S w w') (h1 : tb ∉ S) (h2 : ∀ b, lv.ownBlock = some b → b ∉ S) : ThSt w' b0 tb lv fid caps l d := by
  obtain ⟨n, hn⟩ := h.hdr
  exact ⟨⟨n, hn.upd hu h1⟩, h.log.upd hu h2, h.lwd⟩
set_option maxRecDepth 20000 in
theorem tnew_ok {F : BFp} {B : BS} (w : World) (h : BSt w F B) (fid : FuncId) (caps : Array Value) :
    Calls Tryz.prog 8 #[.pointer (some ⟨F.b0, 0, none⟩), .func (.func fid) #[] caps] w fun e w' => ∃ tb, e = .returned (.pointer (some ⟨tb, 0, none⟩)) ∧ ThSt w' F.b0 tb (.slice none 0 0) fid caps [] false ∧ Upd [] w w' ∧ w.heap.size ≤ tb ∧ tb < w'.heap.size := by
  have e1 : (binOp .eql 34 (.func (.func fid) #[] caps) .nilFunc).run Tryz.prog w = .ok (.bool false) w := rfl
  go_enter Tryz.func8, Tryz.ntmps8
  go_wp2_with fail
  go_ret
  exact ⟨w.heap.size, rfl, ⟨⟨0, Blk.new _ _ _⟩, Ow.nil _ _ _ _, by simp⟩, (Upd.refl _ _).alloc _, Nat.le_refl _, by simp⟩
theorem tdone_ok {b0 tb : Nat} {lv : Value} {fid : FuncId} {caps : Array Value} {l : List En} {d : Bool} (w : World) (h : ThSt w b0 tb lv fid caps l d) :
    Calls Tryz.prog 14 #[.pointer (some ⟨tb, 0, none⟩)] w fun e w' => e = .returned (.bool d) ∧ w = w' := by
  obtain ⟨n, hn⟩ := h.hdr
  have f := hn.facts
  clear h hn
  go_enter Tryz.func14, Tryz.ntmps14
  go_wp2_with fail
  go_ret
  exact ⟨rfl, rfl⟩
theorem terr_ok {b0 tb : Nat} {lv : Value} {fid : FuncId} {caps : Array Value} {l : List En} {d : Bool} (w : World) (h : ThSt w b0 tb lv fid caps l d) :
    Calls Tryz.prog 35 #[.pointer (some ⟨tb, 0, none⟩)] w fun e w' => e = .returned .nilIface ∧ w = w' := by
  obtain ⟨n, hn⟩ := h.hdr
  have f := hn.facts
  clear h hn
  go_enter Tryz.func35, Tryz.ntmps35
  go_wp2_with fail
  go_ret
  exact ⟨rfl, rfl⟩
set_option maxRecDepth 20000 in
theorem tend_ok {b0 tb : Nat} {lv : Value} {fid : FuncId} {caps : Array Value} {l : List En} {d : Bool} (w : World) (h : ThSt w b0 tb lv fid caps l d) (hlv : lv.ownBlock ≠ some tb) :
    Calls Tryz.prog 34 #[.pointer (some ⟨tb, 0, none⟩), .nilIface] w fun e w' => e = .returned .nilIface ∧ ThSt w' b0 tb lv fid caps l true ∧ Upd [tb] w w' := by
  obtain ⟨n, hn⟩ := h.hdr
  have f := hn.facts
  have HN := Lib.hid hn
  have HS := Lib.hid h
  have HV := Lib.hid hlv
  clear h hn hlv
  go_enter Tryz.func34, Tryz.ntmps34
  go_wp2_with fail
  go_ret
  have hb := (HN.out.set_ 5 (.bool true)).set_ 6 .nilIface
  have hu : Upd [tb] w ((w.setCell ⟨tb, 5, none⟩ (.bool true)).setCell ⟨tb, 6, none⟩ .nilIface) := ((Upd.refl _ _).setCell (by simp) _).setCell (by simp) _
  exact ⟨rfl, ⟨⟨n, hb⟩, HS.out.log.upd hu (fun b hb' hm => by simp at hm; subst hm; exact HV.out hb'), HS.out.lwd⟩, hu⟩
/-- What a body answers: none, or that the step is over. -/
def BdV {α : Type} (w' : World) (B : Nat) (v : Value) : Option α → Prop
  | some _ => v = .nilIface
  | none => ErK 2 w' B v 11
section
variable {α : Type}
/-- A body's own memory, in blocks S; what it came to last. -/
structure MemOk (M : World → List Nat → Option α → Prop) : Prop where
  fr : ∀ w w' T S r, M w S r → Upd T w w' → (∀ x ∈ T, x ∉ S) → M w' S r
  lt : ∀ w S r, M w S r → ∀ x ∈ S, x < w.heap.size
/-- A closure that is a body. -/
structure BodyOk (fid : FuncId) (caps : Array Value) (p : Pg α) (Bad : α → Prop) (J : BS → Prop) (M : World → List Nat → Option α → Prop) : Prop where
  ent : ∀ args w, (callFunc fid args).run Tryz.prog w = .ok (.enter fid args) w
  run : ∀ (w : World) (F : BFp) (cb : Nat) (lv : Value) (c : CS) (S : List Nat) (r0 : Option α), CSt w F cb lv c → c.next = 0 → c.did = false → J c.B → Ready p c → M w S r0 → (∀ x ∈ S, x ∉ SS F cb lv) → (∀ a, (Th.run p c).1 = some a → ¬ Bad a) →
    Calls Tryz.prog fid (#[.pointer (some ⟨cb, 0, none⟩), .int .i64 0] ++ caps) w fun e w' => ∃ F' lv' S' v, e = .returned v ∧ CSt w' F' cb lv' (Th.run p c).2 ∧ F'.b0 = F.b0 ∧ Upd (S ++ SS F cb lv) w w' ∧ (∀ x ∈ S' ++ SS F' cb lv', x ∈ S ++ SS F cb lv ∨ w.heap.size ≤ x) ∧ (∀ x ∈ S', x ∉ SS F' cb lv') ∧ M w' S' (Th.run p c).1 ∧ BdV w' w.heap.size v (Th.run p c).1
end
/-- The blocks of a thread. -/
def TB (tb : Nat) (lv : Value) : List Nat := tb :: lv.ownBlock.toList
section
variable {α : Type} {fid : FuncId} {caps : Array Value} {p : Pg α} {Bad : α → Prop} {J : BS → Prop} {M : World → List Nat → Option α → Prop}
set_option maxRecDepth 20000 in
set_option maxHeartbeats 2000000 in
theorem tstep_ok (BO : BodyOk fid caps p Bad J M) (MO : MemOk M) {F : BFp} {B : BS} {tb : Nat} {lv : Value} {l : List En} {t : TS α} {S : List Nat} {r0 : Option α} (w : World)
    (h : ThSt w F.b0 tb lv fid caps l t.done) (hB : BSt w F B) (hJ : J B) (ht : ThOk p B l t) (hM : M w S r0) (hlen : l.length < 6000)
    (a1 : ∀ x ∈ TB tb lv, x ∉ F.l) (a2 : ∀ x ∈ S, x ∉ F.l) (a3 : ∀ x ∈ S, x ∉ TB tb lv) (hbad : ∀ a, (Th.stepT t B).1.p = .ret a → ¬ Bad a) (hr0 : t.done = true → r0 = outP t.p) :
    Calls Tryz.prog 11 #[.pointer (some ⟨tb, 0, none⟩)] w fun e w' => ∃ F' lv' S' l' r', e = .returned .nilIface ∧ ThSt w' F'.b0 tb lv' fid caps l' (Th.stepT t B).1.done ∧ F'.b0 = F.b0 ∧ BSt w' F' (Th.stepT t B).2 ∧ ThOk p (Th.stepT t B).2 l' (Th.stepT t B).1 ∧ M w' S' r' ∧
      ((Th.stepT t B).1.done = true → r' = outP (Th.stepT t B).1.p) ∧ l'.length ≤ l.length + 1 ∧ Upd (F.l ++ TB tb lv ++ S) w w' ∧ (∀ x ∈ F'.l ++ TB tb lv' ++ S', x ∈ F.l ++ TB tb lv ++ S ∨ w.heap.size ≤ x) ∧
      (∀ x ∈ TB tb lv', x ∉ F'.l) ∧ (∀ x ∈ S', x ∉ F'.l) ∧ (∀ x ∈ S', x ∉ TB tb lv') ∧ ∀ q, q ∈ B.sz → q ∈ (Th.stepT t B).2.sz := by
  by_cases hd : t.done = true
  · rw [stepT_done hd]
    obtain ⟨n, hn⟩ := h.hdr
    rw [hd] at hn
    have f := hn.facts
    have HH : Hid (_ ∧ _ ∧ _ ∧ _) := Lib.hid ⟨h, hB, ht, hM⟩
    have HA : Hid (_ ∧ _ ∧ _ ∧ _) := Lib.hid ⟨a1, a2, a3, hr0⟩
    clear h hn hB hJ ht hM hlen a1 a2 a3 hbad hr0 hd BO MO
    go_enter Tryz.func11, Tryz.ntmps11
    go_wp2_with fail
    go_ret
    exact ⟨F, lv, S, l, r0, rfl, HH.out.1, rfl, HH.out.2.1, HH.out.2.2.1, HH.out.2.2.2, HA.out.2.2.2, by omega, .refl _ _, fun x hx => .inl hx, HA.out.1, HA.out.2.1, HA.out.2.2.1, fun _ h => h⟩
  · have hd : t.done = false := by simpa using hd
    obtain ⟨n, hn⟩ := h.hdr
    obtain ⟨A, cap, rfl, _, _⟩ := h.log.form
    rw [hd] at hn
    have f := hn.facts
    have HN := Lib.hid hn
    have HH : Hid (_ ∧ _ ∧ _ ∧ _ ∧ _) := Lib.hid ⟨h, hB, ht, hM, hJ⟩
    have HA : Hid (_ ∧ _ ∧ _) := Lib.hid ⟨a1, a2, a3⟩
    have HBad := Lib.hid hbad
    have HL := Lib.hid hlen
    have HD := Lib.hid hd
    have HST := Lib.hid (ht.step hd)
    have HRD := Lib.hid ht.ready
    have HBO := Lib.hid BO
    have HMO := Lib.hid MO
    clear h hn hB hJ ht hM hlen a1 a2 a3 hbad hr0 hd BO MO
    go_enter Tryz.func11, Tryz.ntmps11
    go_wp2_with fail
    go_region
    obtain ⟨w2, hw2⟩ : ∃ w2, w2 = ((w.setCell ⟨tb, 4, none⟩ (.int .i64 (wrap64 (n + 1)))).alloc (Obj.cells #[.pointer (some ⟨F.b0, 0, none⟩), .slice A l.length cap, .int .i64 0, .bool false] 67)).drew := ⟨_, rfl⟩
    have hu2 : Upd [tb] w w2 := by rw [hw2]; exact (((Upd.refl _ _).setCell (by simp) _).alloc _).drew
    have T2 : Hid (Blk w2 tb 64 #[.pointer (some ⟨F.b0, 0, none⟩), .func (.func fid) #[] caps, .slice A l.length cap, .int .i64 0, .int .i64 (wrap64 (n + 1)), .bool false, .nilIface]) := Lib.hid (by rw [hw2]; exact ((HN.out.set_ 4 _).alloc _).drew)
    have C2 : Hid (Blk w2 w.heap.size 67 #[.pointer (some ⟨F.b0, 0, none⟩), .slice A l.length cap, .int .i64 0, .bool false]) := Lib.hid (by rw [hw2]; exact (Blk.newAt _ _ (by simp)).drew)
    rw [← hw2]
    clear hw2
    have U2 := Lib.hid hu2
    have hlt : tb < w.heap.size := HN.out.lt
    clear hu2 f hd
    go_wp2_with fail
    have CT : Hid (∀ W, Upd [] w2.drew W → W.cell? ⟨tb, 1, none⟩ = some (.func (.func fid) #[] caps) ∧ W.cell? ⟨tb, 3, none⟩ = some (.int .i64 0)) := Lib.hid (fun W hW => by
      have hx := T2.out.upd ((Upd.refl _ _).drew.trans hW) (by simp)
      exact ⟨hx.cell 1, hx.cell 3⟩)
    refine wp_invNT0 9 [] (by kernel_rfl) (by simp) (by kernel_rfl) (by kernel_rfl) trivial ?_
    simp only [List.take_succ_cons, List.take_zero, List.drop_succ_cons, List.drop_zero]
    with_reducible apply wpV_light
    · simp only [lightOp]
    · intro W hU hF
      have f0 := CT.out W hU
      clear hU hF
      go_simp
      exact rfl
    simp only [Act.put, List.setIfInBounds_toArray, List.set_cons_zero, List.set_cons_succ]
    with_reducible apply wpV_light
    · simp only [lightOp]
    · intro W hU hF
      have f0 := CT.out W hU
      clear hU hF
      go_simp
      exact rfl
    simp only [Act.put, List.setIfInBounds_toArray, List.set_cons_zero, List.set_cons_succ]
    with_reducible apply wpV_light
    · simp only [lightOp]
    · intro W hU hF
      have f0 := CT.out W hU
      clear hU hF
      go_simp
      exact rfl
    simp only [Act.put, List.setIfInBounds_toArray, List.set_cons_zero, List.set_cons_succ]
    with_reducible apply wpV_light
    · simp only [lightOp]
    · intro W hU hF
      have f0 := CT.out W hU
      clear hU hF
      go_simp
      exact rfl
    simp only [Act.put, List.setIfInBounds_toArray, List.set_cons_zero, List.set_cons_succ]
    with_reducible apply wpV_light
    · simp only [lightOp]
    · intro W hU hF
      have f0 := CT.out W hU
      clear hU hF
      go_simp
      exact rfl
    simp only [Act.put, List.setIfInBounds_toArray, List.set_cons_zero, List.set_cons_succ]
    with_reducible apply wpV_light
    · simp only [lightOp]
    · intro W hU hF
      have f0 := CT.out W hU
      clear hU hF
      go_simp
      exact rfl
    simp only [Act.put, List.setIfInBounds_toArray, List.set_cons_zero, List.set_cons_succ]
    with_reducible apply wpV_light
    · simp only [lightOp]
    · intro W hU hF
      have f0 := CT.out W hU
      clear hU hF
      go_simp
      exact rfl
    simp only [Act.put, List.setIfInBounds_toArray, List.set_cons_zero, List.set_cons_succ]
    with_reducible apply wpV_light
    · simp only [lightOp]
    · intro W hU hF
      have f0 := CT.out W hU
      clear hU hF
      go_simp
      exact rfl
    simp only [Act.put, List.setIfInBounds_toArray, List.set_cons_zero, List.set_cons_succ]
    with_reducible apply wpV_light
    · simp only [lightOp]
    · intro W hU hF
      have f0 := CT.out W hU
      clear hU hF
      go_simp
      exact rfl
    simp only [Act.put, List.setIfInBounds_toArray, List.set_cons_zero, List.set_cons_succ]
    refine wpV_end (fun W hU _ hF => ?_)
    have U3 : Hid (Upd [] w2 W) := Lib.hid ((Upd.refl _ _).drew.trans hU)
    clear hU hF
    refine wpT_op (by rfl) (fun K hK => ?_)
    have ent := HBO.out.ent
    go_wp2_with fail
    have UW : Hid (Upd [tb] w W) := Lib.hid (U2.out.trans' U3.out (by simp))
    have htb : Hid (tb ∉ F.l ∧ tb ∉ S ∧ (Value.slice A l.length cap).ownBlock ≠ some tb) := Lib.hid ⟨HA.out.1 _ (by simp [TB]), fun hm => HA.out.2.2 _ hm (by simp [TB]), own_type HH.out.1.log HN.out (by decide)⟩
    have hcs : CSt W F w.heap.size (.slice A l.length cap) ⟨l, 0, false, B⟩ := by
      obtain ⟨h1, h2, h3, h4, h5⟩ := HH.out
      refine ⟨C2.out.upd U3.out (by simp), h1.log.upd UW.out (fun b hb hm => by simp at hm; subst hm; exact htb.out.2.2 hb), h2.upd UW.out (fun x hx hm => by simp at hx; subst hx; exact htb.out.1 hm), fun hm => by have := h2.lt _ hm; omega, fun b hb hm => HA.out.1 b (by simp [TB, hb]) hm, h1.lwd, ⟨Nat.zero_le _, .inr HL.out⟩, Nat.le_of_lt HL.out⟩
    have hss : ∀ x ∈ S, x ∉ SS F w.heap.size (.slice A l.length cap) := by
      intro x hx hm
      simp only [SS, List.mem_append, List.mem_cons] at hm
      rcases hm with hm | hm | hm
      · exact HA.out.2.1 x hx hm
      · have := HMO.out.lt _ _ _ HH.out.2.2.2.1 x hx; omega
      · exact HA.out.2.2 x hx (by simp only [TB]; exact List.mem_cons_of_mem _ hm)
    refine (HBO.out.run W F w.heap.size _ ⟨l, 0, false, B⟩ S r0 hcs rfl rfl HH.out.2.2.2.2 HRD.out (HMO.out.fr _ _ _ _ _ HH.out.2.2.2.1 UW.out (by intro x hx; simp at hx; subst hx; exact htb.out.2.1)) hss (fun a ha => HBad.out a (by
      have := HST.out.1
      rw [ha] at this
      cases hp : (Th.stepT t B).1.p with
      | ret b => rw [hp] at this; simp [outP] at this; rw [this]
      | acc a k => rw [hp] at this; simp [outP] at this))).mono ?_
    rintro e W2 ⟨F', lv', S', v, rfl, g1, g2, g3, g4, g5, g6, g7⟩
    clear hcs hss
    obtain ⟨A2, cap2, rfl, _, _⟩ := g1.log.form
    have htb2 : tb ∉ S ++ SS F w.heap.size (.slice A l.length cap) := by
      intro hm
      simp only [SS, List.mem_append, List.mem_cons] at hm
      rcases hm with hm | hm | hm | hm
      · exact htb.out.2.1 hm
      · exact htb.out.1 hm
      · omega
      · exact htb.out.2.2 (by simpa using hm)
    have T4b := (T2.out.upd U3.out (by simp)).upd g3 htb2
    have T4 := Lib.hid T4b
    have C4b := g1.hdr
    have C4 := Lib.hid C4b
    have f1 := T4b.facts
    have f2 := C4b.facts
    have G : Hid (_ ∧ _ ∧ _ ∧ _ ∧ _ ∧ _ ∧ _) := Lib.hid ⟨g1, g2, g3, g4, g5, g6, g7⟩
    have HT2 := Lib.hid htb2
    have hor : (∃ a, (run p ⟨l, 0, false, B⟩).1 = some a ∧ v = .nilIface) ∨ ((run p ⟨l, 0, false, B⟩).1 = none ∧ ErK 2 W2 W.heap.size v 11) := by
      cases hr : (run p ⟨l, 0, false, B⟩).1 with
      | some a => rw [hr] at g7; exact .inl ⟨a, rfl, g7⟩
      | none => rw [hr] at g7; exact .inr ⟨rfl, g7⟩
    clear g1 g2 g3 g4 g5 g6 g7 T4b C4b htb2
    have hdr : (Th.stepT t B).1.done = (run p ⟨l, 0, false, B⟩).1.isSome := HST.out.2.2.2.1
    have hwW : w.heap.size ≤ W.heap.size := UW.out.size
    have htn : tb ∉ S' ++ SS F' w.heap.size (.slice A2 (run p ⟨l, 0, false, B⟩).2.log.length cap2) := fun hm => by
      rcases G.out.2.2.2.1 _ hm with h | h
      · exact HT2.out h
      · omega
    have hold : ∀ x, x ∈ S ++ SS F w.heap.size (.slice A l.length cap) ∨ W.heap.size ≤ x → x ∈ F.l ++ TB tb (.slice A l.length cap) ++ S ∨ w.heap.size ≤ x := by
      intro x hx
      rcases hx with hx | hx
      · simp only [SS, List.mem_append, List.mem_cons] at hx
        simp only [TB, List.mem_append, List.mem_cons]
        rcases hx with hx | hx | hx | hx
        · exact .inl (.inr hx)
        · exact .inl (.inl (.inl hx))
        · exact .inr (by omega)
        · exact .inl (.inl (.inr (.inr hx)))
      · exact .inr (by omega)
    have FIN : Hid (∀ Z, ThSt Z F.b0 tb (.slice A2 (run p ⟨l, 0, false, B⟩).2.log.length cap2) fid caps (run p ⟨l, 0, false, B⟩).2.log (Th.stepT t B).1.done → Upd [tb] W2 Z →
      ∃ F' lv' S' l' r', ThSt Z F'.b0 tb lv' fid caps l' (Th.stepT t B).1.done ∧ F'.b0 = F.b0 ∧ BSt Z F' (Th.stepT t B).2 ∧ ThOk p (Th.stepT t B).2 l' (Th.stepT t B).1 ∧ M Z S' r' ∧
      ((Th.stepT t B).1.done = true → r' = outP (Th.stepT t B).1.p) ∧ l'.length ≤ l.length + 1 ∧ Upd (F.l ++ TB tb (.slice A l.length cap) ++ S) w Z ∧ (∀ x ∈ F'.l ++ TB tb lv' ++ S', x ∈ F.l ++ TB tb (.slice A l.length cap) ++ S ∨ w.heap.size ≤ x) ∧
      (∀ x ∈ TB tb lv', x ∉ F'.l) ∧ (∀ x ∈ S', x ∉ F'.l) ∧ (∀ x ∈ S', x ∉ TB tb lv') ∧ ∀ q, q ∈ B.sz → q ∈ (Th.stepT t B).2.sz) := Lib.hid (by
      intro Z hz hu
      obtain ⟨g1, g2, g3, g4, g5, g6, g7⟩ := G.out
      have t1 : tb ∉ F'.l := fun hm => htn (by simp [SS, hm])
      have t2 : tb ∉ S' := fun hm => htn (by simp [hm])
      have t3 : (Value.slice A2 (run p ⟨l, 0, false, B⟩).2.log.length cap2).ownBlock ≠ some tb := fun e => htn (by simp [SS, e])
      refine ⟨F', _, S', _, _, by rw [g2]; exact hz, g2, ?_, HST.out.2.2.1, HMO.out.fr _ _ _ _ _ g6 hu (by intro x hx; simp at hx; subst hx; exact t2), fun _ => HST.out.1, HST.out.2.2.2.2.1, ?_, ?_, ?_, ?_, ?_, HST.out.2.2.2.2.2⟩
      · have := g1.st
        rw [HST.out.2.1] at this
        exact this.upd hu (by intro x hx; simp at hx; subst hx; exact t1)
      · refine ((UW.out.mono (fun x hx => .inl ?_)).trans' g3 (fun x hx => ?_)).trans' hu (fun x hx => ?_)
        · simp at hx; subst hx; simp [TB]
        · exact hold x (.inl hx)
        · simp at hx; subst hx; exact .inl (by simp [TB])
      · intro x hx
        simp only [TB, List.mem_append, List.mem_cons] at hx
        rcases hx with (hx | hx | hx) | hx
        · exact hold x (g4 x (by simp [SS, hx]))
        · subst hx; exact .inl (by simp [TB])
        · exact hold x (g4 x (by simp only [SS, List.mem_append, List.mem_cons]; exact .inr (.inr (.inr hx))))
        · exact hold x (g4 x (by simp [hx]))
      · intro x hx
        simp only [TB, List.mem_cons] at hx
        rcases hx with hx | hx
        · subst hx; exact t1
        · exact g1.nlv x (by simpa using hx)
      · intro x hx hm
        exact g5 x hx (by simp [SS, hm])
      · intro x hx hm
        simp only [TB, List.mem_cons] at hm
        rcases hm with hm | hm
        · subst hm; exact t2 hx
        · exact g5 x hx (by simp only [SS, List.mem_append, List.mem_cons]; exact .inr (.inr hm)))
    have htn' := Lib.hid htn
    have LG : Hid (Ow EnE 94 W2 0 (.slice A2 (run p ⟨l, 0, false, B⟩).2.log.length cap2) (run p ⟨l, 0, false, B⟩).2.log ∧ (∀ e, e ∈ (run p ⟨l, 0, false, B⟩).2.log → 0 ≤ e.word ∧ e.word < 18446744073709551616)) := Lib.hid ⟨G.out.1.log, G.out.1.lwd⟩
    have htn3 : Hid ((Value.slice A2 (run p ⟨l, 0, false, B⟩).2.log.length cap2).ownBlock ≠ some tb) := Lib.hid (fun e => htn (by simp [SS, e]))
    have HDr := Lib.hid hdr
    clear htn hold hdr
    generalize (run p ⟨l, 0, false, B⟩).2.log = lg at *
    rcases hor with ⟨a, ha, rfl⟩ | ⟨ha, hv⟩
    · have HAa := Lib.hid ha
      clear ha
      go_wp2_with fail
      refine hK.out _ _ ?_
      clear hK K
      try simp only [Act.put, List.setIfInBounds_toArray, List.set_cons_zero, List.set_cons_succ]
      refine wpT_op (by rfl) (fun K hK => ?_)
      go_wp2_with fail
      refine hK.out _ _ ?_
      clear hK K
      try simp only [Act.put, List.setIfInBounds_toArray, List.set_cons_zero, List.set_cons_succ]
      refine wpT_end ?_
      go_wp2_with fail
      obtain ⟨W3, hW3⟩ : ∃ W3, W3 = W2.setCell ⟨tb, 2, none⟩ (.slice A2 lg.length cap2) := ⟨_, rfl⟩
      have T5 : Hid (ThSt W3 F.b0 tb (.slice A2 lg.length cap2) fid caps lg false) := Lib.hid (by
        rw [hW3]
        exact ⟨⟨_, T4.out.set_ 2 _⟩, LG.out.1.upd ((Upd.refl [tb] _).setCell (by simp) _) (fun b hb hm => by simp at hm; subst hm; exact htn3.out hb), LG.out.2⟩)
      have U5 : Hid (Upd [tb] W2 W3) := Lib.hid (by rw [hW3]; exact (Upd.refl _ _).setCell (by simp) _)
      rw [← hW3]
      clear hW3 f1 f2
      refine (is_nil _ _).mono ?_; rintro e w' ⟨rfl, rfl⟩
      go_wp2_with fail
      refine (is_nil _ _).mono ?_; rintro e w' ⟨rfl, rfl⟩
      go_wp2_with fail
      refine (tend_ok _ T5.out htn3.out).mono ?_; rintro e w' ⟨rfl, h6, u6⟩
      have T6 := Lib.hid h6
      have U6 := Lib.hid u6
      clear h6 u6
      go_wp2_with fail
      go_ret
      have hd1 : (Th.stepT t B).1.done = true := by rw [HDr.out, HAa.out]; rfl
      obtain ⟨F1, lv1, S1, l1, r1, q⟩ := FIN.out _ (by rw [hd1]; exact T6.out) (U5.out.trans U6.out)
      exact ⟨F1, lv1, S1, l1, r1, rfl, q⟩
    · have HAa := Lib.hid ha
      have HV := Lib.hid hv
      rcases hv.form with ⟨_, h⟩ | h
      · omega
      · clear ha hv
        rcases h with ⟨m, rfl⟩ | ⟨g, rfl⟩
        all_goals
          go_wp2_with fail
          refine hK.out _ _ ?_
          clear hK K
          try simp only [Act.put, List.setIfInBounds_toArray, List.set_cons_zero, List.set_cons_succ]
          refine wpT_op (by rfl) (fun K hK => ?_)
          go_wp2_with fail
          refine hK.out _ _ ?_
          clear hK K
          try simp only [Act.put, List.setIfInBounds_toArray, List.set_cons_zero, List.set_cons_succ]
          refine wpT_end ?_
          go_wp2_with fail
          obtain ⟨W3, hW3⟩ : ∃ W3, W3 = W2.setCell ⟨tb, 2, none⟩ (.slice A2 lg.length cap2) := ⟨_, rfl⟩
          have T5 : Hid (ThSt W3 F.b0 tb (.slice A2 lg.length cap2) fid caps lg false) := Lib.hid (by
            rw [hW3]
            exact ⟨⟨_, T4.out.set_ 2 _⟩, LG.out.1.upd ((Upd.refl [tb] _).setCell (by simp) _) (fun b hb hm => by simp at hm; subst hm; exact htn3.out hb), LG.out.2⟩)
          have U5 : Hid (Upd [tb] W2 W3) := Lib.hid (by rw [hW3]; exact (Upd.refl _ _).setCell (by simp) _)
          have E5 := Lib.hid ((HV.out.upd U5.out (by intro x hx; simp at hx; subst hx; omega)).er (by omega))
          rw [← hW3]
          clear hW3 f1 f2
          refine (is_er E5.out _ (by omega)).mono ?_; rintro e w' ⟨rfl, rfl⟩
          go_wp2_with fail
          go_ret
          have hd1 : (Th.stepT t B).1.done = false := by rw [HDr.out, HAa.out]; rfl
          obtain ⟨F1, lv1, S1, l1, r1, q⟩ := FIN.out _ (by rw [hd1]; exact T5.out) U5.out
          exact ⟨F1, lv1, S1, l1, r1, rfl, q⟩
end
end Go.Proofs.YtkldpdldjalpeaaGreatDoor

namespace Go.Proofs.YtkldpdldjalpeaaGreatDoor
open Go.RowKit Th
attribute [local go_sem] litStep_value

section
variable {α : Type} (fid : FuncId) (caps : Array Value) (p : Pg α) (M : World → List Nat → Option α → Prop)
/-- A thread, its body's memory, the blocks. -/
structure TAll (w : World) (F : BFp) (B : BS) (tb : Nat) (lv : Value) (S : List Nat) (l : List En) (r : Option α) (t : TS α) : Prop where
  st : ThSt w F.b0 tb lv fid caps l t.done
  bs : BSt w F B
  ok : ThOk p B l t
  m : M w S r
  a1 : ∀ x ∈ TB tb lv, x ∉ F.l
  a2 : ∀ x ∈ S, x ∉ F.l
  a3 : ∀ x ∈ S, x ∉ TB tb lv
  r0 : t.done = true → r = outP t.p
end
/-- What may have turned. -/
structure TNx (w w' : World) (F F' : BFp) (tb : Nat) (lv lv' : Value) (S S' : List Nat) : Prop where
  up : Upd (F.l ++ TB tb lv ++ S) w w'
  gr : ∀ x ∈ F'.l ++ TB tb lv' ++ S', x ∈ F.l ++ TB tb lv ++ S ∨ w.heap.size ≤ x
  b0 : F'.b0 = F.b0
theorem TNx.refl (w : World) (F : BFp) (tb : Nat) (lv : Value) (S : List Nat) : TNx w w F F tb lv lv S S := ⟨.refl _ _, fun _ h => .inl h, rfl⟩
theorem TNx.trans {w w1 w2 : World} {F F1 F2 : BFp} {tb : Nat} {lv lv1 lv2 : Value} {S S1 S2 : List Nat} (h : TNx w w1 F F1 tb lv lv1 S S1) (k : TNx w1 w2 F1 F2 tb lv1 lv2 S1 S2) : TNx w w2 F F2 tb lv lv2 S S2 :=
  ⟨h.up.trans' k.up h.gr, fun x hx => (k.gr x hx).elim (h.gr x) (fun e => .inr (Nat.le_trans h.up.size e)), k.b0.trans h.b0⟩
section
variable {α : Type} {fid : FuncId} {caps : Array Value} {p : Pg α} {Bad : α → Prop} {J : BS → Prop} {M : World → List Nat → Option α → Prop}
theorem tstep' (BO : BodyOk fid caps p Bad J M) (MO : MemOk M) {F : BFp} {B : BS} {tb : Nat} {lv : Value} {l : List En} {t : TS α} {S : List Nat} {r0 : Option α} (w : World)
    (h : TAll fid caps p M w F B tb lv S l r0 t) (hJ : J B) (hlen : l.length < 6000) (hbad : ∀ a, (Th.stepT t B).1.p = .ret a → ¬ Bad a) :
    Calls Tryz.prog 11 #[.pointer (some ⟨tb, 0, none⟩)] w fun e w' => e = .returned .nilIface ∧ ∃ F' lv' S' l' r', TAll fid caps p M w' F' (Th.stepT t B).2 tb lv' S' l' r' (Th.stepT t B).1 ∧ TNx w w' F F' tb lv lv' S S' ∧ l'.length ≤ l.length + 1 ∧ ∀ q, q ∈ B.sz → q ∈ (Th.stepT t B).2.sz := by
  refine (tstep_ok BO MO w h.st h.bs hJ h.ok h.m hlen h.a1 h.a2 h.a3 hbad h.r0).mono ?_
  rintro e w' ⟨F', lv', S', l', r', rfl, b1, b2, b3, b4, b5, b6, b7, b8, b9, c1, c2, c3, c4⟩
  exact ⟨rfl, F', lv', S', l', r', ⟨b1, b3, b4, b5, c1, c2, c3, b6⟩, ⟨b8, b9, b2⟩, b7, c4⟩
/-- What holds along a run of one thread. -/
structure Going (Bad : α → Prop) (J : BS → Prop) (G : TS α → BS → Prop) : Prop where
  step : ∀ t B, G t B → t.done = false → G (Th.stepT t B).1 (Th.stepT t B).2
  bad : ∀ t B a, G t B → t.p = .ret a → ¬ Bad a
  j : ∀ t B, G t B → J B
theorem solo_succ {n : Nat} {t : TS α} {B : BS} (h : t.done = false) : soloT (n + 1) t B = soloT n (Th.stepT t B).1 (Th.stepT t B).2 := by
  rw [soloT.eq_def]
  simp only [h]
  rfl
theorem solo_isdone : ∀ {n : Nat} {t : TS α} {B : BS}, t.done = true → soloT n t B = (t, B)
  | 0, _, _, _ => rfl
  | n + 1, t, B, h => by rw [soloT.eq_def]; simp only [h, if_true]
/-- What a run leaves. -/
def RunPost (fid : FuncId) (caps : Array Value) (p : Pg α) (M : World → List Nat → Option α → Prop) (G : TS α → BS → Prop) (w : World) (F : BFp) (B : BS) (tb : Nat) (lv : Value) (S : List Nat) (l : List En) (t : TS α) (n : Nat) (w' : World) : Prop :=
  ∃ F' lv' S' l' r', TAll fid caps p M w' F' (soloT n t B).2 tb lv' S' l' r' (soloT n t B).1 ∧ TNx w w' F F' tb lv lv' S S' ∧ l'.length ≤ l.length + n ∧ (G (soloT n t B).1 (soloT n t B).2) ∧ ∀ q, q ∈ B.sz → q ∈ (soloT n t B).2.sz
set_option maxRecDepth 20000 in
set_option maxHeartbeats 2000000 in
theorem trun_ok (BO : BodyOk fid caps p Bad J M) (MO : MemOk M) {G : TS α → BS → Prop} (HG : Going Bad J G) {F : BFp} {B : BS} {tb : Nat} {lv : Value} {l : List En} {t : TS α} {S : List Nat} {r0 : Option α} (w : World) (n : Nat)
    (h : TAll fid caps p M w F B tb lv S l r0 t) (hg : G t B) (hlen : l.length + n < 6000) :
    Calls Tryz.prog 13 #[.pointer (some ⟨tb, 0, none⟩), .int .i64 n] w fun e w' => e = .returned .nilIface ∧ RunPost fid caps p M G w F B tb lv S l t n w' := by
  have H0 := Lib.hid h
  have HBO := Lib.hid BO
  have HMO := Lib.hid MO
  have HGG := Lib.hid HG
  have Hg := Lib.hid hg
  have HL := Lib.hid hlen
  have hn6 : (n : Int) < 6000 := by omega
  clear BO MO HG h hg hlen
  go_enter Tryz.func13, Tryz.ntmps13
  go_wp2_with fail
  refine (terr_ok w H0.out.st).mono ?_; rintro e w' ⟨rfl, rfl⟩
  go_wp2_with fail
  go_loopw [5, 6] (fun ev u wr => ∃ (j : Nat) (tj : TS α) (Bj : BS) (Fj : BFp) (lj : Value) (Sj : List Nat) (gj : List En) (rj : Option α), ev = .nilIface ∧ u = .int .i64 j ∧ j ≤ n ∧ Hid (TAll fid caps p M wr Fj Bj tb lj Sj gj rj tj) ∧ Hid (TNx w wr F Fj tb lv lj S Sj) ∧ Hid (soloT (n - j) tj Bj = soloT n t B ∧ G tj Bj ∧ gj.length ≤ l.length + j ∧ ∀ q, q ∈ B.sz → q ∈ Bj.sz)) (fun _ u _ => n - (intOf u).toNat)
  case atStart => exact ⟨0, t, B, F, lv, S, l, r0, rfl, rfl, by omega, H0, Lib.hid (.refl _ _ _ _ _), Lib.hid ⟨rfl, Hg.out, by omega, fun _ h => h⟩⟩
  case round =>
    obtain ⟨j, tj, Bj, Fj, lj, Sj, gj, rj, rfl, rfl, hj, KA, KN, KR⟩ := hrel
    have HJ := Lib.hid hj
    by_cases hlt : j < n
    · have hji : (j : Int) < n := by omega
      have hdc : decide ((j : Int) < n) = true := by simpa using hlt
      clear hj hlt
      go_wp2_with fail
      refine (tdone_ok wr KA.out.st).mono ?_; rintro e w' ⟨rfl, rfl⟩
      cases hd : tj.done with
      | false =>
        have HD := Lib.hid hd
        clear hd
        go_wp2_with fail
        have hst := HGG.out.step _ _ KR.out.2.1 HD.out
        refine (tstep' HBO.out HMO.out wr KA.out (HGG.out.j _ _ KR.out.2.1) (by have := KR.out.2.2.1; have := HL.out; omega) (fun a ha => HGG.out.bad _ _ a hst ha)).mono ?_
        rintro e w2 ⟨rfl, F', lv', S', l', r', g1, g2, g3, g4⟩
        have G1 := Lib.hid g1
        have G2 := Lib.hid (KN.out.trans g2)
        have GR : Hid (soloT (n - (j + 1)) (Th.stepT tj Bj).1 (Th.stepT tj Bj).2 = soloT n t B ∧ G (Th.stepT tj Bj).1 (Th.stepT tj Bj).2 ∧ l'.length ≤ l.length + (j + 1) ∧ ∀ q, q ∈ B.sz → q ∈ (Th.stepT tj Bj).2.sz) := Lib.hid ⟨by
          rw [← solo_succ HD.out, show n - (j + 1) + 1 = n - j by omega]; exact KR.out.1, hst, by have := KR.out.2.2.1; omega, fun q hq => g4 q (KR.out.2.2.2 q hq)⟩
        clear g1 g2 g3 g4 hst
        go_wp2_with fail
        go_round
        case rel => exact ⟨j + 1, _, _, F', lv', S', l', r', rfl, by simp, by omega, G1, G2, GR⟩
        case measure => simp [intOf]; omega
      | true =>
        have HD := Lib.hid hd
        have fb := (KA.out.st.hdr.choose_spec).facts
        have hb0 : Fj.b0 = Fj.b0 := rfl
        clear hd hb0
        go_wp2_with fail
        go_ret
        have hs := KR.out.1
        rw [solo_isdone HD.out] at hs
        have e1 : tj = (soloT n t B).1 := congrArg Prod.fst hs
        have e2 : Bj = (soloT n t B).2 := congrArg Prod.snd hs
        refine ⟨rfl, ?_⟩
        unfold RunPost
        rw [← e1, ← e2]
        exact ⟨Fj, lj, Sj, gj, rj, KA.out, KN.out, by have := KR.out.2.2.1; omega, KR.out.2.1, KR.out.2.2.2⟩
    · have hji : ¬ ((j : Int) < n) := by omega
      have e : j = n := by omega
      have fb := (KA.out.st.hdr.choose_spec).facts
      clear hj hlt
      go_wp2_with fail
      go_ret
      have hs := KR.out.1
      rw [show n - j = 0 by omega] at hs
      have e1 : tj = (soloT n t B).1 := congrArg Prod.fst hs
      have e2 : Bj = (soloT n t B).2 := congrArg Prod.snd hs
      refine ⟨rfl, ?_⟩
      unfold RunPost
      rw [← e1, ← e2]
      exact ⟨Fj, lj, Sj, gj, rj, KA.out, KN.out, by have := KR.out.2.2.1; omega, KR.out.2.1, KR.out.2.2.2⟩
end
end Go.Proofs.YtkldpdldjalpeaaGreatDoor

namespace Go.Proofs.YtkldpdldjalpeaaGreatDoor
open Go.RowKit Th

set_option maxRecDepth 20000 in
set_option maxHeartbeats 1000000 in
theorem bnew_ok (a r fr : Nat) (ws : List Int) (w : World) (h : Ar w a r ws) (h1 : 1 ≤ fr) (h2 : fr ≤ ws.length) (h3 : ws.length ≤ 16384) (hw : ∀ x, x ∈ ws → 0 ≤ x ∧ x < 18446744073709551616) :
    Calls Tryz.prog 62 #[.pointer (some ⟨a, 0, none⟩), .int .i64 fr] w fun e w' => ∃ F : BFp, e = .returned (.tuple #[.pointer (some ⟨F.b0, 0, none⟩), .nilIface]) ∧ F.a = a ∧ F.r = r ∧ (∀ x ∈ F.l, x = a ∨ x = r ∨ w.heap.size ≤ x) ∧ BSt w' F ⟨fr, [], ws⟩ ∧ Upd [] w w' := by
  have HA := Lib.hid h
  have HL := Lib.hid (show 1 ≤ ws.length by omega)
  have HH := Lib.hid (show 1 ≤ fr ∧ fr ≤ ws.length ∧ ws.length ≤ 16384 from ⟨h1, h2, h3⟩)
  have HW := Lib.hid hw
  have hf : (1 : Int) ≤ fr ∧ (fr : Int) ≤ ws.length ∧ (1 : Int) ≤ ws.length := by omega
  have m1 : ∀ w, (Instr.makeMap 126 none).run Tryz.prog w = .ok (.map (some w.heap.size)) (w.alloc (.map #[] 0)) := fun _ => by kernel_rfl
  have m2 : ∀ w, (Instr.makeMap 127 none).run Tryz.prog w = .ok (.map (some w.heap.size)) (w.alloc (.map #[] 0)) := fun _ => by kernel_rfl
  clear h h1 h2 h3 hw
  go_enter Tryz.func62, Tryz.ntmps62
  go_wp2_with fail
  refine (len_x a r ws _ HA.out HL.out).mono ?_; rintro e w' ⟨rfl, rfl⟩
  go_wp2_with fail
  refine (len_x a r ws _ HA.out HL.out).mono ?_; rintro e w' ⟨rfl, rfl⟩
  go_wp2_with fail
  go_ret2
  have hl := HA.out.lt
  have hn := HA.out.ne
  have hh := HH.out
  have u : Upd [] w (((w.alloc (.map #[] 0)).alloc (.map #[] 0)).alloc (Obj.cells #[.pointer (some ⟨a, 0, none⟩), .int .i64 fr, .map (some w.heap.size), .map (some (w.heap.size + 1))] 129)) := (((Upd.refl _ _).alloc _).alloc _).alloc _
  have u1 : Upd [] (w.alloc (.map #[] 0)) (((w.alloc (.map #[] 0)).alloc (.map #[] 0)).alloc (Obj.cells #[.pointer (some ⟨a, 0, none⟩), .int .i64 fr, .map (some w.heap.size), .map (some (w.heap.size + 1))] 129)) := ((Upd.refl _ _).alloc _).alloc _
  have u2 : Upd [] ((w.alloc (.map #[] 0)).alloc (.map #[] 0)) (((w.alloc (.map #[] 0)).alloc (.map #[] 0)).alloc (Obj.cells #[.pointer (some ⟨a, 0, none⟩), .int .i64 fr, .map (some w.heap.size), .map (some (w.heap.size + 1))] 129)) := (Upd.refl _ _).alloc _
  have i1 : IMap ((w.alloc (.map #[] 0)).alloc (.map #[] 0)) .i64 (w.heap.size + 1) (fun _ => none) 0 := by
    have := IMap.new (w.alloc (.map #[] 0)) .i64
    rwa [show (w.alloc (.map #[] 0)).heap.size = w.heap.size + 1 by simp] at this
  refine ⟨⟨w.heap.size + 1 + 1, a, r, w.heap.size, w.heap.size + 1, []⟩, rfl, rfl, rfl, ?_, ⟨?_, HA.out.upd u (by simp) (by simp), ?_, ?_, rfl, ?_, ?_, ?_, hh, ?_, HW.out⟩, u⟩
  · intro x hx
    simp only [BFp.l, List.mem_cons, List.not_mem_nil, or_false] at hx
    rcases hx with rfl | rfl | rfl | rfl | rfl
    · exact .inr (.inr (by omega))
    · exact .inl rfl
    · exact .inr (.inl rfl)
    · exact .inr (.inr (by omega))
    · exact .inr (.inr (by omega))
  · exact Blk.newAt _ _ (by simp)
  · exact ((IMap.new w .i64).upd u1 (by simp)).congr (fun k => rfl)
  · exact i1.upd u2 (by simp)
  · intro i r n g hi; simp at hi
  · intro i j p q hi; simp at hi
  · intro p hp; simp at hp
  · simp only [BFp.l, List.nodup_cons, List.mem_cons, List.not_mem_nil, or_false, not_or, List.nodup_nil, and_true, not_false_eq_true]
    exact ⟨⟨by omega, by omega, by omega, by omega⟩, ⟨hn, by omega, by omega⟩, ⟨by omega, by omega⟩, by omega⟩
end Go.Proofs.YtkldpdldjalpeaaGreatDoor

namespace Go.Proofs.YtkldpdldjalpeaaGreatDoor
open Go.RowKit Th
attribute [local go_sem] litStep_value

set_option maxHeartbeats 1000000 in
theorem on_ok (w : World) : Calls Tryz.prog 46 #[.int .i64 300, .int .i64 1] w fun e w' => ∃ F : BFp, e = .returned (.tuple #[.pointer (some ⟨F.a, 0, none⟩), .pointer (some ⟨F.b0, 0, none⟩)]) ∧ BSt w' F Th.B0 ∧ Upd [] w w' ∧ (∀ x ∈ F.l, w.heap.size ≤ x) ∧ F.xs = [] := by
  go_enter Tryz.func46, Tryz.ntmps46
  go_wp2_with fail
  refine (new_ok 300 w (by omega) (by omega)).mono ?_
  rintro e w1 ⟨a, b, rfl, hA, ha, hb, hu⟩
  have HA : Hid (Ar w1 a b (List.replicate 300 0)) := Lib.hid ⟨0, hA⟩
  have HB : Hid (w.heap.size ≤ a ∧ w.heap.size ≤ b) := Lib.hid ⟨ha, hb⟩
  have U1 := Lib.hid hu
  clear hA hu ha hb
  go_wp2_with fail
  refine (no_nil _).mono ?_; rintro e w' ⟨rfl, rfl⟩
  go_wp2_with fail
  refine (bnew_ok a b 1 (List.replicate 300 0) w1 HA.out (by omega) (by rw [List.length_replicate]; omega) (by rw [List.length_replicate]; omega) (fun x hx => by rw [(List.mem_replicate.1 hx).2]; omega)).mono ?_
  rintro e w2 ⟨F, rfl, e1, e2, h3, h4, h5⟩
  have H4 := Lib.hid h4
  have H3 := Lib.hid (fun x hx => (h3 x hx).elim (fun e => e ▸ HB.out.1) (fun h => h.elim (fun e => e ▸ HB.out.2) (fun h => Nat.le_trans U1.out.size h)) : ∀ x ∈ F.l, w.heap.size ≤ x)
  have U2 := Lib.hid (U1.out.trans h5)
  have EA := Lib.hid e1
  have XS : Hid (F.xs = []) := Lib.hid (by have := h4.len; simpa using this)
  clear h3 h4 h5 e1 e2
  go_wp2_with fail
  refine (no_nil _).mono ?_; rintro e w' ⟨rfl, rfl⟩
  go_wp2_with fail
  go_ret2
  exact ⟨F, by rw [EA.out]; rfl, H4.out, U2.out, H3.out, XS.out⟩
/-- What the scene's body keeps. -/
def MSc (xb cbx kb n : Nat) (w : World) (S : List Nat) (r : Option (Int × List Int)) : Prop :=
  S = [xb, cbx, kb] ∧ kb ≠ xb ∧ ∃ (q : Int) (ls : List Int), Blk w xb 26 #[.int .u64 q] ∧ Blk w cbx 27 #[.slice (some ⟨kb, 0, none⟩) n n] ∧ Blk w kb 26 (ls.map (Value.int .u64)).toArray ∧ ls.length = n ∧ ∀ k l, r = some (k, l) → q = k ∧ ls = l
theorem msc_ok (xb cbx kb n : Nat) : MemOk (MSc xb cbx kb n) := by
  refine ⟨fun w w' T S r h hu hT => ?_, fun w S r h x hx => ?_⟩
  · obtain ⟨rfl, hne, q, ls, h1, h2, h3, h4, h5⟩ := h
    exact ⟨rfl, hne, q, ls, h1.upd hu (fun hm => hT _ hm (by simp)), h2.upd hu (fun hm => hT _ hm (by simp)), h3.upd hu (fun hm => hT _ hm (by simp)), h4, h5⟩
  · obtain ⟨rfl, hne, q, ls, h1, h2, h3, h4, h5⟩ := h
    simp at hx
    rcases hx with rfl | rfl | rfl
    · exact h1.lt
    · exact h2.lt
    · exact h3.lt
theorem small_scCells : ∀ (k i : Nat) (l : List Int), SmallP (scCells k i l)
  | 0, _, _ => trivial
  | k + 1, i, l => ⟨fun n h => by injection h with h; omega, fun e => ⟨fun n h => (by cases h), fun e => small_scCells k (i + 1) _⟩⟩
/-- Where the loop of the scene's body stands. -/
structure ScJ (w : World) (F : BFp) (cb : Nat) (lv : Value) (c : CS) (xb kb n : Nat) (q : Int) (j : Nat) (wr : World) (Fj : BFp) (cj : CS) (lj : Value) (R ls : List Int) : Prop where
  st : CSt wr Fj cb lj cj
  up : Upd ([xb, kb] ++ SS F cb lv) w wr
  gr : ∀ x ∈ SS Fj cb lj, x ∈ SS F cb lv ∨ w.heap.size ≤ x
  b0 : Fj.b0 = F.b0
  bq : Blk wr xb 26 #[.int .u64 q]
  bk : Blk wr kb 26 (ls.map (Value.int .u64)).toArray
  ln : ls.length = n
  ha : ls.take j = R
  rl : R.length = j
  near : Near c.B cj
  rdy : Ready (scCells (n - j) j R) cj
  rn : run (sceneT n) c = run ((scCells (n - j) j R).bind fun l => .ret (q, l)) cj
theorem bind_assoc {α β γ : Type} {f : α → Pg β} {g : β → Pg γ} : ∀ (p : Pg α), (p.bind f).bind g = p.bind fun a => (f a).bind g
  | .ret a => rfl
  | .acc a k => by
    show Pg.acc a _ = Pg.acc a _
    congr 1
    funext e
    exact bind_assoc (k e)
def ScPost (F : BFp) (cb : Nat) (lv : Value) (c : CS) (S : List Nat) (xb cbx kb n : Nat) (w : World) (v : Value) (w' : World) : Prop :=
  ∃ F' lv' S', CSt w' F' cb lv' (run (sceneT n) c).2 ∧ F'.b0 = F.b0 ∧ Upd (S ++ SS F cb lv) w w' ∧ (∀ x ∈ S' ++ SS F' cb lv', x ∈ S ++ SS F cb lv ∨ w.heap.size ≤ x) ∧ (∀ x ∈ S', x ∉ SS F' cb lv') ∧ MSc xb cbx kb n w' S' (run (sceneT n) c).1 ∧ BdV w' w.heap.size v (run (sceneT n) c).1
theorem sc_fin {F Fj : BFp} {cb : Nat} {lv lj v : Value} {c : CS} {xb cbx kb n : Nat} {r0 : Option (Int × List Int)} {S : List Nat} {w W : World} {q : Int} {ls : List Int} (hM : MSc xb cbx kb n w S r0) (hS : ∀ x ∈ S, x ∉ SS F cb lv) (st : CSt W Fj cb lj (run (sceneT n) c).2) (up : Upd ([xb, kb] ++ SS F cb lv) w W) (gr : ∀ x ∈ SS Fj cb lj, x ∈ SS F cb lv ∨ w.heap.size ≤ x) (b0 : Fj.b0 = F.b0)
    (bq : Blk W xb 26 #[.int .u64 q]) (bk : Blk W kb 26 (ls.map (Value.int .u64)).toArray) (ln : ls.length = n) (hr : ∀ k l, (run (sceneT n) c).1 = some (k, l) → q = k ∧ ls = l) (hv : BdV W w.heap.size v (run (sceneT n) c).1) : ScPost F cb lv c S xb cbx kb n w v W := by
  have hlt := (msc_ok xb cbx kb n).lt _ _ _ hM
  obtain ⟨rfl, hne, q0, ls0, h1, h2, h3, h4, h5⟩ := hM
  have hcb : cbx ∉ [xb, kb] ++ SS F cb lv := fun hm => by
    simp only [List.cons_append, List.nil_append, List.mem_cons] at hm
    rcases hm with e | e | hm
    · exact h2.ne_ h1 (by decide) e
    · exact h2.ne_ h3 (by decide) e
    · exact hS cbx (by simp) hm
  refine ⟨Fj, lj, _, st, b0, up.mono (fun x hx => .inl ?_), fun x hx => ?_, fun x hx hm => ?_, ⟨rfl, hne, q, ls, bq, h2.upd up hcb, bk, ln, hr⟩, hv⟩
  · simp only [List.cons_append, List.nil_append, List.mem_cons] at hx ⊢
    rcases hx with e | e | hm
    · exact .inl e
    · exact .inr (.inr (.inl e))
    · exact .inr (.inr (.inr hm))
  · rcases List.mem_append.1 hx with hx | hx
    · exact .inl (List.mem_append_left _ hx)
    · exact (gr x hx).imp (List.mem_append_right _) id
  · rcases gr x hm with h | h
    · exact hS x hx h
    · have := hlt x hx; omega
set_option maxRecDepth 20000 in
set_option maxHeartbeats 2000000 in
theorem scene1_ok (n : Nat) (hn : 1 ≤ n ∧ n ≤ 3) {F : BFp} {cb : Nat} {lv : Value} {c : CS} {xb cbx kb : Nat} {r0 : Option (Int × List Int)} {S : List Nat} (w : World) (h : CSt w F cb lv c) (hJ : JT c.B) (hd : c.did = false) (hrd : Ready (sceneT n) c) (hM : MSc xb cbx kb n w S r0) (hS : ∀ x ∈ S, x ∉ SS F cb lv) :
    Calls Tryz.prog 47 #[.pointer (some ⟨cb, 0, none⟩), .int .i64 0, .pointer (some ⟨xb, 0, none⟩), .pointer (some ⟨cbx, 0, none⟩)] w fun e w' => ∃ v, e = .returned v ∧ ScPost F cb lv c S xb cbx kb n w v w' := by
  have H0 := Lib.hid h
  have HJ := Lib.hid hJ
  have HD := Lib.hid hd
  have HRD := Lib.hid hrd
  have HM := Lib.hid hM
  have HS := Lib.hid hS
  have HN := Lib.hid hn
  clear h hJ hd hrd hM hS hn
  go_enter Tryz.func47, Tryz.ntmps47
  go_wp2_with fail
  have hct : c.B.top + 1 + 1 ≤ c.B.ws.length := by have := HJ.out; unfold JT at this; omega
  refine (newclock_ok w H0.out hct).mono ?_
  rintro e w1 ⟨F1, lv1, x, v, rfl, h1, h2, h3, h4⟩
  have HN1 := Lib.hid h2
  have HB1 := Lib.hid h4
  have near1 : Near c.B (access c (.alloc 1)).2 := Near.access (c := c) (a := .alloc 1) (o := (access c (.alloc 1)).1) ⟨rfl, .inl ⟨HD.out, rfl⟩⟩ rfl (fun n h => by injection h with h; omega)
  cases ha : access c (.alloc 1) with
  | mk o c1 =>
    rw [ha] at h1 h3 near1
    have H1 := Lib.hid h1
    cases o with
    | none =>
      obtain ⟨rfl, rfl⟩ := h3
      have HR := Lib.hid (show run (sceneT n) c = (none, c1) from run_none ha)
      obtain ⟨hs0, hne, q0, ls0, m1, m2, m3, m4, m5⟩ := HM.out
      clear hs0
      have n1 : ∀ x ∈ [xb, kb], x ∉ SS F cb lv := fun x hx hm => HS.out x (by rw [HM.out.1]; simp at hx ⊢; rcases hx with rfl | rfl <;> simp) hm
      have Q1 := Lib.hid (m1.upd h2.up (n1 _ (by simp)))
      have K1 := Lib.hid (m3.upd h2.up (n1 _ (by simp)))
      have L1 := Lib.hid m4
      clear h1 h2 h4 ha near1 m1 m2 m3 m4 m5 n1 hne
      go_wp2_with fail
      go_ret
      refine ⟨_, rfl, sc_fin HM.out HS.out (by rw [HR.out]; exact H1.out) (HN1.out.up.mono (fun x hx => .inl (List.mem_append_right _ hx))) HN1.out.gr HB1.out Q1.out K1.out L1.out (by rw [HR.out]; intro k l h; cases h) (by rw [HR.out]; exact .num 2 _ _ 11 (by omega))⟩
    | some en =>
      obtain ⟨rfl, rfl⟩ := h3
      obtain ⟨hs0, hne, q0, ls0, m1, m2, m3, m4, m5⟩ := HM.out
      clear hs0
      have n1 : ∀ x ∈ [xb, kb], x ∉ SS F cb lv := fun x hx hm => HS.out x (by rw [HM.out.1]; simp at hx ⊢; rcases hx with rfl | rfl <;> simp) hm
      have hrd := HRD.out en c1 ha
      have hR : run (sceneT n) c = run ((scCells n 0 []).bind fun l => .ret (en.ref, l)) c1 := run_some (k := fun e : En => (scCells n 0 []).bind fun l => .ret (e.ref, l)) ha
      have q1b := m1.upd h2.up (n1 _ (by simp))
      have Q1 := Lib.hid q1b
      have f1 := q1b.facts
      have K1 := Lib.hid (m3.upd h2.up (n1 _ (by simp)))
      have hc1 : cbx ∉ [xb, kb] ++ SS F cb lv := fun hm => by
        simp only [List.cons_append, List.nil_append, List.mem_cons] at hm
        rcases hm with e | e | hm
        · exact m2.ne_ m1 (by decide) e
        · exact m2.ne_ m3 (by decide) e
        · exact HS.out cbx (by rw [HM.out.1]; simp) hm
      have C1 : Hid (∀ W, Upd ([xb, kb] ++ SS F cb lv) w W → Blk W cbx 27 #[.slice (some ⟨kb, 0, none⟩) n n]) := Lib.hid (fun W hW => m2.upd hW hc1)
      have HNX : Hid ((∀ x ∈ [xb, kb], x ∉ SS F cb lv) ∧ (∀ x ∈ [xb, kb], x < w.heap.size) ∧ kb ≠ xb) := Lib.hid ⟨n1, fun x hx => by simp at hx; rcases hx with rfl | rfl; exact m1.lt; exact m3.lt, hne⟩
      have J0 : Hid (ScJ w F cb lv c xb kb n en.ref 0 (w1.setCell ⟨xb, 0, none⟩ (.int .u64 en.ref)) F1 c1 lv1 [] ls0) := Lib.hid (by
        have hu : Upd [xb] w1 (w1.setCell ⟨xb, 0, none⟩ (.int .u64 en.ref)) := (Upd.refl _ _).setCell (by simp) _
        refine ⟨H1.out.far hu ?_, (HN1.out.up.mono (fun x hx => .inl (List.mem_append_right _ hx))).trans' hu (by simp), HN1.out.gr, HB1.out, q1b.set_ 0 _, K1.out.upd hu (by simp [hne]), m4, by simp, rfl, near1, (ready_bind hrd.2).1, hR⟩
        intro x hx hm
        simp at hx
        subst hx
        rcases HN1.out.gr x hm with h | h
        · exact n1 x (by simp) h
        · have := m1.lt; omega)
      have hcx := (C1.out _ J0.out.up).facts
      clear h1 h2 h4 ha near1 m1 m2 m3 m4 m5 n1 hne hrd hR hc1 q1b hct
      go_wp2_with fail
      have hn3 : (n : Int) ≤ 3 ∧ (1 : Int) ≤ n := by have := HN.out; omega
      clear f1 hcx
      go_loopw [23] (fun u wr => ∃ (j : Nat) (Fj : BFp) (cj : CS) (lj : Value) (R ls : List Int), u = .int .i64 j ∧ j ≤ n ∧ Hid (ScJ w F cb lv c xb kb n en.ref j wr Fj cj lj R ls)) (fun u _ => n - (intOf u).toNat)
      case atStart => exact ⟨0, F1, c1, lv1, [], ls0, rfl, by omega, J0⟩
      case round =>
        obtain ⟨j, Fj, cj, lj, R, ls, rfl, hj, KJ⟩ := hrel
        have fx := (C1.out _ KJ.out.up).facts
        by_cases hlt : j < n
        · have hji : (j : Int) < n := by omega
          have hj3 : (j : Int) ≤ 3 := by omega
          obtain ⟨k, hk⟩ : ∃ k, n - j = k + 1 := ⟨n - j - 1, by omega⟩
          have HK := Lib.hid hk
          have HJN := Lib.hid hlt
          have hrd := KJ.out.rdy
          have hrn := KJ.out.rn
          rw [hk] at hrd hrn
          have HRd := Lib.hid hrd
          have HRn := Lib.hid hrn
          clear hk hlt hj hrd hrn
          go_wp2_with fail
          have hct : cj.B.top + 2 + 1 ≤ cj.B.ws.length := by
            have h1 := HJ.out
            have h2 := KJ.out.near
            unfold JT at h1
            unfold Near at h2
            omega
          refine (newcell_ok wr KJ.out.st (10 + (j : Int)) (by omega) hct (fun e c' he => (HRd.out e c' he).1)).mono ?_
          rintro e w2 ⟨F2, lv2, x, v, rfl, h1, h2, h3, h4⟩
          have up2 : Upd ([xb, kb] ++ SS F cb lv) w w2 := KJ.out.up.trans' h2.up (fun x hx => (KJ.out.gr x hx).imp (fun h => by simp [h]) id)
          have gr2 : ∀ x ∈ SS F2 cb lv2, x ∈ SS F cb lv ∨ w.heap.size ≤ x := fun x hx => (h2.gr x hx).elim (KJ.out.gr x) (fun h => .inr (Nat.le_trans KJ.out.up.size h))
          have hnb : ∀ x ∈ [xb, kb], x ∉ SS Fj cb lj := fun x hx hm => by
            rcases KJ.out.gr x hm with h | h
            · exact HNX.out.1 x hx h
            · have := HNX.out.2.1 x hx; omega
          have Q2 := Lib.hid (KJ.out.bq.upd h2.up (hnb _ (by simp)))
          have K2b := KJ.out.bk.upd h2.up (hnb _ (by simp))
          have K2 := Lib.hid K2b
          have H2 := Lib.hid h1
          have G2 : Hid (_ ∧ _ ∧ _ ∧ _) := Lib.hid ⟨up2, gr2, h4.trans KJ.out.b0, hnb⟩
          have near2 : Hid (Near c.B (run (cellT (10 + j)) cj).2) := Lib.hid (Near.run (o := (run (cellT (10 + j)) cj).1) KJ.out.near (small_cell _) rfl)
          have hB2 : wr.heap.size ≤ w2.heap.size := h2.up.size
          have HB2 := Lib.hid hB2
          cases hr : (run (cellT (10 + (j : Int))) cj).1 with
          | none =>
            rw [hr] at h3
            have h3' : ErK 1 w2 wr.heap.size v 11 := h3
            have HE := Lib.hid h3'
            have HR : Hid (run (sceneT n) c = (none, (run (cellT (10 + (j : Int))) cj).2)) := Lib.hid (by
              rw [HRn.out]
              exact run_bind_none (run_bind_none (p := cellT (10 + (j : Int))) (Prod.ext hr rfl)))
            rcases h3'.form with ⟨_, h⟩ | h
            · omega
            · clear h1 h2 h3 h3' h4 up2 gr2 hnb hr hct K2b hB2
              rcases h with ⟨m, rfl⟩ | ⟨g, rfl⟩
              all_goals
                go_wp2_with fail
                go_ret
                exact ⟨_, rfl, sc_fin HM.out HS.out (by rw [HR.out]; exact H2.out) G2.out.1 G2.out.2.1 G2.out.2.2.1 Q2.out K2.out KJ.out.ln (by rw [HR.out]; intro k l h; cases h) (by rw [HR.out]; exact (HE.out.base KJ.out.up.size).up (by omega))⟩
          | some rr =>
            rw [hr] at h3
            obtain ⟨rfl, rfl⟩ := h3
            have fk := K2b.facts
            have fx2 := (C1.out _ up2).facts
            have hcj : ∃ z, (ls.map (Value.int .u64))[j]? = some z := ⟨_, List.getElem?_eq_getElem (by rw [List.length_map, KJ.out.ln]; exact HJN.out)⟩
            obtain ⟨z, hz⟩ := hcj
            have hzc : w2.cell? ⟨kb, j, none⟩ = some z := by rw [K2b.cell j]; simpa using hz
            have hzf : w2.frozen? ⟨kb, j, none⟩ = false := K2b.frozen j
            have HRR : Hid (run (sceneT n) c = run ((scCells k (j + 1) (R ++ [x])).bind fun l => .ret (en.ref, l)) (run (cellT (10 + (j : Int))) cj).2) := Lib.hid (by
              rw [HRn.out]
              show run (((cellT (10 + (j : Int))).bind fun r => scCells k (j + 1) (R ++ [r])).bind _) cj = _
              rw [bind_assoc]
              exact run_bind_some (p := cellT (10 + (j : Int))) (Prod.ext hr rfl))
            have HRdy : Hid (Ready (scCells k (j + 1) (R ++ [x])) (run (cellT (10 + (j : Int))) cj).2) := Lib.hid ((ready_bind (p := cellT (10 + (j : Int))) (f := fun r => scCells k (j + 1) (R ++ [r])) HRd.out).2 x hr)
            have hkl : kb < w2.heap.size := K2b.lt
            clear h1 h2 h4 up2 gr2 hnb hr hct K2b hB2 fk hz fx
            go_wp2_with fail
            have hu : Upd [kb] w2 (w2.setCell ⟨kb, j, none⟩ (.int .u64 x)) := (Upd.refl _ _).setCell (by simp) _
            have hj' := HJN.out
            refine ⟨⟨j + 1, F2, _, lv2, R ++ [x], ls.set j x, by simp, by omega, Lib.hid ⟨H2.out.far hu ?_, G2.out.1.trans' hu (by simp), G2.out.2.1, G2.out.2.2.1, Q2.out.upd hu (by simpa using fun e => HNX.out.2.2 e.symm), ?_, by rw [List.length_set, KJ.out.ln], ?_, by rw [List.length_append, KJ.out.rl, List.length_singleton], near2.out, ?_, ?_⟩⟩, by simp [intOf]; omega⟩
            · intro y hy hm
              simp at hy
              subst hy
              rcases G2.out.2.1 y hm with h | h
              · exact HNX.out.1 y (by simp) h
              · have := HNX.out.2.1 y (by simp); omega
            · refine K2.out.set_eq ?_
              rw [List.map_set]
              simp
            · rw [List.take_add_one, List.take_set_of_le (by omega), KJ.out.ha]
              congr 1
              rw [List.getElem?_set_self (by rw [KJ.out.ln]; exact hj')]
              rfl
            · rw [show n - (j + 1) = k by have := HK.out; omega]; exact HRdy.out
            · rw [show n - (j + 1) = k by have := HK.out; omega]; exact HRR.out
        · have hji : ¬ ((j : Int) < n) := by omega
          have hjn : j = n := by omega
          have HR : Hid (run (sceneT n) c = (some (en.ref, R), cj)) := Lib.hid (by
            rw [KJ.out.rn, show n - j = 0 by omega]
            rfl)
          have HLS : Hid (ls = R) := Lib.hid (by have := KJ.out.ha; rw [hjn, ← KJ.out.ln, List.take_length] at this; exact this)
          clear hlt hj hjn
          go_wp2_with fail
          go_ret
          exact ⟨_, rfl, sc_fin HM.out HS.out (by rw [HR.out]; exact KJ.out.st) KJ.out.up KJ.out.gr KJ.out.b0 KJ.out.bq KJ.out.bk KJ.out.ln (by rw [HR.out]; intro k l h; injection h with h; injection h with h1 h2; exact ⟨h1, HLS.out.trans h2⟩) (by rw [HR.out]; rfl)⟩
set_option maxRecDepth 20000 in
theorem scene_body (n : Nat) (hn : 1 ≤ n ∧ n ≤ 3) (xb cbx kb : Nat) : BodyOk 47 #[.pointer (some ⟨xb, 0, none⟩), .pointer (some ⟨cbx, 0, none⟩)] (sceneT n) (fun _ => False) JT (MSc xb cbx kb n) where
  ent := fun _ _ => rfl
  run := fun w F cb lv c S r0 h _ hd hJ hrd hM hS _ => by
    refine (scene1_ok n hn w h hJ hd hrd hM hS).mono ?_
    rintro e w' ⟨v, rfl, F', lv', S', q⟩
    exact ⟨F', lv', S', v, rfl, q⟩
set_option maxRecDepth 20000 in
set_option maxHeartbeats 2000000 in
theorem scene_ok (n : Nat) (hn : 1 ≤ n ∧ n ≤ 3) (w : World) :
    Calls Tryz.prog 28 #[.int .i64 n] w fun e w' => ∃ (F : BFp) (kb : Nat), e = .returned (.tuple #[.pointer (some ⟨F.b0, 0, none⟩), .int .u64 1, .slice (some ⟨kb, 0, none⟩) n n]) ∧ BSt w' F (BN n) ∧ Blk w' kb 26 ((refsN n).map (Value.int .u64)).toArray ∧ Upd [] w w' ∧ (∀ x ∈ F.l, w.heap.size ≤ x) ∧ w.heap.size ≤ kb ∧ kb ∉ F.l := by
  have HN := Lib.hid hn
  have hn3 : (n : Int) ≤ 3 ∧ (1 : Int) ≤ n := by omega
  obtain ⟨i0, hi0, hz0, hz1, hz2⟩ := info_parts u64_info
  have hmk := fun W : World => run_make (P := Tryz.prog) W 27 26 i0 _ Tryz.underlying27 hi0 hz0 .i64 .i64 (n : Int) (n : Int) (by omega) (by omega) (by rw [hz2]; omega) (by omega)
  clear hi0 hz0 hz2 hn
  go_enter Tryz.func28, Tryz.ntmps28
  go_wp2_with fail
  refine (on_ok w).mono ?_
  rintro e w1 ⟨F, rfl, h1, h2, h3, h4⟩
  have H1 := Lib.hid h1
  have H2 := Lib.hid h2
  have H3 := Lib.hid h3
  clear h1 h2 h3 h4
  go_wp2_with fail
  obtain ⟨w2, hw2⟩ : ∃ w2, w2 = ((w1.alloc (Obj.cells #[.int .u64 0] 26)).alloc (Obj.cells (madeCells #[.int .u64 0] n) 26)).alloc (Obj.cells #[.slice (some ⟨w1.heap.size + 1, 0, none⟩) n n] 27) := ⟨_, rfl⟩
  have U2 : Hid (Upd [] w1 w2) := Lib.hid (by rw [hw2]; exact (((Upd.refl _ _).alloc _).alloc _).alloc _)
  have M2 : Hid (MSc w1.heap.size (w1.heap.size + 1 + 1) (w1.heap.size + 1) n w2 [w1.heap.size, w1.heap.size + 1 + 1, w1.heap.size + 1] none) := Lib.hid (by
    rw [hw2]
    refine ⟨rfl, by omega, 0, List.replicate n 0, ((Blk.new _ _ _).alloc _).alloc _, Blk.newAt _ _ (by simp), ?_, by simp, by intro k l h; cases h⟩
    have := (Blk.newAt (W := w1.alloc (Obj.cells #[.int .u64 0] 26)) (H := w1.heap.size + 1) 26 (madeCells #[.int .u64 0] n) (by simp)).alloc (Obj.cells #[.slice (some ⟨w1.heap.size + 1, 0, none⟩) n n] 27)
    have e : madeCells #[.int .u64 0] n = ((List.replicate n (0 : Int)).map (Value.int .u64)).toArray := by
      apply Array.ext'
      rw [toList_madeCells_one]
      simp
    rw [e] at this ⊢
    exact this)
  rw [← hw2]
  clear hw2
  refine (tnew_ok w2 (H1.out.upd U2.out (by simp)) 47 _).mono ?_
  rintro e w3 ⟨tb, rfl, t1, t2, t3, t4⟩
  have hlt1 := H1.out.lt
  have T0 : Hid (TAll 47 #[.pointer (some ⟨w1.heap.size, 0, none⟩), .pointer (some ⟨w1.heap.size + 1 + 1, 0, none⟩)] (sceneT n) (MSc w1.heap.size (w1.heap.size + 1 + 1) (w1.heap.size + 1) n) w3 F Th.B0 tb (.slice none 0 0) [w1.heap.size, w1.heap.size + 1 + 1, w1.heap.size + 1] [] none ⟨sceneT n, false⟩) := Lib.hid (by
    have hs := (msc_ok _ _ _ _).lt _ _ _ M2.out
    refine ⟨t1, (H1.out.upd U2.out (by simp)).upd t2 (by simp), ThOk.start _ _, (msc_ok _ _ _ _).fr _ _ _ _ _ M2.out t2 (by simp), fun x hx hm => ?_, fun x hx hm => ?_, fun x hx hm => ?_, fun h => (by cases h)⟩
    · simp [TB, Value.ownBlock] at hx
      subst hx
      have := hlt1 _ hm
      have := U2.out.size
      omega
    · have := hlt1 x hm
      simp at hx
      omega
    · simp [TB, Value.ownBlock] at hm
      subst hm
      have := hs _ hx
      omega)
  have U3 := Lib.hid (U2.out.trans t2)
  have TB3 : Hid (w.heap.size ≤ tb) := Lib.hid (by have := H2.out.size; have := U2.out.size; omega)
  clear t1 t2 t3 t4 hlt1
  go_wp2_with fail
  have HG : Going (α := Int × List Int) (fun _ => False) JT (GSc n) := ⟨gsc_step HN.out, fun _ _ _ _ _ h => h, fun t B h => by obtain ⟨k, hk, e⟩ := h; rw [show B = (soloT k ⟨sceneT n, false⟩ Th.B0).2 from congrArg Prod.snd e]; exact gsc_j HN.out hk⟩
  refine (trun_ok (scene_body n HN.out _ _ _) (msc_ok _ _ _ _) HG w3 100 T0.out ⟨0, by omega, rfl⟩ (by simp)).mono ?_
  rintro e w4 ⟨rfl, F', lv', S', l', r', g1, g2, g3, g4, g5⟩
  rw [gsc_end HN.out] at g1
  obtain ⟨p1, p2, p3, p4, p5, p6, p7, p8⟩ := g1
  obtain rfl : r' = some (1, refsN n) := p8 rfl
  obtain ⟨hs', hne, q, ls, m1, m2, m3, m4, m5⟩ := p4
  obtain ⟨rfl, rfl⟩ := m5 1 (refsN n) rfl
  have hold : ∀ x ∈ F.l ++ TB tb (.slice none 0 0) ++ [w1.heap.size, w1.heap.size + 1 + 1, w1.heap.size + 1], w.heap.size ≤ x := by
    intro x hx
    have := H2.out.size
    simp only [List.mem_append, TB, Value.ownBlock, Option.toList, List.mem_cons, List.not_mem_nil, or_false] at hx
    rcases hx with (hx | hx) | hx | hx | hx
    · exact H3.out x hx
    · subst hx; exact TB3.out
    · omega
    · omega
    · omega
  have P1 := Lib.hid p1
  have P2 := Lib.hid p2
  have UF : Hid (Upd [] w w4) := Lib.hid ((H2.out.trans U3.out).trans' g2.up (fun x hx => .inr (hold x hx)))
  have NF : Hid ((∀ x ∈ F'.l, w.heap.size ≤ x) ∧ w1.heap.size + 1 ∉ F'.l ∧ F'.b0 = F.b0) := Lib.hid ⟨fun x hx => (g2.gr x (by simp [hx])).elim (hold x) (fun h => by have := H2.out.size; have := U3.out.size; omega), p6 _ (by rw [hs']; simp), g2.b0⟩
  have K4 := Lib.hid m3
  have f1 := m1.facts
  have f2 := m2.facts
  have HK1 : Hid (w.heap.size ≤ w1.heap.size) := Lib.hid H2.out.size
  clear g2 g3 g4 g5 p1 p2 p3 p5 p6 p7 p8 hs' hne m1 m2 m3 m4 m5 hold hmk hz1
  go_wp2_with fail
  refine (no_nil _).mono ?_; rintro e w' ⟨rfl, rfl⟩
  go_wp2_with fail
  refine (tdone_ok _ P1.out).mono ?_; rintro e w' ⟨rfl, rfl⟩
  go_wp2_with fail
  go_quiet (fail)
  go_wp2_with fail
  go_ret3
  exact ⟨F', w1.heap.size + 1, by rw [NF.out.2.2]; rfl, P2.out.upd ((Upd.refl [] _).drewN _) (by simp), K4.out.drewN _, UF.out.drewN _, NF.out.1, by have := HK1.out; omega, NF.out.2.1⟩
end Go.Proofs.YtkldpdldjalpeaaGreatDoor

namespace Go.Proofs.YtkldpdldjalpeaaGreatDoor.Th
variable {α : Type}
/-- What it comes to, within so many accesses. -/
def exec : Nat → Pg α → BS → Option (α × BS)
  | _, .ret a, B => some (a, B)
  | 0, .acc _ _, _ => none
  | n + 1, .acc x k, B => exec n (k (ex B x).1) (ex B x).2
def IE (s B : BS) : Prop := s = B
def RE (j : Nat) (s s' : BS) : Prop := j = 0 → s' = s
def QE (a : α) (B' : BS) (j : Nat) (b : α) (s : BS) : Prop := j = 0 → b = a ∧ s = B'
theorem exec_ret (n : Nat) (a : α) (B : BS) : exec n (.ret a) B = some (a, B) := by cases n <;> rfl
theorem exec_acc (n : Nat) (x : Ac) (k : En → Pg α) (B : BS) : exec (n + 1) (.acc x k) B = exec n (k (ex B x).1) (ex B x).2 := rfl
theorem exec_more : ∀ (n : Nat) {p : Pg α} {B : BS} {r : α × BS}, exec n p B = some r → exec (n + 1) p B = some r
  | n, .ret b, B, r, h => by rw [exec_ret] at h ⊢; exact h
  | 0, .acc x k, B, r, h => by cases h
  | n + 1, .acc x k, B, r, h => exec_more n h
/-- One behind the other. -/
theorem exec_bind {β : Type} {f : α → Pg β} {a : α} {r : β × BS} : ∀ (n m : Nat) {p : Pg α} {B B1 : BS}, exec n p B = some (a, B1) → exec m (f a) B1 = some r → exec (n + m) (p.bind f) B = some r
  | 0, m, .ret b, B, B1, h, h2 => by
    rw [exec_ret] at h
    injection h with h
    injection h with h h'
    subst h h'
    rw [Nat.zero_add]
    exact h2
  | n + 1, m, .ret b, B, B1, h, h2 => by
    rw [show n + 1 + m = (n + m) + 1 by omega]
    exact exec_more _ (exec_bind n m (p := .ret b) (by rw [exec_ret] at h ⊢; exact h) h2)
  | 0, m, .acc x k, B, B1, h, h2 => by cases h
  | n + 1, m, .acc x k, B, B1, h, h2 => by
    rw [show n + 1 + m = (n + m) + 1 by omega]
    exact exec_bind n m (p := k (ex B x).1) h h2
theorem exec_safe {a : α} {B' : BS} : ∀ (n : Nat) (p : Pg α) (B : BS), exec n p B = some (a, B') → Safe IE RE 0 (QE a B' 0) p B
  | n, .ret b, B, h => by
    rw [exec_ret] at h
    injection h with h
    injection h with h1 h2
    exact fun _ => ⟨h1, h2⟩
  | 0, .acc x k, B, h => by cases h
  | n + 1, .acc x k, B, h => by
    intro s hs B2 hB2
    have : s = B := hs rfl
    subst this
    have : s = B2 := hB2
    subst this
    exact ⟨(ex s x).2, fun j hj e => absurd e hj, rfl, exec_safe n _ _ h⟩
theorem re_ok (a : α) (B' : BS) : RelOk RE (QE a B') where
  refl := fun _ _ _ => rfl
  trans := fun i s s' s'' h k e => (k e).trans (h e)
  post := fun i b s s' h q e => by rw [h e]; exact q e
theorem exec_sys {a : α} {B B' : BS} {n D : Nat} {p : Pg α} (h : exec n p B = some (a, B')) (hd : Dep p D) : Sys IE RE (QE a B') D ([(⟨p, false⟩ : TS α)], B) B := by
  refine ⟨rfl, fun i t hi => ?_, fun i t hi hdn => ?_, fun i t hi => ?_⟩
  all_goals
    cases i with
    | succ i => simp at hi
    | zero =>
      simp at hi
      subst hi
      first | exact exec_safe n p B h | exact hd | cases hdn
theorem exec_whole {a : α} {B B' : BS} {n m D : Nat} {p : Pg α} (h : exec n p B = some (a, B')) (hd : Dep p D) (hm : D < m) (picks : List Nat) : wholeT m [p] B picks = ([⟨.ret a, true⟩], B') := by
  obtain ⟨as_, s', h1, h2, h3, h4⟩ := whole_safe (re_ok a B') hm (ps := [p]) (B := B) (s := B) rfl (fun i q hq => by
    cases i with
    | succ i => simp at hq
    | zero =>
      simp at hq
      subst hq
      exact ⟨exec_safe n p B h, hd⟩) picks
  have hl : as_.length = 1 := h2
  match as_, hl with
  | [b], _ =>
    obtain ⟨rfl, rfl⟩ := h4 0 b rfl rfl
    exact Prod.ext h1 h3.symm
theorem solo_whole {n : Nat} {p : Pg α} {B : BS} : wholeT n [p] B [] = ([(soloT n ⟨p, false⟩ B).1], (soloT n ⟨p, false⟩ B).2) := rfl
theorem step_sz (x : List (TS α) × BS) (k : Nat) : ∀ q, q ∈ x.2.sz → q ∈ (sysStep x.1 x.2 k).2.sz := by
  intro q hq
  unfold sysStep
  cases x.1[k]? with
  | none => exact hq
  | some t =>
    simp only
    unfold stepT
    split
    · exact hq
    · cases t.p with
      | ret a => exact hq
      | acc a k => exact ex_sz hq
/-- What holds along the steps of one that runs alone. -/
def GoodE (a : α) (B' : BS) (D : Nat) (qs : List (Nat × Nat)) (x : List (TS α) × BS) : Prop := (∃ s, Sys IE RE (QE a B') D x s) ∧ (∀ q ∈ qs, q ∈ x.2.sz) ∧ x.1.length = 1
theorem goodE_step {a : α} {B' : BS} {D : Nat} {qs : List (Nat × Nat)} (x : List (TS α) × BS) (k : Nat) (h : GoodE a B' D qs x) : GoodE a B' D qs (sysStep x.1 x.2 k) := by
  obtain ⟨⟨s, hs⟩, h1, h2⟩ := h
  obtain ⟨s', hs'⟩ := hs.step (re_ok a B') k
  exact ⟨⟨s', hs'⟩, fun q hq => step_sz x k q (h1 q hq), by rw [sysStep_len]; exact h2⟩
theorem goodE_bad {a b : α} {B' : BS} {D : Nat} {qs : List (Nat × Nat)} {x : List (TS α) × BS} {i : Nat} {t : TS α} (h : GoodE a B' D qs x) (ht : x.1[i]? = some t) (hp : t.p = .ret b) : b = a := by
  obtain ⟨⟨s, hs⟩, h1, h2⟩ := h
  have hi : i = 0 := by have := (List.getElem?_eq_some_iff.1 ht).1; omega
  subst hi
  have := hs.safe 0 t ht
  rw [hp] at this
  exact (this rfl).1
theorem goodE_start {a : α} {B B' : BS} {n D : Nat} {p : Pg α} {qs : List (Nat × Nat)} (h : exec n p B = some (a, B')) (hd : Dep p D) (hq : ∀ q ∈ qs, q ∈ B.sz) : GoodE a B' D qs ([(⟨p, false⟩ : TS α)], B) := ⟨⟨B, exec_sys h hd⟩, hq, rfl⟩
end Go.Proofs.YtkldpdldjalpeaaGreatDoor.Th

namespace Go.Proofs.YtkldpdldjalpeaaGreatDoor.Th
/-- 98: a tick that was in conflict eight times over, which never comes. -/
def wakeT (ck : Nat) : Pg An := (tickT ck 8).bind fun a => .ret (if a.err = 12 then ⟨98, 0, 0⟩ else a)
def awaitsT : List (Nat × Int) → Pg An
  | [] => .ret ⟨0, 0, 0⟩
  | x :: r => (turnT x.1 x.2 waitTo 8).bind fun a => if a.err = 0 then awaitsT r else .ret ⟨a.err, 0, 0⟩
def sleepT (ck : Nat) (l : List (Nat × Int)) : Pg An := (nowT ck).bind fun t => (awaitsT l).bind fun a => .ret (if a.err = 0 then ⟨0, 0, t.n⟩ else ⟨a.err, 0, 0⟩)
def awakeT (ck : Nat) (ticket : Int) : Pg An := (nowT ck).bind fun t => .ret ⟨0, 0, if t.n = ticket then 0 else 1⟩
/-- Whatever it comes to. -/
def RetAll {α : Type} (P : α → Prop) : Pg α → Prop
  | .ret a => P a
  | .acc _ k => ∀ e, RetAll P (k e)
theorem retAll_run {α : Type} {P : α → Prop} : ∀ {p : Pg α} {c : CS} {a : α}, RetAll P p → (run p c).1 = some a → P a
  | .ret b, c, a, h, hr => by
    rw [run_ret] at hr
    injection hr with hr
    subst hr
    exact h
  | .acc x k, c, a, h, hr => by
    cases hx : access c x with
    | mk o c1 =>
      cases o with
      | none => rw [run_none hx] at hr; cases hr
      | some e => rw [run_some hx] at hr; exact retAll_run (h e) hr
theorem RetAll.bind {α β : Type} {P : α → Prop} {Q : β → Prop} {f : α → Pg β} : ∀ {p : Pg α}, RetAll P p → (∀ a, P a → RetAll Q (f a)) → RetAll Q (p.bind f)
  | .ret a, h, hf => hf a h
  | .acc x k, h, hf => fun e => RetAll.bind (h e) hf
def E012 (a : An) : Prop := a.err = 0 ∨ a.err = 12
theorem e012_tick (ck : Nat) : ∀ n, RetAll E012 (tickT ck n)
  | 0 => .inr rfl
  | n + 1 => fun e d => by
    dsimp only
    split
    · exact .inl rfl
    · exact e012_tick ck n
theorem e012_turn (cl : Nat) (ver : Int) (tf : Mt → Mt) : ∀ n, RetAll E012 (turnT cl ver tf n)
  | 0 => .inr rfl
  | n + 1 => fun e => by
    dsimp only
    split
    · exact .inr rfl
    · split
      · exact .inl rfl
      · intro d
        dsimp only
        split
        · exact .inl rfl
        · exact e012_turn cl ver tf n
theorem e012_awaits : ∀ l, RetAll E012 (awaitsT l)
  | [] => .inl rfl
  | x :: r => (e012_turn _ _ _ _).bind fun a ha => by
    split
    · exact e012_awaits r
    · exact ha
theorem e012_sleep (ck : Nat) (l : List (Nat × Int)) : RetAll E012 (sleepT ck l) := fun e => (e012_awaits l).bind fun a ha => by
  split
  · exact .inl rfl
  · exact ha
theorem dep_wake (ck : Nat) : Dep (wakeT ck) 16 := (dep_tick ck 8).bind (m := 0) fun a => .ret _ _
theorem dep_awaits : ∀ l, Dep (awaitsT l) (16 * l.length)
  | [] => .ret _ _
  | x :: r => by
    rw [List.length_cons, show 16 * (r.length + 1) = 16 + 16 * r.length by omega]
    exact (dep_turn x.1 x.2 waitTo 8).bind fun a => by
      split
      · exact dep_awaits r
      · exact .ret _ _
theorem dep_now (ck : Nat) : Dep (nowT ck) 1 := .acc _ _ 0 fun _ => .ret _ _
theorem dep_sleep (ck : Nat) (l : List (Nat × Int)) : Dep (sleepT ck l) (1 + 16 * l.length) := (dep_now ck).bind fun t => by
  have := (dep_awaits l).bind (f := fun a => .ret (if a.err = 0 then (⟨0, 0, t.n⟩ : An) else ⟨a.err, 0, 0⟩)) (m := 0) fun a => .ret _ _
  exact this
theorem dep_awake (ck : Nat) (t : Int) : Dep (awakeT ck t) 1 := (dep_now ck).bind (m := 0) fun a => .ret _ _
end Go.Proofs.YtkldpdldjalpeaaGreatDoor.Th

namespace Go.Proofs.YtkldpdldjalpeaaGreatDoor
open Go.RowKit Th
attribute [local go_sem] litStep_value

theorem ErK.zero {k : Nat} {w : World} {B : Nat} {v : Value} (h : ErK k w B v 0) : v = .nilIface := by
  rcases h with ⟨h, _⟩ | ⟨j, _, h⟩
  · exact h
  · have := h.no_range; omega
set_option maxRecDepth 20000 in
theorem awake_ok {F : BFp} {cb : Nat} {lv : Value} {c : CS} (w : World) (h : CSt w F cb lv c) (ck : Nat) (hm : (ck, 1) ∈ c.B.sz) (tk : Int) :
    Calls Tryz.prog 17 #[.pointer (some ⟨cb, 0, none⟩), .int .u64 ck, .int .i64 tk] w fun e w' => ∃ lv' v, e = .returned (.tuple #[.bool ((resA (run (awakeT ck tk) c).1).n == 1), v]) ∧ CSt w' F cb lv' (run (awakeT ck tk) c).2 ∧ CNx w w' F F cb lv lv' ∧ ErK 2 w' w.heap.size v (resA (run (awakeT ck tk) c).1).err := by
  have HN := Lib.hid (now_ok w h ck hm)
  clear h hm
  go_enter Tryz.func17, Tryz.ntmps17
  go_wp2_with fail
  refine HN.out.mono ?_
  rintro e w1 ⟨lv1, v, rfl, h1, h2, h3⟩
  cases hr : run (nowT ck) c with
  | mk o c1 =>
    rw [hr] at h1 h3
    have H2 := Lib.hid h2
    have H1 := Lib.hid h1
    cases o with
    | none =>
      have HR : Hid (run (awakeT ck tk) c = (none, c1)) := Lib.hid (run_bind_none hr)
      have H3 := Lib.hid (h3.up (show 1 ≤ 2 by omega))
      have hc := h3.cases
      simp only [resA] at hc
      obtain ⟨⟨t, x, rfl⟩, _⟩ := hc.resolve_left (by omega)
      clear h1 h2 h3 hc hr
      simp only [resA]
      go_wp2_with fail
      go_ret2
      rw [HR.out]
      exact ⟨lv1, _, rfl, H1.out, H2.out, H3.out⟩
    | some a =>
      have HR : Hid (run (awakeT ck tk) c = (some ⟨0, 0, if a.n = tk then 0 else 1⟩, c1)) := Lib.hid (run_bind_some hr)
      have he : a.err = 0 := by
        unfold nowT at hr
        cases hx : access c (.load ck 0) with
        | mk o c2 =>
          cases o with
          | none => rw [run_none hx] at hr; injection hr with hr; cases hr
          | some en => rw [run_some hx] at hr; injection hr with hr; injection hr with hr; rw [← hr]
      simp only [resA, he] at h3
      obtain rfl := h3.zero
      clear h1 h2 h3 hr he
      simp only [resA]
      go_wp2_with fail
      go_ret2
      rw [HR.out]
      refine ⟨lv1, _, ?_, H1.out, H2.out, .nil _ _ _⟩
      simp only [resA]
      by_cases ht : a.n = tk
      · simp [ht]
      · simp [ht]
set_option maxRecDepth 20000 in
theorem newroom_ok {F : BFp} {cb : Nat} {lv : Value} {c : CS} (w : World) (h : CSt w F cb lv c) (hn : c.B.top + 1 + 1 ≤ c.B.ws.length) :
    Calls Tryz.prog 30 #[.pointer (some ⟨cb, 0, none⟩)] w fun e w' => ∃ F' lv' x v,
      e = .returned (.tuple #[.int .u64 x, v]) ∧ CSt w' F' cb lv' (access c (.alloc 1)).2 ∧ CNx w w' F F' cb lv lv' ∧ AlV x v (access c (.alloc 1)).1 ∧ F'.b0 = F.b0 := by
  have HN := Lib.hid (newclock_ok w h hn)
  clear h hn
  go_enter Tryz.func30, Tryz.ntmps30
  go_wp2_with fail
  refine HN.out.mono ?_
  rintro e w1 ⟨F1, lv1, x, v, rfl, h1, h2, h3, h4⟩
  have HH : Hid (_ ∧ _ ∧ _ ∧ _) := Lib.hid ⟨h1, h2, h3, h4⟩
  clear h1 h2 h3 h4
  go_wp2_with fail
  go_ret2
  exact ⟨F1, lv1, x, v, rfl, HH.out⟩
set_option maxRecDepth 20000 in
set_option maxHeartbeats 1000000 in
theorem wake_ok {F : BFp} {cb : Nat} {lv : Value} {c : CS} (w : World) (h : CSt w F cb lv c) (ck : Nat) (hm : (ck, 1) ∈ c.B.sz) (hf : ∀ a, (run (wakeT ck) c).1 = some a → a.err ≠ 98) :
    Calls Tryz.prog 19 #[.pointer (some ⟨cb, 0, none⟩), .int .u64 ck] w fun e w' => ∃ lv' v, e = .returned v ∧ CSt w' F cb lv' (run (wakeT ck) c).2 ∧ CNx w w' F F cb lv lv' ∧ ErK 1 w' w.heap.size v (resA (run (wakeT ck) c).1).err := by
  have HN := Lib.hid (tick_ok w h ck hm)
  have HF := Lib.hid hf
  clear h hm hf
  go_enter Tryz.func19, Tryz.ntmps19
  go_wp2_with fail
  go_loopw [5, 6] (fun u5 u6 wr => wr = w) (fun _ _ _ => 0)
  case atStart => rfl
  case round =>
    obtain rfl := hrel
    rename World => wx
    go_wp2_with fail
    refine HN.out.mono ?_
    rintro e w1 ⟨lv1, v, rfl, h1, h2, h3⟩
    cases hr : run (tickT ck 8) c with
    | mk o c1 =>
      rw [hr] at h1 h3
      have H2 := Lib.hid h2
      have H1 := Lib.hid h1
      have H3 := Lib.hid h3
      cases o with
      | none =>
        have HR : Hid (run (wakeT ck) c = (none, c1)) := Lib.hid (run_bind_none hr)
        clear h1 h2 h3 hr
        simp only [resA]
        go_wp2_with fail
        refine (is_er (H3.out.er (by omega)) 12 (by omega)).mono ?_
        rintro e w' ⟨rfl, rfl⟩
        simp only [resA]
        go_wp2_with fail
        go_ret
        rw [HR.out]
        exact ⟨lv1, _, rfl, H1.out, H2.out, H3.out⟩
      | some a =>
        have HR : Hid (run (wakeT ck) c = (some (if a.err = 12 then ⟨98, 0, 0⟩ else a), c1)) := Lib.hid (run_bind_some hr)
        have hne : a.err ≠ 12 := fun e => by
          have := HF.out _ (congrArg Prod.fst HR.out)
          rw [if_pos e] at this
          exact this rfl
        have hr2 := HR.out
        rw [if_neg hne] at hr2
        have HR2 := Lib.hid hr2
        have e12 : (a.err == 12) = false := by simpa using hne
        clear h1 h2 h3 hr hne hr2 HR
        simp only [resA]
        go_wp2_with fail
        refine (is_er (H3.out.er (by omega)) 12 (by omega)).mono ?_
        rintro e w' ⟨rfl, rfl⟩
        simp only [resA]
        go_wp2_with fail
        go_ret
        rw [HR2.out]
        exact ⟨lv1, _, rfl, H1.out, H2.out, H3.out⟩
def SnE : Enc (Nat × Int) := ⟨fun p => [.int .u64 p.1, .int .i64 p.2], 2, fun _ => rfl, by intro a u hu; simp at hu; rcases hu with rfl | rfl <;> rfl, by omega⟩
theorem run_bind_some' {α β γ : Type} {f : α → Pg β} {g : β → Pg γ} {p : Pg α} {q : Pg β} {c c' : CS} (h : run (p.bind f) c = run q c') : run ((p.bind f).bind g) c = run (q.bind g) c' := by
  cases hq : run q c' with
  | mk o c2 =>
    rw [hq] at h
    cases o with
    | none => rw [run_bind_none h, run_bind_none hq]
    | some b => rw [run_bind_some h, run_bind_some hq]
theorem drop_at {α : Type} {l : List α} {j : Nat} {x : α} (h : l[j]? = some x) : l.drop j = x :: l.drop (j + 1) := by
  obtain ⟨hj, e⟩ := List.getElem?_eq_some_iff.1 h
  rw [List.drop_eq_getElem_cons hj, e]
set_option maxRecDepth 20000 in
set_option maxHeartbeats 1000000 in
theorem sleep_ok {F : BFp} {cb : Nat} {lv : Value} {c : CS} (w : World) (h : CSt w F cb lv c) (ck : Nat) (hm : (ck, 1) ∈ c.B.sz) (l : List (Nat × Int)) (rv : Value) (hl : Ow SnE 56 w 0 rv l) (hrv : ∀ b, rv.ownBlock = some b → b ∉ SS F cb lv) (hl2 : l.length ≤ 1000) (hcl : ∀ x ∈ l, (x.1, 2) ∈ c.B.sz) :
    Calls Tryz.prog 20 #[.pointer (some ⟨cb, 0, none⟩), .int .u64 ck, rv] w fun e w' => ∃ lv' v, e = .returned (.tuple #[.int .i64 (resA (run (sleepT ck l) c).1).n, v]) ∧ CSt w' F cb lv' (run (sleepT ck l) c).2 ∧ CNx w w' F F cb lv lv' ∧ ErK 2 w' w.heap.size v (resA (run (sleepT ck l) c).1).err := by
  have HN := Lib.hid (now_ok w h ck hm)
  have HO := Lib.hid hl
  have HB := Lib.hid hrv
  have HL2 := Lib.hid hl2
  have HC := Lib.hid hcl
  have HLT : Hid (∀ b, rv.ownBlock = some b → b < w.heap.size) := Lib.hid (fun b hb => (own_lt hl hb).2)
  obtain ⟨A, cp, hrv, _, _⟩ := hl.form
  have HRV := Lib.hid hrv
  obtain ⟨n, hn⟩ : ∃ n, n = l.length := ⟨_, rfl⟩
  rw [← hn] at hl2 hrv
  have HNL := Lib.hid hn
  have hn3 : (n : Int) ≤ 1000 := by omega
  subst hrv
  clear h hm hl hcl hn hl2
  go_enter Tryz.func20, Tryz.ntmps20
  go_wp2_with fail
  refine HN.out.mono ?_
  rintro e w1 ⟨lv1, v, rfl, h1, h2, h3⟩
  cases hr : run (nowT ck) c with
  | mk o c1 =>
    rw [hr] at h1 h3
    have H2 := Lib.hid h2
    have H1 := Lib.hid h1
    cases o with
    | none =>
      have HR : Hid (run (sleepT ck l) c = (none, c1)) := Lib.hid (run_bind_none hr)
      have H3 := Lib.hid (h3.up (show 1 ≤ 2 by omega))
      have hc := h3.cases
      simp only [resA] at hc
      obtain ⟨⟨t, x, rfl⟩, _⟩ := hc.resolve_left (by omega)
      clear h1 h2 h3 hc hr
      simp only [resA]
      go_wp2_with fail
      go_ret2
      rw [HR.out]
      exact ⟨lv1, _, rfl, H1.out, H2.out, H3.out⟩
    | some a =>
      have HR : Hid (run (sleepT ck l) c = run ((awaitsT l).bind fun b => .ret (if b.err = 0 then ⟨0, 0, a.n⟩ else ⟨b.err, 0, 0⟩)) c1) := Lib.hid (run_bind_some hr)
      have he : a.err = 0 := by
        unfold nowT at hr
        cases hx : access c (.load ck 0) with
        | mk o c2 =>
          cases o with
          | none => rw [run_none hx] at hr; injection hr with hr; cases hr
          | some en => rw [run_some hx] at hr; injection hr with hr; injection hr with hr; rw [← hr]
      have HC1 : Hid (∀ x ∈ l, (x.1, 2) ∈ c1.B.sz) := Lib.hid (fun x hx => run_mem hr (HC.out x hx))
      simp only [resA, he] at h3
      obtain rfl := h3.zero
      clear h1 h2 h3 hr he
      simp only [resA]
      obtain ⟨an, han⟩ : ∃ an, an = a.n := ⟨_, rfl⟩
      rw [← han] at HR ⊢
      clear han
      go_wp2_with fail
      go_loopw [11, 12, 24] (fun u11 u12 u24 wr => ∃ (j : Nat) (cj : CS) (lj : Value), u24 = .int .i64 j ∧ j ≤ n ∧ Hid (CSt wr F cb lj cj) ∧ Hid (CNx w wr F F cb lv lj) ∧ Hid (run ((awaitsT (l.drop j)).bind fun b => .ret (if b.err = 0 then (⟨0, 0, an⟩ : An) else ⟨b.err, 0, 0⟩)) cj = run (sleepT ck l) c ∧ ∀ x ∈ l, (x.1, 2) ∈ cj.B.sz)) (fun _ _ u _ => n - (intOf u).toNat)
      case atStart => exact ⟨0, c1, lv1, rfl, by omega, H1, H2, Lib.hid ⟨by rw [HR.out]; rfl, HC1.out⟩⟩
      case round =>
        obtain ⟨j, cj, lj, rfl, hj, KS, KN, KR⟩ := hrel
        rename World => wr
        by_cases hlt : j < n
        · have hjn : (j : Int) < n := by omega
          obtain ⟨⟨xc, xv⟩, hx⟩ : ∃ x, l[j]? = some x := ⟨_, List.getElem?_eq_getElem (by rw [← HNL.out]; exact hlt)⟩
          obtain ⟨g, cp', _, hv, _⟩ := own_form HO.out (by rw [← HNL.out]; omega)
          injection hv with hv1 hv2 hv3
          subst hv1
          have hSL : ∀ b, (Value.slice (some ⟨g, 0, none⟩) n cp).ownBlock = some b → b ∉ SS F cb lv := HB.out
          have hov : Ow SnE 56 wr 0 (.slice (some ⟨g, 0, none⟩) n cp) l := by
            have := HO.out
            exact this.upd KN.out.up (fun b hb hm => HB.out b hb hm)
          have c1' : wr.cell? ⟨g, j * 2, none⟩ = some (.int .u64 xc) := hov.at_ hx 0 _ rfl
          have c2' : wr.cell? ⟨g, j * 2 + 1, none⟩ = some (.int .i64 xv) := hov.at_ hx 1 _ rfl
          have gal : g < wr.heap.size := (own_lt hov (b := g) rfl).2
          have HX := Lib.hid hx
          have HJ := Lib.hid hlt
          clear hj hlt hx hov hSL hv2 hv3
          have hup : Upd [] wr (wr.alloc (Obj.cells #[.int .u64 xc, .int .i64 xv] 56)) := (Upd.refl _ _).alloc _
          have UP := Lib.hid hup
          have HA := Lib.hid (mawait_ok (wr.alloc (Obj.cells #[.int .u64 xc, .int .i64 xv] 56)) (KS.out.upd0 hup) xc (KR.out.2 _ (List.mem_of_getElem? HX.out)) xv)
          have hdr : run (((turnT xc xv waitTo 8).bind fun a => if a.err = 0 then awaitsT (l.drop (j + 1)) else .ret ⟨a.err, 0, 0⟩).bind fun b => .ret (if b.err = 0 then (⟨0, 0, an⟩ : An) else ⟨b.err, 0, 0⟩)) cj = run (sleepT ck l) c := by
            rw [← KR.out.1, drop_at HX.out]
            rfl
          clear hup
          go_wp2_with fail
          refine HA.out.mono ?_
          rintro e w2 ⟨lv2, v, rfl, h1, h2, h3⟩
          cases hr : run (turnT xc xv waitTo 8) cj with
          | mk o c2 =>
            rw [hr] at h1 h3
            have N2 := Lib.hid ((KN.out.upd UP.out).trans h2)
            have S2 := Lib.hid h1
            have H3 := Lib.hid (h3.base (KN.out.upd UP.out).up.size)
            cases o with
            | none =>
              have HR2 : Hid (run (sleepT ck l) c = (none, c2)) := Lib.hid (by rw [← hdr]; exact run_bind_none (run_bind_none hr))
              have hc := h3.cases
              simp only [resA] at hc
              obtain ⟨⟨t, x, rfl⟩, _⟩ := hc.resolve_left (by omega)
              clear h1 h2 h3 hc hr hdr
              go_wp2_with fail
              go_ret2
              rw [HR2.out]
              exact ⟨lv2, _, rfl, S2.out, N2.out, H3.out⟩
            | some a =>
              by_cases he : a.err = 0
              · simp only [resA, he] at h3
                obtain rfl := h3.zero
                have HR2 : Hid (run ((awaitsT (l.drop (j + 1))).bind fun b => .ret (if b.err = 0 then (⟨0, 0, an⟩ : An) else ⟨b.err, 0, 0⟩)) c2 = run (sleepT ck l) c ∧ ∀ x ∈ l, (x.1, 2) ∈ c2.B.sz) := Lib.hid ⟨by
                  rw [← hdr, run_bind_some' (run_bind_some hr), if_pos he], fun x hx => run_mem hr (KR.out.2 x hx)⟩
                clear h1 h2 h3 hr hdr he
                go_wp2_with fail
                go_round
                case rel =>
                  exact ⟨j + 1, c2, lv2, by simp, by have := HJ.out; omega, S2, N2, HR2⟩
                case measure => have := HJ.out; simp [intOf]; omega
              · have HR2 : Hid (run (sleepT ck l) c = (some ⟨a.err, 0, 0⟩, c2)) := Lib.hid (by
                  rw [← hdr, run_bind_some' (run_bind_some hr), if_neg he]
                  show run (.ret _) c2 = _
                  rw [run_ret, if_neg he])
                have hc := h3.cases
                simp only [resA] at hc
                obtain ⟨⟨t, x, rfl⟩, _⟩ := hc.resolve_left (fun h => he h.2)
                clear h1 h2 h3 hc hr hdr he
                go_wp2_with fail
                go_ret2
                rw [HR2.out]
                exact ⟨lv2, _, rfl, S2.out, N2.out, H3.out⟩
        · have hjn : ¬ ((j : Int) < n) := by omega
          have HR2 : Hid (run (sleepT ck l) c = (some ⟨0, 0, an⟩, cj)) := Lib.hid (by
            rw [← KR.out.1, List.drop_of_length_le (by rw [← HNL.out]; omega)]
            rfl)
          clear hj hlt
          go_wp2_with fail
          go_ret2
          rw [HR2.out]
          exact ⟨lj, _, rfl, KS.out, KN.out, .nil _ _ _⟩
end Go.Proofs.YtkldpdldjalpeaaGreatDoor

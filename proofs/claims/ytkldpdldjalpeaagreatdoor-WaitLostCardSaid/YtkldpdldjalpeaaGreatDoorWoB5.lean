/-
  Package meta by contracts: NewClock, NewCell.
  A body that runs alone, to its end. No program in sight.
  Package wait as bodies that do accesses: Sleep, Awake, Wake. No program in sight.
  Package wait by contracts: NewRoom, Awake, Wake, Sleep.
  Package thread's Thread by contracts: New, Done, Err, end, Step, Run.
  Package thread's Thread by contracts: Run.
  concordlaw15's alone by contract: what one body does, alone.
  WaitLost: sleepers and committers beside one another: who slept for a cell that was committed is woken. No program in sight.
-/
import Derived.Test.YtkldpdldjalpeaaGreatDoorWoB4
set_option linter.unusedVariables false
namespace Go.Proofs.YtkldpdldjalpeaaGreatDoor
open Go.RowKit Th
attribute [local go_sem] litStep_value

set_option maxRecDepth 20000 in
set_option maxHeartbeats 1000000 in
theorem newclock_ok {F : BFp} {cb : Nat} {lv : Value} {c : CS} (w : World) (h : CSt w F cb lv c) (hn : c.B.top + 1 + 1 ≤ c.B.ws.length) :
    Calls Tryz.prog 48 #[.pointer (some ⟨cb, 0, none⟩)] w fun e w' => ∃ F' lv' x v,
      e = .returned (.tuple #[.int .u64 x, v]) ∧ CSt w' F' cb lv' (access c (.alloc 1)).2 ∧ CNx w w' F F' cb lv lv' ∧ AlV x v (access c (.alloc 1)).1 ∧ F'.b0 = F.b0 := by
  have HC := Lib.hid (calloc_ok w h 1 ⟨by omega, by omega, hn⟩)
  clear h hn
  go_enter Tryz.func48, Tryz.ntmps48
  go_wp2_with fail
  refine HC.out.mono ?_
  rintro e w1 ⟨F', lv', x, v, rfl, h1, h2, h3, h4⟩
  have H1 := Lib.hid h1
  have H2 := Lib.hid h2
  have H3 := Lib.hid h3
  have H4 := Lib.hid h4
  clear h1 h2 h3 h4
  go_wp2_with fail
  go_ret2
  exact ⟨F', lv', x, v, rfl, H1.out, H2.out, H3.out, H4.out⟩
/-- What a new cell tells. -/
def NcV (w' : World) (B : Nat) (x : Int) (v : Value) : Option Int → Prop
  | some r => x = r ∧ v = .nilIface
  | none => ErK 1 w' B v 11
theorem alloc_ref {w : World} {F : BFp} {cb : Nat} {lv : Value} {c c' : CS} {n : Nat} {e : En} (ha : access c (.alloc n) = (some e, c')) (hl : c.next = c.log.length) : e.ref = c.B.top ∧ (c.B.top, n) ∈ c'.B.sz := by
  unfold access at ha
  rw [List.getElem?_eq_none (by omega)] at ha
  simp only at ha
  split at ha
  · injection ha with h1; cases h1
  · injection ha with h1 h2
    injection h1 with h1
    subst h1 h2
    exact ⟨rfl, by simp [ex]⟩
set_option maxRecDepth 20000 in
set_option maxHeartbeats 1000000 in
/-- What was given out, or is given out now, is there. -/
theorem newcell_ok {F : BFp} {cb : Nat} {lv : Value} {c : CS} (w : World) (h : CSt w F cb lv c) (val : Int) (hv : 0 ≤ val ∧ val < 18446744073709551616) (hn : c.B.top + 2 + 1 ≤ c.B.ws.length)
    (hr : ∀ e c', access c (.alloc 2) = (some e, c') → 0 ≤ e.ref ∧ (e.ref.toNat, 2) ∈ c'.B.sz) :
    Calls Tryz.prog 49 #[.pointer (some ⟨cb, 0, none⟩), .int .u64 val] w fun e w' => ∃ F' lv' x v,
      e = .returned (.tuple #[.int .u64 x, v]) ∧ CSt w' F' cb lv' (run (cellT val) c).2 ∧ CNx w w' F F' cb lv lv' ∧ NcV w' w.heap.size x v (run (cellT val) c).1 ∧ F'.b0 = F.b0 := by
  have HC := Lib.hid (calloc_ok w h 2 ⟨by omega, by omega, hn⟩)
  have HV := Lib.hid hv
  have HR0 := Lib.hid hr
  clear h hn hv hr
  go_enter Tryz.func49, Tryz.ntmps49
  go_wp2_with fail
  refine HC.out.mono ?_
  rintro e w1 ⟨F1, lv1, x, v, rfl, h1, h2, h3, h4⟩
  have H2 := Lib.hid h2
  have H4 := Lib.hid h4
  have hB : w.heap.size ≤ w1.heap.size := h2.up.size
  cases ha : access c (.alloc 2) with
  | mk o c1 =>
    rw [ha] at h1 h3
    have H1 := Lib.hid h1
    cases o with
    | none =>
      obtain ⟨rfl, rfl⟩ := h3
      have HR := Lib.hid (show run (cellT val) c = (none, c1) from run_none ha)
      clear h1 h2 h4 ha
      go_wp2_with fail
      refine (in_ok (k := 0) (B := w.heap.size) _ _ (.num 0 _ _ 11 (by omega)) hB).mono ?_; rintro e w4 ⟨v', rfl, he, hu⟩
      have HE := Lib.hid he
      have HU := Lib.hid hu
      clear he hu
      go_wp2_with fail
      go_ret2
      rw [HR.out]
      exact ⟨F1, lv1, 0, v', rfl, H1.out.upd0 HU.out, H2.out.upd HU.out, HE.out, H4.out⟩
    | some en =>
      obtain ⟨rfl, rfl⟩ := h3
      obtain ⟨hr0, hr1⟩ := HR0.out _ _ ha
      have hr := run_some (k := fun e : En => Pg.acc (.store e.ref.toNat 1 val) fun _ => .ret e.ref) ha
      have HR := Lib.hid (show run (cellT val) c = _ from hr)
      obtain ⟨q, hq⟩ : ∃ q : Nat, en.ref = q := ⟨en.ref.toNat, by omega⟩
      rw [hq] at HR hr1
      rw [Int.toNat_natCast] at HR hr1
      have HM := Lib.hid hr1
      rw [hq]
      clear h1 h2 h4 ha hr hr0 hr1
      go_wp2_with fail
      refine (cstore_ok w1 H1.out q 2 1 val HV.out HM.out (by omega)).mono ?_
      rintro e w2 ⟨lv2, v, rfl, h1, h2, h3⟩
      have N2 := Lib.hid (H2.out.trans h2)
      have hB2 : w.heap.size ≤ w2.heap.size := N2.out.up.size
      cases hb : access c1 (.store q 1 val) with
      | mk o2 c2 =>
        rw [hb] at h1 h3
        have H3 := Lib.hid h1
        cases o2 with
        | none =>
          have h3' : v = _ := h3
          subst h3'
          have HR2 := Lib.hid (HR.out.trans (run_none hb))
          clear h1 h2 h3 hb
          go_wp2_with fail
          refine (in_ok (k := 0) (B := w.heap.size) _ _ (.num 0 _ _ 11 (by omega)) hB2).mono ?_; rintro e w4 ⟨v', rfl, he, hu⟩
          have HE := Lib.hid he
          have HU := Lib.hid hu
          clear he hu
          go_wp2_with fail
          go_ret2
          rw [HR2.out]
          exact ⟨F1, lv2, 0, v', rfl, H3.out.upd0 HU.out, N2.out.upd HU.out, HE.out, H4.out⟩
        | some sn =>
          have h3' : v = _ := h3
          subst h3'
          have HR2 := Lib.hid (HR.out.trans (run_some hb))
          clear h1 h2 h3 hb
          go_wp2_with fail
          go_ret2
          rw [HR2.out]
          exact ⟨F1, lv2, q, .nilIface, rfl, H3.out, N2.out, ⟨rfl, rfl⟩, H4.out⟩
end Go.Proofs.YtkldpdldjalpeaaGreatDoor

namespace Go.Proofs.YtkldpdldjalpeaaGreatDoor.Th
variable {α : Type}
/-- What it comes to, within so many accesses. -/
def exec : Nat → Pg α → BS → Option (α × BS)
  | _, .ret a, B => some (a, B)
  | 0, .acc _ _, _ => none
  | n + 1, .acc x k, B => exec n (k (ex B x).1) (ex B x).2
def IE (s B : BS) : Prop := s = B
def RE (j : Nat) (s s' : BS) : Prop := j = 0 → s' = s
def QE (a : α) (B' : BS) (j : Nat) (b : α) (s : BS) : Prop := j = 0 → b = a ∧ s = B'
theorem exec_ret (n : Nat) (a : α) (B : BS) : exec n (.ret a) B = some (a, B) := by cases n <;> rfl
theorem exec_acc (n : Nat) (x : Ac) (k : En → Pg α) (B : BS) : exec (n + 1) (.acc x k) B = exec n (k (ex B x).1) (ex B x).2 := rfl
theorem exec_more : ∀ (n : Nat) {p : Pg α} {B : BS} {r : α × BS}, exec n p B = some r → exec (n + 1) p B = some r
  | n, .ret b, B, r, h => by rw [exec_ret] at h ⊢; exact h
  | 0, .acc x k, B, r, h => by cases h
  | n + 1, .acc x k, B, r, h => exec_more n h
/-- One behind the other. -/
theorem exec_bind {β : Type} {f : α → Pg β} {a : α} {r : β × BS} : ∀ (n m : Nat) {p : Pg α} {B B1 : BS}, exec n p B = some (a, B1) → exec m (f a) B1 = some r → exec (n + m) (p.bind f) B = some r
  | 0, m, .ret b, B, B1, h, h2 => by
    rw [exec_ret] at h
    injection h with h
    injection h with h h'
    subst h h'
    rw [Nat.zero_add]
    exact h2
  | n + 1, m, .ret b, B, B1, h, h2 => by
    rw [show n + 1 + m = (n + m) + 1 by omega]
    exact exec_more _ (exec_bind n m (p := .ret b) (by rw [exec_ret] at h ⊢; exact h) h2)
  | 0, m, .acc x k, B, B1, h, h2 => by cases h
  | n + 1, m, .acc x k, B, B1, h, h2 => by
    rw [show n + 1 + m = (n + m) + 1 by omega]
    exact exec_bind n m (p := k (ex B x).1) h h2
theorem exec_safe {a : α} {B' : BS} : ∀ (n : Nat) (p : Pg α) (B : BS), exec n p B = some (a, B') → Safe IE RE 0 (QE a B' 0) p B
  | n, .ret b, B, h => by
    rw [exec_ret] at h
    injection h with h
    injection h with h1 h2
    exact fun _ => ⟨h1, h2⟩
  | 0, .acc x k, B, h => by cases h
  | n + 1, .acc x k, B, h => by
    intro s hs B2 hB2
    have : s = B := hs rfl
    subst this
    have : s = B2 := hB2
    subst this
    exact ⟨(ex s x).2, fun j hj e => absurd e hj, rfl, exec_safe n _ _ h⟩
theorem re_ok (a : α) (B' : BS) : RelOk RE (QE a B') where
  refl := fun _ _ _ => rfl
  trans := fun i s s' s'' h k e => (k e).trans (h e)
  post := fun i b s s' h q e => by rw [h e]; exact q e
theorem exec_sys {a : α} {B B' : BS} {n D : Nat} {p : Pg α} (h : exec n p B = some (a, B')) (hd : Dep p D) : Sys IE RE (QE a B') D ([(⟨p, false⟩ : TS α)], B) B := by
  refine ⟨rfl, fun i t hi => ?_, fun i t hi hdn => ?_, fun i t hi => ?_⟩
  all_goals
    cases i with
    | succ i => simp at hi
    | zero =>
      simp at hi
      subst hi
      first | exact exec_safe n p B h | exact hd | cases hdn
theorem exec_whole {a : α} {B B' : BS} {n m D : Nat} {p : Pg α} (h : exec n p B = some (a, B')) (hd : Dep p D) (hm : D < m) (picks : List Nat) : wholeT m [p] B picks = ([⟨.ret a, true⟩], B') := by
  obtain ⟨as_, s', h1, h2, h3, h4⟩ := whole_safe (re_ok a B') hm (ps := [p]) (B := B) (s := B) rfl (fun i q hq => by
    cases i with
    | succ i => simp at hq
    | zero =>
      simp at hq
      subst hq
      exact ⟨exec_safe n p B h, hd⟩) picks
  have hl : as_.length = 1 := h2
  match as_, hl with
  | [b], _ =>
    obtain ⟨rfl, rfl⟩ := h4 0 b rfl rfl
    exact Prod.ext h1 h3.symm
theorem solo_whole {n : Nat} {p : Pg α} {B : BS} : wholeT n [p] B [] = ([(soloT n ⟨p, false⟩ B).1], (soloT n ⟨p, false⟩ B).2) := rfl
theorem step_sz (x : List (TS α) × BS) (k : Nat) : ∀ q, q ∈ x.2.sz → q ∈ (sysStep x.1 x.2 k).2.sz := by
  intro q hq
  unfold sysStep
  cases x.1[k]? with
  | none => exact hq
  | some t =>
    simp only
    unfold stepT
    split
    · exact hq
    · cases t.p with
      | ret a => exact hq
      | acc a k => exact ex_sz hq
/-- What holds along the steps of one that runs alone. -/
def GoodE (a : α) (B' : BS) (D : Nat) (qs : List (Nat × Nat)) (x : List (TS α) × BS) : Prop := (∃ s, Sys IE RE (QE a B') D x s) ∧ (∀ q ∈ qs, q ∈ x.2.sz) ∧ x.1.length = 1
theorem goodE_step {a : α} {B' : BS} {D : Nat} {qs : List (Nat × Nat)} (x : List (TS α) × BS) (k : Nat) (h : GoodE a B' D qs x) : GoodE a B' D qs (sysStep x.1 x.2 k) := by
  obtain ⟨⟨s, hs⟩, h1, h2⟩ := h
  obtain ⟨s', hs'⟩ := hs.step (re_ok a B') k
  exact ⟨⟨s', hs'⟩, fun q hq => step_sz x k q (h1 q hq), by rw [sysStep_len]; exact h2⟩
theorem goodE_bad {a b : α} {B' : BS} {D : Nat} {qs : List (Nat × Nat)} {x : List (TS α) × BS} {i : Nat} {t : TS α} (h : GoodE a B' D qs x) (ht : x.1[i]? = some t) (hp : t.p = .ret b) : b = a := by
  obtain ⟨⟨s, hs⟩, h1, h2⟩ := h
  have hi : i = 0 := by have := (List.getElem?_eq_some_iff.1 ht).1; omega
  subst hi
  have := hs.safe 0 t ht
  rw [hp] at this
  exact (this rfl).1
theorem goodE_start {a : α} {B B' : BS} {n D : Nat} {p : Pg α} {qs : List (Nat × Nat)} (h : exec n p B = some (a, B')) (hd : Dep p D) (hq : ∀ q ∈ qs, q ∈ B.sz) : GoodE a B' D qs ([(⟨p, false⟩ : TS α)], B) := ⟨⟨B, exec_sys h hd⟩, hq, rfl⟩
end Go.Proofs.YtkldpdldjalpeaaGreatDoor.Th

namespace Go.Proofs.YtkldpdldjalpeaaGreatDoor.Th
/-- 98: a tick that was in conflict eight times over, which never comes. -/
def wakeT (ck : Nat) : Pg An := (tickT ck 8).bind fun a => .ret (if a.err = 12 then ⟨98, 0, 0⟩ else a)
def awaitsT : List (Nat × Int) → Pg An
  | [] => .ret ⟨0, 0, 0⟩
  | x :: r => (turnT x.1 x.2 waitTo 8).bind fun a => if a.err = 0 then awaitsT r else .ret ⟨a.err, 0, 0⟩
def sleepT (ck : Nat) (l : List (Nat × Int)) : Pg An := (nowT ck).bind fun t => (awaitsT l).bind fun a => .ret (if a.err = 0 then ⟨0, 0, t.n⟩ else ⟨a.err, 0, 0⟩)
def awakeT (ck : Nat) (ticket : Int) : Pg An := (nowT ck).bind fun t => .ret ⟨0, 0, if t.n = ticket then 0 else 1⟩
/-- Whatever it comes to. -/
def RetAll {α : Type} (P : α → Prop) : Pg α → Prop
  | .ret a => P a
  | .acc _ k => ∀ e, RetAll P (k e)
theorem retAll_run {α : Type} {P : α → Prop} : ∀ {p : Pg α} {c : CS} {a : α}, RetAll P p → (run p c).1 = some a → P a
  | .ret b, c, a, h, hr => by
    rw [run_ret] at hr
    injection hr with hr
    subst hr
    exact h
  | .acc x k, c, a, h, hr => by
    cases hx : access c x with
    | mk o c1 =>
      cases o with
      | none => rw [run_none hx] at hr; cases hr
      | some e => rw [run_some hx] at hr; exact retAll_run (h e) hr
theorem RetAll.bind {α β : Type} {P : α → Prop} {Q : β → Prop} {f : α → Pg β} : ∀ {p : Pg α}, RetAll P p → (∀ a, P a → RetAll Q (f a)) → RetAll Q (p.bind f)
  | .ret a, h, hf => hf a h
  | .acc x k, h, hf => fun e => RetAll.bind (h e) hf
def E012 (a : An) : Prop := a.err = 0 ∨ a.err = 12
theorem e012_tick (ck : Nat) : ∀ n, RetAll E012 (tickT ck n)
  | 0 => .inr rfl
  | n + 1 => fun e d => by
    dsimp only
    split
    · exact .inl rfl
    · exact e012_tick ck n
theorem e012_turn (cl : Nat) (ver : Int) (tf : Mt → Mt) : ∀ n, RetAll E012 (turnT cl ver tf n)
  | 0 => .inr rfl
  | n + 1 => fun e => by
    dsimp only
    split
    · exact .inr rfl
    · split
      · exact .inl rfl
      · intro d
        dsimp only
        split
        · exact .inl rfl
        · exact e012_turn cl ver tf n
theorem e012_awaits : ∀ l, RetAll E012 (awaitsT l)
  | [] => .inl rfl
  | x :: r => (e012_turn _ _ _ _).bind fun a ha => by
    split
    · exact e012_awaits r
    · exact ha
theorem e012_sleep (ck : Nat) (l : List (Nat × Int)) : RetAll E012 (sleepT ck l) := fun e => (e012_awaits l).bind fun a ha => by
  split
  · exact .inl rfl
  · exact ha
theorem dep_wake (ck : Nat) : Dep (wakeT ck) 16 := (dep_tick ck 8).bind (m := 0) fun a => .ret _ _
theorem dep_awaits : ∀ l, Dep (awaitsT l) (16 * l.length)
  | [] => .ret _ _
  | x :: r => by
    rw [List.length_cons, show 16 * (r.length + 1) = 16 + 16 * r.length by omega]
    exact (dep_turn x.1 x.2 waitTo 8).bind fun a => by
      split
      · exact dep_awaits r
      · exact .ret _ _
theorem dep_now (ck : Nat) : Dep (nowT ck) 1 := .acc _ _ 0 fun _ => .ret _ _
theorem dep_sleep (ck : Nat) (l : List (Nat × Int)) : Dep (sleepT ck l) (1 + 16 * l.length) := (dep_now ck).bind fun t => by
  have := (dep_awaits l).bind (f := fun a => .ret (if a.err = 0 then (⟨0, 0, t.n⟩ : An) else ⟨a.err, 0, 0⟩)) (m := 0) fun a => .ret _ _
  exact this
theorem dep_awake (ck : Nat) (t : Int) : Dep (awakeT ck t) 1 := (dep_now ck).bind (m := 0) fun a => .ret _ _
end Go.Proofs.YtkldpdldjalpeaaGreatDoor.Th

namespace Go.Proofs.YtkldpdldjalpeaaGreatDoor
open Go.RowKit Th
attribute [local go_sem] litStep_value

theorem ErK.zero {k : Nat} {w : World} {B : Nat} {v : Value} (h : ErK k w B v 0) : v = .nilIface := by
  rcases h with ⟨h, _⟩ | ⟨j, _, h⟩
  · exact h
  · have := h.no_range; omega
set_option maxRecDepth 20000 in
theorem awake_ok {F : BFp} {cb : Nat} {lv : Value} {c : CS} (w : World) (h : CSt w F cb lv c) (ck : Nat) (hm : (ck, 1) ∈ c.B.sz) (tk : Int) :
    Calls Tryz.prog 17 #[.pointer (some ⟨cb, 0, none⟩), .int .u64 ck, .int .i64 tk] w fun e w' => ∃ lv' v, e = .returned (.tuple #[.bool ((resA (run (awakeT ck tk) c).1).n == 1), v]) ∧ CSt w' F cb lv' (run (awakeT ck tk) c).2 ∧ CNx w w' F F cb lv lv' ∧ ErK 2 w' w.heap.size v (resA (run (awakeT ck tk) c).1).err := by
  have HN := Lib.hid (now_ok w h ck hm)
  clear h hm
  go_enter Tryz.func17, Tryz.ntmps17
  go_wp2_with fail
  refine HN.out.mono ?_
  rintro e w1 ⟨lv1, v, rfl, h1, h2, h3⟩
  cases hr : run (nowT ck) c with
  | mk o c1 =>
    rw [hr] at h1 h3
    have H2 := Lib.hid h2
    have H1 := Lib.hid h1
    cases o with
    | none =>
      have HR : Hid (run (awakeT ck tk) c = (none, c1)) := Lib.hid (run_bind_none hr)
      have H3 := Lib.hid (h3.up (show 1 ≤ 2 by omega))
      have hc := h3.cases
      simp only [resA] at hc
      obtain ⟨⟨t, x, rfl⟩, _⟩ := hc.resolve_left (by omega)
      clear h1 h2 h3 hc hr
      simp only [resA]
      go_wp2_with fail
      go_ret2
      rw [HR.out]
      exact ⟨lv1, _, rfl, H1.out, H2.out, H3.out⟩
    | some a =>
      have HR : Hid (run (awakeT ck tk) c = (some ⟨0, 0, if a.n = tk then 0 else 1⟩, c1)) := Lib.hid (run_bind_some hr)
      have he : a.err = 0 := by
        unfold nowT at hr
        cases hx : access c (.load ck 0) with
        | mk o c2 =>
          cases o with
          | none => rw [run_none hx] at hr; injection hr with hr; cases hr
          | some en => rw [run_some hx] at hr; injection hr with hr; injection hr with hr; rw [← hr]
      simp only [resA, he] at h3
      obtain rfl := h3.zero
      clear h1 h2 h3 hr he
      simp only [resA]
      go_wp2_with fail
      go_ret2
      rw [HR.out]
      refine ⟨lv1, _, ?_, H1.out, H2.out, .nil _ _ _⟩
      simp only [resA]
      by_cases ht : a.n = tk
      · simp [ht]
      · simp [ht]
set_option maxRecDepth 20000 in
theorem newroom_ok {F : BFp} {cb : Nat} {lv : Value} {c : CS} (w : World) (h : CSt w F cb lv c) (hn : c.B.top + 1 + 1 ≤ c.B.ws.length) :
    Calls Tryz.prog 30 #[.pointer (some ⟨cb, 0, none⟩)] w fun e w' => ∃ F' lv' x v,
      e = .returned (.tuple #[.int .u64 x, v]) ∧ CSt w' F' cb lv' (access c (.alloc 1)).2 ∧ CNx w w' F F' cb lv lv' ∧ AlV x v (access c (.alloc 1)).1 ∧ F'.b0 = F.b0 := by
  have HN := Lib.hid (newclock_ok w h hn)
  clear h hn
  go_enter Tryz.func30, Tryz.ntmps30
  go_wp2_with fail
  refine HN.out.mono ?_
  rintro e w1 ⟨F1, lv1, x, v, rfl, h1, h2, h3, h4⟩
  have HH : Hid (_ ∧ _ ∧ _ ∧ _) := Lib.hid ⟨h1, h2, h3, h4⟩
  clear h1 h2 h3 h4
  go_wp2_with fail
  go_ret2
  exact ⟨F1, lv1, x, v, rfl, HH.out⟩
set_option maxRecDepth 20000 in
set_option maxHeartbeats 1000000 in
theorem wake_ok {F : BFp} {cb : Nat} {lv : Value} {c : CS} (w : World) (h : CSt w F cb lv c) (ck : Nat) (hm : (ck, 1) ∈ c.B.sz) (hf : ∀ a, (run (wakeT ck) c).1 = some a → a.err ≠ 98) :
    Calls Tryz.prog 19 #[.pointer (some ⟨cb, 0, none⟩), .int .u64 ck] w fun e w' => ∃ lv' v, e = .returned v ∧ CSt w' F cb lv' (run (wakeT ck) c).2 ∧ CNx w w' F F cb lv lv' ∧ ErK 1 w' w.heap.size v (resA (run (wakeT ck) c).1).err := by
  have HN := Lib.hid (tick_ok w h ck hm)
  have HF := Lib.hid hf
  clear h hm hf
  go_enter Tryz.func19, Tryz.ntmps19
  go_wp2_with fail
  go_loopw [5, 6] (fun u5 u6 wr => wr = w) (fun _ _ _ => 0)
  case atStart => rfl
  case round =>
    obtain rfl := hrel
    rename World => wx
    go_wp2_with fail
    refine HN.out.mono ?_
    rintro e w1 ⟨lv1, v, rfl, h1, h2, h3⟩
    cases hr : run (tickT ck 8) c with
    | mk o c1 =>
      rw [hr] at h1 h3
      have H2 := Lib.hid h2
      have H1 := Lib.hid h1
      have H3 := Lib.hid h3
      cases o with
      | none =>
        have HR : Hid (run (wakeT ck) c = (none, c1)) := Lib.hid (run_bind_none hr)
        clear h1 h2 h3 hr
        simp only [resA]
        go_wp2_with fail
        refine (is_er (H3.out.er (by omega)) 12 (by omega)).mono ?_
        rintro e w' ⟨rfl, rfl⟩
        simp only [resA]
        go_wp2_with fail
        go_ret
        rw [HR.out]
        exact ⟨lv1, _, rfl, H1.out, H2.out, H3.out⟩
      | some a =>
        have HR : Hid (run (wakeT ck) c = (some (if a.err = 12 then ⟨98, 0, 0⟩ else a), c1)) := Lib.hid (run_bind_some hr)
        have hne : a.err ≠ 12 := fun e => by
          have := HF.out _ (congrArg Prod.fst HR.out)
          rw [if_pos e] at this
          exact this rfl
        have hr2 := HR.out
        rw [if_neg hne] at hr2
        have HR2 := Lib.hid hr2
        have e12 : (a.err == 12) = false := by simpa using hne
        clear h1 h2 h3 hr hne hr2 HR
        simp only [resA]
        go_wp2_with fail
        refine (is_er (H3.out.er (by omega)) 12 (by omega)).mono ?_
        rintro e w' ⟨rfl, rfl⟩
        simp only [resA]
        go_wp2_with fail
        go_ret
        rw [HR2.out]
        exact ⟨lv1, _, rfl, H1.out, H2.out, H3.out⟩
def SnE : Enc (Nat × Int) := ⟨fun p => [.int .u64 p.1, .int .i64 p.2], 2, fun _ => rfl, by intro a u hu; simp at hu; rcases hu with rfl | rfl <;> rfl, by omega⟩
theorem run_bind_some' {α β γ : Type} {f : α → Pg β} {g : β → Pg γ} {p : Pg α} {q : Pg β} {c c' : CS} (h : run (p.bind f) c = run q c') : run ((p.bind f).bind g) c = run (q.bind g) c' := by
  cases hq : run q c' with
  | mk o c2 =>
    rw [hq] at h
    cases o with
    | none => rw [run_bind_none h, run_bind_none hq]
    | some b => rw [run_bind_some h, run_bind_some hq]
theorem drop_at {α : Type} {l : List α} {j : Nat} {x : α} (h : l[j]? = some x) : l.drop j = x :: l.drop (j + 1) := by
  obtain ⟨hj, e⟩ := List.getElem?_eq_some_iff.1 h
  rw [List.drop_eq_getElem_cons hj, e]
set_option maxRecDepth 20000 in
set_option maxHeartbeats 1000000 in
theorem sleep_ok {F : BFp} {cb : Nat} {lv : Value} {c : CS} (w : World) (h : CSt w F cb lv c) (ck : Nat) (hm : (ck, 1) ∈ c.B.sz) (l : List (Nat × Int)) (rv : Value) (hl : Ow SnE 56 w 0 rv l) (hrv : ∀ b, rv.ownBlock = some b → b ∉ SS F cb lv) (hl2 : l.length ≤ 1000) (hcl : ∀ x ∈ l, (x.1, 2) ∈ c.B.sz) :
    Calls Tryz.prog 20 #[.pointer (some ⟨cb, 0, none⟩), .int .u64 ck, rv] w fun e w' => ∃ lv' v, e = .returned (.tuple #[.int .i64 (resA (run (sleepT ck l) c).1).n, v]) ∧ CSt w' F cb lv' (run (sleepT ck l) c).2 ∧ CNx w w' F F cb lv lv' ∧ ErK 2 w' w.heap.size v (resA (run (sleepT ck l) c).1).err := by
  have HN := Lib.hid (now_ok w h ck hm)
  have HO := Lib.hid hl
  have HB := Lib.hid hrv
  have HL2 := Lib.hid hl2
  have HC := Lib.hid hcl
  have HLT : Hid (∀ b, rv.ownBlock = some b → b < w.heap.size) := Lib.hid (fun b hb => (own_lt hl hb).2)
  obtain ⟨A, cp, hrv, _, _⟩ := hl.form
  have HRV := Lib.hid hrv
  obtain ⟨n, hn⟩ : ∃ n, n = l.length := ⟨_, rfl⟩
  rw [← hn] at hl2 hrv
  have HNL := Lib.hid hn
  have hn3 : (n : Int) ≤ 1000 := by omega
  subst hrv
  clear h hm hl hcl hn hl2
  go_enter Tryz.func20, Tryz.ntmps20
  go_wp2_with fail
  refine HN.out.mono ?_
  rintro e w1 ⟨lv1, v, rfl, h1, h2, h3⟩
  cases hr : run (nowT ck) c with
  | mk o c1 =>
    rw [hr] at h1 h3
    have H2 := Lib.hid h2
    have H1 := Lib.hid h1
    cases o with
    | none =>
      have HR : Hid (run (sleepT ck l) c = (none, c1)) := Lib.hid (run_bind_none hr)
      have H3 := Lib.hid (h3.up (show 1 ≤ 2 by omega))
      have hc := h3.cases
      simp only [resA] at hc
      obtain ⟨⟨t, x, rfl⟩, _⟩ := hc.resolve_left (by omega)
      clear h1 h2 h3 hc hr
      simp only [resA]
      go_wp2_with fail
      go_ret2
      rw [HR.out]
      exact ⟨lv1, _, rfl, H1.out, H2.out, H3.out⟩
    | some a =>
      have HR : Hid (run (sleepT ck l) c = run ((awaitsT l).bind fun b => .ret (if b.err = 0 then ⟨0, 0, a.n⟩ else ⟨b.err, 0, 0⟩)) c1) := Lib.hid (run_bind_some hr)
      have he : a.err = 0 := by
        unfold nowT at hr
        cases hx : access c (.load ck 0) with
        | mk o c2 =>
          cases o with
          | none => rw [run_none hx] at hr; injection hr with hr; cases hr
          | some en => rw [run_some hx] at hr; injection hr with hr; injection hr with hr; rw [← hr]
      have HC1 : Hid (∀ x ∈ l, (x.1, 2) ∈ c1.B.sz) := Lib.hid (fun x hx => run_mem hr (HC.out x hx))
      simp only [resA, he] at h3
      obtain rfl := h3.zero
      clear h1 h2 h3 hr he
      simp only [resA]
      obtain ⟨an, han⟩ : ∃ an, an = a.n := ⟨_, rfl⟩
      rw [← han] at HR ⊢
      clear han
      go_wp2_with fail
      go_loopw [11, 12, 24] (fun u11 u12 u24 wr => ∃ (j : Nat) (cj : CS) (lj : Value), u24 = .int .i64 j ∧ j ≤ n ∧ Hid (CSt wr F cb lj cj) ∧ Hid (CNx w wr F F cb lv lj) ∧ Hid (run ((awaitsT (l.drop j)).bind fun b => .ret (if b.err = 0 then (⟨0, 0, an⟩ : An) else ⟨b.err, 0, 0⟩)) cj = run (sleepT ck l) c ∧ ∀ x ∈ l, (x.1, 2) ∈ cj.B.sz)) (fun _ _ u _ => n - (intOf u).toNat)
      case atStart => exact ⟨0, c1, lv1, rfl, by omega, H1, H2, Lib.hid ⟨by rw [HR.out]; rfl, HC1.out⟩⟩
      case round =>
        obtain ⟨j, cj, lj, rfl, hj, KS, KN, KR⟩ := hrel
        rename World => wr
        by_cases hlt : j < n
        · have hjn : (j : Int) < n := by omega
          obtain ⟨⟨xc, xv⟩, hx⟩ : ∃ x, l[j]? = some x := ⟨_, List.getElem?_eq_getElem (by rw [← HNL.out]; exact hlt)⟩
          obtain ⟨g, cp', _, hv, _⟩ := own_form HO.out (by rw [← HNL.out]; omega)
          injection hv with hv1 hv2 hv3
          subst hv1
          have hSL : ∀ b, (Value.slice (some ⟨g, 0, none⟩) n cp).ownBlock = some b → b ∉ SS F cb lv := HB.out
          have hov : Ow SnE 56 wr 0 (.slice (some ⟨g, 0, none⟩) n cp) l := by
            have := HO.out
            exact this.upd KN.out.up (fun b hb hm => HB.out b hb hm)
          have c1' : wr.cell? ⟨g, j * 2, none⟩ = some (.int .u64 xc) := hov.at_ hx 0 _ rfl
          have c2' : wr.cell? ⟨g, j * 2 + 1, none⟩ = some (.int .i64 xv) := hov.at_ hx 1 _ rfl
          have gal : g < wr.heap.size := (own_lt hov (b := g) rfl).2
          have HX := Lib.hid hx
          have HJ := Lib.hid hlt
          clear hj hlt hx hov hSL hv2 hv3
          have hup : Upd [] wr (wr.alloc (Obj.cells #[.int .u64 xc, .int .i64 xv] 56)) := (Upd.refl _ _).alloc _
          have UP := Lib.hid hup
          have HA := Lib.hid (mawait_ok (wr.alloc (Obj.cells #[.int .u64 xc, .int .i64 xv] 56)) (KS.out.upd0 hup) xc (KR.out.2 _ (List.mem_of_getElem? HX.out)) xv)
          have hdr : run (((turnT xc xv waitTo 8).bind fun a => if a.err = 0 then awaitsT (l.drop (j + 1)) else .ret ⟨a.err, 0, 0⟩).bind fun b => .ret (if b.err = 0 then (⟨0, 0, an⟩ : An) else ⟨b.err, 0, 0⟩)) cj = run (sleepT ck l) c := by
            rw [← KR.out.1, drop_at HX.out]
            rfl
          clear hup
          go_wp2_with fail
          refine HA.out.mono ?_
          rintro e w2 ⟨lv2, v, rfl, h1, h2, h3⟩
          cases hr : run (turnT xc xv waitTo 8) cj with
          | mk o c2 =>
            rw [hr] at h1 h3
            have N2 := Lib.hid ((KN.out.upd UP.out).trans h2)
            have S2 := Lib.hid h1
            have H3 := Lib.hid (h3.base (KN.out.upd UP.out).up.size)
            cases o with
            | none =>
              have HR2 : Hid (run (sleepT ck l) c = (none, c2)) := Lib.hid (by rw [← hdr]; exact run_bind_none (run_bind_none hr))
              have hc := h3.cases
              simp only [resA] at hc
              obtain ⟨⟨t, x, rfl⟩, _⟩ := hc.resolve_left (by omega)
              clear h1 h2 h3 hc hr hdr
              go_wp2_with fail
              go_ret2
              rw [HR2.out]
              exact ⟨lv2, _, rfl, S2.out, N2.out, H3.out⟩
            | some a =>
              by_cases he : a.err = 0
              · simp only [resA, he] at h3
                obtain rfl := h3.zero
                have HR2 : Hid (run ((awaitsT (l.drop (j + 1))).bind fun b => .ret (if b.err = 0 then (⟨0, 0, an⟩ : An) else ⟨b.err, 0, 0⟩)) c2 = run (sleepT ck l) c ∧ ∀ x ∈ l, (x.1, 2) ∈ c2.B.sz) := Lib.hid ⟨by
                  rw [← hdr, run_bind_some' (run_bind_some hr), if_pos he], fun x hx => run_mem hr (KR.out.2 x hx)⟩
                clear h1 h2 h3 hr hdr he
                go_wp2_with fail
                go_round
                case rel =>
                  exact ⟨j + 1, c2, lv2, by simp, by have := HJ.out; omega, S2, N2, HR2⟩
                case measure => have := HJ.out; simp [intOf]; omega
              · have HR2 : Hid (run (sleepT ck l) c = (some ⟨a.err, 0, 0⟩, c2)) := Lib.hid (by
                  rw [← hdr, run_bind_some' (run_bind_some hr), if_neg he]
                  show run (.ret _) c2 = _
                  rw [run_ret, if_neg he])
                have hc := h3.cases
                simp only [resA] at hc
                obtain ⟨⟨t, x, rfl⟩, _⟩ := hc.resolve_left (fun h => he h.2)
                clear h1 h2 h3 hc hr hdr he
                go_wp2_with fail
                go_ret2
                rw [HR2.out]
                exact ⟨lv2, _, rfl, S2.out, N2.out, H3.out⟩
        · have hjn : ¬ ((j : Int) < n) := by omega
          have HR2 : Hid (run (sleepT ck l) c = (some ⟨0, 0, an⟩, cj)) := Lib.hid (by
            rw [← KR.out.1, List.drop_of_length_le (by rw [← HNL.out]; omega)]
            rfl)
          clear hj hlt
          go_wp2_with fail
          go_ret2
          rw [HR2.out]
          exact ⟨lj, _, rfl, KS.out, KN.out, .nil _ _ _⟩
end Go.Proofs.YtkldpdldjalpeaaGreatDoor

namespace Go.Proofs.YtkldpdldjalpeaaGreatDoor
open Go.RowKit Th
attribute [local go_sem] litStep_value

/-- A thread: block tb, its body, its log's value lv. -/
structure ThSt (w : World) (b0 : Nat) (tb : Nat) (lv : Value) (fid : FuncId) (caps : Array Value) (l : List En) (d : Bool) : Prop where
  hdr : ∃ n : Int, Blk w tb 64 #[.pointer (some ⟨b0, 0, none⟩), .func (.func fid) #[] caps, lv, .int .i64 0, .int .i64 n, .bool d, .nilIface]
  log : Ow EnE 94 w 0 lv l
  lwd : ∀ e, e ∈ l → 0 ≤ e.word ∧ e.word < 18446744073709551616
theorem ThSt.upd {w w' : World} {b0 tb : Nat} {lv : Value} {fid : FuncId} {caps : Array Value} {l : List En} {d : Bool} {S : List Nat} (h : ThSt w b0 tb lv fid caps l d) (hu : Upd S w w') (h1 : tb ∉ S) (h2 : ∀ b, lv.ownBlock = some b → b ∉ S) : ThSt w' b0 tb lv fid caps l d := by
  obtain ⟨n, hn⟩ := h.hdr
  exact ⟨⟨n, hn.upd hu h1⟩, h.log.upd hu h2, h.lwd⟩
set_option maxRecDepth 20000 in
theorem tnew_ok {F : BFp} {B : BS} (w : World) (h : BSt w F B) (fid : FuncId) (caps : Array Value) :
    Calls Tryz.prog 8 #[.pointer (some ⟨F.b0, 0, none⟩), .func (.func fid) #[] caps] w fun e w' => ∃ tb, e = .returned (.pointer (some ⟨tb, 0, none⟩)) ∧ ThSt w' F.b0 tb (.slice none 0 0) fid caps [] false ∧ Upd [] w w' ∧ w.heap.size ≤ tb ∧ tb < w'.heap.size := by
  have e1 : (binOp .eql 34 (.func (.func fid) #[] caps) .nilFunc).run Tryz.prog w = .ok (.bool false) w := rfl
  go_enter Tryz.func8, Tryz.ntmps8
  go_wp2_with fail
  go_ret
  exact ⟨w.heap.size, rfl, ⟨⟨0, Blk.new _ _ _⟩, Ow.nil _ _ _ _, by simp⟩, (Upd.refl _ _).alloc _, Nat.le_refl _, by simp⟩
theorem tdone_ok {b0 tb : Nat} {lv : Value} {fid : FuncId} {caps : Array Value} {l : List En} {d : Bool} (w : World) (h : ThSt w b0 tb lv fid caps l d) :
    Calls Tryz.prog 14 #[.pointer (some ⟨tb, 0, none⟩)] w fun e w' => e = .returned (.bool d) ∧ w = w' := by
  obtain ⟨n, hn⟩ := h.hdr
  have f := hn.facts
  clear h hn
  go_enter Tryz.func14, Tryz.ntmps14
  go_wp2_with fail
  go_ret
  exact ⟨rfl, rfl⟩
theorem terr_ok {b0 tb : Nat} {lv : Value} {fid : FuncId} {caps : Array Value} {l : List En} {d : Bool} (w : World) (h : ThSt w b0 tb lv fid caps l d) :
    Calls Tryz.prog 35 #[.pointer (some ⟨tb, 0, none⟩)] w fun e w' => e = .returned .nilIface ∧ w = w' := by
  obtain ⟨n, hn⟩ := h.hdr
  have f := hn.facts
  clear h hn
  go_enter Tryz.func35, Tryz.ntmps35
  go_wp2_with fail
  go_ret
  exact ⟨rfl, rfl⟩
set_option maxRecDepth 20000 in
theorem tend_ok {b0 tb : Nat} {lv : Value} {fid : FuncId} {caps : Array Value} {l : List En} {d : Bool} (w : World) (h : ThSt w b0 tb lv fid caps l d) (hlv : lv.ownBlock ≠ some tb) :
    Calls Tryz.prog 34 #[.pointer (some ⟨tb, 0, none⟩), .nilIface] w fun e w' => e = .returned .nilIface ∧ ThSt w' b0 tb lv fid caps l true ∧ Upd [tb] w w' := by
  obtain ⟨n, hn⟩ := h.hdr
  have f := hn.facts
  have HN := Lib.hid hn
  have HS := Lib.hid h
  have HV := Lib.hid hlv
  clear h hn hlv
  go_enter Tryz.func34, Tryz.ntmps34
  go_wp2_with fail
  go_ret
  have hb := (HN.out.set_ 5 (.bool true)).set_ 6 .nilIface
  have hu : Upd [tb] w ((w.setCell ⟨tb, 5, none⟩ (.bool true)).setCell ⟨tb, 6, none⟩ .nilIface) := ((Upd.refl _ _).setCell (by simp) _).setCell (by simp) _
  exact ⟨rfl, ⟨⟨n, hb⟩, HS.out.log.upd hu (fun b hb' hm => by simp at hm; subst hm; exact HV.out hb'), HS.out.lwd⟩, hu⟩
/-- What a body answers: none, or that the step is over. -/
def BdV {α : Type} (w' : World) (B : Nat) (v : Value) : Option α → Prop
  | some _ => v = .nilIface
  | none => ErK 2 w' B v 11
section
variable {α : Type}
/-- A body's own memory, in blocks S; what it came to last. -/
structure MemOk (M : World → List Nat → Option α → Prop) : Prop where
  fr : ∀ w w' T S r, M w S r → Upd T w w' → (∀ x ∈ T, x ∉ S) → M w' S r
  lt : ∀ w S r, M w S r → ∀ x ∈ S, x < w.heap.size
/-- A closure that is a body. -/
structure BodyOk (fid : FuncId) (caps : Array Value) (p : Pg α) (Bad : α → Prop) (J : BS → Prop) (M : World → List Nat → Option α → Prop) : Prop where
  ent : ∀ args w, (callFunc fid args).run Tryz.prog w = .ok (.enter fid args) w
  run : ∀ (w : World) (F : BFp) (cb : Nat) (lv : Value) (c : CS) (S : List Nat) (r0 : Option α), CSt w F cb lv c → c.next = 0 → c.did = false → J c.B → Ready p c → M w S r0 → (∀ x ∈ S, x ∉ SS F cb lv) → (∀ a, (Th.run p c).1 = some a → ¬ Bad a) →
    Calls Tryz.prog fid (#[.pointer (some ⟨cb, 0, none⟩), .int .i64 0] ++ caps) w fun e w' => ∃ F' lv' S' v, e = .returned v ∧ CSt w' F' cb lv' (Th.run p c).2 ∧ F'.b0 = F.b0 ∧ Upd (S ++ SS F cb lv) w w' ∧ (∀ x ∈ S' ++ SS F' cb lv', x ∈ S ++ SS F cb lv ∨ w.heap.size ≤ x) ∧ (∀ x ∈ S', x ∉ SS F' cb lv') ∧ M w' S' (Th.run p c).1 ∧ BdV w' w.heap.size v (Th.run p c).1
end
/-- The blocks of a thread. -/
def TB (tb : Nat) (lv : Value) : List Nat := tb :: lv.ownBlock.toList
section
variable {α : Type} {fid : FuncId} {caps : Array Value} {p : Pg α} {Bad : α → Prop} {J : BS → Prop} {M : World → List Nat → Option α → Prop}
set_option maxRecDepth 20000 in
set_option maxHeartbeats 2000000 in
theorem tstep_ok (BO : BodyOk fid caps p Bad J M) (MO : MemOk M) {F : BFp} {B : BS} {tb : Nat} {lv : Value} {l : List En} {t : TS α} {S : List Nat} {r0 : Option α} (w : World)
    (h : ThSt w F.b0 tb lv fid caps l t.done) (hB : BSt w F B) (hJ : J B) (ht : ThOk p B l t) (hM : M w S r0) (hlen : l.length < 6000)
    (a1 : ∀ x ∈ TB tb lv, x ∉ F.l) (a2 : ∀ x ∈ S, x ∉ F.l) (a3 : ∀ x ∈ S, x ∉ TB tb lv) (hbad : ∀ a, (Th.stepT t B).1.p = .ret a → ¬ Bad a) (hr0 : t.done = true → r0 = outP t.p) :
    Calls Tryz.prog 11 #[.pointer (some ⟨tb, 0, none⟩)] w fun e w' => ∃ F' lv' S' l' r', e = .returned .nilIface ∧ ThSt w' F'.b0 tb lv' fid caps l' (Th.stepT t B).1.done ∧ F'.b0 = F.b0 ∧ BSt w' F' (Th.stepT t B).2 ∧ ThOk p (Th.stepT t B).2 l' (Th.stepT t B).1 ∧ M w' S' r' ∧
      ((Th.stepT t B).1.done = true → r' = outP (Th.stepT t B).1.p) ∧ l'.length ≤ l.length + 1 ∧ Upd (F.l ++ TB tb lv ++ S) w w' ∧ (∀ x ∈ F'.l ++ TB tb lv' ++ S', x ∈ F.l ++ TB tb lv ++ S ∨ w.heap.size ≤ x) ∧
      (∀ x ∈ TB tb lv', x ∉ F'.l) ∧ (∀ x ∈ S', x ∉ F'.l) ∧ (∀ x ∈ S', x ∉ TB tb lv') ∧ ∀ q, q ∈ B.sz → q ∈ (Th.stepT t B).2.sz := by
  by_cases hd : t.done = true
  · rw [stepT_done hd]
    obtain ⟨n, hn⟩ := h.hdr
    rw [hd] at hn
    have f := hn.facts
    have HH : Hid (_ ∧ _ ∧ _ ∧ _) := Lib.hid ⟨h, hB, ht, hM⟩
    have HA : Hid (_ ∧ _ ∧ _ ∧ _) := Lib.hid ⟨a1, a2, a3, hr0⟩
    clear h hn hB hJ ht hM hlen a1 a2 a3 hbad hr0 hd BO MO
    go_enter Tryz.func11, Tryz.ntmps11
    go_wp2_with fail
    go_ret
    exact ⟨F, lv, S, l, r0, rfl, HH.out.1, rfl, HH.out.2.1, HH.out.2.2.1, HH.out.2.2.2, HA.out.2.2.2, by omega, .refl _ _, fun x hx => .inl hx, HA.out.1, HA.out.2.1, HA.out.2.2.1, fun _ h => h⟩
  · have hd : t.done = false := by simpa using hd
    obtain ⟨n, hn⟩ := h.hdr
    obtain ⟨A, cap, rfl, _, _⟩ := h.log.form
    rw [hd] at hn
    have f := hn.facts
    have HN := Lib.hid hn
    have HH : Hid (_ ∧ _ ∧ _ ∧ _ ∧ _) := Lib.hid ⟨h, hB, ht, hM, hJ⟩
    have HA : Hid (_ ∧ _ ∧ _) := Lib.hid ⟨a1, a2, a3⟩
    have HBad := Lib.hid hbad
    have HL := Lib.hid hlen
    have HD := Lib.hid hd
    have HST := Lib.hid (ht.step hd)
    have HRD := Lib.hid ht.ready
    have HBO := Lib.hid BO
    have HMO := Lib.hid MO
    clear h hn hB hJ ht hM hlen a1 a2 a3 hbad hr0 hd BO MO
    go_enter Tryz.func11, Tryz.ntmps11
    go_wp2_with fail
    go_region
    obtain ⟨w2, hw2⟩ : ∃ w2, w2 = ((w.setCell ⟨tb, 4, none⟩ (.int .i64 (wrap64 (n + 1)))).alloc (Obj.cells #[.pointer (some ⟨F.b0, 0, none⟩), .slice A l.length cap, .int .i64 0, .bool false] 67)).drew := ⟨_, rfl⟩
    have hu2 : Upd [tb] w w2 := by rw [hw2]; exact (((Upd.refl _ _).setCell (by simp) _).alloc _).drew
    have T2 : Hid (Blk w2 tb 64 #[.pointer (some ⟨F.b0, 0, none⟩), .func (.func fid) #[] caps, .slice A l.length cap, .int .i64 0, .int .i64 (wrap64 (n + 1)), .bool false, .nilIface]) := Lib.hid (by rw [hw2]; exact ((HN.out.set_ 4 _).alloc _).drew)
    have C2 : Hid (Blk w2 w.heap.size 67 #[.pointer (some ⟨F.b0, 0, none⟩), .slice A l.length cap, .int .i64 0, .bool false]) := Lib.hid (by rw [hw2]; exact (Blk.newAt _ _ (by simp)).drew)
    rw [← hw2]
    clear hw2
    have U2 := Lib.hid hu2
    have hlt : tb < w.heap.size := HN.out.lt
    clear hu2 f hd
    go_wp2_with fail
    have CT : Hid (∀ W, Upd [] w2.drew W → W.cell? ⟨tb, 1, none⟩ = some (.func (.func fid) #[] caps) ∧ W.cell? ⟨tb, 3, none⟩ = some (.int .i64 0)) := Lib.hid (fun W hW => by
      have hx := T2.out.upd ((Upd.refl _ _).drew.trans hW) (by simp)
      exact ⟨hx.cell 1, hx.cell 3⟩)
    refine wp_invNT0 9 [] (by kernel_rfl) (by simp) (by kernel_rfl) (by kernel_rfl) trivial ?_
    simp only [List.take_succ_cons, List.take_zero, List.drop_succ_cons, List.drop_zero]
    with_reducible apply wpV_light
    · simp only [lightOp]
    · intro W hU hF
      have f0 := CT.out W hU
      clear hU hF
      go_simp
      exact rfl
    simp only [Act.put, List.setIfInBounds_toArray, List.set_cons_zero, List.set_cons_succ]
    with_reducible apply wpV_light
    · simp only [lightOp]
    · intro W hU hF
      have f0 := CT.out W hU
      clear hU hF
      go_simp
      exact rfl
    simp only [Act.put, List.setIfInBounds_toArray, List.set_cons_zero, List.set_cons_succ]
    with_reducible apply wpV_light
    · simp only [lightOp]
    · intro W hU hF
      have f0 := CT.out W hU
      clear hU hF
      go_simp
      exact rfl
    simp only [Act.put, List.setIfInBounds_toArray, List.set_cons_zero, List.set_cons_succ]
    with_reducible apply wpV_light
    · simp only [lightOp]
    · intro W hU hF
      have f0 := CT.out W hU
      clear hU hF
      go_simp
      exact rfl
    simp only [Act.put, List.setIfInBounds_toArray, List.set_cons_zero, List.set_cons_succ]
    with_reducible apply wpV_light
    · simp only [lightOp]
    · intro W hU hF
      have f0 := CT.out W hU
      clear hU hF
      go_simp
      exact rfl
    simp only [Act.put, List.setIfInBounds_toArray, List.set_cons_zero, List.set_cons_succ]
    with_reducible apply wpV_light
    · simp only [lightOp]
    · intro W hU hF
      have f0 := CT.out W hU
      clear hU hF
      go_simp
      exact rfl
    simp only [Act.put, List.setIfInBounds_toArray, List.set_cons_zero, List.set_cons_succ]
    with_reducible apply wpV_light
    · simp only [lightOp]
    · intro W hU hF
      have f0 := CT.out W hU
      clear hU hF
      go_simp
      exact rfl
    simp only [Act.put, List.setIfInBounds_toArray, List.set_cons_zero, List.set_cons_succ]
    with_reducible apply wpV_light
    · simp only [lightOp]
    · intro W hU hF
      have f0 := CT.out W hU
      clear hU hF
      go_simp
      exact rfl
    simp only [Act.put, List.setIfInBounds_toArray, List.set_cons_zero, List.set_cons_succ]
    with_reducible apply wpV_light
    · simp only [lightOp]
    · intro W hU hF
      have f0 := CT.out W hU
      clear hU hF
      go_simp
      exact rfl
    simp only [Act.put, List.setIfInBounds_toArray, List.set_cons_zero, List.set_cons_succ]
    refine wpV_end (fun W hU _ hF => ?_)
    have U3 : Hid (Upd [] w2 W) := Lib.hid ((Upd.refl _ _).drew.trans hU)
    clear hU hF
    refine wpT_op (by rfl) (fun K hK => ?_)
    have ent := HBO.out.ent
    go_wp2_with fail
    have UW : Hid (Upd [tb] w W) := Lib.hid (U2.out.trans' U3.out (by simp))
    have htb : Hid (tb ∉ F.l ∧ tb ∉ S ∧ (Value.slice A l.length cap).ownBlock ≠ some tb) := Lib.hid ⟨HA.out.1 _ (by simp [TB]), fun hm => HA.out.2.2 _ hm (by simp [TB]), own_type HH.out.1.log HN.out (by decide)⟩
    have hcs : CSt W F w.heap.size (.slice A l.length cap) ⟨l, 0, false, B⟩ := by
      obtain ⟨h1, h2, h3, h4, h5⟩ := HH.out
      refine ⟨C2.out.upd U3.out (by simp), h1.log.upd UW.out (fun b hb hm => by simp at hm; subst hm; exact htb.out.2.2 hb), h2.upd UW.out (fun x hx hm => by simp at hx; subst hx; exact htb.out.1 hm), fun hm => by have := h2.lt _ hm; omega, fun b hb hm => HA.out.1 b (by simp [TB, hb]) hm, h1.lwd, ⟨Nat.zero_le _, .inr HL.out⟩, Nat.le_of_lt HL.out⟩
    have hss : ∀ x ∈ S, x ∉ SS F w.heap.size (.slice A l.length cap) := by
      intro x hx hm
      simp only [SS, List.mem_append, List.mem_cons] at hm
      rcases hm with hm | hm | hm
      · exact HA.out.2.1 x hx hm
      · have := HMO.out.lt _ _ _ HH.out.2.2.2.1 x hx; omega
      · exact HA.out.2.2 x hx (by simp only [TB]; exact List.mem_cons_of_mem _ hm)
    refine (HBO.out.run W F w.heap.size _ ⟨l, 0, false, B⟩ S r0 hcs rfl rfl HH.out.2.2.2.2 HRD.out (HMO.out.fr _ _ _ _ _ HH.out.2.2.2.1 UW.out (by intro x hx; simp at hx; subst hx; exact htb.out.2.1)) hss (fun a ha => HBad.out a (by
      have := HST.out.1
      rw [ha] at this
      cases hp : (Th.stepT t B).1.p with
      | ret b => rw [hp] at this; simp [outP] at this; rw [this]
      | acc a k => rw [hp] at this; simp [outP] at this))).mono ?_
    rintro e W2 ⟨F', lv', S', v, rfl, g1, g2, g3, g4, g5, g6, g7⟩
    clear hcs hss
    obtain ⟨A2, cap2, rfl, _, _⟩ := g1.log.form
    have htb2 : tb ∉ S ++ SS F w.heap.size (.slice A l.length cap) := by
      intro hm
      simp only [SS, List.mem_append, List.mem_cons] at hm
      rcases hm with hm | hm | hm | hm
      · exact htb.out.2.1 hm
      · exact htb.out.1 hm
      · omega
      · exact htb.out.2.2 (by simpa using hm)
    have T4b := (T2.out.upd U3.out (by simp)).upd g3 htb2
    have T4 := Lib.hid T4b
    have C4b := g1.hdr
    have C4 := Lib.hid C4b
    have f1 := T4b.facts
    have f2 := C4b.facts
    have G : Hid (_ ∧ _ ∧ _ ∧ _ ∧ _ ∧ _ ∧ _) := Lib.hid ⟨g1, g2, g3, g4, g5, g6, g7⟩
    have HT2 := Lib.hid htb2
    have hor : (∃ a, (run p ⟨l, 0, false, B⟩).1 = some a ∧ v = .nilIface) ∨ ((run p ⟨l, 0, false, B⟩).1 = none ∧ ErK 2 W2 W.heap.size v 11) := by
      cases hr : (run p ⟨l, 0, false, B⟩).1 with
      | some a => rw [hr] at g7; exact .inl ⟨a, rfl, g7⟩
      | none => rw [hr] at g7; exact .inr ⟨rfl, g7⟩
    clear g1 g2 g3 g4 g5 g6 g7 T4b C4b htb2
    have hdr : (Th.stepT t B).1.done = (run p ⟨l, 0, false, B⟩).1.isSome := HST.out.2.2.2.1
    have hwW : w.heap.size ≤ W.heap.size := UW.out.size
    have htn : tb ∉ S' ++ SS F' w.heap.size (.slice A2 (run p ⟨l, 0, false, B⟩).2.log.length cap2) := fun hm => by
      rcases G.out.2.2.2.1 _ hm with h | h
      · exact HT2.out h
      · omega
    have hold : ∀ x, x ∈ S ++ SS F w.heap.size (.slice A l.length cap) ∨ W.heap.size ≤ x → x ∈ F.l ++ TB tb (.slice A l.length cap) ++ S ∨ w.heap.size ≤ x := by
      intro x hx
      rcases hx with hx | hx
      · simp only [SS, List.mem_append, List.mem_cons] at hx
        simp only [TB, List.mem_append, List.mem_cons]
        rcases hx with hx | hx | hx | hx
        · exact .inl (.inr hx)
        · exact .inl (.inl (.inl hx))
        · exact .inr (by omega)
        · exact .inl (.inl (.inr (.inr hx)))
      · exact .inr (by omega)
    have FIN : Hid (∀ Z, ThSt Z F.b0 tb (.slice A2 (run p ⟨l, 0, false, B⟩).2.log.length cap2) fid caps (run p ⟨l, 0, false, B⟩).2.log (Th.stepT t B).1.done → Upd [tb] W2 Z →
      ∃ F' lv' S' l' r', ThSt Z F'.b0 tb lv' fid caps l' (Th.stepT t B).1.done ∧ F'.b0 = F.b0 ∧ BSt Z F' (Th.stepT t B).2 ∧ ThOk p (Th.stepT t B).2 l' (Th.stepT t B).1 ∧ M Z S' r' ∧
      ((Th.stepT t B).1.done = true → r' = outP (Th.stepT t B).1.p) ∧ l'.length ≤ l.length + 1 ∧ Upd (F.l ++ TB tb (.slice A l.length cap) ++ S) w Z ∧ (∀ x ∈ F'.l ++ TB tb lv' ++ S', x ∈ F.l ++ TB tb (.slice A l.length cap) ++ S ∨ w.heap.size ≤ x) ∧
      (∀ x ∈ TB tb lv', x ∉ F'.l) ∧ (∀ x ∈ S', x ∉ F'.l) ∧ (∀ x ∈ S', x ∉ TB tb lv') ∧ ∀ q, q ∈ B.sz → q ∈ (Th.stepT t B).2.sz) := Lib.hid (by
      intro Z hz hu
      obtain ⟨g1, g2, g3, g4, g5, g6, g7⟩ := G.out
      have t1 : tb ∉ F'.l := fun hm => htn (by simp [SS, hm])
      have t2 : tb ∉ S' := fun hm => htn (by simp [hm])
      have t3 : (Value.slice A2 (run p ⟨l, 0, false, B⟩).2.log.length cap2).ownBlock ≠ some tb := fun e => htn (by simp [SS, e])
      refine ⟨F', _, S', _, _, by rw [g2]; exact hz, g2, ?_, HST.out.2.2.1, HMO.out.fr _ _ _ _ _ g6 hu (by intro x hx; simp at hx; subst hx; exact t2), fun _ => HST.out.1, HST.out.2.2.2.2.1, ?_, ?_, ?_, ?_, ?_, HST.out.2.2.2.2.2⟩
      · have := g1.st
        rw [HST.out.2.1] at this
        exact this.upd hu (by intro x hx; simp at hx; subst hx; exact t1)
      · refine ((UW.out.mono (fun x hx => .inl ?_)).trans' g3 (fun x hx => ?_)).trans' hu (fun x hx => ?_)
        · simp at hx; subst hx; simp [TB]
        · exact hold x (.inl hx)
        · simp at hx; subst hx; exact .inl (by simp [TB])
      · intro x hx
        simp only [TB, List.mem_append, List.mem_cons] at hx
        rcases hx with (hx | hx | hx) | hx
        · exact hold x (g4 x (by simp [SS, hx]))
        · subst hx; exact .inl (by simp [TB])
        · exact hold x (g4 x (by simp only [SS, List.mem_append, List.mem_cons]; exact .inr (.inr (.inr hx))))
        · exact hold x (g4 x (by simp [hx]))
      · intro x hx
        simp only [TB, List.mem_cons] at hx
        rcases hx with hx | hx
        · subst hx; exact t1
        · exact g1.nlv x (by simpa using hx)
      · intro x hx hm
        exact g5 x hx (by simp [SS, hm])
      · intro x hx hm
        simp only [TB, List.mem_cons] at hm
        rcases hm with hm | hm
        · subst hm; exact t2 hx
        · exact g5 x hx (by simp only [SS, List.mem_append, List.mem_cons]; exact .inr (.inr hm)))
    have htn' := Lib.hid htn
    have LG : Hid (Ow EnE 94 W2 0 (.slice A2 (run p ⟨l, 0, false, B⟩).2.log.length cap2) (run p ⟨l, 0, false, B⟩).2.log ∧ (∀ e, e ∈ (run p ⟨l, 0, false, B⟩).2.log → 0 ≤ e.word ∧ e.word < 18446744073709551616)) := Lib.hid ⟨G.out.1.log, G.out.1.lwd⟩
    have htn3 : Hid ((Value.slice A2 (run p ⟨l, 0, false, B⟩).2.log.length cap2).ownBlock ≠ some tb) := Lib.hid (fun e => htn (by simp [SS, e]))
    have HDr := Lib.hid hdr
    clear htn hold hdr
    generalize (run p ⟨l, 0, false, B⟩).2.log = lg at *
    rcases hor with ⟨a, ha, rfl⟩ | ⟨ha, hv⟩
    · have HAa := Lib.hid ha
      clear ha
      go_wp2_with fail
      refine hK.out _ _ ?_
      clear hK K
      try simp only [Act.put, List.setIfInBounds_toArray, List.set_cons_zero, List.set_cons_succ]
      refine wpT_op (by rfl) (fun K hK => ?_)
      go_wp2_with fail
      refine hK.out _ _ ?_
      clear hK K
      try simp only [Act.put, List.setIfInBounds_toArray, List.set_cons_zero, List.set_cons_succ]
      refine wpT_end ?_
      go_wp2_with fail
      obtain ⟨W3, hW3⟩ : ∃ W3, W3 = W2.setCell ⟨tb, 2, none⟩ (.slice A2 lg.length cap2) := ⟨_, rfl⟩
      have T5 : Hid (ThSt W3 F.b0 tb (.slice A2 lg.length cap2) fid caps lg false) := Lib.hid (by
        rw [hW3]
        exact ⟨⟨_, T4.out.set_ 2 _⟩, LG.out.1.upd ((Upd.refl [tb] _).setCell (by simp) _) (fun b hb hm => by simp at hm; subst hm; exact htn3.out hb), LG.out.2⟩)
      have U5 : Hid (Upd [tb] W2 W3) := Lib.hid (by rw [hW3]; exact (Upd.refl _ _).setCell (by simp) _)
      rw [← hW3]
      clear hW3 f1 f2
      refine (is_nil _ _).mono ?_; rintro e w' ⟨rfl, rfl⟩
      go_wp2_with fail
      refine (is_nil _ _).mono ?_; rintro e w' ⟨rfl, rfl⟩
      go_wp2_with fail
      refine (tend_ok _ T5.out htn3.out).mono ?_; rintro e w' ⟨rfl, h6, u6⟩
      have T6 := Lib.hid h6
      have U6 := Lib.hid u6
      clear h6 u6
      go_wp2_with fail
      go_ret
      have hd1 : (Th.stepT t B).1.done = true := by rw [HDr.out, HAa.out]; rfl
      obtain ⟨F1, lv1, S1, l1, r1, q⟩ := FIN.out _ (by rw [hd1]; exact T6.out) (U5.out.trans U6.out)
      exact ⟨F1, lv1, S1, l1, r1, rfl, q⟩
    · have HAa := Lib.hid ha
      have HV := Lib.hid hv
      rcases hv.form with ⟨_, h⟩ | h
      · omega
      · clear ha hv
        rcases h with ⟨m, rfl⟩ | ⟨g, rfl⟩
        all_goals
          go_wp2_with fail
          refine hK.out _ _ ?_
          clear hK K
          try simp only [Act.put, List.setIfInBounds_toArray, List.set_cons_zero, List.set_cons_succ]
          refine wpT_op (by rfl) (fun K hK => ?_)
          go_wp2_with fail
          refine hK.out _ _ ?_
          clear hK K
          try simp only [Act.put, List.setIfInBounds_toArray, List.set_cons_zero, List.set_cons_succ]
          refine wpT_end ?_
          go_wp2_with fail
          obtain ⟨W3, hW3⟩ : ∃ W3, W3 = W2.setCell ⟨tb, 2, none⟩ (.slice A2 lg.length cap2) := ⟨_, rfl⟩
          have T5 : Hid (ThSt W3 F.b0 tb (.slice A2 lg.length cap2) fid caps lg false) := Lib.hid (by
            rw [hW3]
            exact ⟨⟨_, T4.out.set_ 2 _⟩, LG.out.1.upd ((Upd.refl [tb] _).setCell (by simp) _) (fun b hb hm => by simp at hm; subst hm; exact htn3.out hb), LG.out.2⟩)
          have U5 : Hid (Upd [tb] W2 W3) := Lib.hid (by rw [hW3]; exact (Upd.refl _ _).setCell (by simp) _)
          have E5 := Lib.hid ((HV.out.upd U5.out (by intro x hx; simp at hx; subst hx; omega)).er (by omega))
          rw [← hW3]
          clear hW3 f1 f2
          refine (is_er E5.out _ (by omega)).mono ?_; rintro e w' ⟨rfl, rfl⟩
          go_wp2_with fail
          go_ret
          have hd1 : (Th.stepT t B).1.done = false := by rw [HDr.out, HAa.out]; rfl
          obtain ⟨F1, lv1, S1, l1, r1, q⟩ := FIN.out _ (by rw [hd1]; exact T5.out) U5.out
          exact ⟨F1, lv1, S1, l1, r1, rfl, q⟩
end
end Go.Proofs.YtkldpdldjalpeaaGreatDoor

namespace Go.Proofs.YtkldpdldjalpeaaGreatDoor
open Go.RowKit Th
attribute [local go_sem] litStep_value

section
variable {α : Type} (fid : FuncId) (caps : Array Value) (p : Pg α) (M : World → List Nat → Option α → Prop)
/-- A thread, its body's memory, the blocks. -/
structure TAll (w : World) (F : BFp) (B : BS) (tb : Nat) (lv : Value) (S : List Nat) (l : List En) (r : Option α) (t : TS α) : Prop where
  st : ThSt w F.b0 tb lv fid caps l t.done
  bs : BSt w F B
  ok : ThOk p B l t
  m : M w S r
  a1 : ∀ x ∈ TB tb lv, x ∉ F.l
  a2 : ∀ x ∈ S, x ∉ F.l
  a3 : ∀ x ∈ S, x ∉ TB tb lv
  r0 : t.done = true → r = outP t.p
end
/-- What may have turned. -/
structure TNx (w w' : World) (F F' : BFp) (tb : Nat) (lv lv' : Value) (S S' : List Nat) : Prop where
  up : Upd (F.l ++ TB tb lv ++ S) w w'
  gr : ∀ x ∈ F'.l ++ TB tb lv' ++ S', x ∈ F.l ++ TB tb lv ++ S ∨ w.heap.size ≤ x
  b0 : F'.b0 = F.b0
theorem TNx.refl (w : World) (F : BFp) (tb : Nat) (lv : Value) (S : List Nat) : TNx w w F F tb lv lv S S := ⟨.refl _ _, fun _ h => .inl h, rfl⟩
theorem TNx.trans {w w1 w2 : World} {F F1 F2 : BFp} {tb : Nat} {lv lv1 lv2 : Value} {S S1 S2 : List Nat} (h : TNx w w1 F F1 tb lv lv1 S S1) (k : TNx w1 w2 F1 F2 tb lv1 lv2 S1 S2) : TNx w w2 F F2 tb lv lv2 S S2 :=
  ⟨h.up.trans' k.up h.gr, fun x hx => (k.gr x hx).elim (h.gr x) (fun e => .inr (Nat.le_trans h.up.size e)), k.b0.trans h.b0⟩
section
variable {α : Type} {fid : FuncId} {caps : Array Value} {p : Pg α} {Bad : α → Prop} {J : BS → Prop} {M : World → List Nat → Option α → Prop}
theorem tstep' (BO : BodyOk fid caps p Bad J M) (MO : MemOk M) {F : BFp} {B : BS} {tb : Nat} {lv : Value} {l : List En} {t : TS α} {S : List Nat} {r0 : Option α} (w : World)
    (h : TAll fid caps p M w F B tb lv S l r0 t) (hJ : J B) (hlen : l.length < 6000) (hbad : ∀ a, (Th.stepT t B).1.p = .ret a → ¬ Bad a) :
    Calls Tryz.prog 11 #[.pointer (some ⟨tb, 0, none⟩)] w fun e w' => e = .returned .nilIface ∧ ∃ F' lv' S' l' r', TAll fid caps p M w' F' (Th.stepT t B).2 tb lv' S' l' r' (Th.stepT t B).1 ∧ TNx w w' F F' tb lv lv' S S' ∧ l'.length ≤ l.length + 1 ∧ ∀ q, q ∈ B.sz → q ∈ (Th.stepT t B).2.sz := by
  refine (tstep_ok BO MO w h.st h.bs hJ h.ok h.m hlen h.a1 h.a2 h.a3 hbad h.r0).mono ?_
  rintro e w' ⟨F', lv', S', l', r', rfl, b1, b2, b3, b4, b5, b6, b7, b8, b9, c1, c2, c3, c4⟩
  exact ⟨rfl, F', lv', S', l', r', ⟨b1, b3, b4, b5, c1, c2, c3, b6⟩, ⟨b8, b9, b2⟩, b7, c4⟩
/-- What holds along a run of one thread. -/
structure Going (Bad : α → Prop) (J : BS → Prop) (G : TS α → BS → Prop) : Prop where
  step : ∀ t B, G t B → t.done = false → G (Th.stepT t B).1 (Th.stepT t B).2
  bad : ∀ t B a, G t B → t.p = .ret a → ¬ Bad a
  j : ∀ t B, G t B → J B
theorem solo_succ {n : Nat} {t : TS α} {B : BS} (h : t.done = false) : soloT (n + 1) t B = soloT n (Th.stepT t B).1 (Th.stepT t B).2 := by
  rw [soloT.eq_def]
  simp only [h]
  rfl
theorem solo_isdone : ∀ {n : Nat} {t : TS α} {B : BS}, t.done = true → soloT n t B = (t, B)
  | 0, _, _, _ => rfl
  | n + 1, t, B, h => by rw [soloT.eq_def]; simp only [h, if_true]
/-- What a run leaves. -/
def RunPost (fid : FuncId) (caps : Array Value) (p : Pg α) (M : World → List Nat → Option α → Prop) (G : TS α → BS → Prop) (w : World) (F : BFp) (B : BS) (tb : Nat) (lv : Value) (S : List Nat) (l : List En) (t : TS α) (n : Nat) (w' : World) : Prop :=
  ∃ F' lv' S' l' r', TAll fid caps p M w' F' (soloT n t B).2 tb lv' S' l' r' (soloT n t B).1 ∧ TNx w w' F F' tb lv lv' S S' ∧ l'.length ≤ l.length + n ∧ (G (soloT n t B).1 (soloT n t B).2) ∧ ∀ q, q ∈ B.sz → q ∈ (soloT n t B).2.sz
set_option maxRecDepth 20000 in
set_option maxHeartbeats 2000000 in
theorem trun_ok (BO : BodyOk fid caps p Bad J M) (MO : MemOk M) {G : TS α → BS → Prop} (HG : Going Bad J G) {F : BFp} {B : BS} {tb : Nat} {lv : Value} {l : List En} {t : TS α} {S : List Nat} {r0 : Option α} (w : World) (n : Nat)
    (h : TAll fid caps p M w F B tb lv S l r0 t) (hg : G t B) (hlen : l.length + n < 6000) :
    Calls Tryz.prog 13 #[.pointer (some ⟨tb, 0, none⟩), .int .i64 n] w fun e w' => e = .returned .nilIface ∧ RunPost fid caps p M G w F B tb lv S l t n w' := by
  have H0 := Lib.hid h
  have HBO := Lib.hid BO
  have HMO := Lib.hid MO
  have HGG := Lib.hid HG
  have Hg := Lib.hid hg
  have HL := Lib.hid hlen
  have hn6 : (n : Int) < 6000 := by omega
  clear BO MO HG h hg hlen
  go_enter Tryz.func13, Tryz.ntmps13
  go_wp2_with fail
  refine (terr_ok w H0.out.st).mono ?_; rintro e w' ⟨rfl, rfl⟩
  go_wp2_with fail
  go_loopw [5, 6] (fun ev u wr => ∃ (j : Nat) (tj : TS α) (Bj : BS) (Fj : BFp) (lj : Value) (Sj : List Nat) (gj : List En) (rj : Option α), ev = .nilIface ∧ u = .int .i64 j ∧ j ≤ n ∧ Hid (TAll fid caps p M wr Fj Bj tb lj Sj gj rj tj) ∧ Hid (TNx w wr F Fj tb lv lj S Sj) ∧ Hid (soloT (n - j) tj Bj = soloT n t B ∧ G tj Bj ∧ gj.length ≤ l.length + j ∧ ∀ q, q ∈ B.sz → q ∈ Bj.sz)) (fun _ u _ => n - (intOf u).toNat)
  case atStart => exact ⟨0, t, B, F, lv, S, l, r0, rfl, rfl, by omega, H0, Lib.hid (.refl _ _ _ _ _), Lib.hid ⟨rfl, Hg.out, by omega, fun _ h => h⟩⟩
  case round =>
    obtain ⟨j, tj, Bj, Fj, lj, Sj, gj, rj, rfl, rfl, hj, KA, KN, KR⟩ := hrel
    have HJ := Lib.hid hj
    by_cases hlt : j < n
    · have hji : (j : Int) < n := by omega
      have hdc : decide ((j : Int) < n) = true := by simpa using hlt
      clear hj hlt
      go_wp2_with fail
      refine (tdone_ok wr KA.out.st).mono ?_; rintro e w' ⟨rfl, rfl⟩
      cases hd : tj.done with
      | false =>
        have HD := Lib.hid hd
        clear hd
        go_wp2_with fail
        have hst := HGG.out.step _ _ KR.out.2.1 HD.out
        refine (tstep' HBO.out HMO.out wr KA.out (HGG.out.j _ _ KR.out.2.1) (by have := KR.out.2.2.1; have := HL.out; omega) (fun a ha => HGG.out.bad _ _ a hst ha)).mono ?_
        rintro e w2 ⟨rfl, F', lv', S', l', r', g1, g2, g3, g4⟩
        have G1 := Lib.hid g1
        have G2 := Lib.hid (KN.out.trans g2)
        have GR : Hid (soloT (n - (j + 1)) (Th.stepT tj Bj).1 (Th.stepT tj Bj).2 = soloT n t B ∧ G (Th.stepT tj Bj).1 (Th.stepT tj Bj).2 ∧ l'.length ≤ l.length + (j + 1) ∧ ∀ q, q ∈ B.sz → q ∈ (Th.stepT tj Bj).2.sz) := Lib.hid ⟨by
          rw [← solo_succ HD.out, show n - (j + 1) + 1 = n - j by omega]; exact KR.out.1, hst, by have := KR.out.2.2.1; omega, fun q hq => g4 q (KR.out.2.2.2 q hq)⟩
        clear g1 g2 g3 g4 hst
        go_wp2_with fail
        go_round
        case rel => exact ⟨j + 1, _, _, F', lv', S', l', r', rfl, by simp, by omega, G1, G2, GR⟩
        case measure => simp [intOf]; omega
      | true =>
        have HD := Lib.hid hd
        have fb := (KA.out.st.hdr.choose_spec).facts
        have hb0 : Fj.b0 = Fj.b0 := rfl
        clear hd hb0
        go_wp2_with fail
        go_ret
        have hs := KR.out.1
        rw [solo_isdone HD.out] at hs
        have e1 : tj = (soloT n t B).1 := congrArg Prod.fst hs
        have e2 : Bj = (soloT n t B).2 := congrArg Prod.snd hs
        refine ⟨rfl, ?_⟩
        unfold RunPost
        rw [← e1, ← e2]
        exact ⟨Fj, lj, Sj, gj, rj, KA.out, KN.out, by have := KR.out.2.2.1; omega, KR.out.2.1, KR.out.2.2.2⟩
    · have hji : ¬ ((j : Int) < n) := by omega
      have e : j = n := by omega
      have fb := (KA.out.st.hdr.choose_spec).facts
      clear hj hlt
      go_wp2_with fail
      go_ret
      have hs := KR.out.1
      rw [show n - j = 0 by omega] at hs
      have e1 : tj = (soloT n t B).1 := congrArg Prod.fst hs
      have e2 : Bj = (soloT n t B).2 := congrArg Prod.snd hs
      refine ⟨rfl, ?_⟩
      unfold RunPost
      rw [← e1, ← e2]
      exact ⟨Fj, lj, Sj, gj, rj, KA.out, KN.out, by have := KR.out.2.2.1; omega, KR.out.2.1, KR.out.2.2.2⟩
end
end Go.Proofs.YtkldpdldjalpeaaGreatDoor

namespace Go.Proofs.YtkldpdldjalpeaaGreatDoor
open Go.RowKit Th
attribute [local go_sem] litStep_value

section
variable {α : Type}
/-- A closure of a Ctx alone that is a body. -/
structure DoOk (fid : FuncId) (caps : Array Value) (p : Pg α) (Bad : α → Prop) (J : BS → Prop) (M : World → List Nat → Option α → Prop) : Prop where
  ent : ∀ args w, (callFunc fid args).run Tryz.prog w = .ok (.enter fid args) w
  run : ∀ (w : World) (F : BFp) (cb : Nat) (lv : Value) (c : CS) (S : List Nat) (r0 : Option α), CSt w F cb lv c → J c.B → M w S r0 → (∀ x ∈ S, x ∉ SS F cb lv) → (∀ a, (Th.run p c).1 = some a → ¬ Bad a) →
    Calls Tryz.prog fid (#[.pointer (some ⟨cb, 0, none⟩)] ++ caps) w fun e w' => ∃ lv' v, e = .returned v ∧ CSt w' F cb lv' (Th.run p c).2 ∧ Upd (S ++ SS F cb lv) w w' ∧ (∀ x ∈ SS F cb lv', x ∈ SS F cb lv ∨ w.heap.size ≤ x) ∧ M w' S (Th.run p c).1 ∧ BdV w' w.heap.size v (Th.run p c).1
/-- What alone's closure keeps. -/
def MAlo (ab : Nat) (fid : FuncId) (caps : Array Value) (S0 : List Nat) (M : World → List Nat → Option α → Prop) (w : World) (S : List Nat) (r : Option α) : Prop :=
  S = ab :: S0 ∧ ab ∉ S0 ∧ Blk w ab 48 #[.func (.func fid) #[] caps] ∧ M w S0 r
theorem malo_ok {ab : Nat} {fid : FuncId} {caps : Array Value} {S0 : List Nat} {M : World → List Nat → Option α → Prop} (MO : MemOk M) : MemOk (MAlo ab fid caps S0 M) := by
  refine ⟨fun w w' T S r h hu hT => ?_, fun w S r h x hx => ?_⟩
  · obtain ⟨rfl, h1, h2, h3⟩ := h
    exact ⟨rfl, h1, h2.upd hu (fun hm => hT _ hm (by simp)), MO.fr _ _ _ _ _ h3 hu (fun x hx hm => hT x hx (by simp [hm]))⟩
  · obtain ⟨rfl, h1, h2, h3⟩ := h
    rcases List.mem_cons.1 hx with rfl | hx
    · exact h2.lt
    · exact MO.lt _ _ _ h3 x hx
variable {fid : FuncId} {caps : Array Value} {p : Pg α} {Bad : α → Prop} {J : BS → Prop} {M : World → List Nat → Option α → Prop}
set_option maxRecDepth 20000 in
theorem alone1_ok (MO : MemOk M) (D : DoOk fid caps p Bad J M) (ab : Nat) (S0 : List Nat) : BodyOk 36 #[.pointer (some ⟨ab, 0, none⟩)] p Bad J (MAlo ab fid caps S0 M) where
  ent := fun _ _ => rfl
  run := fun w F cb lv c S r0 h _ _ hJ _ hM hS hf => by
    have HLT := Lib.hid (MO.lt w S0 r0 hM.2.2.2)
    obtain ⟨rfl, h1, h2, h3⟩ := hM
    have ent := D.ent
    have HD := Lib.hid (D.run w F cb lv c S0 r0 h hJ h3 (fun x hx => hS x (by simp [hx])) hf)
    have f := h2.facts
    have H2 := Lib.hid h2
    have H1 := Lib.hid h1
    have HS := Lib.hid hS
    clear h hJ h3 hf h1 h2 hS D
    simp only [List.append_toArray, List.cons_append, List.nil_append]
    go_enter Tryz.func36, Tryz.ntmps36
    go_wp2_with fail
    refine HD.out.mono ?_
    rintro e w' ⟨lv', v, rfl, g1, g2, g3, g4, g5⟩
    have HG : Hid (_ ∧ _ ∧ _ ∧ _ ∧ _) := Lib.hid ⟨g1, g2, g3, g4, g5⟩
    clear g1 g2 g3 g4 g5
    go_wp2_with fail
    go_ret
    obtain ⟨g1, g2, g3, g4, g5⟩ := HG.out
    refine ⟨F, lv', ab :: S0, v, rfl, g1, rfl, g2.mono (fun x hx => .inl (by simp only [List.cons_append, List.mem_cons]; exact .inr hx)), fun x hx => ?_, fun x hx hm => ?_, ⟨rfl, H1.out, H2.out.upd g2 (fun hm => ?_), g4⟩, g5⟩
    · rcases List.mem_append.1 hx with hx | hx
      · exact .inl (List.mem_append_left _ hx)
      · exact (g3 x hx).imp (fun h => by simp [h]) id
    · rcases g3 x hm with h | h
      · exact HS.out x hx h
      · rcases List.mem_cons.1 hx with rfl | hx'
        · have := H2.out.lt; omega
        · have := HLT.out x hx'; omega
    · rcases List.mem_append.1 hm with hm | hm
      · exact H1.out hm
      · exact HS.out ab (by simp) hm
theorem goodE_j {a : α} {B' : BS} {D : Nat} {qs : List (Nat × Nat)} {ts : List (TS α)} {B : BS} (h : GoodE a B' D qs (ts, B)) : ∀ q ∈ qs, q ∈ B.sz := h.2.1
/-- One body alone: it comes to its end, without an error. -/
theorem alone_ok (MO : MemOk M) {a : α} {B B' : BS} {n Dp : Nat} {qs : List (Nat × Nat)} (D : DoOk fid caps p Bad (fun B => ∀ q ∈ qs, q ∈ B.sz) M) {F : BFp} {S : List Nat} {r0 : Option α} (w : World) (hB : BSt w F B) (hM : M w S r0) (hS : ∀ x ∈ S, x ∉ F.l)
    (hex : exec n p B = some (a, B')) (hd : Dep p Dp) (hDp : Dp < 500) (hq : ∀ q ∈ qs, q ∈ B.sz) (hbad : ¬ Bad a) :
    Calls Tryz.prog 15 #[.pointer (some ⟨F.b0, 0, none⟩), .func (.func fid) #[] caps] w fun e w' => e = .returned (.int .i64 0) ∧ ∃ F', BSt w' F' B' ∧ M w' S (some a) ∧ F'.b0 = F.b0 ∧ Upd (F.l ++ S) w w' ∧ (∀ x ∈ F'.l, x ∈ F.l ∨ w.heap.size ≤ x) ∧ (∀ x ∈ S, x ∉ F'.l) := by
  have HB := Lib.hid hB
  have HM := Lib.hid hM
  have HS := Lib.hid hS
  have HE := Lib.hid hex
  have HDp := Lib.hid hd
  have H500 := Lib.hid hDp
  have HQ := Lib.hid hq
  have HBad := Lib.hid hbad
  have HMO := Lib.hid MO
  have HDo := Lib.hid D
  clear hB hM hS hex hd hDp hq hbad MO D
  go_enter Tryz.func15, Tryz.ntmps15
  go_wp2_with fail
  obtain ⟨w1, hw1⟩ : ∃ w1, w1 = w.alloc (Obj.cells #[.func (.func fid) #[] caps] 48) := ⟨_, rfl⟩
  have U1 : Hid (Upd [] w w1) := Lib.hid (by rw [hw1]; exact (Upd.refl _ _).alloc _)
  have X1 : Hid (Blk w1 w.heap.size 48 #[.func (.func fid) #[] caps]) := Lib.hid (by rw [hw1]; exact Blk.new _ _ _)
  rw [← hw1]
  clear hw1
  refine (tnew_ok w1 (HB.out.upd U1.out (by simp)) 36 _).mono ?_
  rintro e w2 ⟨tb, rfl, t1, t2, t3, t4⟩
  have hlt1 := HB.out.lt
  have hltS := HMO.out.lt _ _ _ HM.out
  have T0 : Hid (TAll 36 #[.pointer (some ⟨w.heap.size, 0, none⟩)] p (MAlo w.heap.size fid caps S M) w2 F B tb (.slice none 0 0) (w.heap.size :: S) [] r0 ⟨p, false⟩) := Lib.hid (by
    refine ⟨t1, (HB.out.upd U1.out (by simp)).upd t2 (by simp), ThOk.start _ _, ⟨rfl, fun hm => ?_, X1.out.upd t2 (by simp), HMO.out.fr _ _ _ _ _ HM.out (U1.out.trans t2) (by simp)⟩, fun x hx hm => ?_, fun x hx hm => ?_, fun x hx hm => ?_, fun h => (by cases h)⟩
    · have := hltS _ hm; omega
    · simp [TB, Value.ownBlock] at hx
      subst hx
      have := hlt1 _ hm
      have := U1.out.size
      omega
    · rcases List.mem_cons.1 hx with rfl | hx
      · have := hlt1 _ hm; omega
      · exact HS.out x hx hm
    · simp [TB, Value.ownBlock] at hm
      subst hm
      have := U1.out.size
      have := X1.out.lt
      rcases List.mem_cons.1 hx with hx | hx
      · omega
      · have := hltS _ hx; omega)
  have U2 := Lib.hid (U1.out.trans t2)
  have TB2 : Hid (w.heap.size ≤ tb) := Lib.hid (Nat.le_trans U1.out.size t3)
  clear t1 t2 t3 t4
  go_wp2_with fail
  have HG : Going (α := α) Bad (fun B => ∀ q ∈ qs, q ∈ B.sz) (fun t B => GoodE a B' Dp qs ([t], B)) := ⟨fun t B h hd => by
      have := goodE_step _ 0 h
      rwa [show sysStep [t] B 0 = _ from sysStep_at (B := B) (t := t) rfl] at this, fun t B b h hp => by
      have := goodE_bad (i := 0) h rfl hp
      rw [this]; exact HBad.out, fun t B h => h.2.1⟩
  refine (trun_ok (alone1_ok HMO.out HDo.out w.heap.size S) (malo_ok HMO.out) HG w2 500 T0.out (goodE_start HE.out HDp.out HQ.out) (by simp)).mono ?_
  rintro e w3 ⟨rfl, F', lv', S', l', r', g1, g2, g3, g4, g5⟩
  have hsolo : soloT 500 ⟨p, false⟩ B = (⟨.ret a, true⟩, B') := by
    have := exec_whole (m := 500) HE.out HDp.out H500.out []
    rw [solo_whole] at this
    injection this with h1 h2
    injection h1 with h1
    exact Prod.ext h1 h2
  rw [hsolo] at g1
  obtain ⟨p1, p2, p3, p4, p5, p6, p7, p8⟩ := g1
  obtain rfl : r' = some a := p8 rfl
  obtain ⟨rfl, m1, m2, m3⟩ := p4
  have hold : ∀ x ∈ F.l ++ TB tb (.slice none 0 0) ++ (w.heap.size :: S), x ∈ F.l ++ S ∨ w.heap.size ≤ x := by
    intro x hx
    simp only [List.mem_append, TB, Value.ownBlock, Option.toList, List.mem_cons, List.not_mem_nil, or_false] at hx ⊢
    rcases hx with (hx | hx) | hx | hx
    · exact .inl (.inl hx)
    · subst hx; exact .inr TB2.out
    · omega
    · exact .inl (.inr hx)
  have FIN : Hid (∃ F', BSt w3 F' B' ∧ M w3 S (some a) ∧ F'.b0 = F.b0 ∧ Upd (F.l ++ S) w w3 ∧ (∀ x ∈ F'.l, x ∈ F.l ∨ w.heap.size ≤ x) ∧ (∀ x ∈ S, x ∉ F'.l)) := Lib.hid (by
    refine ⟨F', p2, m3, g2.b0, (U2.out.mono (by simp)).trans' g2.up hold, fun x hx => ?_, fun x hx => p6 x (by simp [hx])⟩
    rcases g2.gr x (by simp [hx]) with h | h
    · rcases hold x h with h | h
      · rcases List.mem_append.1 h with h | h
        · exact .inl h
        · exact absurd hx (p6 x (by simp [h]))
      · exact .inr h
    · exact .inr (Nat.le_trans U2.out.size h))
  clear g2 g3 g4 g5 p1 p2 p3 p5 p6 p7 p8 m1 m2 m3 hold hsolo hlt1 hltS
  go_wp2_with fail
  refine (no_nil _).mono ?_; rintro e w' ⟨rfl, rfl⟩
  go_wp2_with fail
  go_ret
  exact ⟨rfl, FIN.out⟩
end
end Go.Proofs.YtkldpdldjalpeaaGreatDoor

namespace Go.Proofs.YtkldpdldjalpeaaGreatDoor.Th

/-- Three cells and a room; the cells' values are free. -/
def RB3 (m0 v0 m1 v1 m2 v2 r : Int) : BS := ⟨14, [(1, 1), (3, 2), (6, 2), (9, 2), (12, 1)], [0, 3, 0, 5, m0, v0, 5, m1, v1, 5, m2, v2, 3, r] ++ List.replicate 286 0⟩
theorem r3_load_room (m0 v0 m1 v1 m2 v2 r : Int) : ex (RB3 m0 v0 m1 v1 m2 v2 r) (.load 12 0) = (⟨1, 12, 0, r, false⟩, RB3 m0 v0 m1 v1 m2 v2 r) := rfl
theorem r3_cas_room (m0 v0 m1 v1 m2 v2 r o x : Int) : ex (RB3 m0 v0 m1 v1 m2 v2 r) (.cas 12 0 o x) = (⟨3, 12, 0, x, r == o⟩, if r = o then RB3 m0 v0 m1 v1 m2 v2 x else RB3 m0 v0 m1 v1 m2 v2 r) := by
  simp only [ex]
  rw [show (RB3 m0 v0 m1 v1 m2 v2 r).ws.getD (12 + 1 + 0) 0 = r from rfl]
  by_cases h : r = o <;> simp only [h, if_true, if_false] <;> rfl
/-- A cell's reference. -/
def clR (x : Nat) : Nat := 3 + 3 * x
def selI (x : Nat) (a b c : Int) : Int := if x = 0 then a else if x = 1 then b else c
def putI (x y : Nat) (v a : Int) : Int := if x = y then v else a
theorem r3_load_meta {x : Nat} (hx : x < 3) (m0 v0 m1 v1 m2 v2 r : Int) : ex (RB3 m0 v0 m1 v1 m2 v2 r) (.load (clR x) 0) = (⟨1, clR x, 0, selI x m0 m1 m2, false⟩, RB3 m0 v0 m1 v1 m2 v2 r) := by
  have h : x = 0 ∨ x = 1 ∨ x = 2 := by omega
  rcases h with rfl | rfl | rfl <;> rfl
theorem r3_store_meta {x : Nat} (hx : x < 3) (m0 v0 m1 v1 m2 v2 r m : Int) : (ex (RB3 m0 v0 m1 v1 m2 v2 r) (.store (clR x) 0 m)).2 = RB3 (putI x 0 m m0) v0 (putI x 1 m m1) v1 (putI x 2 m m2) v2 r := by
  have h : x = 0 ∨ x = 1 ∨ x = 2 := by omega
  rcases h with rfl | rfl | rfl <;> rfl
theorem r3_store_val {x : Nat} (hx : x < 3) (m0 v0 m1 v1 m2 v2 r v : Int) : (ex (RB3 m0 v0 m1 v1 m2 v2 r) (.store (clR x) 1 v)).2 = RB3 m0 (putI x 0 v v0) m1 (putI x 1 v v1) m2 (putI x 2 v v2) r := by
  have h : x = 0 ∨ x = 1 ∨ x = 2 := by omega
  rcases h with rfl | rfl | rfl <;> rfl
theorem r3_cas_meta {x : Nat} (hx : x < 3) (m0 v0 m1 v1 m2 v2 r o m : Int) : ex (RB3 m0 v0 m1 v1 m2 v2 r) (.cas (clR x) 0 o m) = (⟨3, clR x, 0, m, selI x m0 m1 m2 == o⟩, if selI x m0 m1 m2 = o then RB3 (putI x 0 m m0) v0 (putI x 1 m m1) v1 (putI x 2 m m2) v2 r else RB3 m0 v0 m1 v1 m2 v2 r) := by
  have h : x = 0 ∨ x = 1 ∨ x = 2 := by omega
  rcases h with rfl | rfl | rfl
  · simp only [ex]
    rw [show (RB3 m0 v0 m1 v1 m2 v2 r).ws.getD (clR 0 + 1 + 0) 0 = m0 from rfl, show selI 0 m0 m1 m2 = m0 from rfl]
    by_cases h : m0 = o <;> simp only [h, if_true, if_false] <;> rfl
  · simp only [ex]
    rw [show (RB3 m0 v0 m1 v1 m2 v2 r).ws.getD (clR 1 + 1 + 0) 0 = m1 from rfl, show selI 1 m0 m1 m2 = m1 from rfl]
    by_cases h : m1 = o <;> simp only [h, if_true, if_false] <;> rfl
  · simp only [ex]
    rw [show (RB3 m0 v0 m1 v1 m2 v2 r).ws.getD (clR 2 + 1 + 0) 0 = m2 from rfl, show selI 2 m0 m1 m2 = m2 from rfl]
    by_cases h : m2 = o <;> simp only [h, if_true, if_false] <;> rfl

/-! The ghost. -/
structure St where
  who : Nat → Option Nat
  wt : Nat → Bool
  p : Nat → Nat
  tk : Nat → Bool
def St.room (s : St) : Nat := (s.tk 0).toNat + (s.tk 1).toNat + (s.tk 2).toNat
structure St.WF (nc : Nat) (cj : Nat → Nat) (s : St) : Prop where
  own : ∀ x j, s.who x = some j → j < nc ∧ x = cj j ∧ 1 ≤ s.p j ∧ s.p j ≤ 3
  tkd : ∀ j, s.tk j = true → s.p j = 3 ∧ s.who (cj j) = some j ∧ j < nc
  fin : ∀ j, s.p j = 3 → s.who (cj j) = some j → s.wt (cj j) = true → s.tk j = true
def SW (nc : Nat) (cj : Nat → Nat) : Type := { s : St // s.WF nc cj }
/-- A cell's word. -/
def St.mw (s : St) (x : Nat) : Int := match s.who x with
  | none => if s.wt x = true then 2 else 0
  | some j => if s.p j = 1 then (if s.wt x = true then 259 else 257) else 65536
def IL (nc : Nat) (cj : Nat → Nat) (s : SW nc cj) (B : BS) : Prop := ∃ v0 v1 v2, B = RB3 (s.1.mw 0) v0 (s.1.mw 1) v1 (s.1.mw 2) v2 s.1.room
/-- What thread i may count on: all only grows; its own committer's things stay. -/
structure RLs (ns i : Nat) (s s' : St) : Prop where
  who : ∀ x j, s.who x = some j → s'.who x = some j
  wt : ∀ x, s.wt x = true → s'.wt x = true
  frz : ∀ x j, s.who x = some j → s'.wt x = s.wt x
  tk : ∀ j, s.tk j = true → s'.tk j = true
  own : ∀ j, i = ns + j → s'.p j = s.p j ∧ s'.tk j = s.tk j ∧ ∀ x, s'.who x = some j → s.who x = some j
def RL (nc : Nat) (cj : Nat → Nat) (ns : Nat) (i : Nat) (s s' : SW nc cj) : Prop := RLs ns i s.1 s'.1
theorem RLs.refl (ns i : Nat) (s : St) : RLs ns i s s := ⟨fun _ _ h => h, fun _ h => h, fun _ _ _ => rfl, fun _ h => h, fun _ _ => ⟨rfl, rfl, fun _ h => h⟩⟩
theorem RLs.trans {ns i : Nat} {s s' s'' : St} (h : RLs ns i s s') (k : RLs ns i s' s'') : RLs ns i s s'' :=
  ⟨fun x j e => k.who x j (h.who x j e), fun x e => k.wt x (h.wt x e), fun x j e => (k.frz x j (h.who x j e)).trans (h.frz x j e), fun j e => k.tk j (h.tk j e),
    fun j e => ⟨(k.own j e).1.trans (h.own j e).1, (k.own j e).2.1.trans (h.own j e).2.1, fun x e' => (h.own j e).2.2 x ((k.own j e).2.2 x e')⟩⟩
theorem room_le {s s' : St} (h : ∀ j, s.tk j = true → s'.tk j = true) : s.room ≤ s'.room := by
  have key : ∀ j, (s.tk j).toNat ≤ (s'.tk j).toNat := fun j => by
    cases e : s.tk j with
    | false => simp
    | true => rw [h j e]; exact Nat.le_refl _
  have := key 0; have := key 1; have := key 2
  unfold St.room
  omega
theorem room_lt {s s' : St} (h : ∀ j, s.tk j = true → s'.tk j = true) {j : Nat} (hj : j < 3) (h0 : s.tk j = false) (h1 : s'.tk j = true) : s.room < s'.room := by
  have key : ∀ j, (s.tk j).toNat ≤ (s'.tk j).toNat := fun j => by
    cases e : s.tk j with
    | false => simp
    | true => rw [h j e]; exact Nat.le_refl _
  have k0 := key 0; have k1 := key 1; have k2 := key 2
  have kj : (s.tk j).toNat < (s'.tk j).toNat := by rw [h0, h1]; decide
  unfold St.room
  have : j = 0 ∨ j = 1 ∨ j = 2 := by omega
  rcases this with rfl | rfl | rfl <;> omega
theorem room_3 (s : St) : s.room ≤ 3 := by
  have key : ∀ j, (s.tk j).toNat ≤ 1 := fun j => by cases s.tk j <;> decide
  have := key 0; have := key 1; have := key 2
  unfold St.room
  omega
theorem room_2 {s : St} {j : Nat} (hj : j < 3) (h : s.tk j = false) : s.room ≤ 2 := by
  have key : ∀ j, (s.tk j).toNat ≤ 1 := fun j => by cases s.tk j <;> decide
  have := key 0; have := key 1; have := key 2
  have k : (s.tk j).toNat = 0 := by rw [h]; rfl
  unfold St.room
  have : j = 0 ∨ j = 1 ∨ j = 2 := by omega
  rcases this with rfl | rfl | rfl <;> omega

/-! What comes of it. -/
/-- A cell that a sleeper with ticket t noted. -/
def Noted (s : St) (t : Int) (x : Nat) : Prop := s.wt x = true ∧ ∀ j, s.who x = some j → s.tk j = true → t < s.room
def QSl (cells : List Nat) (a : An) (s : St) : Prop := a.err = 0 ∧ ((0 ≤ a.n ∧ a.n ≤ s.room ∧ ∀ x ∈ cells, Noted s a.n x) ∨ (a.n = -1 ∧ ∃ x j, s.who x = some j))
def QCo (cj : Nat → Nat) (j : Nat) (a : An) (s : St) : Prop := a.err = 0 ∧ ((a.n = 1 ∧ s.p j = 3 ∧ s.who (cj j) = some j) ∨ (a.n = 0 ∧ ∀ x, s.who x ≠ some j))
theorem noted_rel {nc : Nat} {cj : Nat → Nat} {ns i : Nat} {s s' : SW nc cj} (h : RL nc cj ns i s s') (hnc : nc ≤ 3) {t : Int} {x : Nat} (ht : t ≤ s.1.room) (hn : Noted s.1 t x) : Noted s'.1 t x := by
  refine ⟨h.wt x hn.1, fun j hw htk => ?_⟩
  have hle := room_le h.tk
  obtain ⟨_, hx, hj⟩ := s'.2.tkd j htk
  by_cases e : s.1.tk j = true
  · obtain ⟨_, h2, _⟩ := s.2.tkd j e
    have hx2 : x = cj j := (s'.2.own x j hw).2.1
    rw [← hx2] at h2
    have := hn.2 j h2 e
    omega
  · have := room_lt h.tk (j := j) (by omega) (by simpa using e) htk
    omega
theorem qsl_rel {nc : Nat} {cj : Nat → Nat} {ns i : Nat} {s s' : SW nc cj} (h : RL nc cj ns i s s') (hnc : nc ≤ 3) {cells : List Nat} {a : An} (hq : QSl cells a s.1) : QSl cells a s'.1 := by
  refine ⟨hq.1, hq.2.imp (fun ⟨h0, h1, h2⟩ => ?_) fun ⟨h0, x, j, h1⟩ => ⟨h0, x, j, h.who x j h1⟩⟩
  have hle := room_le h.tk
  exact ⟨h0, by omega, fun x hx => noted_rel h hnc h1 (h2 x hx)⟩
theorem qco_rel {nc : Nat} {cj : Nat → Nat} {ns j : Nat} {s s' : SW nc cj} (h : RL nc cj ns (ns + j) s s') {a : An} (hq : QCo cj j a s.1) : QCo cj j a s'.1 := by
  refine ⟨hq.1, hq.2.imp (fun ⟨h0, h1, h2⟩ => ⟨h0, by rw [(h.own j rfl).1]; exact h1, h.who _ _ h2⟩) fun ⟨h0, h1⟩ => ⟨h0, fun x hx => h1 x ((h.own j rfl).2.2 x hx)⟩⟩
def sleeperT (cells : List Nat) : Pg An := (sleepT 12 (cells.map fun x => (clR x, 0))).bind fun a => .ret ⟨0, 0, if a.err = 0 then a.n else -1⟩
def committerT (x : Nat) : Pg An := (turnT (clR x) 0 (lockTo 1) 8).bind fun a => if a.err = 0 then ((commitT (clR x) 7 1).bind fun b => if b.err = 0 then (if b.n = 1 then (wakeT 12).bind fun d => .ret ⟨d.err, 0, 1⟩ else .ret ⟨0, 0, 1⟩) else .ret ⟨b.err, 0, 0⟩) else .ret ⟨0, 0, 0⟩
theorem dep_sleeper (cells : List Nat) : Dep (sleeperT cells) (1 + 16 * cells.length) := by
  have := (dep_sleep 12 (cells.map fun x => (clR x, 0))).bind (f := fun a => .ret (⟨0, 0, if a.err = 0 then a.n else -1⟩ : An)) (m := 0) fun a => .ret _ _
  rwa [List.length_map] at this
theorem dep_commit (cl : Nat) (v n : Int) : Dep (commitT cl v n) 3 := .acc _ _ 2 fun e => by
  split
  · exact .ret _ _
  · exact .acc _ _ 1 fun _ => .acc _ _ 0 fun _ => .ret _ _
theorem dep_committer (x : Nat) : Dep (committerT x) (16 + (3 + 16)) := (dep_turn _ _ _ 8).bind fun a => by
  split
  · exact (dep_commit _ _ _).bind fun b => by
      split
      · split
        · exact (dep_wake 12).bind (m := 0) fun d => .ret _ _
        · exact .ret _ _
      · exact .ret _ _
  · exact .ret _ _
end Go.Proofs.YtkldpdldjalpeaaGreatDoor.Th

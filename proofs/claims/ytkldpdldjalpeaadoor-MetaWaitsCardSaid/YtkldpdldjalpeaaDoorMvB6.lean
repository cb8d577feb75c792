/-
  concordlaw06's Body by contract: a list of calls as a body.
  concordlaw06's run by contract: threads of calls, by picks, and then one after the other.
  A body that runs alone, to its end. No program in sight.
  Package blocks by contracts: New.
-/
import Derived.Test.YtkldpdldjalpeaaDoorMvB5
import Derived.Deep.Cut
import Derived.Deep.CutRange
import Derived.BigQuiet
import Derived.Deep.QuietTactic
import Derived.Test.YtkldpdldjalpeaaDoorMvB4
import Derived.Test.YtkldpdldjalpeaaDoorMvB3
set_option linter.unusedVariables false
namespace Go.Proofs.YtkldpdldjalpeaaDoor
open Go.RowKit Th
attribute [local go_sem] litStep_value

/-- Where a body keeps what it has: its boxes, its calls, its out block. -/
structure MD where
  cs : List Cl
  sv : Value
  xl : Nat
  xc : Nat
  xk : Nat
  xo : Nat
  ob : Nat
structure MRow (ck cl kb : Nat) (w : World) (m : MD) (S : List Nat) (r : Option (Option (List An))) (z : Option Value) : Prop where
  b1 : Blk w m.xl 32 #[m.sv]
  b2 : Blk w m.xc 25 #[.slice (some ⟨kb, 0, none⟩) 1 1]
  b3 : Blk w m.xk 24 #[.int .u64 ck]
  b4 : Blk w m.xo 57 #[.pointer (some ⟨m.ob, 0, none⟩)]
  bk : Blk w kb 24 #[.int .u64 cl]
  cs : Ow ClE 31 w 0 m.sv m.cs
  out : ∃ ov L, Blk w m.ob 59 #[ov] ∧ Ow AnE 38 w 0 ov L ∧ (∀ b, ov.ownBlock = some b → b ∈ S) ∧ (∀ l, r = some (some l) → L = l) ∧ ∀ v, z = some v → ov = v
  mem : (m.xl ∈ S ∧ m.xc ∈ S ∧ m.xk ∈ S ∧ m.xo ∈ S ∧ m.ob ∈ S ∧ kb ∈ S) ∧ ∀ b, m.sv.ownBlock = some b → b ∈ S
theorem MRow.upd {ck cl kb : Nat} {w w' : World} {m : MD} {S T : List Nat} {r : Option (Option (List An))} {z : Option Value} (h : MRow ck cl kb w m S r z) (hu : Upd T w w') (hT : ∀ x ∈ T, x ∉ S) : MRow ck cl kb w' m S r z := by
  obtain ⟨h1, h2, h3, h4, h5, h6⟩ := h.mem.1
  have hn : ∀ x, x ∈ S → x ∉ T := fun x hx hm => hT x hm hx
  refine ⟨h.b1.upd hu (hn _ h1), h.b2.upd hu (hn _ h2), h.b3.upd hu (hn _ h3), h.b4.upd hu (hn _ h4), h.bk.upd hu (hn _ h6), h.cs.upd hu (fun b hb => hn _ (h.mem.2 b hb)), ?_, h.mem⟩
  obtain ⟨ov, L, g1, g2, g3, g4⟩ := h.out
  exact ⟨ov, L, g1.upd hu (hn _ h5), g2.upd hu (fun b hb => hn _ (g3 b hb)), g3, g4⟩
/-- What all bodies keep. -/
structure M06 (ck cl kb : Nat) (ms : List MD) (fz : Nat → Option Value) (w : World) (S : List Nat) (rs : List (Option (List An))) : Prop where
  row : ∀ (i : Nat) m, ms[i]? = some m → MRow ck cl kb w m S rs[i]? (fz i)
  lt : ∀ x ∈ S, x < w.heap.size
  ap : ∀ (i j : Nat) m m', i ≠ j → ms[i]? = some m → ms[j]? = some m' → m.ob ≠ m'.ob
theorem m06_ok (ck cl kb : Nat) (ms : List MD) (fz : Nat → Option Value) : MemAll (M06 ck cl kb ms fz) :=
  ⟨fun w w' T S rs h hu hT => ⟨fun i m hm => (h.row i m hm).upd hu hT, fun x hx => Nat.lt_of_lt_of_le (h.lt x hx) hu.size, h.ap⟩, fun w S rs h => h.lt⟩
def JC (ck cl : Nat) (B : BS) : Prop := (ck, 1) ∈ B.sz ∧ (cl, 2) ∈ B.sz
theorem ans_elem : Elem Tryd.prog 36 38 3 24 := .mk' (z := ((Tryd.prog.info? 38).bind (·.zero)).getD undef) Tryd.underlying36 (by kernel_rfl) (by kernel_rfl) (by omega)
/-- The answers so far, apart from what the accesses turn. -/
structure Got (w0 w : World) (F : BFp) (cb : Nat) (lv av : Value) (l : List An) : Prop where
  ow : Ow AnE 38 w w0.heap.size av l
  ap : ∀ b, av.ownBlock = some b → b ∉ SS F cb lv
/-- Is the list to end here? -/
def Cut (x : Cl) (l : List An) : Prop := x.kind = 9 ∧ ∃ a, l.getLast? = some a ∧ a.err ≠ 0
instance (x : Cl) (l : List An) : Decidable (Cut x l) := by
  unfold Cut
  cases l.getLast? with
  | none => exact isFalse (by simp)
  | some a => exact decidable_of_iff (x.kind = 9 ∧ a.err ≠ 0) (by simp)
def Ne11 (a : An) : Prop := a.err ≠ 11
theorem ne11_tick (ck : Nat) : ∀ n, RetAll Ne11 (tickT ck n)
  | 0 => by simp [tickT, RetAll, Ne11]
  | n + 1 => fun e d => by
    dsimp only
    split
    · simp [RetAll, Ne11]
    · exact ne11_tick ck n
theorem ne11_turn (cl : Nat) (ver : Int) (tf : Mt → Mt) : ∀ n, RetAll Ne11 (turnT cl ver tf n)
  | 0 => by simp [turnT, RetAll, Ne11]
  | n + 1 => fun e => by
    dsimp only
    split
    · simp [RetAll, Ne11]
    · split
      · simp [RetAll, Ne11]
      · intro d
        dsimp only
        split
        · simp [RetAll, Ne11]
        · exact ne11_turn cl ver tf n
theorem ne11_read (cl : Nat) : ∀ n w, RetAll Ne11 (readL cl n w)
  | 0, w => by simp [readL, RetAll, Ne11]
  | n + 1, w => by
    unfold readL
    split
    · simp [RetAll, Ne11]
    · intro f g
      dsimp only
      split
      · simp [RetAll, Ne11]
      · exact ne11_read cl n _
theorem ne11_ans (ck cl : Nat) (x : Cl) : RetAll Ne11 (ansT ck cl x) := by
  unfold ansT
  split
  · exact fun e => by simp [RetAll, Ne11]
  split
  · exact ne11_tick ck 8
  split
  · exact fun e => ne11_read cl 7 _
  split
  · exact ne11_turn cl _ _ 8
  split
  · intro e
    dsimp only
    split
    · simp [RetAll, Ne11]
    · intro _ _
      simp [RetAll, Ne11]
  split
  · intro e
    dsimp only
    split
    · simp [RetAll, Ne11]
    · intro _
      simp [RetAll, Ne11]
  split
  · exact ne11_turn cl _ _ 8
  · simp [RetAll, Ne11]
theorem body_fin {w w1 : World} {F : BFp} {cb : Nat} {lv lj av ov : Value} {cj : CS} {m : MD} {S : List Nat} {L : List An} (hob : Blk w1 m.ob 59 #[ov]) (h1 : CSt w1 F cb lj cj) (h2 : CNx w w1 F F cb lv lj) (h3 : Got w w1 F cb lj av L) (hS : ∀ x ∈ S, x ∉ SS F cb lj) (hm : m.ob ∈ S) :
    CSt (w1.setCell ⟨m.ob, 0, none⟩ av) F cb lj cj ∧ Upd (m.ob :: SS F cb lv) w (w1.setCell ⟨m.ob, 0, none⟩ av) ∧ (∀ x ∈ SS F cb lj, x ∈ SS F cb lv ∨ w.heap.size ≤ x) ∧ Blk (w1.setCell ⟨m.ob, 0, none⟩ av) m.ob 59 #[av] ∧ Got w (w1.setCell ⟨m.ob, 0, none⟩ av) F cb lj av L := by
  have hu : Upd [m.ob] w1 (w1.setCell ⟨m.ob, 0, none⟩ av) := (Upd.refl _ _).setCell (by simp) _
  refine ⟨h1.far hu (fun x hx => by simp at hx; subst hx; exact hS _ hm), (h2.up.mono (fun x hx => .inl (by simp [hx]))).trans' hu (by simp), h2.gr, hob.set_ 0 av, ⟨h3.ow.upd hu (fun b hb hm => ?_), h3.ap⟩⟩
  simp at hm
  subst hm
  exact own_type h3.ow hob (by decide) hb
/-- What a body leaves. -/
def BodPost (ck cl : Nat) (F : BFp) (cb : Nat) (lv : Value) (c : CS) (m : MD) (w : World) (v : Value) (w' : World) : Prop :=
  ∃ lv' av L, CSt w' F cb lv' (run (bodyT ck cl m.cs []) c).2 ∧ Upd (m.ob :: SS F cb lv) w w' ∧ (∀ x ∈ SS F cb lv', x ∈ SS F cb lv ∨ w.heap.size ≤ x) ∧
      Blk w' m.ob 59 #[av] ∧ Got w w' F cb lv' av L ∧ (∀ l, (run (bodyT ck cl m.cs []) c).1 = some l → L = l) ∧ BdV w' w.heap.size v (run (bodyT ck cl m.cs []) c).1
theorem stoppedM {p : Prop} (h : Hid p) : p := h.out
theorem drop_at {α : Type} {l : List α} {j : Nat} {x : α} (h : l[j]? = some x) : l.drop j = x :: l.drop (j + 1) := by
  obtain ⟨hj, e⟩ := List.getElem?_eq_some_iff.1 h
  rw [List.drop_eq_getElem_cons hj, e]
set_option maxRecDepth 20000 in
set_option maxHeartbeats 4000000 in
theorem body1_ok (ck cl kb : Nat) {F : BFp} {cb : Nat} {lv : Value} {c : CS} {S : List Nat} {r : Option (Option (List An))} {z : Option Value} (m : MD) (w : World) (h : CSt w F cb lv c) (hJ : JC ck cl c.B) (hM : MRow ck cl kb w m S r z) (hlt : ∀ x ∈ S, x < w.heap.size) (hS : ∀ x ∈ S, x ∉ SS F cb lv)
    (hc : ∀ x ∈ m.cs, OkC x) (hl : m.cs.length ≤ 1000) (hf : ∀ a, (run (bodyT ck cl m.cs []) c).1 = some a → Fine a) :
    Calls Tryd.prog 28 #[.pointer (some ⟨cb, 0, none⟩), .int .i64 0, .pointer (some ⟨m.xl, 0, none⟩), .pointer (some ⟨m.xc, 0, none⟩), .pointer (some ⟨m.xk, 0, none⟩), .pointer (some ⟨m.xo, 0, none⟩)] w fun e w' => ∃ v, e = .returned v ∧ BodPost ck cl F cb lv c m w v w' := by
  obtain ⟨A, n0, hsv⟩ := hM.cs.rd.form
  have H0 := Lib.hid h
  have HM := Lib.hid hM
  have HJ := Lib.hid hJ
  have HLT := Lib.hid hlt
  have HSS := Lib.hid hS
  have HC := Lib.hid hc
  have HL := Lib.hid hl
  have HF := Lib.hid hf
  have HSV := Lib.hid hsv
  have b1 := hM.b1
  rw [hsv] at b1
  have f1 := b1.facts
  clear h hM hJ hlt hS hc hl hf hsv b1
  go_enter Tryd.func28, Tryd.ntmps28
  go_wp2_with fail
  clear f1
  go_loopw [9, 17] (fun u9 u17 wr => ∃ (j : Nat) (cj : CS) (lj av : Value) (L : List An), u9 = av ∧ u17 = .int .i64 j ∧ j ≤ m.cs.length ∧ Hid (CSt wr F cb lj cj) ∧ Hid (CNx w wr F F cb lv lj) ∧ Hid (Got w wr F cb lj av L) ∧ Hid (run (bodyT ck cl (m.cs.drop j) L) cj = run (bodyT ck cl m.cs []) c ∧ JC ck cl cj.B ∧ L.length ≤ j)) (fun _ u _ => m.cs.length - (intOf u).toNat)
  case atStart => exact ⟨0, c, lv, _, [], rfl, rfl, by omega, H0, Lib.hid (.refl _ _ _ _), Lib.hid ⟨Ow.nil _ _ _ _, by simp [Value.ownBlock]⟩, Lib.hid ⟨by simp, HJ.out, by simp⟩⟩
  case round =>
    obtain ⟨j, cj, lj, av, L, rfl, rfl, hj, KS, KN, KG, KR⟩ := hrel
    have HJJ := Lib.hid hj
    obtain ⟨A9, n9, hav, _, _⟩ := KG.out.ow.form
    obtain ⟨q, hq⟩ : ∃ q, q = L.length := ⟨_, rfl⟩
    rw [← hq] at hav
    have HQ := Lib.hid hq
    have HAV := Lib.hid hav
    clear hq hav
    have HWR : Hid (MRow ck cl kb wr m S r z) := Lib.hid (HM.out.upd KN.out.up (fun x hx hm => HSS.out x hm hx))
    have hBr : w.heap.size ≤ wr.heap.size := KN.out.up.size
    have h1000 := HL.out
    have hji0 : (j : Int) ≤ 1000 := by omega
    by_cases hlt : j < m.cs.length
    · have hji : (j : Int) < m.cs.length := by omega
      obtain ⟨x, hx⟩ : ∃ x, m.cs[j]? = some x := ⟨_, List.getElem?_eq_getElem hlt⟩
      obtain ⟨xk, xa, xn, xo, xv⟩ := x
      have HX := Lib.hid hx
      have hrd := HWR.out.cs.rd
      rw [HSV.out] at hrd
      obtain ⟨ad, rfl, had, _⟩ := hrd.at_ hx
      have FX : Hid (∀ W, Upd [] wr W → W.cell? (ad.add (j * 5)) = some (.int .i64 xk) ∧ W.cell? ⟨(ad.add (j * 5)).block, (ad.add (j * 5)).off + 1, none⟩ = some (.int .i64 xa) ∧ W.cell? ⟨(ad.add (j * 5)).block, (ad.add (j * 5)).off + 2, none⟩ = some (.int .i64 xn) ∧ W.cell? ⟨(ad.add (j * 5)).block, (ad.add (j * 5)).off + 3, none⟩ = some (.int .i64 xo) ∧ W.cell? ⟨(ad.add (j * 5)).block, (ad.add (j * 5)).off + 4, none⟩ = some (.int .u64 xv)) := Lib.hid (fun W hW => by
        have h := (HWR.out.cs.upd0 hW).rd
        rw [HSV.out] at h
        obtain ⟨ad', ea, _, hc'⟩ := h.at_ HX.out
        injection ea with ea
        subst ea
        exact ⟨hc' 0 _ rfl, by rw [← add_more]; exact hc' 1 _ rfl, by rw [← add_more]; exact hc' 2 _ rfl, by rw [← add_more]; exact hc' 3 _ rfl, by rw [← add_more]; exact hc' 4 _ rfl⟩)
      obtain ⟨w1, hw1⟩ : ∃ w1, w1 = wr.alloc (Obj.cells #[.int .i64 xk, .int .i64 xa, .int .i64 xn, .int .i64 xo, .int .u64 xv] 31) := ⟨_, rfl⟩
      have U1 : Hid (Upd [] wr w1) := Lib.hid (by rw [hw1]; exact (Upd.refl _ _).alloc _)
      have X1 : Hid (Blk w1 wr.heap.size 31 #[.int .i64 xk, .int .i64 xa, .int .i64 xn, .int .i64 xo, .int .u64 xv]) := Lib.hid (by rw [hw1]; exact Blk.new _ _ _)
      obtain ⟨f0, f1, f2, f3, f4⟩ := FX.out wr (.refl _ _)
      clear hx hrd hj hlt
      go_upto_region 5 with fail
      clear f0 f1 f2 f3 f4
      rw [← hw1]
      clear hw1
      go_cut [38] from 21 to 38 (fun t wx => ∃ bt, t = .bool bt ∧ Hid (decide (Cut ⟨xk, xa, xn, xo, xv⟩ L) = bt) ∧ w1 = wx)
      case first =>
        have f := X1.out.facts
        have hav := HAV.out
        subst hav
        by_cases h9 : xk = 9
        · subst h9
          rcases List.eq_nil_or_concat L with rfl | ⟨L0, a, rfl⟩
          · have hq : q = 0 := HQ.out
            subst hq
            go_wp2_with fail
            go_meet
            exact ⟨false, rfl, Lib.hid (by simp [Cut]), rfl⟩
          · obtain ⟨k, rfl⟩ : ∃ k, q = k + 1 := ⟨L0.length, by rw [HQ.out]; simp⟩
            have hk : k = L0.length := by have := HQ.out; simp at this; exact this
            obtain ⟨g, e2⟩ : ∃ g, A9 = some ⟨g, 0, none⟩ := by
              obtain ⟨g, n, _, e2, _⟩ := own_form KG.out.ow (by simp)
              injection e2 with e2
              exact ⟨g, e2⟩
            subst e2
            have hg : w1.cell? ⟨g, k * 3, none⟩ = some (.int .i64 a.err) := (KG.out.ow.upd0 U1.out).at_ (k := k) (a := a) (by rw [hk]; simp) 0 _ rfl
            have hkb : (k : Int) ≤ 1000 := by have := KR.out.2.2; simp at this; omega
            have hgl : g < w1.heap.size := by
              have := (own_lt (KG.out.ow.upd0 U1.out) (b := g) rfl).2
              exact this
            clear hk
            by_cases ha : a.err = 0
            · rw [ha] at hg
              go_wp2_with fail
              go_meet
              exact ⟨false, rfl, Lib.hid (by simp [Cut, ha]), rfl⟩
            · have hb : (a.err != 0) = true := by simpa using ha
              go_wp2_with fail
              go_meet
              exact ⟨true, rfl, Lib.hid (by simp [Cut, ha]), rfl⟩
        · have e9 : (xk == 9) = false := by simpa using h9
          clear h9
          go_wp2_with fail
          go_meet
          exact ⟨false, rfl, Lib.hid (by simp only [decide_eq_false_iff_not]; rintro ⟨h, _⟩; rw [show xk = 9 from h] at e9; simp at e9), rfl⟩
      case rest =>
        obtain ⟨bt, rfl, HB, rfl⟩ := hcut
        have HW1 : Hid (MRow ck cl kb w1 m S r z) := Lib.hid (HWR.out.upd U1.out (by simp))
        have HS1 : Hid (CSt w1 F cb lj cj) := Lib.hid (KS.out.upd0 U1.out)
        have HN1 : Hid (CNx w w1 F F cb lv lj) := Lib.hid (KN.out.upd U1.out)
        have HSj : Hid (∀ x ∈ S, x ∉ SS F cb lj) := Lib.hid (fun x hx hm => (KN.out.gr x hm).elim (HSS.out x hx) (fun h => by have := HLT.out x hx; omega))
        cases bt with
        | true =>
          have hav := HAV.out
          subst hav
          have f4 := HW1.out.b4.facts
          obtain ⟨ov, _, hob, _⟩ := HW1.out.out
          have fo := hob.facts
          have HOB := Lib.hid hob
          have HRR : Hid (run (bodyT ck cl m.cs []) c = (some L, cj)) := Lib.hid (by
            rw [← KR.out.1, drop_at HX.out]
            have hcut0 : Cut ⟨xk, xa, xn, xo, xv⟩ L := of_decide_eq_true HB.out
            have hcut : xk = 9 ∧ ∃ a, L.getLast? = some a ∧ a.err ≠ 0 := hcut0
            exact congrArg (fun p => run p cj) (if_pos hcut))
          clear hob HB
          have KG1 : Hid (Got w w1 F cb lj (.slice A9 q n9) L) := Lib.hid ⟨KG.out.ow.upd0 U1.out, KG.out.ap⟩
          go_wp2_with fail
          go_ret
          obtain ⟨q1, q2, q3, q4, q5⟩ := body_fin HOB.out HS1.out HN1.out KG1.out HSj.out HW1.out.mem.1.2.2.2.2.1
          refine ⟨_, rfl, ?_⟩
          unfold BodPost
          rw [HRR.out]
          exact ⟨lj, _, L, q1, q2, q3, q4, q5, fun l hl => by injection hl, rfl⟩
        | false =>
          have hncut : ¬ (xk = 9 ∧ ∃ a, L.getLast? = some a ∧ a.err ≠ 0) := fun h => of_decide_eq_false HB.out h
          have HR1 : Hid (run ((ansT ck cl ⟨xk, xa, xn, xo, xv⟩).bind fun a => if a.err = 98 then .ret (L ++ [a]) else bodyT ck cl (m.cs.drop (j + 1)) (L ++ [a])) cj = run (bodyT ck cl m.cs []) c) := Lib.hid (by
            rw [← KR.out.1, drop_at HX.out]
            exact (congrArg (fun p => run p cj) (if_neg hncut)).symm)
          have hns : ∀ a, (run (ansT ck cl ⟨xk, xa, xn, xo, xv⟩) cj).1 = some a → a.err ≠ 98 := by
            intro a ha h98
            have h1 := HR1.out
            rw [run_bind_some (c' := (run (ansT ck cl ⟨xk, xa, xn, xo, xv⟩) cj).2) (Prod.ext ha rfl), if_pos h98] at h1
            exact HF.out _ (by rw [← h1]; rfl) a (by simp) h98
          have HA := Lib.hid (fun W (hW : Upd [] w1 W) => answer_ok W (HS1.out.upd0 hW) ck cl KR.out.2.1.1 KR.out.2.1.2 ⟨xk, xa, xn, xo, xv⟩ (HC.out _ (List.mem_of_getElem? HX.out)) hns)
          simp only [encC] at HA
          have fx := X1.out.facts
          have fc := HW1.out.b2.facts
          have fk := HW1.out.b3.facts
          have fb := HW1.out.bk.facts
          have hrem : xa.tmod 1 = 0 := by rw [Int.tmod_one]
          clear HB hncut hns
          go_upto_region 8 with fail
          go_quiet (fail)
          go_wp2_with fail
          refine (HA.out _ ((Upd.refl _ _).drewN _)).mono ?_
          rintro e w2 ⟨lv2, rfl, h1, h2⟩
          have HS2 := Lib.hid h1
          have HN2 := Lib.hid ((HN1.out.upd ((Upd.refl _ _).drewN _)).trans h2)
          have KG2 : Hid (Got w w2 F cb lv2 u9 L) := Lib.hid (by
            have h0 : Got w (w1.drewN nq) F cb lj u9 L := ⟨(KG.out.ow.upd0 U1.out).upd0 ((Upd.refl _ _).drewN _), KG.out.ap⟩
            refine ⟨h0.ow.upd h2.up (fun b hb hm => h0.ap b hb hm), fun b hb hm => ?_⟩
            rcases h2.gr b hm with h | h
            · exact h0.ap b hb h
            · have := (own_lt h0.ow hb).2; omega)
          have HSj2 : Hid (∀ x ∈ S, x ∉ SS F cb lv2) := Lib.hid (fun x hx hm => (HN2.out.gr x hm).elim (HSS.out x hx) (fun h => by have := HLT.out x hx; omega))
          have HW2 : Hid (MRow ck cl kb w2 m S r z) := Lib.hid ((HW1.out.upd ((Upd.refl [] _).drewN nq) (by simp)).upd h2.up (fun x hx hm => HSj.out x hm hx))
          cases ha : (run (ansT ck cl ⟨xk, xa, xn, xo, xv⟩) cj).1 with
          | none =>
            have hav := HAV.out
            subst hav
            have HRR : Hid ((run (bodyT ck cl m.cs []) c) = (none, (run (ansT ck cl ⟨xk, xa, xn, xo, xv⟩) cj).2)) := Lib.hid (by
              rw [← HR1.out]
              exact run_bind_none (c' := (run (ansT ck cl ⟨xk, xa, xn, xo, xv⟩) cj).2) (Prod.ext ha rfl))
            have f4 := HW2.out.b4.facts
            obtain ⟨ov, _, hob, _⟩ := HW2.out.out
            have fo := hob.facts
            have HOB := Lib.hid hob
            clear h1 h2 ha hob fx fc fk fb
            simp only [resA, encA]
            go_wp2_with fail
            go_ret
            obtain ⟨q1, q2, q3, q4, q5⟩ := body_fin HOB.out HS2.out HN2.out KG2.out HSj2.out HW2.out.mem.1.2.2.2.2.1
            have ua : Upd [] (w2.setCell ⟨m.ob, 0, none⟩ (.slice A9 q n9)) ((w2.setCell ⟨m.ob, 0, none⟩ (.slice A9 q n9)).alloc (Obj.cells #[.int .i64 11, .int .u64 0, .int .i64 0] 38)) := (Upd.refl _ _).alloc _
            refine ⟨_, rfl, ?_⟩
            unfold BodPost
            rw [HRR.out]
            exact ⟨lv2, _, L, q1.upd0 ua, q2.trans' ua (by simp), q3, q4.alloc _, ⟨q5.ow.upd0 ua, q5.ap⟩, (by intro l hl; cases hl), .num 2 _ _ 11 (by omega)⟩
          | some a =>
            have hne : Ne11 a := retAll_run (ne11_ans ck cl ⟨xk, xa, xn, xo, xv⟩) ha
            have h11 : (a.err == 11) = false := by simpa [Ne11] using hne
            obtain ⟨ae, aval, an⟩ := a
            have HNE := Lib.hid hne
            clear h1 h2 fx fc fk fb hne
            simp only [resA, encA]
            have HRa : Hid ((run (ansT ck cl ⟨xk, xa, xn, xo, xv⟩) cj).1 = some ⟨ae, aval, an⟩) := Lib.hid ha
            clear ha
            simp only at h11
            go_wp2_with (at_builtin; refine stoppedM ?_)
            refine Lib.hid ?_
            obtain ⟨w3, hw3⟩ : ∃ w3, w3 = w2.alloc (Obj.cells #[.int .i64 ae, .int .u64 aval, .int .i64 an] 38) := ⟨_, rfl⟩
            have U3 : Hid (Upd [] w2 w3) := Lib.hid (by rw [hw3]; exact (Upd.refl _ _).alloc _)
            have S3 : Hid (w3.heap.size = w2.heap.size + 1) := Lib.hid (by rw [hw3]; simp)
            rw [← hw3]
            clear hw3
            have hB3 : w.heap.size ≤ w3.heap.size := Nat.le_trans HN2.out.up.size U3.out.size
            refine wpList_app _ (by rfl) (.tmp 70) (.tmp 72) _ (by rfl) ans_elem u9 _ (by rfl) (by rfl) (own_upd0 KG2.out.ow (U3.out.trans ((Upd.refl [] w3).alloc _))) (.of_blk (Blk.newAt _ _ S3.out) (m := 1) 1 rfl) (by intro u hu; simp at hu; rcases hu with rfl | rfl | rfl <;> rfl) (by have := KR.out.2.2; simp only [maxLen]; omega) (by have := KR.out.2.2; omega) (Nat.le_trans hB3 (by simp)) ?_
            intro v4 w4 o4 u4 b4
            have U4 : Hid (Upd u9.ownBlock.toList w2 w4) := Lib.hid ((U3.out.trans ((Upd.refl [] w3).alloc _)).mono (by simp) |>.trans u4)
            have KG4 : Hid (Got w w4 F cb lv2 v4 (L ++ [⟨ae, aval, an⟩])) := Lib.hid (by
              refine ⟨?_, fun b hb hm => ?_⟩
              · unfold Ow
                rw [flat_append, flat_one_, List.length_append, List.length_singleton]
                exact o4
              · rcases b4 with b4 | b4
                · exact KG2.out.ap b (b4 ▸ hb) hm
                · rw [b4] at hb
                  injection hb with hb
                  have := SS_lt HS2.out b hm
                  have := U3.out.size
                  simp at hb
                  omega)
            have hap : ∀ x ∈ u9.ownBlock.toList, x ∉ SS F cb lv2 := fun x hx => KG2.out.ap x (by simpa using hx)
            have hnew : ∀ x ∈ u9.ownBlock.toList, w.heap.size ≤ x := fun x hx => (own_lt KG2.out.ow (b := x) (by simpa using hx)).1
            have HS4 := Lib.hid (HS2.out.far U4.out hap)
            have HN4 := Lib.hid (HN2.out.far U4.out hnew)
            have HR4 : Hid (run (bodyT ck cl (m.cs.drop (j + 1)) (L ++ [⟨ae, aval, an⟩])) (run (ansT ck cl ⟨xk, xa, xn, xo, xv⟩) cj).2 = run (bodyT ck cl m.cs []) c ∧ JC ck cl (run (ansT ck cl ⟨xk, xa, xn, xo, xv⟩) cj).2.B ∧ (L ++ [(⟨ae, aval, an⟩ : An)]).length ≤ j + 1) := Lib.hid (by
              have hr := HR1.out
              rw [run_bind_some (c' := (run (ansT ck cl ⟨xk, xa, xn, xo, xv⟩) cj).2) (Prod.ext HRa.out rfl)] at hr
              have h98 : ae ≠ 98 := fun e => by
                rw [if_pos e] at hr
                exact HF.out _ (by rw [← hr]; rfl) ⟨ae, aval, an⟩ (by simp) e
              rw [if_neg h98] at hr
              refine ⟨hr, ⟨run_mem (o := (run (ansT ck cl ⟨xk, xa, xn, xo, xv⟩) cj).1) (p := ansT ck cl ⟨xk, xa, xn, xo, xv⟩) rfl KR.out.2.1.1, run_mem (o := (run (ansT ck cl ⟨xk, xa, xn, xo, xv⟩) cj).1) (p := ansT ck cl ⟨xk, xa, xn, xo, xv⟩) rfl KR.out.2.1.2⟩, ?_⟩
              have := KR.out.2.2
              simp
              omega)
            clear o4 u4 b4 hap hnew
            go_wp2_with fail
            go_round
            case rel => exact ⟨j + 1, _, lv2, v4, _, rfl, by simp, by omega, HS4, HN4, KG4, HR4⟩
            case measure => simp [intOf]; omega
    · have hji : ¬ ((j : Int) < m.cs.length) := by omega
      have hj2 : j = m.cs.length := by omega
      have hav := HAV.out
      subst hav
      have f4 := HWR.out.b4.facts
      obtain ⟨ov, _, hob, _⟩ := HWR.out.out
      have fo := hob.facts
      have HOB := Lib.hid hob
      have HSj : Hid (∀ x ∈ S, x ∉ SS F cb lj) := Lib.hid (fun x hx hm => (KN.out.gr x hm).elim (HSS.out x hx) (fun h => by have := HLT.out x hx; omega))
      have HRR : Hid (run (bodyT ck cl m.cs []) c = (some L, cj)) := Lib.hid (by
        rw [← KR.out.1, hj2, List.drop_length]
        rfl)
      clear hob hlt hj2 hj
      go_wp2_with fail
      go_ret
      obtain ⟨q1, q2, q3, q4, q5⟩ := body_fin HOB.out KS.out KN.out KG.out HSj.out HWR.out.mem.1.2.2.2.2.1
      refine ⟨_, rfl, ?_⟩
      unfold BodPost
      rw [HRR.out]
      exact ⟨lj, _, L, q1, q2, q3, q4, q5, fun l hl => by injection hl, rfl⟩
/-- Another one's answers leave a row as it is. -/
theorem MRow.other {ck cl kb : Nat} {w w' : World} {m : MD} {S T S' : List Nat} {ob : Nat} {ov : Value} {r : Option (Option (List An))} {z : Option Value} (h : MRow ck cl kb w m S r z) (hob : Blk w ob 59 #[ov]) (hu : Upd (ob :: T) w w') (hT : ∀ x ∈ T, x ∉ S) (hne : m.ob ≠ ob) (hS : ∀ x ∈ S, x ∈ S') : MRow ck cl kb w' m S' r z := by
  obtain ⟨h1, h2, h3, h4, h5, h6⟩ := h.mem.1
  have hn : ∀ x, x ∈ S → x ≠ ob → x ∉ ob :: T := fun x hx he hm => (List.mem_cons.1 hm).elim he (fun hm => hT x hm hx)
  refine ⟨h.b1.upd hu (hn _ h1 (h.b1.ne_ hob (by decide))), h.b2.upd hu (hn _ h2 (h.b2.ne_ hob (by decide))), h.b3.upd hu (hn _ h3 (h.b3.ne_ hob (by decide))), h.b4.upd hu (hn _ h4 (h.b4.ne_ hob (by decide))), h.bk.upd hu (hn _ h6 (h.bk.ne_ hob (by decide))),
    h.cs.upd hu (fun b hb => hn _ (h.mem.2 b hb) (fun e => own_type h.cs hob (by decide) (e ▸ hb))), ?_, ⟨⟨hS _ h1, hS _ h2, hS _ h3, hS _ h4, hS _ h5, hS _ h6⟩, fun b hb => hS _ (h.mem.2 b hb)⟩⟩
  obtain ⟨ov', L, g1, g2, g3, g4⟩ := h.out
  exact ⟨ov', L, g1.upd hu (hn _ h5 hne), g2.upd hu (fun b hb => hn _ (g3 b hb) (fun e => own_type g2 hob (by decide) (e ▸ hb))), fun b hb => hS _ (g3 b hb), g4⟩
set_option maxRecDepth 20000 in
theorem body_ok (ck cl kb : Nat) (ms : List MD) (i : Nat) (m : MD) (hm : ms[i]? = some m) (fz : Nat → Option Value) (hz : fz i = none) (hc : ∀ x ∈ m.cs, OkC x) (hl : m.cs.length ≤ 1000) (rs : List (Option (List An))) (hr : rs.length = ms.length) :
    BodyOk 28 #[.pointer (some ⟨m.xl, 0, none⟩), .pointer (some ⟨m.xc, 0, none⟩), .pointer (some ⟨m.xk, 0, none⟩), .pointer (some ⟨m.xo, 0, none⟩)] (bodyT ck cl m.cs []) (fun l => ¬ Fine l) (JC ck cl) (fun w S r => M06 ck cl kb ms fz w S (rs.set i r)) where
  ent := fun _ _ => rfl
  run := fun w F cb lv c S r0 h _ _ hJ _ hM hS hf => by
    have hi := (List.getElem?_eq_some_iff.1 hm).1
    have hrow := hM.row i m hm
    refine (body1_ok ck cl kb m w h hJ hrow hM.lt hS hc hl (fun a ha => Classical.byContradiction (hf a ha))).mono ?_
    rintro e w' ⟨v, rfl, lv', av, L, g1, g2, g3, g4, g5, g6, g7⟩
    obtain ⟨ov, L0, hob, _⟩ := hrow.out
    have hSn : ∀ x ∈ SS F cb lv, x ∉ S := fun x hx hm => hS x hm hx
    have hav : ∀ b, av.ownBlock = some b → w.heap.size ≤ b ∧ b < w'.heap.size := fun b hb => own_lt g5.ow hb
    refine ⟨F, lv', S ++ av.ownBlock.toList, v, rfl, g1, rfl, g2.mono (fun x hx => .inl ?_), fun x hx => ?_, fun x hx hmm => ?_, ⟨fun j m' hj => ?_, fun x hx => ?_, hM.ap⟩, g7⟩
    · rcases List.mem_cons.1 hx with rfl | hx
      · exact List.mem_append_left _ hrow.mem.1.2.2.2.2.1
      · exact List.mem_append_right _ hx
    · simp only [List.mem_append] at hx ⊢
      rcases hx with (hx | hx) | hx
      · exact .inl (.inl hx)
      · exact .inr (hav x (by simpa using hx)).1
      · exact (g3 x hx).elim (fun h => .inl (.inr h)) .inr
    · simp only [List.mem_append] at hx
      rcases hx with hx | hx
      · rcases g3 x hmm with h' | h'
        · exact hS x hx h'
        · have := hM.lt x hx; omega
      · exact g5.ap x (by simpa using hx) hmm
    · by_cases e : j = i
      · subst e
        rw [hm] at hj
        injection hj with hj
        subst hj
        obtain ⟨h1, h2, h3, h4, h5, h6⟩ := hrow.mem.1
        have hn : ∀ x, x ∈ S → x ≠ m.ob → x ∉ m.ob :: SS F cb lv := fun x hx he hmm => (List.mem_cons.1 hmm).elim he (fun hmm => hSn x hmm hx)
        have hsub : ∀ x ∈ S, x ∈ S ++ av.ownBlock.toList := fun x hx => List.mem_append_left _ hx
        refine ⟨hrow.b1.upd g2 (hn _ h1 (hrow.b1.ne_ hob (by decide))), hrow.b2.upd g2 (hn _ h2 (hrow.b2.ne_ hob (by decide))), hrow.b3.upd g2 (hn _ h3 (hrow.b3.ne_ hob (by decide))), hrow.b4.upd g2 (hn _ h4 (hrow.b4.ne_ hob (by decide))), hrow.bk.upd g2 (hn _ h6 (hrow.bk.ne_ hob (by decide))),
          hrow.cs.upd g2 (fun b hb => hn _ (hrow.mem.2 b hb) (fun e => own_type hrow.cs hob (by decide) (e ▸ hb))), ⟨av, L, g4, own_base g5.ow (Nat.zero_le _), fun b hb => by simp [hb], ?_, fun v hv => by rw [hz] at hv; cases hv⟩, ⟨⟨hsub _ h1, hsub _ h2, hsub _ h3, hsub _ h4, hsub _ h5, hsub _ h6⟩, fun b hb => hsub _ (hrow.mem.2 b hb)⟩⟩
        intro l hl
        rw [List.getElem?_set_self (by rw [hr]; exact hi)] at hl
        injection hl with hl
        exact g6 l hl
      · have hrj := hM.row j m' hj
        rw [List.getElem?_set_ne (fun e' => e e'.symm)] at hrj ⊢
        exact hrj.other hob g2 hSn (hM.ap j i m' m e hj hm) (fun x hx => List.mem_append_left _ hx)
    · simp only [List.mem_append] at hx
      rcases hx with hx | hx
      · exact Nat.lt_of_lt_of_le (hM.lt x hx) g2.size
      · exact (hav x (by simpa using hx)).2
end Go.Proofs.YtkldpdldjalpeaaDoor

namespace Go.Proofs.YtkldpdldjalpeaaDoor
open Go.RowKit Th
attribute [local go_sem] litStep_value

set_option maxRecDepth 20000 in
theorem mkbody_ok (A : Option Addr) (n c ck kb ob : Nat) (w : World) :
    Calls Tryd.prog 19 #[.slice A n c, .int .u64 ck, .slice (some ⟨kb, 0, none⟩) 1 1, .pointer (some ⟨ob, 0, none⟩)] w fun e w' => e = .returned (.func (.func 28) #[] #[.pointer (some ⟨w.heap.size, 0, none⟩), .pointer (some ⟨w.heap.size + 1 + 1, 0, none⟩), .pointer (some ⟨w.heap.size + 1, 0, none⟩), .pointer (some ⟨w.heap.size + 1 + 1 + 1, 0, none⟩)]) ∧
      Blk w' w.heap.size 32 #[.slice A n c] ∧ Blk w' (w.heap.size + 1 + 1) 25 #[.slice (some ⟨kb, 0, none⟩) 1 1] ∧ Blk w' (w.heap.size + 1) 24 #[.int .u64 ck] ∧ Blk w' (w.heap.size + 1 + 1 + 1) 57 #[.pointer (some ⟨ob, 0, none⟩)] ∧ Upd [] w w' ∧ w'.heap.size = w.heap.size + 4 := by
  go_enter Tryd.func19, Tryd.ntmps19
  go_wp2_with fail
  go_ret
  exact ⟨rfl, (((Blk.new _ _ _).alloc _).alloc _).alloc _, (Blk.newAt _ _ (by simp)).alloc _, ((Blk.newAt _ _ (by simp)).alloc _).alloc _, Blk.newAt _ _ (by simp), ((((Upd.refl _ _).alloc _).alloc _).alloc _).alloc _, by simp⟩
theorem M06.push {ck cl kb : Nat} {ms : List MD} {w w' : World} {S : List Nat} {rs : List (Option (List An))} (h : M06 ck cl kb ms (fun _ => none) w S rs) (hr : rs.length = ms.length) (hu : Upd [] w w') (m : MD)
    (b1 : Blk w' m.xl 32 #[m.sv]) (b2 : Blk w' m.xc 25 #[.slice (some ⟨kb, 0, none⟩) 1 1]) (b3 : Blk w' m.xk 24 #[.int .u64 ck]) (b4 : Blk w' m.xo 57 #[.pointer (some ⟨m.ob, 0, none⟩)])
    (bk : Blk w' kb 24 #[.int .u64 cl]) (hk : kb ∈ S) (cs : Ow ClE 31 w' 0 m.sv m.cs) (hcs : ∀ b, m.sv.ownBlock = some b → b ∈ S) (ho : Blk w' m.ob 59 #[.slice none 0 0]) (hob : w.heap.size ≤ m.ob) (hmem : ∀ m' ∈ ms, m'.ob ∈ S) :
    M06 ck cl kb (ms ++ [m]) (fun _ => none) w' (S ++ [m.xl, m.xc, m.xk, m.xo, m.ob]) (rs ++ [none]) := by
  have hsub : ∀ x ∈ S, x ∈ S ++ [m.xl, m.xc, m.xk, m.xo, m.ob] := fun x hx => List.mem_append_left _ hx
  refine ⟨fun i m' hi => ?_, fun x hx => ?_, fun i j m1 m2 hij h1 h2 => ?_⟩
  · by_cases hl : i < ms.length
    · rw [List.getElem?_append_left hl] at hi
      rw [List.getElem?_append_left (by omega)]
      have hrow := (h.row i m' hi).upd hu (by simp)
      obtain ⟨⟨h1, h2, h3, h4, h5, h6⟩, h7⟩ := hrow.mem
      obtain ⟨ov, L, g1, g2, g3, g4⟩ := hrow.out
      exact ⟨hrow.b1, hrow.b2, hrow.b3, hrow.b4, hrow.bk, hrow.cs, ⟨ov, L, g1, g2, fun b hb => hsub _ (g3 b hb), g4⟩, ⟨hsub _ h1, hsub _ h2, hsub _ h3, hsub _ h4, hsub _ h5, hsub _ h6⟩, fun b hb => hsub _ (h7 b hb)⟩
    · have hi' : i = ms.length := by
        have := (List.getElem?_eq_some_iff.1 hi).1
        simp at this
        omega
      subst hi'
      simp at hi
      subst hi
      rw [← hr]
      simp only [List.getElem?_append_right (Nat.le_refl _), Nat.sub_self, List.getElem?_cons_zero]
      exact ⟨b1, b2, b3, b4, bk, cs, ⟨_, [], ho, Ow.nil _ _ _ _, by simp [Value.ownBlock], by simp, by simp⟩, ⟨by simp, by simp, by simp, by simp, by simp, hsub _ hk⟩, fun b hb => hsub _ (hcs b hb)⟩
  · rcases List.mem_append.1 hx with hx | hx
    · exact Nat.lt_of_lt_of_le (h.lt x hx) hu.size
    · simp at hx
      rcases hx with rfl | rfl | rfl | rfl | rfl
      · exact b1.lt
      · exact b2.lt
      · exact b3.lt
      · exact b4.lt
      · exact ho.lt
  · have key : ∀ m' ∈ ms, m'.ob ≠ m.ob := fun m' hm e => by have := h.lt _ (hmem m' hm); omega
    by_cases hl : i < ms.length
    · rw [List.getElem?_append_left hl] at h1
      by_cases hl2 : j < ms.length
      · rw [List.getElem?_append_left hl2] at h2
        exact h.ap i j m1 m2 hij h1 h2
      · have hj' : j = ms.length := by have := (List.getElem?_eq_some_iff.1 h2).1; simp at this; omega
        subst hj'
        simp at h2
        subst h2
        exact key m1 (List.mem_of_getElem? h1)
    · have hi' : i = ms.length := by have := (List.getElem?_eq_some_iff.1 h1).1; simp at this; omega
      subst hi'
      simp at h1
      subst h1
      by_cases hl2 : j < ms.length
      · rw [List.getElem?_append_left hl2] at h2
        exact fun e => key m2 (List.mem_of_getElem? h2) e.symm
      · have hj' : j = ms.length := by have := (List.getElem?_eq_some_iff.1 h2).1; simp at this; omega
        exact absurd hj'.symm hij
/-- Two owned slices of other types lie apart. -/
theorem own_apart {w : World} {B B' : Nat} {e e' : TypeId} {s s' : Nat} {v v' : Value} {n n' : Nat} {xs xs' : List Value} (h : w.ownsRow B e s v n xs) (h' : w.ownsRow B' e' s' v' n' xs') (hne : e ≠ e') {b : Nat} (hb : v.ownBlock = some b) (hb' : v'.ownBlock = some b) : False := by
  obtain ⟨_, h2⟩ := h
  rcases h2 with ⟨h2, _⟩ | ⟨g, cap, cur, h1, h3, h4, h5, h6, h7⟩
  · subst h2; simp [Value.ownBlock] at hb
  · subst h1
    simp only [Value.ownBlock, Option.some.injEq] at hb
    subst hb
    exact own_type h' h4 hne hb'
/-- A list of lists of calls, readable. -/
structure RArg (w : World) (v : Value) (css : List (List Cl)) (svs : List Value) : Prop where
  src : Src w 1 v css.length svs
  len : svs.length = css.length
  row : ∀ (i : Nat) sv cs, svs[i]? = some sv → css[i]? = some cs → Ow ClE 31 w 0 sv cs
theorem thr_elem : Elem Tryd.prog 61 46 1 8 := .mk' (z := ((Tryd.prog.info? 46).bind (·.zero)).getD undef) Tryd.underlying61 (by kernel_rfl) (by kernel_rfl) (by omega)
theorem out_elem : Elem Tryd.prog 62 57 1 8 := .mk' (z := ((Tryd.prog.info? 57).bind (·.zero)).getD undef) Tryd.underlying62 (by kernel_rfl) (by kernel_rfl) (by omega)
theorem ans2_elem : Elem Tryd.prog 33 36 1 24 := .mk' (z := ((Tryd.prog.info? 36).bind (·.zero)).getD undef) Tryd.underlying33 (by kernel_rfl) (by kernel_rfl) (by omega)
def ptrV (x : Nat) : Value := .pointer (some ⟨x, 0, none⟩)
/-- While threads are made. -/
structure Mk (ck cl kb : Nat) (F : BFp) (B : BS) (S0 : List Nat) (w : World) (css : List (List Cl)) (svs : List Value) (j : Nat) (wr : World) (S : List Nat) (ds : List (TD (List An))) (ms : List MD) (tv ov : Value) : Prop where
  sys : SysSt (M06 ck cl kb ms (fun _ => none)) wr F B S ds ((css.take j).map fun cs => ⟨bodyT ck cl cs [], false⟩) (List.replicate j none)
  dl : ds.length = j
  ml : ms.length = j
  row : ∀ (i : Nat) d m, ds[i]? = some d → ms[i]? = some m → d.fid = 28 ∧ d.caps = #[ptrV m.xl, ptrV m.xc, ptrV m.xk, ptrV m.xo] ∧ d.p = bodyT ck cl m.cs [] ∧ d.l = [] ∧ css[i]? = some m.cs ∧ m.ob ∈ S
  ts : wr.ownsRow w.heap.size 46 1 tv j (ds.map fun d => ptrV d.tb)
  os : wr.ownsRow w.heap.size 57 1 ov j (ms.map fun m => ptrV m.ob)
  tf : ∀ b, tv.ownBlock = some b → b ∉ foot F S ds
  of : ∀ b, ov.ownBlock = some b → b ∉ foot F S ds
  up : Upd [] w wr
  s0 : ∀ x ∈ S0, x ∈ S
  nw : ∀ x ∈ foot F S ds, x ∈ F.l ∨ x ∈ S0 ∨ w.heap.size ≤ x
/-- Where calls lie, and the cells. -/
def callB (kb : Nat) (svs : List Value) : List Nat := kb :: svs.flatMap fun sv => sv.ownBlock.toList
/-- While steps are done. -/
structure Pk (ck cl kb : Nat) (F : BFp) (S0 : List Nat) (w : World) (n L : Nat) (ms : List MD) (fz : Nat → Option Value) (tv ov : Value) (wr : World) (x : List (TS (List An)) × BS) (F' : BFp) (S : List Nat) (ds : List (TD (List An))) (rs : List (Option (List An))) : Prop where
  sys : SysSt (M06 ck cl kb ms fz) wr F' x.2 S ds x.1 rs
  b0 : F'.b0 = F.b0
  dl : ds.length = n
  ml : ms.length = n
  row : ∀ (i : Nat) d m, ds[i]? = some d → ms[i]? = some m → d.fid = 28 ∧ d.caps = #[ptrV m.xl, ptrV m.xc, ptrV m.xk, ptrV m.xo] ∧ d.p = bodyT ck cl m.cs [] ∧ d.l.length ≤ L
  ts : wr.ownsRow w.heap.size 46 1 tv n (ds.map fun d => ptrV d.tb)
  os : wr.ownsRow w.heap.size 57 1 ov n (ms.map fun m => ptrV m.ob)
  tf : ∀ b, tv.ownBlock = some b → b ∉ foot F' S ds
  of : ∀ b, ov.ownBlock = some b → b ∉ foot F' S ds
  up : Upd (F.l ++ S0) w wr
  nw : ∀ x ∈ foot F' S ds, x ∈ F.l ++ S0 ∨ w.heap.size ≤ x
theorem Pk.next {ck cl kb : Nat} {F : BFp} {S0 : List Nat} {w : World} {n L k : Nat} {ms : List MD} {fz : Nat → Option Value} {tv ov : Value} {wr w' : World} {x y : List (TS (List An)) × BS} {F' F2 : BFp} {S S2 : List Nat} {ds ds2 : List (TD (List An))} {rs rs2 : List (Option (List An))}
    (h : Pk ck cl kb F S0 w n L ms fz tv ov wr x F' S ds rs) (h1 : SysSt (M06 ck cl kb ms fz) w' F2 y.2 S2 ds2 y.1 rs2) (h2 : SNx wr w' F' F2 S S2 ds ds2) (h3 : LenLe k ds ds2) : Pk ck cl kb F S0 w n (L + k) ms fz tv ov w' y F2 S2 ds2 rs2 := by
  have hold : ∀ b, b < wr.heap.size → b ∉ foot F' S ds → b ∉ foot F2 S2 ds2 := fun b hb hf hm => (h2.gr b hm).elim hf (fun e => by omega)
  have het : ds2.map (fun d => ptrV d.tb) = ds.map (fun d => ptrV d.tb) := by
    apply List.ext_getElem?
    intro i
    simp only [List.getElem?_map]
    cases hd : ds[i]? with
    | none =>
      have : ds2[i]? = none := List.getElem?_eq_none (by rw [h2.len]; exact List.getElem?_eq_none_iff.1 hd)
      rw [this]
    | some d =>
      have hl : i < ds2.length := by rw [h2.len]; exact (List.getElem?_eq_some_iff.1 hd).1
      have := h2.same i d _ hd (List.getElem?_eq_getElem hl)
      rw [List.getElem?_eq_getElem hl]
      simp only [Option.map_some]
      rw [this.1]
  refine ⟨h1, h2.b0.trans h.b0, h2.len.trans h.dl, h.ml, fun i d m hd hm => ?_, ?_, own_upd h.os h2.up (fun b hb hm => h.of b hb hm), fun b hb => hold b (own_lt h.ts hb).2 (h.tf b hb), fun b hb => hold b (own_lt h.os hb).2 (h.of b hb), h.up.trans' h2.up h.nw, fun y hy => (h2.gr y hy).elim (h.nw y) (fun e => .inr (Nat.le_trans h.up.size e))⟩
  · have hl : i < ds.length := by rw [← h2.len]; exact (List.getElem?_eq_some_iff.1 hd).1
    obtain ⟨q1, q2, q3, q4⟩ := h.row i _ m (List.getElem?_eq_getElem hl) hm
    obtain ⟨e1, e2, e3, e4⟩ := h2.same i _ d (List.getElem?_eq_getElem hl) hd
    have := h3 i _ d (List.getElem?_eq_getElem hl) hd
    exact ⟨e2.trans q1, e3.trans q2, e4.trans q3, by omega⟩
  · rw [het]
    exact own_upd h.ts h2.up (fun b hb hm => h.tf b hb hm)
/-- The body of one of them. -/
theorem Pk.body {ck cl kb : Nat} {F : BFp} {S0 : List Nat} {w : World} {n L : Nat} {ms : List MD} {fz : Nat → Option Value} {tv ov : Value} {wr : World} {x : List (TS (List An)) × BS} {F' : BFp} {S : List Nat} {ds : List (TD (List An))} {rs : List (Option (List An))}
    (h : Pk ck cl kb F S0 w n L ms fz tv ov wr x F' S ds rs) {i : Nat} {d : TD (List An)} (hd : ds[i]? = some d) (hz : fz i = none) (hc : ∀ m ∈ ms, m.cs.length ≤ 10 ∧ ∀ x ∈ m.cs, OkC x) :
    BodyOk d.fid d.caps d.p (fun l => ¬ Fine l) (JC ck cl) (fun w S r => M06 ck cl kb ms fz w S (rs.set i r)) := by
  have hil : i < ms.length := by rw [h.ml, ← h.dl]; exact (List.getElem?_eq_some_iff.1 hd).1
  have hm := List.getElem?_eq_getElem hil
  obtain ⟨q1, q2, q3, _⟩ := h.row i d _ hd hm
  have hmc := hc _ (List.mem_of_getElem? hm)
  rw [q1, q2, q3]
  exact body_ok ck cl kb ms i _ hm fz hz hmc.2 (by omega) rs (by rw [h.sys.n2, ← h.sys.n1, h.dl, h.ml])
theorem ends_far (n : Nat) : ∀ (l : List Nat) (x : List (TS (List An)) × BS) (j : Nat), j ∉ l → (endsT n l x).1[j]? = x.1[j]?
  | [], x, j, _ => rfl
  | k :: l, x, j, h => by
    show (endsT n l (sysRun n x.1 x.2 k)).1[j]? = _
    rw [ends_far n l _ j (fun hm => h (List.mem_cons_of_mem _ hm)), sysRun_far _ _ _ _ _ (fun e => h (by simp [e]))]
/-- Somebody's answers are kept from here on. -/
theorem M06.keep {ck cl kb : Nat} {ms : List MD} {fz : Nat → Option Value} {w : World} {S : List Nat} {rs : List (Option (List An))} (h : M06 ck cl kb ms fz w S rs) {k : Nat} {m : MD} (hm : ms[k]? = some m) (vs : List Value) (hk : vs.length = k) (hf : fz = fun i => vs[i]?) {ov : Value} {L : List An}
    (h1 : Blk w m.ob 59 #[ov]) (h2 : Ow AnE 38 w 0 ov L) (h3 : ∀ b, ov.ownBlock = some b → b ∈ S) (h4 : ∀ l, rs[k]? = some (some l) → L = l) : M06 ck cl kb ms (fun i => (vs ++ [ov])[i]?) w S rs := by
  refine ⟨fun i m' hi => ?_, h.lt, h.ap⟩
  have hr := h.row i m' hi
  by_cases e : i = k
  · subst e
    rw [hm] at hi
    injection hi with hi
    subst hi
    exact ⟨hr.b1, hr.b2, hr.b3, hr.b4, hr.bk, hr.cs, ⟨ov, L, h1, h2, h3, h4, fun v hv => by
      rw [List.getElem?_append_right (by omega), hk, Nat.sub_self] at hv
      simpa using hv⟩, hr.mem⟩
  · obtain ⟨ov', L', g1, g2, g3, g4, g5⟩ := hr.out
    refine ⟨hr.b1, hr.b2, hr.b3, hr.b4, hr.bk, hr.cs, ⟨ov', L', g1, g2, g3, g4, fun v hv => g5 v ?_⟩, hr.mem⟩
    rw [hf]
    by_cases hi' : i < vs.length
    · rwa [List.getElem?_append_left hi'] at hv
    · have hv2 : (vs ++ [ov])[i]? = none := List.getElem?_eq_none (by simp; omega)
      try simp only at hv
      rw [hv2] at hv
      cases hv
/-- What run leaves. -/
def RunP (ans : List (List An)) (F : BFp) (B' : BS) (kb cl : Nat) (S0 : List Nat) (w : World) (av : Value) (w' : World) : Prop :=
  ∃ (F' : BFp) (vs : List Value), BSt w' F' B' ∧ F'.b0 = F.b0 ∧ Upd (F.l ++ S0) w w' ∧ (∀ x ∈ F'.l, x ∈ F.l ++ S0 ∨ w.heap.size ≤ x) ∧ kb ∉ F'.l ∧ Blk w' kb 24 #[.int .u64 cl] ∧ w'.ownsRow w.heap.size 36 1 av ans.length vs ∧ vs.length = ans.length ∧ ∀ (i : Nat) v a, vs[i]? = some v → ans[i]? = some a → Ow AnE 38 w' 0 v a
def pickI (n : Nat) (k : Int) : Nat := ((k.tmod n + n).tmod n).toNat
theorem pickI_eq {n : Nat} (k : Int) (h : 1 ≤ n) : (k.tmod n + n).tmod n = (pickI n k : Nat) ∧ pickI n k < n := by
  have h0 : (0 : Int) < n := by omega
  have h1 := Int.lt_tmod_of_pos k h0
  have h2 := Int.tmod_lt_of_pos (k.tmod n + n) h0
  have h3 := Int.tmod_nonneg (a := k.tmod n + n) (n : Int) (by omega)
  unfold pickI
  omega
set_option maxRecDepth 20000 in
set_option maxHeartbeats 8000000 in
theorem run_ok {Good : List (TS (List An)) × BS → Prop} (ck cl kb : Nat) {F : BFp} {B : BS} (css : List (List Cl)) (svs : List Value) (ps : List Int) (ans : List (List An)) (cv pv : Value) (w : World) (hB : BSt w F B) (hl : RArg w cv css svs) (hn : 1 ≤ css.length ∧ css.length ≤ 8) (hc : ∀ cs ∈ css, cs.length ≤ 10 ∧ ∀ x ∈ cs, OkC x)
    (hkb : Blk w kb 24 #[.int .u64 cl]) (hkF : kb ∉ F.l) (hsF : ∀ (i : Nat) sv, svs[i]? = some sv → ∀ b, sv.ownBlock = some b → b ∉ F.l) (hcv : ∀ b, cv.ownBlock = some b → b ∉ F.l) (hp : ∀ W, Upd (F.l ++ callB kb svs) w W → Src W 1 pv ps.length (ps.map (Value.int .i64))) (hps : ps.length ≤ 100)
    (HG : SGo (fun l => ¬ Fine l) (JC ck cl) Good) (hg : Good (css.map (fun cs => ⟨bodyT ck cl cs [], false⟩), B)) (hal : ans.length = css.length)
    (hdone : ∀ (i : Nat) t, (wholeT 500 (css.map fun cs => bodyT ck cl cs []) B (ps.map (pickI css.length))).1[i]? = some t → ∃ a, ans[i]? = some a ∧ t = ⟨.ret a, true⟩) :
    Calls Tryd.prog 9 #[.pointer (some ⟨F.b0, 0, none⟩), .int .u64 ck, .slice (some ⟨kb, 0, none⟩) 1 1, cv, pv] w fun e w' => ∃ av, e = .returned (.tuple #[av, .bool true]) ∧ RunP ans F (wholeT 500 (css.map fun cs => bodyT ck cl cs []) B (ps.map (pickI css.length))).2 kb cl (callB kb svs) w av w' := by
  obtain ⟨A, n0, rfl⟩ : ∃ A n0, cv = .slice A css.length n0 := by obtain ⟨_, A, n0, e, _⟩ := hl.src; exact ⟨A, n0, e⟩
  obtain ⟨Ap, np, rfl⟩ : ∃ Ap np, pv = .slice Ap ps.length np := by obtain ⟨_, A, n0, e, _⟩ := hp w (.refl _ _); exact ⟨A, n0, e⟩
  obtain ⟨S0, hS0⟩ : ∃ S0 : List Nat, S0 = kb :: svs.flatMap fun sv => sv.ownBlock.toList := ⟨_, rfl⟩
  have hS00 : callB kb svs = S0 := hS0.symm
  rw [hS00] at hp ⊢
  clear hS00
  have HS0 := Lib.hid hS0
  clear hS0
  have HB := Lib.hid hB
  have HL := Lib.hid hl
  have HC := Lib.hid hc
  have HK : Hid (Blk w kb 24 #[.int .u64 cl] ∧ kb ∉ F.l) := Lib.hid ⟨hkb, hkF⟩
  have HS := Lib.hid hsF
  have HP := Lib.hid hp
  have HGG := Lib.hid HG
  have Hg := Lib.hid hg
  have HA : Hid (ans.length = css.length) := Lib.hid hal
  have HD := Lib.hid hdone
  obtain ⟨n, hnn⟩ : ∃ n, n = css.length := ⟨_, rfl⟩
  have HN := Lib.hid hnn
  obtain ⟨np', hpp⟩ : ∃ q, q = ps.length := ⟨_, rfl⟩
  have HNP := Lib.hid hpp
  rw [← hnn] at hn
  rw [← hpp] at hps
  have hn8 : (1 : Int) ≤ n ∧ (n : Int) ≤ 8 := by omega
  have hp100 : (np' : Int) ≤ 100 := by omega
  rw [← hnn, ← hpp]
  have HN8 := Lib.hid hn
  have HP100 := Lib.hid hps
  clear hB hl hc hkb hkF hsF hcv hp HG hg hal hdone hnn hpp hn hps
  go_enter Tryd.func9, Tryd.ntmps9
  go_wp2_with fail
  go_loopw [12, 13, 24] (fun u12 u13 u24 wr => ∃ (j : Nat) (S : List Nat) (ds : List (TD (List An))) (ms : List MD) (tv ov : Value), u12 = tv ∧ u13 = ov ∧ u24 = .int .i64 j ∧ j ≤ n ∧ Hid (Mk ck cl kb F B S0 w css svs j wr S ds ms tv ov)) (fun _ _ u _ => n - (intOf u).toNat)
  case atStart =>
    refine ⟨0, S0, [], [], _, _, rfl, rfl, rfl, by omega, Lib.hid ⟨⟨by simp, by simp, HB.out, ⟨by simp, fun x hx => ?_, by simp⟩, fun x hx => ?_, by simp, by simp, by simp, by simp, by simp⟩, rfl, rfl, by simp, own_nil _ _ _ _, own_nil _ _ _ _, by simp [Value.ownBlock], by simp [Value.ownBlock], .refl _ _, fun _ h => h, fun x hx => ?_⟩⟩
    · rw [HS0.out] at hx
      rcases List.mem_cons.1 hx with rfl | hx
      · exact HK.out.1.lt
      · obtain ⟨sv, hsv, hx⟩ := List.mem_flatMap.1 hx
        obtain ⟨i, hi⟩ := List.getElem?_of_mem hsv
        have hil := (List.getElem?_eq_some_iff.1 hi).1
        rw [HL.out.len] at hil
        exact (own_lt (HL.out.row i sv _ hi (List.getElem?_eq_getElem hil)) (b := x) (by simpa using hx)).2
    · rw [HS0.out] at hx
      rcases List.mem_cons.1 hx with rfl | hx
      · exact HK.out.2
      · obtain ⟨sv, hsv, hx⟩ := List.mem_flatMap.1 hx
        obtain ⟨i, hi⟩ := List.getElem?_of_mem hsv
        exact HS.out i sv hi x (by simpa using hx)
    · rcases mem_foot.1 hx with hx | hx | ⟨i, d, hd, _⟩
      · exact .inl hx
      · exact .inr (.inl hx)
      · simp at hd
  case round =>
    obtain ⟨j, S, ds, ms, tv, ov, rfl, rfl, rfl, hj, KM⟩ := hrel
    by_cases hlt : j < n
    · have hji : (j : Int) < n := by omega
      have hj8 : (j : Int) ≤ 8 := by omega
      have HJN := Lib.hid hlt
      have hsl : j < svs.length := by rw [HL.out.len, ← HN.out]; exact hlt
      obtain ⟨sv, hsv⟩ : ∃ sv, svs[j]? = some sv := ⟨_, List.getElem?_eq_getElem hsl⟩
      obtain ⟨cs, hcs⟩ : ∃ cs, css[j]? = some cs := ⟨_, List.getElem?_eq_getElem (by rw [← HN.out]; exact hlt)⟩
      have how := HL.out.row j sv cs hsv hcs
      obtain ⟨As, ns, rfl, _, _⟩ := how.form
      have hcell : ∃ ad, A = some ad ∧ ad.block < wr.heap.size ∧ wr.cell? (ad.add j) = some (.slice As cs.length ns) := by
        obtain ⟨_, A', n', e, h⟩ := HL.out.src.upd0 KM.out.up
        injection e with e
        subst e
        exact h j _ hsv
      obtain ⟨ad, hA, had, hcell⟩ := hcell
      have HSV : Hid (svs[j]? = some (.slice As cs.length ns) ∧ css[j]? = some cs ∧ Ow ClE 31 w 0 (.slice As cs.length ns) cs) := Lib.hid ⟨hsv, hcs, how⟩
      have hAA : Hid (A = some ad) := Lib.hid hA
      clear hj hlt hsl hsv hcs how
      subst hA
      go_wp2_with fail
      obtain ⟨w1, hw1⟩ : ∃ w1, w1 = wr.alloc (Obj.cells #[.slice none 0 0] 59) := ⟨_, rfl⟩
      have U1 : Hid (Upd [] wr w1) := Lib.hid (by rw [hw1]; exact (Upd.refl _ _).alloc _)
      have O1 : Hid (Blk w1 wr.heap.size 59 #[.slice none 0 0]) := Lib.hid (by rw [hw1]; exact Blk.new _ _ _)
      have S1 : Hid (w1.heap.size = wr.heap.size + 1) := Lib.hid (by rw [hw1]; simp)
      rw [← hw1]
      clear hw1 hcell had
      refine (mkbody_ok As cs.length ns ck kb wr.heap.size w1).mono ?_
      rintro e w2 ⟨rfl, b1, b2, b3, b4, u2, s2⟩
      have B2 : Hid (_ ∧ _ ∧ _ ∧ _) := Lib.hid ⟨b1, b2, b3, b4⟩
      have U2 := Lib.hid (U1.out.trans u2)
      have S2 := Lib.hid s2
      have u2' := Lib.hid u2
      clear b1 b2 b3 b4 u2 s2
      go_wp2_with fail
      refine (tnew_ok w2 (KM.out.sys.bs.upd U2.out (by simp)) 28 _).mono ?_
      rintro e w3 ⟨tb, rfl, t1, t2, t3, t4⟩
      have T1 := Lib.hid t1
      have U3 := Lib.hid (U2.out.trans t2)
      have u3' := Lib.hid t2
      have T3 : Hid (w2.heap.size ≤ tb ∧ tb < w3.heap.size) := Lib.hid ⟨t3, t4⟩
      clear t1 t2 t3 t4
      go_wp2_with (at_builtin; refine stoppedM ?_)
      refine Lib.hid ?_
      have hw3 : w.heap.size ≤ w3.heap.size := Nat.le_trans KM.out.up.size U3.out.size
      have T5 : Hid (∀ b, u12.ownBlock = some b → w.heap.size ≤ b ∧ b < wr.heap.size) := Lib.hid (fun b hb => own_lt KM.out.ts hb)
      have T6 : Hid (∀ b, u13.ownBlock = some b → w.heap.size ≤ b ∧ b < wr.heap.size) := Lib.hid (fun b hb => own_lt KM.out.os hb)
      have T7 : Hid (∀ b, u12.ownBlock = some b → u13.ownBlock ≠ some b) := Lib.hid (fun b h1 h2 => own_apart KM.out.ts KM.out.os (by decide) h1 h2)
      refine wpList_app _ (by rfl) (.tmp 39) (.tmp 41) _ (by rfl) thr_elem u12 _ (by rfl) (by rfl) (own_upd0 KM.out.ts (U3.out.alloc _)) (.of_blk (Blk.new w3 _ _) (m := 1) 1 rfl) (by intro u hu; simp at hu; subst hu; rfl) (by have := HN8.out; have := HJN.out; simp only [maxLen]; omega) (by have := HN8.out; have := HJN.out; omega) (Nat.le_trans hw3 (by simp)) ?_
      intro v5 w5 o5 u5 b5
      have U5 : Hid (Upd u12.ownBlock.toList w3 w5) := Lib.hid (((Upd.refl [] w3).alloc _).mono (by simp) |>.trans u5)
      have O5 : Hid (w5.ownsRow w.heap.size 46 1 v5 (j + 1) ((ds.map fun d => ptrV d.tb) ++ [ptrV tb])) := Lib.hid o5
      have B5 : Hid (∀ b, v5.ownBlock = some b → u12.ownBlock = some b ∨ (b < w5.heap.size ∧ w3.heap.size < b)) := Lib.hid (fun b hb => by
        rcases b5 with b5 | b5
        · exact .inl (b5 ▸ hb)
        · have h1 := (own_lt o5 hb).2
          rw [b5] at hb
          injection hb with hb
          exact .inr ⟨h1, by simp at hb; omega⟩)
      have OO5 : Hid (w5.ownsRow w.heap.size 57 1 u13 j (ms.map fun m => ptrV m.ob)) := Lib.hid (own_upd (own_upd0 KM.out.os U3.out) U5.out (fun b hb hm => T7.out b (by simpa using hm) hb))
      have S5 : Hid (w3.heap.size ≤ w5.heap.size) := Lib.hid U5.out.size
      clear o5 u5 b5
      go_wp2_with (at_builtin; refine stoppedM ?_)
      refine Lib.hid ?_
      refine wpList_app _ (by rfl) (.tmp 43) (.tmp 45) _ (by rfl) out_elem u13 _ (by rfl) (by rfl) (own_upd0 OO5.out ((Upd.refl [] _).alloc _)) (.of_blk (Blk.new w5 _ _) (m := 1) 1 rfl) (by intro u hu; simp at hu; subst hu; rfl) (by have := HN8.out; have := HJN.out; simp only [maxLen]; omega) (by have := HN8.out; have := HJN.out; omega) (Nat.le_trans (Nat.le_trans hw3 S5.out) (by simp)) ?_
      intro v6 w6 o6 u6 b6
      have U6 : Hid (Upd u13.ownBlock.toList w5 w6) := Lib.hid (((Upd.refl [] w5).alloc _).mono (by simp) |>.trans u6)
      have O6 : Hid (w6.ownsRow w.heap.size 57 1 v6 (j + 1) ((ms.map fun m => ptrV m.ob) ++ [ptrV wr.heap.size])) := Lib.hid o6
      have B6 : Hid (∀ b, v6.ownBlock = some b → u13.ownBlock = some b ∨ (b < w6.heap.size ∧ w5.heap.size < b)) := Lib.hid (fun b hb => by
        rcases b6 with b6 | b6
        · exact .inl (b6 ▸ hb)
        · have h1 := (own_lt o6 hb).2
          rw [b6] at hb
          injection hb with hb
          exact .inr ⟨h1, by simp at hb; omega⟩)
      clear o6 u6 b6
      have NX : Hid (Mk ck cl kb F B S0 w css svs (j + 1) w6 (S ++ [w1.heap.size, w1.heap.size + 1 + 1, w1.heap.size + 1, w1.heap.size + 1 + 1 + 1, wr.heap.size]) (ds ++ [⟨tb, .slice none 0 0, 28, #[ptrV w1.heap.size, ptrV (w1.heap.size + 1 + 1), ptrV (w1.heap.size + 1), ptrV (w1.heap.size + 1 + 1 + 1)], bodyT ck cl cs [], []⟩]) (ms ++ [⟨cs, .slice As cs.length ns, w1.heap.size, w1.heap.size + 1 + 1, w1.heap.size + 1, w1.heap.size + 1 + 1 + 1, wr.heap.size⟩]) v5 v6) := Lib.hid (by
        have hm := KM.out
        have hS0 : ∀ x ∈ S0, x ∈ S := hm.s0
        have hsvS : ∀ b, (Value.slice As cs.length ns).ownBlock = some b → b ∈ S0 := fun b hb => by
          rw [HS0.out]
          exact List.mem_cons_of_mem _ (List.mem_flatMap.2 ⟨_, List.mem_of_getElem? HSV.out.1, by simp [hb]⟩)
        have hrl : (List.replicate j (none : Option (List An))).length = ms.length := by rw [List.length_replicate, hm.ml]
        have m3 := hm.sys.m.push hrl U3.out ⟨cs, .slice As cs.length ns, w1.heap.size, w1.heap.size + 1 + 1, w1.heap.size + 1, w1.heap.size + 1 + 1 + 1, wr.heap.size⟩
          (B2.out.1.upd u3'.out (by simp)) (B2.out.2.1.upd u3'.out (by simp)) (B2.out.2.2.1.upd u3'.out (by simp)) (B2.out.2.2.2.upd u3'.out (by simp)) (HK.out.1.upd (hm.up.trans U3.out) (by simp)) (hS0 _ (by rw [HS0.out]; simp)) (HSV.out.2.2.upd0 (hm.up.trans U3.out)) (fun b hb => hS0 _ (hsvS b hb)) ((O1.out.upd u2'.out (by simp)).upd u3'.out (by simp)) (Nat.le_refl _) (fun m' hmm => by
            obtain ⟨i, hi⟩ := List.getElem?_of_mem hmm
            have hil := (List.getElem?_eq_some_iff.1 hi).1
            exact (hm.row i _ m' (List.getElem?_eq_getElem (by rw [hm.dl, ← hm.ml]; exact hil)) hi).2.2.2.2.2)
        have hs1 := S1.out
        have hs2 := S2.out
        have ht3 := T3.out
        have s3 := hm.sys.push (m06_ok ck cl kb ms _) (M' := M06 ck cl kb (ms ++ [⟨cs, .slice As cs.length ns, w1.heap.size, w1.heap.size + 1 + 1, w1.heap.size + 1, w1.heap.size + 1 + 1 + 1, wr.heap.size⟩]) fun _ => none) ⟨tb, .slice none 0 0, 28, #[ptrV w1.heap.size, ptrV (w1.heap.size + 1 + 1), ptrV (w1.heap.size + 1), ptrV (w1.heap.size + 1 + 1 + 1)], bodyT ck cl cs [], []⟩ U3.out T1.out rfl (fun x hx => by simp [TD.own, TB, Value.ownBlock] at hx; omega) m3 (fun x hx => by
          rcases List.mem_append.1 hx with hx | hx
          · exact .inl hx
          · refine .inr ⟨by simp at hx; omega, fun hx2 => ?_⟩
            simp [TD.own, TB, Value.ownBlock] at hx2
            simp at hx
            omega)
        have hfoot : ∀ x, x ∈ foot F (S ++ [w1.heap.size, w1.heap.size + 1 + 1, w1.heap.size + 1, w1.heap.size + 1 + 1 + 1, wr.heap.size]) (ds ++ [⟨tb, .slice none 0 0, 28, #[ptrV w1.heap.size, ptrV (w1.heap.size + 1 + 1), ptrV (w1.heap.size + 1), ptrV (w1.heap.size + 1 + 1 + 1)], bodyT ck cl cs [], []⟩]) → x ∈ foot F S ds ∨ (wr.heap.size ≤ x ∧ x < w3.heap.size) := by
          intro x hx
          simp only [foot, List.mem_append, List.flatMap_append] at hx ⊢
          rcases hx with (hx | hx | hx) | hx | hx
          · exact .inl (.inl (.inl hx))
          · exact .inl (.inl (.inr hx))
          · simp at hx; exact .inr (by omega)
          · exact .inl (.inr hx)
          · simp [TD.own, TB, Value.ownBlock] at hx; exact .inr (by omega)
        have hT5 := T5.out
        have hT6 := T6.out
        have hfoot3 : ∀ b, (v5.ownBlock = some b ∨ v6.ownBlock = some b ∨ u12.ownBlock = some b ∨ u13.ownBlock = some b) → b ∉ foot F S ds ∧ (b < wr.heap.size ∨ w3.heap.size ≤ b) := by
          intro b hb
          have k1 : u12.ownBlock = some b → b ∉ foot F S ds ∧ (b < wr.heap.size ∨ w3.heap.size ≤ b) := fun h => ⟨hm.tf b h, .inl (hT5 b h).2⟩
          have k2 : u13.ownBlock = some b → b ∉ foot F S ds ∧ (b < wr.heap.size ∨ w3.heap.size ≤ b) := fun h => ⟨hm.of b h, .inl (hT6 b h).2⟩
          have k3 : w3.heap.size ≤ b → b ∉ foot F S ds ∧ (b < wr.heap.size ∨ w3.heap.size ≤ b) := fun h => ⟨fun hf => by have := hm.sys.lt (m06_ok ck cl kb ms _) b hf; have := U3.out.size; omega, .inr h⟩
          have hs5 := S5.out
          rcases hb with h | h | h | h
          · rcases B5.out b h with h | h
            · exact k1 h
            · exact k3 (by omega)
          · rcases B6.out b h with h | h
            · exact k2 h
            · exact k3 (by omega)
          · exact k1 h
          · exact k2 h
        have hnf : ∀ b, (v5.ownBlock = some b ∨ v6.ownBlock = some b ∨ u12.ownBlock = some b ∨ u13.ownBlock = some b) → b ∉ foot F (S ++ [w1.heap.size, w1.heap.size + 1 + 1, w1.heap.size + 1, w1.heap.size + 1 + 1 + 1, wr.heap.size]) (ds ++ [⟨tb, .slice none 0 0, 28, #[ptrV w1.heap.size, ptrV (w1.heap.size + 1 + 1), ptrV (w1.heap.size + 1), ptrV (w1.heap.size + 1 + 1 + 1)], bodyT ck cl cs [], []⟩]) := fun b hb hf => by
          have h1 := hfoot3 b hb
          rcases hfoot b hf with h | h
          · exact h1.1 h
          · omega
        have s5 := s3.far (m06_ok ck cl kb _ _) U5.out (fun x hx => hnf x (.inr (.inr (.inl (by simpa using hx)))))
        have s6 := s5.far (m06_ok ck cl kb _ _) U6.out (fun x hx => hnf x (.inr (.inr (.inr (by simpa using hx)))))
        refine ⟨?_, by simp [hm.dl], by simp [hm.ml], fun i d m hd hmm => ?_, ?_, by rw [List.map_append]; exact O6.out, fun b hb => hnf b (.inl hb), fun b hb => hnf b (.inr (.inl hb)), ?_, fun x hx => List.mem_append_left _ (hS0 x hx), fun x hx => ?_⟩
        · rw [List.take_add_one, HSV.out.2.1, List.map_append, List.replicate_succ']
          exact s6
        · by_cases hi : i < j
          · rw [List.getElem?_append_left (by rw [hm.dl]; exact hi)] at hd
            rw [List.getElem?_append_left (by rw [hm.ml]; exact hi)] at hmm
            obtain ⟨q1, q2, q3, q4, q5, q6⟩ := hm.row i d m hd hmm
            exact ⟨q1, q2, q3, q4, q5, List.mem_append_left _ q6⟩
          · have hij : i = j := by have := (List.getElem?_eq_some_iff.1 hd).1; simp [hm.dl] at this; omega
            subst hij
            rw [List.getElem?_append_right (by rw [hm.dl]; exact Nat.le_refl _), hm.dl] at hd
            rw [List.getElem?_append_right (by rw [hm.ml]; exact Nat.le_refl _), hm.ml] at hmm
            simp at hd hmm
            subst hd hmm
            exact ⟨rfl, rfl, rfl, rfl, HSV.out.2.1, by simp⟩
        · rw [List.map_append]
          exact own_upd O5.out U6.out (fun b hb hmem => by
            rcases B5.out b hb with h | h
            · exact T7.out b h (by simpa using hmem)
            · have := (T6.out b (by simpa using hmem)).2; have := U3.out.size; omega)
        · exact ((hm.up.trans U3.out).trans' U5.out (fun x hx => .inr (hT5 x (by simpa using hx)).1)).trans' U6.out (fun x hx => .inr (hT6 x (by simpa using hx)).1)
        · rcases hfoot x hx with h | h
          · exact hm.nw x h
          · exact .inr (.inr (by have := hm.up.size; omega)))
      go_wp2_with fail
      go_round
      case rel => exact ⟨j + 1, _, _, _, v5, v6, rfl, rfl, by simp, by have := HJN.out; omega, NX⟩
      case measure => have := HJN.out; simp [intOf]; omega
    · have hji : ¬ ((j : Int) < n) := by omega
      have hjn : j = n := by omega
      subst hjn
      obtain ⟨x0, hx0⟩ : ∃ x0 : List (TS (List An)) × BS, x0 = (css.map (fun cs => ⟨bodyT ck cl cs [], false⟩), B) := ⟨_, rfl⟩
      have P0 : Hid (Pk ck cl kb F S0 w j 0 ms (fun _ => none) u12 u13 wr x0 F S ds (List.replicate j none)) := Lib.hid (by
        have hm := KM.out
        rw [hx0]
        have hsys := hm.sys
        rw [HN.out, List.take_length, ← HN.out] at hsys
        refine ⟨hsys, rfl, hm.dl, hm.ml, fun i d m hd hmm => ?_, hm.ts, hm.os, hm.tf, hm.of, hm.up.mono (by simp), fun x hx => ?_⟩
        · obtain ⟨q1, q2, q3, q4, _⟩ := hm.row i d m hd hmm
          exact ⟨q1, q2, q3, by rw [q4]; exact Nat.zero_le _⟩
        · rcases hm.nw x hx with h | h | h
          · exact .inl (List.mem_append_left _ h)
          · exact .inl (List.mem_append_right _ h)
          · exact .inr h)
      have HM : Hid (∀ (i : Nat) m, ms[i]? = some m → css[i]? = some m.cs) := Lib.hid (fun i m hmm => by
        have hil : i < ds.length := by rw [KM.out.dl, ← KM.out.ml]; exact (List.getElem?_eq_some_iff.1 hmm).1
        exact (KM.out.row i _ m (List.getElem?_eq_getElem hil) hmm).2.2.2.2.1)
      have G0 : Hid (Good x0) := Lib.hid (by rw [hx0]; exact Hg.out)
      have X0 := Lib.hid hx0
      have hB0 : w.heap.size ≤ wr.heap.size := KM.out.up.size
      clear hj hlt hx0 hB0
      have hj0 := HN8.out.1
      obtain ⟨gt, ct, rfl⟩ : ∃ g cap, u12 = .slice (some ⟨g, 0, none⟩) j cap := by
        obtain ⟨g, cap, _, e, _⟩ := own_form P0.out.ts hj0
        exact ⟨g, cap, e⟩
      obtain ⟨go, co, rfl⟩ : ∃ g cap, u13 = .slice (some ⟨g, 0, none⟩) j cap := by
        obtain ⟨g, cap, _, e, _⟩ := own_form P0.out.os hj0
        exact ⟨g, cap, e⟩
      clear hj0
      go_wp2_with fail
      go_loopw [19, 50] (fun u19 u50 wr => ∃ (q : Nat) (x : List (TS (List An)) × BS) (F' : BFp) (S : List Nat) (ds : List (TD (List An))) (rs : List (Option (List An))), u50 = .int .i64 q ∧ q ≤ np' ∧ Hid (Pk ck cl kb F S0 w j q ms (fun _ => none) (.slice (some ⟨gt, 0, none⟩) j ct) (.slice (some ⟨go, 0, none⟩) j co) wr x F' S ds rs) ∧ Hid (picksT ((ps.map (pickI j)).drop q) x = picksT (ps.map (pickI j)) x0 ∧ Good x)) (fun _ u _ => np' - (intOf u).toNat)
      case atStart => exact ⟨0, x0, F, S, ds, _, rfl, by omega, P0, Lib.hid ⟨rfl, G0.out⟩⟩
      case round =>
        obtain ⟨q, x, F', S', ds', rs', rfl, hq, KP, KX⟩ := hrel
        by_cases hlt : q < np'
        · have hqi : (q : Int) < np' := by omega
          obtain ⟨k, hk⟩ : ∃ k, ps[q]? = some k := ⟨_, List.getElem?_eq_getElem (by rw [← HNP.out]; exact hlt)⟩
          obtain ⟨hp1, hp2⟩ := pickI_eq k HN8.out.1
          have hcell : ∃ ad, Ap = some ad ∧ ad.block < wr.heap.size ∧ wr.cell? (ad.add q) = some (.int .i64 k) := by
            obtain ⟨_, A', n', e, h⟩ := HP.out _ KP.out.up
            injection e with e
            subst e
            exact h q _ (by rw [List.getElem?_map, hk]; rfl)
          obtain ⟨ad, hA, had, hcell⟩ := hcell
          obtain ⟨i, hi⟩ : ∃ i, i = pickI j k := ⟨_, rfl⟩
          rw [← hi] at hp1 hp2
          have hil : i < ds'.length := by rw [KP.out.dl]; exact hp2
          obtain ⟨d, hd⟩ : ∃ d, ds'[i]? = some d := ⟨_, List.getElem?_eq_getElem hil⟩
          have htc : wr.cell? ⟨gt, i, none⟩ = some (.pointer (some ⟨d.tb, 0, none⟩)) := own_cell KP.out.ts i _ (by rw [List.getElem?_map, hd]; rfl)
          have htl : gt < wr.heap.size := (own_lt KP.out.ts (b := gt) rfl).2
          have hii : (i : Int) < j := by omega
          have hkr : -(j : Int) < k.tmod j ∧ k.tmod j < j := ⟨Int.lt_tmod_of_pos k (by omega), Int.tmod_lt_of_pos k (by omega)⟩
          have hj8 : (j : Int) ≤ 8 := by omega
          have HKK : Hid (ps[q]? = some k ∧ i = pickI j k ∧ ds'[i]? = some d) := Lib.hid ⟨hk, hi, hd⟩
          have HQ := Lib.hid hlt
          clear hk hi hd hil hq hlt hp2
          subst hA
          go_wp2_with fail
          have hmc : ∀ m ∈ ms, m.cs.length ≤ 10 ∧ ∀ x ∈ m.cs, OkC x := fun m hm => by
            obtain ⟨y, hy⟩ := List.getElem?_of_mem hm
            exact HC.out _ (List.mem_of_getElem? (HM.out y m hy))
          have hml : i < ms.length := by rw [KP.out.ml, ← KP.out.dl]; exact (List.getElem?_eq_some_iff.1 HKK.out.2.2).1
          refine (sstep_ok (m06_ok ck cl kb ms _) HGG.out wr KP.out.sys i d HKK.out.2.2 (KP.out.body HKK.out.2.2 rfl hmc) KX.out.2 (by
            have := (KP.out.row i d _ HKK.out.2.2 (List.getElem?_eq_getElem hml)).2.2.2
            have := HP100.out
            have := HQ.out
            omega)).mono ?_
          rintro e w2 ⟨rfl, F2, S2, ds2, rs2, g1, g2, g3⟩
          have P2 := Lib.hid (KP.out.next g1 g2 g3)
          have X2 : Hid (picksT ((ps.map (pickI j)).drop (q + 1)) (sysStep x.1 x.2 i) = picksT (ps.map (pickI j)) x0 ∧ Good (sysStep x.1 x.2 i)) := Lib.hid ⟨by
            rw [← KX.out.1, drop_at (l := ps.map (pickI j)) (j := q) (x := i) (by rw [List.getElem?_map, HKK.out.1, HKK.out.2.1]; rfl)]
            rfl, HGG.out.step _ _ KX.out.2⟩
          clear g1 g2 g3 hmc hml
          go_wp2_with fail
          go_round
          case rel => exact ⟨q + 1, _, F2, S2, ds2, rs2, by simp, by have := HQ.out; omega, P2, X2⟩
          case measure => have := HQ.out; simp [intOf]; omega
        · have hqi : ¬ ((q : Int) < np') := by omega
          have X1 : Hid (x = picksT (ps.map (pickI j)) x0 ∧ Good x) := Lib.hid ⟨by
            have := KX.out.1
            rw [List.drop_of_length_le (by rw [List.length_map, ← HNP.out]; omega)] at this
            exact this, KX.out.2⟩
          have HQ : Hid (q ≤ 100) := Lib.hid (by have := HP100.out; omega)
          clear hq hlt
          go_wp2_with fail
          go_loopw [20, 21, 71] (fun u20 u21 u71 wr => ∃ (k : Nat) (x : List (TS (List An)) × BS) (F' : BFp) (S : List Nat) (ds : List (TD (List An))) (rs : List (Option (List An))) (vs : List Value), u71 = .int .i64 k ∧ k ≤ j ∧ Hid (Pk ck cl kb F S0 w j (q + 500 * k) ms (fun i => vs[i]?) (.slice (some ⟨gt, 0, none⟩) j ct) (.slice (some ⟨go, 0, none⟩) j co) wr x F' S ds rs) ∧
            Hid (endsT 500 ((List.range j).drop k) x = wholeT 500 (css.map fun cs => bodyT ck cl cs []) B (ps.map (pickI j)) ∧ Good x) ∧ Hid (vs.length = k ∧ wr.ownsRow w.heap.size 36 1 u20 k vs ∧ ∀ b, u20.ownBlock = some b → b ∉ foot F' S ds)) (fun _ _ u _ => j - (intOf u).toNat)
          case atStart =>
            refine ⟨0, x, F', S', ds', rs', [], rfl, by omega, ?_, ?_, Lib.hid ⟨rfl, own_nil _ _ _ _, by simp [Value.ownBlock]⟩⟩
            · exact KP
            · refine Lib.hid ⟨?_, X1.out.2⟩
              rw [X1.out.1, X0.out]
              unfold wholeT
              rw [List.drop_zero, List.length_map, ← HN.out, List.map_map]
              rfl
          case round =>
            obtain ⟨k, x, F', S', ds', rs', vs, rfl, hk, KP, KX, KV⟩ := hrel
            by_cases hlt : k < j
            · have hki : (k : Int) < j := by omega
              have hkl : k < ds'.length := by rw [KP.out.dl]; exact hlt
              have hkm : k < ms.length := by rw [KP.out.ml]; exact hlt
              obtain ⟨d, hd⟩ : ∃ d, ds'[k]? = some d := ⟨_, List.getElem?_eq_getElem hkl⟩
              obtain ⟨m, hm⟩ : ∃ m, ms[k]? = some m := ⟨_, List.getElem?_eq_getElem hkm⟩
              have htc : wr.cell? ⟨gt, k, none⟩ = some (.pointer (some ⟨d.tb, 0, none⟩)) := own_cell KP.out.ts k _ (by rw [List.getElem?_map, hd]; rfl)
              have htl : gt < wr.heap.size := (own_lt KP.out.ts (b := gt) rfl).2
              have hj8 : (j : Int) ≤ 8 := by omega
              have HKK : Hid (ds'[k]? = some d ∧ ms[k]? = some m ∧ k < j) := Lib.hid ⟨hd, hm, hlt⟩
              clear hkl hkm hd hm hk hlt
              go_wp2_with fail
              have hmc : ∀ m ∈ ms, m.cs.length ≤ 10 ∧ ∀ x ∈ m.cs, OkC x := fun m hm => by
                obtain ⟨y, hy⟩ := List.getElem?_of_mem hm
                exact HC.out _ (List.mem_of_getElem? (HM.out y m hy))
              have hz : (fun i => vs[i]?) k = none := List.getElem?_eq_none (by rw [KV.out.1]; exact Nat.le_refl _)
              refine (srun_ok (m06_ok ck cl kb ms _) HGG.out wr KP.out.sys k 500 d HKK.out.1 (KP.out.body HKK.out.1 hz hmc) KX.out.2 (by
                have := (KP.out.row k d m HKK.out.1 HKK.out.2.1).2.2.2
                have := HQ.out
                have := HKK.out.2.2
                have := HN8.out
                omega)).mono ?_
              rintro e w2 ⟨rfl, ⟨F2, S2, ds2, rs2, g1, g2, g3⟩, g4⟩
              have P2b := KP.out.next g1 g2 g3
              have P2 := Lib.hid P2b
              have EX : endsT 500 ((List.range j).drop (k + 1)) (sysRun 500 x.1 x.2 k) = wholeT 500 (css.map fun cs => bodyT ck cl cs []) B (ps.map (pickI j)) := by
                rw [← KX.out.1, drop_at (l := List.range j) (j := k) (x := k) (by rw [List.getElem?_range HKK.out.2.2])]
                rfl
              have hkd2 : k < ds2.length := by rw [P2b.dl]; exact HKK.out.2.2
              have hkt2 : k < (sysRun 500 x.1 x.2 k).1.length := by rw [← g1.n1]; exact hkd2
              obtain ⟨a, ha, hta⟩ : ∃ a, ans[k]? = some a ∧ (sysRun 500 x.1 x.2 k).1[k]? = some ⟨.ret a, true⟩ := by
                have h1 : (sysRun 500 x.1 x.2 k).1[k]? = some (sysRun 500 x.1 x.2 k).1[k] := List.getElem?_eq_getElem hkt2
                have h2 := HD.out k (sysRun 500 x.1 x.2 k).1[k] (by
                  rw [← HN.out, ← EX, ends_far, h1]
                  intro hm
                  have h3 : k ∈ (List.range j).take (k + 1) := List.mem_take_iff_getElem.2 ⟨k, by simp; have := HKK.out.2.2; omega, by simp⟩
                  have h4 : (List.range j).Nodup := List.nodup_range
                  rw [← List.take_append_drop (k + 1) (List.range j)] at h4
                  exact (List.nodup_append.1 h4).2.2 k h3 k hm rfl)
                obtain ⟨a, ha, e⟩ := h2
                exact ⟨a, ha, by rw [h1, e]⟩
              obtain ⟨d2, hd2⟩ : ∃ d2, ds2[k]? = some d2 := ⟨_, List.getElem?_eq_getElem hkd2⟩
              have tst := g1.st k _ _ hd2 hta
              rw [(g2.same k d _ HKK.out.1 hd2).1] at tst
              have TST := Lib.hid tst
              obtain ⟨ov, L, h1, h2, h3, h4, _⟩ := (g1.m.row k m HKK.out.2.1).out
              have hLa : L = a := h4 a (by rw [g1.r0 k _ hta rfl]; rfl)
              obtain ⟨Ao, no, rfl, _, _⟩ := h2.form
              have HO : Hid (_ ∧ _ ∧ _ ∧ _) := Lib.hid ⟨h1, h2, h3, h4⟩
              have HAA : Hid (ans[k]? = some a ∧ L = a) := Lib.hid ⟨ha, hLa⟩
              have hoc : w2.cell? ⟨go, k, none⟩ = some (.pointer (some ⟨m.ob, 0, none⟩)) := own_cell P2b.os k _ (by rw [List.getElem?_map, HKK.out.2.1]; rfl)
              have hol : go < w2.heap.size := (own_lt P2b.os (b := go) rfl).2
              have htc2 : w2.cell? ⟨gt, k, none⟩ = some (.pointer (some ⟨d.tb, 0, none⟩)) := own_cell P2b.ts k _ (by rw [List.getElem?_map, hd2]; simp only [Option.map_some]; rw [(g2.same k d _ HKK.out.1 hd2).1]; rfl)
              have htl2 : gt < w2.heap.size := (own_lt P2b.ts (b := gt) rfl).2
              have ho1 := h1.facts
              have G4 : Hid (endsT 500 ((List.range j).drop (k + 1)) (sysRun 500 x.1 x.2 k) = wholeT 500 (css.map fun cs => bodyT ck cl cs []) B (ps.map (pickI j)) ∧ Good (sysRun 500 x.1 x.2 k)) := Lib.hid ⟨EX, g4⟩
              have GX := Lib.hid g2
              have KV2 : Hid (w2.ownsRow w.heap.size 36 1 u20 k vs ∧ ∀ b, u20.ownBlock = some b → b ∉ foot F2 S2 ds2) := Lib.hid ⟨own_upd KV.out.2.1 g2.up (fun b hb hm => KV.out.2.2 b hb hm), fun b hb hm => (g2.gr b hm).elim (KV.out.2.2 b hb) (fun e => by have := (own_lt KV.out.2.1 hb).2; omega)⟩
              clear hmc hz g1 g2 g3 g4 P2b EX hkd2 hkt2 ha hta hd2 tst h1 h2 h3 h4 hLa htc htl
              go_wp2_with fail
              refine (no_nil _).mono ?_; rintro e w' ⟨rfl, rfl⟩
              go_wp2_with fail
              refine (tdone_ok _ TST.out).mono ?_; rintro e w' ⟨rfl, rfl⟩
              go_wp2_with (at_builtin; refine stoppedM ?_)
              refine Lib.hid ?_
              have hw2 : w.heap.size ≤ w2.heap.size := P2.out.up.size
              refine wpList_app _ (by rfl) (.tmp 89) (.tmp 97) _ (by rfl) ans2_elem u20 _ (by rfl) (by rfl) (own_upd0 KV2.out.1 ((Upd.refl [] _).alloc _)) (.of_blk (Blk.new w2 _ _) (m := 1) 1 rfl) (by intro u hu; simp at hu; subst hu; rfl) (by have := HN8.out; have := HKK.out.2.2; simp only [maxLen]; omega) (by have := HN8.out; have := HKK.out.2.2; omega) (Nat.le_trans hw2 (by simp)) ?_
              intro v5 w5 o5 u5 b5
              have U5b : Upd u20.ownBlock.toList w2 w5 := ((Upd.refl [] w2).alloc _).mono (by simp) |>.trans u5
              have hnf : ∀ x ∈ u20.ownBlock.toList, x ∉ foot F2 S2 ds2 := fun x hx => KV2.out.2 x (by simpa using hx)
              have hnew : ∀ x ∈ u20.ownBlock.toList, w.heap.size ≤ x := fun x hx => (own_lt KV2.out.1 (b := x) (by simpa using hx)).1
              have hlt2 := P2.out.sys.lt (m06_ok ck cl kb ms _)
              have hap : ∀ b, u20.ownBlock = some b → gt ≠ b ∧ go ≠ b := fun b hb => ⟨fun e => own_apart P2.out.ts KV2.out.1 (by decide) (b := b) (by rw [← e]; rfl) hb, fun e => own_apart P2.out.os KV2.out.1 (by decide) (b := b) (by rw [← e]; rfl) hb⟩
              have P5 : Hid (Pk ck cl kb F S0 w j (q + 500 * (k + 1)) ms (fun i => (vs ++ [.slice Ao L.length no])[i]?) (.slice (some ⟨gt, 0, none⟩) j ct) (.slice (some ⟨go, 0, none⟩) j co) w5 (sysRun 500 x.1 x.2 k) F2 S2 ds2 rs2) := Lib.hid (by
                have hp := P2.out
                have s5 := (hp.sys.re (hp.sys.m.keep HKK.out.2.1 vs KV.out.1 rfl HO.out.1 HO.out.2.1 HO.out.2.2.1 HO.out.2.2.2)).far (m06_ok ck cl kb ms _) U5b hnf
                refine ⟨s5, hp.b0, hp.dl, hp.ml, fun i d m hd hm => ?_, own_upd hp.ts U5b (fun b hb hm => ?_), own_upd hp.os U5b (fun b hb hm => ?_), hp.tf, hp.of, hp.up.trans' U5b (fun x hx => .inr (hnew x hx)), hp.nw⟩
                · obtain ⟨q1, q2, q3, q4⟩ := hp.row i d m hd hm
                  exact ⟨q1, q2, q3, by omega⟩
                · have hb' : some gt = some b := hb
                  injection hb' with hb'
                  exact (hap b (by simpa using hm)).1 hb'
                · have hb' : some go = some b := hb
                  injection hb' with hb'
                  exact (hap b (by simpa using hm)).2 hb')
              have V5 : Hid ((vs ++ [Value.slice Ao L.length no]).length = k + 1 ∧ w5.ownsRow w.heap.size 36 1 v5 (k + 1) (vs ++ [.slice Ao L.length no]) ∧ ∀ b, v5.ownBlock = some b → b ∉ foot F2 S2 ds2) := Lib.hid (by
                refine ⟨by simp [KV.out.1], o5, fun b hb hm => ?_⟩
                rcases b5 with b5 | b5
                · exact KV2.out.2 b (b5 ▸ hb) hm
                · rw [b5] at hb
                  injection hb with hb
                  have := hlt2 b hm
                  simp at hb
                  omega)
              clear o5 u5 b5 U5b hnf hnew hlt2 hap hw2
              go_wp2_with fail
              go_round
              case rel => exact ⟨k + 1, _, F2, S2, ds2, rs2, _, by simp, by have := HKK.out.2.2; omega, P5, G4, V5⟩
              case measure => have := HKK.out.2.2; simp [intOf]; omega
            · have hki : ¬ ((k : Int) < j) := by omega
              have hkj : k = j := by omega
              have FINX : Hid (RunP ans F (wholeT 500 (css.map fun cs => bodyT ck cl cs []) B (ps.map (pickI j))).2 kb cl S0 w u20 wr) := Lib.hid (by
                have hp := KP.out
                have hx : x = wholeT 500 (css.map fun cs => bodyT ck cl cs []) B (ps.map (pickI j)) := by
                  have := KX.out.1
                  rw [hkj, List.drop_of_length_le (by simp)] at this
                  exact this
                have hm0 : 0 < ms.length := by rw [hp.ml]; exact HN8.out.1
                have hr0 := hp.sys.m.row 0 _ (List.getElem?_eq_getElem hm0)
                have hal : ans.length = j := by rw [HA.out, HN.out]
                refine ⟨F', vs, by rw [← hx]; exact hp.sys.bs, hp.b0, hp.up, fun y hy => hp.nw y (mem_foot.2 (.inl hy)), hp.sys.a2 kb hr0.mem.1.2.2.2.2.2, hr0.bk, ?_, by rw [KV.out.1, hal, hkj], fun i v a hv ha => ?_⟩
                · rw [hal, ← hkj]; exact KV.out.2.1
                · have hi : i < j := by have := (List.getElem?_eq_some_iff.1 hv).1; rw [KV.out.1] at this; omega
                  have him : i < ms.length := by rw [hp.ml]; exact hi
                  obtain ⟨ov, L, h1, h2, h3, h4, h5⟩ := (hp.sys.m.row i _ (List.getElem?_eq_getElem him)).out
                  have e := h5 v hv
                  subst e
                  have hit : i < x.1.length := by rw [← hp.sys.n1, hp.dl]; exact hi
                  obtain ⟨a', ha', ht⟩ := HD.out i _ (by rw [← HN.out, ← hx]; exact List.getElem?_eq_getElem hit)
                  rw [ha] at ha'
                  injection ha' with ha'
                  subst ha'
                  have hL : L = a := h4 a (by rw [hp.sys.r0 i _ (List.getElem?_eq_getElem hit) (by rw [ht]), ht]; rfl)
                  rw [← hL]
                  exact h2)
              clear hk hlt hkj
              go_wp2_with fail
              go_ret2
              exact ⟨_, rfl, FINX.out⟩
end Go.Proofs.YtkldpdldjalpeaaDoor

namespace Go.Proofs.YtkldpdldjalpeaaDoor.Th
variable {α : Type}
/-- What it comes to, within so many accesses. -/
def exec : Nat → Pg α → BS → Option (α × BS)
  | _, .ret a, B => some (a, B)
  | 0, .acc _ _, _ => none
  | n + 1, .acc x k, B => exec n (k (ex B x).1) (ex B x).2
def IE (s B : BS) : Prop := s = B
def RE (j : Nat) (s s' : BS) : Prop := j = 0 → s' = s
def QE (a : α) (B' : BS) (j : Nat) (b : α) (s : BS) : Prop := j = 0 → b = a ∧ s = B'
theorem exec_ret (n : Nat) (a : α) (B : BS) : exec n (.ret a) B = some (a, B) := by cases n <;> rfl
theorem exec_acc (n : Nat) (x : Ac) (k : En → Pg α) (B : BS) : exec (n + 1) (.acc x k) B = exec n (k (ex B x).1) (ex B x).2 := rfl
theorem exec_more : ∀ (n : Nat) {p : Pg α} {B : BS} {r : α × BS}, exec n p B = some r → exec (n + 1) p B = some r
  | n, .ret b, B, r, h => by rw [exec_ret] at h ⊢; exact h
  | 0, .acc x k, B, r, h => by cases h
  | n + 1, .acc x k, B, r, h => exec_more n h
/-- One behind the other. -/
theorem exec_bind {β : Type} {f : α → Pg β} {a : α} {r : β × BS} : ∀ (n m : Nat) {p : Pg α} {B B1 : BS}, exec n p B = some (a, B1) → exec m (f a) B1 = some r → exec (n + m) (p.bind f) B = some r
  | 0, m, .ret b, B, B1, h, h2 => by
    rw [exec_ret] at h
    injection h with h
    injection h with h h'
    subst h h'
    rw [Nat.zero_add]
    exact h2
  | n + 1, m, .ret b, B, B1, h, h2 => by
    rw [show n + 1 + m = (n + m) + 1 by omega]
    exact exec_more _ (exec_bind n m (p := .ret b) (by rw [exec_ret] at h ⊢; exact h) h2)
  | 0, m, .acc x k, B, B1, h, h2 => by cases h
  | n + 1, m, .acc x k, B, B1, h, h2 => by
    rw [show n + 1 + m = (n + m) + 1 by omega]
    exact exec_bind n m (p := k (ex B x).1) h h2
theorem exec_safe {a : α} {B' : BS} : ∀ (n : Nat) (p : Pg α) (B : BS), exec n p B = some (a, B') → Safe IE RE 0 (QE a B' 0) p B
  | n, .ret b, B, h => by
    rw [exec_ret] at h
    injection h with h
    injection h with h1 h2
    exact fun _ => ⟨h1, h2⟩
  | 0, .acc x k, B, h => by cases h
  | n + 1, .acc x k, B, h => by
    intro s hs B2 hB2
    have : s = B := hs rfl
    subst this
    have : s = B2 := hB2
    subst this
    exact ⟨(ex s x).2, fun j hj e => absurd e hj, rfl, exec_safe n _ _ h⟩
theorem re_ok (a : α) (B' : BS) : RelOk RE (QE a B') where
  refl := fun _ _ _ => rfl
  trans := fun i s s' s'' h k e => (k e).trans (h e)
  post := fun i b s s' h q e => by rw [h e]; exact q e
theorem exec_sys {a : α} {B B' : BS} {n D : Nat} {p : Pg α} (h : exec n p B = some (a, B')) (hd : Dep p D) : Sys IE RE (QE a B') D ([(⟨p, false⟩ : TS α)], B) B := by
  refine ⟨rfl, fun i t hi => ?_, fun i t hi hdn => ?_, fun i t hi => ?_⟩
  all_goals
    cases i with
    | succ i => simp at hi
    | zero =>
      simp at hi
      subst hi
      first | exact exec_safe n p B h | exact hd | cases hdn
theorem exec_whole {a : α} {B B' : BS} {n m D : Nat} {p : Pg α} (h : exec n p B = some (a, B')) (hd : Dep p D) (hm : D < m) (picks : List Nat) : wholeT m [p] B picks = ([⟨.ret a, true⟩], B') := by
  obtain ⟨as_, s', h1, h2, h3, h4⟩ := whole_safe (re_ok a B') hm (ps := [p]) (B := B) (s := B) rfl (fun i q hq => by
    cases i with
    | succ i => simp at hq
    | zero =>
      simp at hq
      subst hq
      exact ⟨exec_safe n p B h, hd⟩) picks
  have hl : as_.length = 1 := h2
  match as_, hl with
  | [b], _ =>
    obtain ⟨rfl, rfl⟩ := h4 0 b rfl rfl
    exact Prod.ext h1 h3.symm
theorem solo_whole {n : Nat} {p : Pg α} {B : BS} : wholeT n [p] B [] = ([(soloT n ⟨p, false⟩ B).1], (soloT n ⟨p, false⟩ B).2) := rfl
theorem step_sz (x : List (TS α) × BS) (k : Nat) : ∀ q, q ∈ x.2.sz → q ∈ (sysStep x.1 x.2 k).2.sz := by
  intro q hq
  unfold sysStep
  cases x.1[k]? with
  | none => exact hq
  | some t =>
    simp only
    unfold stepT
    split
    · exact hq
    · cases t.p with
      | ret a => exact hq
      | acc a k => exact ex_sz hq
/-- What holds along the steps of one that runs alone. -/
def GoodE (a : α) (B' : BS) (D : Nat) (qs : List (Nat × Nat)) (x : List (TS α) × BS) : Prop := (∃ s, Sys IE RE (QE a B') D x s) ∧ (∀ q ∈ qs, q ∈ x.2.sz) ∧ x.1.length = 1
theorem goodE_step {a : α} {B' : BS} {D : Nat} {qs : List (Nat × Nat)} (x : List (TS α) × BS) (k : Nat) (h : GoodE a B' D qs x) : GoodE a B' D qs (sysStep x.1 x.2 k) := by
  obtain ⟨⟨s, hs⟩, h1, h2⟩ := h
  obtain ⟨s', hs'⟩ := hs.step (re_ok a B') k
  exact ⟨⟨s', hs'⟩, fun q hq => step_sz x k q (h1 q hq), by rw [sysStep_len]; exact h2⟩
theorem goodE_bad {a b : α} {B' : BS} {D : Nat} {qs : List (Nat × Nat)} {x : List (TS α) × BS} {i : Nat} {t : TS α} (h : GoodE a B' D qs x) (ht : x.1[i]? = some t) (hp : t.p = .ret b) : b = a := by
  obtain ⟨⟨s, hs⟩, h1, h2⟩ := h
  have hi : i = 0 := by have := (List.getElem?_eq_some_iff.1 ht).1; omega
  subst hi
  have := hs.safe 0 t ht
  rw [hp] at this
  exact (this rfl).1
theorem goodE_start {a : α} {B B' : BS} {n D : Nat} {p : Pg α} {qs : List (Nat × Nat)} (h : exec n p B = some (a, B')) (hd : Dep p D) (hq : ∀ q ∈ qs, q ∈ B.sz) : GoodE a B' D qs ([(⟨p, false⟩ : TS α)], B) := ⟨⟨B, exec_sys h hd⟩, hq, rfl⟩
end Go.Proofs.YtkldpdldjalpeaaDoor.Th

namespace Go.Proofs.YtkldpdldjalpeaaDoor
open Go.RowKit Th

set_option maxRecDepth 20000 in
set_option maxHeartbeats 1000000 in
theorem bnew_ok (a r fr : Nat) (ws : List Int) (w : World) (h : Ar w a r ws) (h1 : 1 ≤ fr) (h2 : fr ≤ ws.length) (h3 : ws.length ≤ 16384) (hw : ∀ x, x ∈ ws → 0 ≤ x ∧ x < 18446744073709551616) :
    Calls Tryd.prog 22 #[.pointer (some ⟨a, 0, none⟩), .int .i64 fr] w fun e w' => ∃ F : BFp, e = .returned (.tuple #[.pointer (some ⟨F.b0, 0, none⟩), .nilIface]) ∧ F.a = a ∧ F.r = r ∧ (∀ x ∈ F.l, x = a ∨ x = r ∨ w.heap.size ≤ x) ∧ BSt w' F ⟨fr, [], ws⟩ ∧ Upd [] w w' := by
  have HA := Lib.hid h
  have HL := Lib.hid (show 1 ≤ ws.length by omega)
  have HH := Lib.hid (show 1 ≤ fr ∧ fr ≤ ws.length ∧ ws.length ≤ 16384 from ⟨h1, h2, h3⟩)
  have HW := Lib.hid hw
  have hf : (1 : Int) ≤ fr ∧ (fr : Int) ≤ ws.length ∧ (1 : Int) ≤ ws.length := by omega
  have m1 : ∀ w, (Instr.makeMap 86 none).run Tryd.prog w = .ok (.map (some w.heap.size)) (w.alloc (.map #[] 0)) := fun _ => by kernel_rfl
  have m2 : ∀ w, (Instr.makeMap 87 none).run Tryd.prog w = .ok (.map (some w.heap.size)) (w.alloc (.map #[] 0)) := fun _ => by kernel_rfl
  clear h h1 h2 h3 hw
  go_enter Tryd.func22, Tryd.ntmps22
  go_wp2_with fail
  refine (len_x a r ws _ HA.out HL.out).mono ?_; rintro e w' ⟨rfl, rfl⟩
  go_wp2_with fail
  refine (len_x a r ws _ HA.out HL.out).mono ?_; rintro e w' ⟨rfl, rfl⟩
  go_wp2_with fail
  go_ret2
  have hl := HA.out.lt
  have hn := HA.out.ne
  have hh := HH.out
  have u : Upd [] w (((w.alloc (.map #[] 0)).alloc (.map #[] 0)).alloc (Obj.cells #[.pointer (some ⟨a, 0, none⟩), .int .i64 fr, .map (some w.heap.size), .map (some (w.heap.size + 1))] 89)) := (((Upd.refl _ _).alloc _).alloc _).alloc _
  have u1 : Upd [] (w.alloc (.map #[] 0)) (((w.alloc (.map #[] 0)).alloc (.map #[] 0)).alloc (Obj.cells #[.pointer (some ⟨a, 0, none⟩), .int .i64 fr, .map (some w.heap.size), .map (some (w.heap.size + 1))] 89)) := ((Upd.refl _ _).alloc _).alloc _
  have u2 : Upd [] ((w.alloc (.map #[] 0)).alloc (.map #[] 0)) (((w.alloc (.map #[] 0)).alloc (.map #[] 0)).alloc (Obj.cells #[.pointer (some ⟨a, 0, none⟩), .int .i64 fr, .map (some w.heap.size), .map (some (w.heap.size + 1))] 89)) := (Upd.refl _ _).alloc _
  have i1 : IMap ((w.alloc (.map #[] 0)).alloc (.map #[] 0)) .i64 (w.heap.size + 1) (fun _ => none) 0 := by
    have := IMap.new (w.alloc (.map #[] 0)) .i64
    rwa [show (w.alloc (.map #[] 0)).heap.size = w.heap.size + 1 by simp] at this
  refine ⟨⟨w.heap.size + 1 + 1, a, r, w.heap.size, w.heap.size + 1, []⟩, rfl, rfl, rfl, ?_, ⟨?_, HA.out.upd u (by simp) (by simp), ?_, ?_, rfl, ?_, ?_, ?_, hh, ?_, HW.out⟩, u⟩
  · intro x hx
    simp only [BFp.l, List.mem_cons, List.not_mem_nil, or_false] at hx
    rcases hx with rfl | rfl | rfl | rfl | rfl
    · exact .inr (.inr (by omega))
    · exact .inl rfl
    · exact .inr (.inl rfl)
    · exact .inr (.inr (by omega))
    · exact .inr (.inr (by omega))
  · exact Blk.newAt _ _ (by simp)
  · exact ((IMap.new w .i64).upd u1 (by simp)).congr (fun k => rfl)
  · exact i1.upd u2 (by simp)
  · intro i r n g hi; simp at hi
  · intro i j p q hi; simp at hi
  · intro p hp; simp at hp
  · simp only [BFp.l, List.nodup_cons, List.mem_cons, List.not_mem_nil, or_false, not_or, List.nodup_nil, and_true, not_false_eq_true]
    exact ⟨⟨by omega, by omega, by omega, by omega⟩, ⟨hn, by omega, by omega⟩, ⟨by omega, by omega⟩, by omega⟩
end Go.Proofs.YtkldpdldjalpeaaDoor

/-
  snap.Apply: turns done one behind the other.
-/
import Derived.Test.YthdjbflbhgbckaaFits
set_option linter.unusedVariables false
namespace Go.Proofs.Ythdjbflbhgbckaa
open Go.RowKit Stab Snap
attribute [local go_sem] litStep_value

/-- A snapshot's list is another one by now. -/
theorem SnapIs.turn {B ob : Nat} {w w1 : World} {v v' : Value} {r r' : PL} (hB : B ≤ ob) (hb : Blk w ob 68 #[v, .bool true]) (hv : Ow encPr 42 w B v r) (ho : Ow encPr 42 w1 B v' r') (hu : Upd v.ownBlock.toList w w1) (hs : Assoc.Srt r') (hl : r'.length ≤ 1000) : SnapIs B ob (w1.setCell ⟨ob, 0, none⟩ v') r' := by
  have hb1 : Blk w1 ob 68 #[v, .bool true] := hb.upd hu (fun hm => own_type hv hb (by decide) (by simpa using hm))
  obtain ⟨A, c, hA, _, _⟩ := ho.form
  subst hA
  exact ⟨hs, hl, hB, A, c, hb1.set_eq rfl, ho.upd ((Upd.refl [ob] w1).setCell (.inl (by simp)) _) (fun x hx hm => own_type ho hb1 (by decide) (by rw [hx]; simpa using hm))⟩
/-- A slice literal of one element, new. -/
def litN (H : Nat) (t : TypeId) (cs : Array Value) : Spec := ⟨fun _ => [], fun v w => ∃ g, v = .slice (some ⟨g, 0, none⟩) 1 1 ∧ H ≤ g ∧ Blk w g t cs, fun v => ∃ g, v = .slice (some ⟨g, 0, none⟩) 1 1⟩
theorem lasts0_litN (w0 : World) (H : Nat) (t : TypeId) (cs : Array Value) : Lasts0 w0 (litN H t cs) :=
  ⟨fun v w w' _ ⟨g, h1, h2, h3⟩ hu => ⟨g, h1, h2, h3.upd hu (by simp)⟩, ⟨_, 0, rfl⟩, fun _ _ ⟨g, h, _⟩ => ⟨g, h⟩⟩
theorem lasts0_det (w0 : World) (v0 : Value) : Lasts0 w0 (.det v0) := ⟨fun _ _ _ _ h _ => h, ⟨v0, rfl⟩, fun _ _ h => h⟩
def ApplyPost (r : PL) (ts : List Tn) (w : World) (e : Ending) (w' : World) : Prop := Upd [] w w' ∧
  ((∃ sb r', e = .returned (.tuple #[.pointer (some ⟨sb, 0, none⟩), .nilIface]) ∧ SnapIs w.heap.size sb w' r' ∧ runTn r ts = some r') ∨
   (∃ g k, e = .returned (.tuple #[.pointer none, .iface 71 (.pointer (some ⟨g, 0, none⟩))]) ∧ Blk w' g 74 #[.int .i64 ((k + 1 : Nat) : Int), .int .i64 12] ∧ ∃ q t, runTn r (ts.take k) = some q ∧ ts[k]? = some t ∧ stepTn q t = none))
theorem run_snoc {r q q' : PL} {ts : List Tn} {k : Nat} {t : Tn} (h : runTn r (ts.take k) = some q) (ht : ts[k]? = some t) (hs : stepTn q t = some q') : runTn r (ts.take (k + 1)) = some q' := by
  rw [List.take_add_one, ht, runTn_append, h]
  show runTn q [t] = some q'
  unfold runTn
  rw [hs]
  rfl
set_option maxRecDepth 100000 in
set_option maxHeartbeats 8000000 in
theorem s_apply (B sb : Nat) (r : PL) (At : Option Addr) (m ct : Nat) (ts : List Tn) (w : World) (h : SnapIs B sb w r) (ht : Rd encTn w (.slice At m ct) ts) (hm : ts.length = m) (hrl : r.length ≤ 300) (hml : m ≤ 300) :
    Calls Try.prog 28 #[.pointer (some ⟨sb, 0, none⟩), .slice At m ct] w fun e w' => ApplyPost r ts w e w' := by
  have H := Lib.hid h
  have HT := Lib.hid ht
  have HM := Lib.hid hm
  have HRL := Lib.hid hrl
  clear h ht hm
  go_enter Try.func28, Try.ntmps28
  go_wp2_with fail
  refine (s_is B sb r w H.out).mono ?_
  rintro e w' ⟨rfl, rfl⟩
  go_wp2_with fail
  refine (s_all B sb r w H.out).mono ?_
  rintro e w1 ⟨va, rfl, oa, u1⟩
  obtain ⟨Aa, ca, rfl, _, _⟩ := own_slice oa
  have U1 := Lib.hid (u1.alloc (.cells #[.slice Aa r.length ca, .bool true] 68))
  obtain ⟨ob, hob⟩ : ∃ ob, w1.heap.size = ob := ⟨_, rfl⟩
  have HOB : Hid (w.heap.size ≤ ob) := Lib.hid (by have := u1.size; omega)
  have S1 : Hid (SnapIs w.heap.size ob (w1.alloc (.cells #[.slice Aa r.length ca, .bool true] 68)) r) := Lib.hid ⟨H.out.srt, H.out.small, by have := u1.size; omega, Aa, ca, by rw [← hob]; exact Blk.new w1 _ _, oa.upd0 ((Upd.refl [] w1).alloc _)⟩
  clear oa u1
  go_wp2_with fail
  generalize (w1.alloc (.cells #[.slice Aa r.length ca, .bool true] 68)) = w2 at *
  clear hob
  go_loopw [21] (fun v wr => ∃ (k : Nat) (rk : PL), v = .int .i64 k ∧ k ≤ m ∧ Hid (runTn r (ts.take k) = some rk ∧ rk.length ≤ r.length + k) ∧ Hid (SnapIs w.heap.size ob wr rk) ∧ Hid (Upd [] w wr)) (fun v _ => m - (intOf v).toNat)
  case atStart => exact ⟨0, r, rfl, Nat.zero_le _, Lib.hid ⟨rfl, by omega⟩, S1, U1⟩
  case round =>
    obtain ⟨k, rk, rfl, hk, HK, S, U⟩ := hrel
    rename World => wr
    clear S1 U1
    by_cases hkm : k < m
    · obtain ⟨t, hkt⟩ : ∃ t, ts[k]? = some t := ⟨_, List.getElem?_eq_getElem (by rw [HM.out]; exact hkm)⟩
      obtain ⟨ad, rfl, -, hcl⟩ := (HT.out.upd0 U.out).at_ hkt
      have f0 : wr.cell? (ad.add (k * 4)) = some (.int .i64 t.1) := hcl 0 _ rfl
      have f1 : wr.cell? ⟨(ad.add (k * 4)).block, (ad.add (k * 4)).off + 1, none⟩ = some (.int .i64 t.2.1) := by have := hcl 1 _ rfl; rwa [show k * (encTn).s + 1 = k * 4 + (0 + 1) from rfl, add_more] at this
      have f2 : wr.cell? ⟨(ad.add (k * 4)).block, (ad.add (k * 4)).off + 2, none⟩ = some (.int .i64 t.2.2.1) := by have := hcl 2 _ rfl; rwa [show k * (encTn).s + 2 = k * 4 + (1 + 1) from rfl, add_more] at this
      have f3 : wr.cell? ⟨(ad.add (k * 4)).block, (ad.add (k * 4)).off + 3, none⟩ = some (.int .i64 t.2.2.2) := by have := hcl 3 _ rfl; rwa [show k * (encTn).s + 3 = k * 4 + (2 + 1) from rfl, add_more] at this
      have q1 : (0 : Int) ≤ (k : Int) := by omega
      have q2 : (k : Int) < (m : Int) := by omega
      have HKT := Lib.hid hkt
      obtain ⟨tb, htb⟩ : ∃ tb, wr.heap.size = tb := ⟨_, rfl⟩
      have TB : Hid (Blk (wr.alloc (.cells #[.int .i64 t.1, .int .i64 t.2.1, .int .i64 t.2.2.1, .int .i64 t.2.2.2] 65)) tb 65 #[.int .i64 t.1, .int .i64 t.2.1, .int .i64 t.2.2.1, .int .i64 t.2.2.2]) := Lib.hid (by rw [← htb]; exact Blk.new wr _ _)
      have SA := Lib.hid (S.out.upd0 ((Upd.refl [] wr).alloc (.cells #[.int .i64 t.1, .int .i64 t.2.1, .int .i64 t.2.2.1, .int .i64 t.2.2.2] 65)))
      have UA := Lib.hid (U.out.alloc (.cells #[.int .i64 t.1, .int .i64 t.2.1, .int .i64 t.2.2.1, .int .i64 t.2.2.2] 65))
      clear hcl hkt S U
      go_wp2_with fail
      clear f0 f1 f2 f3 htb
      generalize (wr.alloc (.cells #[.int .i64 t.1, .int .i64 t.2.1, .int .i64 t.2.2.1, .int .i64 t.2.2.2] 65)) = w3 at *
      refine (fits_ok _ ob rk t w3 SA.out).mono ?_
      rintro e w4 ⟨rfl, u4⟩
      have S4 := Lib.hid (SA.out.upd0 u4)
      have U4 := Lib.hid (UA.out.trans u4)
      have T4 := Lib.hid (TB.out.upd u4 (by simp))
      have FS := fits_step rk t
      clear u4 SA UA TB
      obtain ⟨os, hos⟩ : ∃ os, stepTn rk t = os := ⟨_, rfl⟩
      have HOS := Lib.hid hos
      rw [hos] at FS
      rw [FS]
      clear FS hos
      cases os with
      | none =>
        have e1 : Option.isSome (none : Option PL) = false := rfl
        rw [e1]
        obtain ⟨k1, hk1⟩ : ∃ k1, k + 1 = k1 := ⟨_, rfl⟩
        have t1 : (k : Int) + 1 = (k1 : Int) := by omega
        have t1w : IntKind.i64.wrap (k1 : Int) = (k1 : Int) := by rw [IntKind.wrap_i64]; omega
        have HK1 := Lib.hid hk1
        have BF : Hid (Blk (w4.alloc (.cells #[.int .i64 (k1 : Nat), .int .i64 12] 74)) w4.heap.size 74 #[.int .i64 (k1 : Nat), .int .i64 12]) := Lib.hid (Blk.new w4 _ _)
        have UF := Lib.hid (U4.out.alloc (.cells #[.int .i64 (k1 : Nat), .int .i64 12] 74))
        clear hk1
        go_wp2_with fail
        go_ret2
        exact ⟨UF.out, .inr ⟨_, k, rfl, by rw [HK1.out]; exact BF.out, rk, t, HK.out.1, HKT.out, HOS.out⟩⟩
      | some rn =>
        have e1 : Option.isSome (some rn : Option PL) = true := rfl
        rw [e1]
        have c1 : w4.cell? ⟨tb, 1, none⟩ = some (.int .i64 t.2.1) := T4.out.cell 1
        go_wp2_with fail
        refine (s_find _ ob rk t.2.1 w4 S4.out).mono ?_
        rintro e w5 ⟨i, b, rfl, f, u5⟩
        have F := Lib.hid f
        have G := Lib.hid (f.get S4.out.srt)
        have S5 := Lib.hid (S4.out.upd0 u5)
        have U5 := Lib.hid (U4.out.trans u5)
        have T5 := Lib.hid (T4.out.upd u5 (by simp))
        have c0 : w5.cell? ⟨tb, 0, none⟩ = some (.int .i64 t.1) := T5.out.cell 0
        have RN : Hid (runTn r (ts.take (k + 1)) = some rn ∧ rn.length ≤ r.length + (k + 1)) := Lib.hid ⟨run_snoc HK.out.1 HKT.out HOS.out, by have := step_len S4.out.srt HOS.out; have := HK.out.2; omega⟩
        have SN := Lib.hid (step_srt S4.out.srt HOS.out)
        obtain ⟨A, c, hb, ho⟩ := S5.out.obj
        obtain ⟨n, hn⟩ : ∃ n, rk.length = n := ⟨_, rfl⟩
        have HN := Lib.hid hn
        rw [hn] at hb ho
        have hn9 : n ≤ 600 := by have := HK.out.2; omega
        have hin : i ≤ n := by have := f.le; omega
        have HB := Lib.hid hb
        have HO := Lib.hid ho
        clear f u5 c1 S4 U4 T4 hb ho hn
        have c2 : w5.cell? ⟨tb, 2, none⟩ = some (.int .i64 t.2.2.1) := T5.out.cell 2
        have c3 : w5.cell? ⟨tb, 3, none⟩ = some (.int .i64 t.2.2.2) := T5.out.cell 3
        have c1 : w5.cell? ⟨tb, 1, none⟩ = some (.int .i64 t.2.1) := T5.out.cell 1
        have BW : Hid (w.heap.size ≤ w5.heap.size) := Lib.hid U5.out.size
        have RL : Hid (rn.length ≤ 1000) := Lib.hid (by have := RN.out.2; omega)
        by_cases k1 : t.1 = 1
        · have hst : Assoc.get rk t.2.1 = none ∧ Assoc.put rk t.2.1 t.2.2.2 = rn := by
            have := HOS.out
            unfold stepTn at this
            rw [if_pos k1] at this
            split at this
            · rename_i hg
              injection this with this
              exact ⟨hg, this⟩
            · cases this
          obtain rfl : b = false := by
            cases b with
            | false => rfl
            | true => have := G.out; rw [hst.1] at this; simp at this
          have FI : Hid (insL rk i (t.2.1, t.2.2.2) = rn) := Lib.hid ((F.out.ins S5.out.srt _).trans hst.2)
          have CS : Hid (∀ W, Upd [] w5.drew W → W.cell? ⟨ob, 0, none⟩ = some (.slice A n c) ∧ W.cell? ⟨tb, 1, none⟩ = some (.int .i64 t.2.1) ∧ W.cell? ⟨tb, 3, none⟩ = some (.int .i64 t.2.2.2)) := Lib.hid (fun W hW => by
            have hu := (Upd.refl [] w5).drew.trans hW
            exact ⟨(HB.out.upd hu (by simp)).cell 0, (T5.out.upd hu (by simp)).cell 1, (T5.out.upd hu (by simp)).cell 3⟩)
          have d1 : (t.1 == 1) = true := by simpa using k1
          clear hst k1
          go_wp2_with fail
          refine wp_invNT0 12 [(10, .det (.agg #[.int .i64 t.2.1, .int .i64 t.2.2.2])), (11, litN w5.heap.size 42 #[.int .i64 t.2.1, .int .i64 t.2.2.2])] (by kernel_rfl) (by simp) (by kernel_rfl) (by kernel_rfl) ⟨lasts0_det _ _, lasts0_litN _ _ _ _, trivial⟩ ?_
          simp only [List.take_succ_cons, List.take_zero, List.drop_succ_cons, List.drop_zero]
          with_reducible apply wpV_light
          · simp only [lightOp]
          · intro W hU hF
            have f0 := CS.out W hU
            clear hU hF
            go_simp
            exact rfl
          simp only [Act.put, List.setIfInBounds_toArray, List.set_cons_zero, List.set_cons_succ]
          with_reducible apply wpV_light
          · simp only [lightOp]
          · intro W hU hF
            have f0 := CS.out W hU
            clear hU hF
            go_simp
            exact rfl
          simp only [Act.put, List.setIfInBounds_toArray, List.set_cons_zero, List.set_cons_succ]
          with_reducible apply wpV_light
          · simp only [lightOp]
          · intro W hU hF
            have f0 := CS.out W hU
            clear hU hF
            go_simp
            exact rfl
          simp only [Act.put, List.setIfInBounds_toArray, List.set_cons_zero, List.set_cons_succ]
          with_reducible apply wpV_light
          · simp only [lightOp]
          · intro W hU hF
            have f0 := CS.out W hU
            clear hU hF
            go_simp
            exact rfl
          simp only [Act.put, List.setIfInBounds_toArray, List.set_cons_zero, List.set_cons_succ]
          with_reducible apply wpV_light
          · simp only [lightOp]
          · intro W hU hF
            have f0 := CS.out W hU
            clear hU hF
            go_simp
            exact rfl
          simp only [Act.put, List.setIfInBounds_toArray, List.set_cons_zero, List.set_cons_succ]
          with_reducible apply wpV_light
          · simp only [lightOp]
          · intro W hU hF
            have f0 := CS.out W hU
            clear hU hF
            go_simp
            exact rfl
          simp only [Act.put, List.setIfInBounds_toArray, List.set_cons_zero, List.set_cons_succ]
          with_reducible apply wpV_light
          · simp only [lightOp]
          · intro W hU hF
            have f0 := CS.out W hU
            clear hU hF
            go_simp
            exact rfl
          simp only [Act.put, List.setIfInBounds_toArray, List.set_cons_zero, List.set_cons_succ]
          with_reducible apply wpV_light
          · simp only [lightOp]
          · intro W hU hF
            have f0 := CS.out W hU
            clear hU hF
            go_simp
            exact rfl
          simp only [Act.put, List.setIfInBounds_toArray, List.set_cons_zero, List.set_cons_succ]
          with_reducible apply wpV_light
          · simp only [lightOp]
          · intro W hU hF
            have f0 := CS.out W hU
            clear hU hF
            go_simp
            exact rfl
          simp only [Act.put, List.setIfInBounds_toArray, List.set_cons_zero, List.set_cons_succ]
          with_reducible apply wpV_light
          · simp only [lightOp]
          · intro W hU hF
            have f0 := CS.out W hU
            clear hU hF
            go_simp
            exact rfl
          simp only [Act.put, List.setIfInBounds_toArray, List.set_cons_zero, List.set_cons_succ]
          refine wpV_heavy (by simp only [lightOp]) (by rfl) (fun W hU hk hF K hK => ?_) ?_
          · go_wp2_with fail
            exact hK.out _ _ (outV_new rfl rfl (by intro b hb; cases hb) (.refl _ _))
          rintro _ rfl
          simp only [Act.put, List.setIfInBounds_toArray, List.set_cons_zero, List.set_cons_succ]
          refine wpV_heavy (by simp only [lightOp]) (by rfl) (fun W hU hk hF K hK => ?_) ?_
          · go_wp2_with fail
            exact hK.out _ _ (outV_new rfl ⟨_, rfl, hU.size, Blk.new _ _ _⟩ (by intro b hb; cases hb) ((Upd.refl [] _).alloc _))
          rintro _ ⟨vb, rfl⟩
          simp only [Act.put, List.setIfInBounds_toArray, List.set_cons_zero, List.set_cons_succ]
          refine wpV_end (fun w7 hU _ hF => ?_)
          have U6 : Hid (Upd [] w5 w7) := Lib.hid ((Upd.refl [] w5).drew.trans hU)
          have VB2 : Hid (w5.heap.size ≤ vb ∧ Blk w7 vb 42 #[.int .i64 t.2.1, .int .i64 t.2.2.2]) := Lib.hid (by
            obtain ⟨g2, he, hg, hb⟩ := hF.out.2.1 (by kernel_rfl)
            injection he with he _ _
            injection he with he
            injection he with he
            subst he
            exact ⟨hg, hb⟩)
          have VB := Lib.hid VB2.out.2
          clear hU hF CS c0 c1 c2 c3
          have HO6 := Lib.hid (HO.out.upd0 U6.out)
          have HB6 := Lib.hid (HB.out.upd U6.out (by simp))
          have U7 := Lib.hid (U5.out.trans U6.out)
          have VN : Hid ((Value.slice A n c).ownBlock ≠ some vb) := Lib.hid (fun e => by have := (own_lt HO.out e).2; have := VB2.out.1; omega)
          refine wpT_op (by rfl) (fun K hK => ?_)
          go_wp2_with fail
          refine (insert_ok w.heap.size A n c rk i vb (t.2.1, t.2.2.2) w7 HO6.out HN.out hin (by omega) VB.out VN.out U7.out.size).mono ?_
          rintro e w8 ⟨v', rfl, o8, u8⟩
          rw [FI.out] at o8
          have S9 := Lib.hid (SnapIs.turn HOB.out HB6.out HO6.out o8 u8 SN.out RL.out)
          have U9 : Hid (Upd [] w (w8.setCell ⟨ob, 0, none⟩ v')) := Lib.hid ((U7.out.trans' u8 (fun x hx => .inr (own_lt HO6.out (by simpa using hx)).1)).setCell (.inr HOB.out) _)
          have HB8 : Hid (Blk w8 ob 68 #[.slice A n c, .bool true]) := Lib.hid (HB6.out.upd u8 (fun hm => own_type HO6.out HB6.out (by decide) (by simpa using hm)))
          obtain ⟨A8, c8, hA8, _, _⟩ := o8.form
          subst hA8
          clear o8 u8 HO6 HB6 VB VN U7
          go_wp2_with fail
          refine hK.out _ _ ?_
          clear hK K
          try simp only [Act.put, List.setIfInBounds_toArray, List.set_cons_zero, List.set_cons_succ]
          have f0 : w8.cell? ⟨ob, 0, none⟩ = some (.slice A n c) := HB8.out.cell 0
          have f1 : w8.frozen? ⟨ob, 0, none⟩ = false := HB8.out.frozen 0
          have f2 : ob < w8.heap.size := HB8.out.lt
          refine wpT_op (by rfl) (fun K hK => ?_)
          go_wp2_with fail
          refine hK.out _ _ ?_
          clear hK K
          try simp only [Act.put, List.setIfInBounds_toArray, List.set_cons_zero, List.set_cons_succ]
          refine wpT_op (by rfl) (fun K hK => ?_)
          go_wp2_with fail
          refine hK.out _ _ ?_
          clear hK K
          try simp only [Act.put, List.setIfInBounds_toArray, List.set_cons_zero, List.set_cons_succ]
          refine wpT_op (by rfl) (fun K hK => ?_)
          go_wp2_with fail
          refine hK.out _ _ ?_
          clear hK K
          try simp only [Act.put, List.setIfInBounds_toArray, List.set_cons_zero, List.set_cons_succ]
          refine wpT_end ?_
          go_wp2_with fail
          go_roundw
          case rel => exact ⟨k + 1, rn, by go_num, by omega, RN, S9, U9⟩
          case measure => simp [intOf]; omega
        · have d1 : (t.1 == 1) = false := by simpa using k1
          by_cases k2 : t.1 = 2
          · have hst : Assoc.get rk t.2.1 = some t.2.2.1 ∧ Assoc.del rk t.2.1 = rn := by
              have := HOS.out
              unfold stepTn at this
              rw [if_neg k1, if_pos k2] at this
              split at this
              · rename_i hg
                injection this with this
                exact ⟨hg, this⟩
              · cases this
            obtain rfl : b = true := by
              cases b with
              | true => rfl
              | false => have := G.out; rw [hst.1] at this; simp at this
            have FI : Hid (delL rk i = rn) := Lib.hid ((F.out.del S5.out.srt).trans hst.2)
            have hin2 : i < n := by have := (F.out.is.1 rfl).1; rwa [HN.out] at this
            have d2 : (t.1 == 2) = true := by simpa using k2
            obtain ⟨g, cg, cur, e1', -⟩ := own_form HO.out (by rw [HN.out]; omega)
            injection e1' with e1' en e1''
            subst e1' e1''
            have b0 : w5.cell? ⟨ob, 0, none⟩ = some (.slice (some ⟨g, 0, none⟩) n c) := HB.out.cell 0
            obtain ⟨j, hj⟩ : ∃ j, i + 1 = j := ⟨_, rfl⟩
            have t1 : (i : Int) + 1 = (j : Int) := by omega
            have t1w : IntKind.i64.wrap (j : Int) = (j : Int) := by rw [IntKind.wrap_i64]; omega
            have HJ := Lib.hid hj
            clear hst k1 k2 en hj
            go_wp2_with fail
            refine (delete_ok w.heap.size g n c rk i j w5 HO.out HN.out HJ.out (by have := HJ.out; omega) (by omega)).mono ?_
            rintro e w8 ⟨rfl, o8, u8⟩
            rw [FI.out] at o8
            have u8' : Upd (Value.slice (some ⟨g, 0, none⟩) n c).ownBlock.toList w5 w8 := u8
            have S9 := Lib.hid (SnapIs.turn HOB.out HB.out HO.out o8 u8' SN.out RL.out)
            have U9 : Hid (Upd [] w (w8.setCell ⟨ob, 0, none⟩ (.slice (some ⟨g, 0, none⟩) (n - 1) c))) := Lib.hid ((U5.out.trans' u8' (fun x hx => .inr (own_lt HO.out (by simpa using hx)).1)).setCell (.inr HOB.out) _)
            have HB8 : Hid (Blk w8 ob 68 #[.slice (some ⟨g, 0, none⟩) n c, .bool true]) := Lib.hid (HB.out.upd u8' (fun hm => own_type HO.out HB.out (by decide) (by simpa using hm)))
            clear o8 u8 u8' c0 c1 c2 c3 b0 t1 t1w
            have f0 : w8.cell? ⟨ob, 0, none⟩ = some (.slice (some ⟨g, 0, none⟩) n c) := HB8.out.cell 0
            have f1 : w8.frozen? ⟨ob, 0, none⟩ = false := HB8.out.frozen 0
            have f2 : ob < w8.heap.size := HB8.out.lt
            go_wp2_with fail
            go_roundw
            case rel => exact ⟨k + 1, rn, by go_num, by omega, RN, S9, U9⟩
            case measure => simp [intOf]; omega
          · have d2 : (t.1 == 2) = false := by simpa using k2
            have hst : t.1 = 3 ∧ Assoc.get rk t.2.1 = some t.2.2.1 ∧ Assoc.put rk t.2.1 t.2.2.2 = rn := by
              have := HOS.out
              unfold stepTn at this
              rw [if_neg k1, if_neg k2] at this
              split at this
              · rename_i k3
                split at this
                · rename_i hg
                  injection this with this
                  exact ⟨k3, hg, this⟩
                · cases this
              · cases this
            obtain rfl : b = true := by
              cases b with
              | true => rfl
              | false => have := G.out; rw [hst.2.1] at this; simp at this
            have FI : Hid (rk.set i (t.2.1, t.2.2.2) = rn) := Lib.hid ((F.out.set S5.out.srt _).trans hst.2.2)
            have hin2 : i < n := by have := (F.out.is.1 rfl).1; rwa [HN.out] at this
            have d3 : (t.1 == 3) = true := by simpa using hst.1
            obtain ⟨v0, hv0⟩ := F.out.at_
            have HV0 := Lib.hid hv0
            obtain ⟨g, cg, cur, e1', -⟩ := own_form HO.out (by rw [HN.out]; omega)
            injection e1' with e1' en e1''
            subst e1' e1''
            have r1 : (0 : Int) ≤ (i : Int) := by omega
            have r2 : (i : Int) < (n : Int) := by omega
            have CS : Hid (∀ W, Upd [] w5.drew W → W.cell? ⟨ob, 0, none⟩ = some (.slice (some ⟨g, 0, none⟩) n c) ∧ W.cell? ⟨tb, 3, none⟩ = some (.int .i64 t.2.2.2)) := Lib.hid (fun W hW => by
              have hu := (Upd.refl [] w5).drew.trans hW
              exact ⟨(HB.out.upd hu (by simp)).cell 0, (T5.out.upd hu (by simp)).cell 3⟩)
            clear hst k1 k2 en hv0
            go_wp2_with fail
            refine wp_invNT 9 [] [] (by kernel_rfl) (by simp) (by kernel_rfl) (by kernel_rfl) trivial ?_
            simp only [List.take_succ_cons, List.take_zero, List.drop_succ_cons, List.drop_zero]
            with_reducible apply wpV_light
            · simp only [lightOp]
            · intro W hU hF
              have f0 := CS.out W hU
              clear hU hF
              go_simp
              exact rfl
            simp only [Act.put, List.setIfInBounds_toArray, List.set_cons_zero, List.set_cons_succ]
            with_reducible apply wpV_light
            · simp only [lightOp]
            · intro W hU hF
              have f0 := CS.out W hU
              clear hU hF
              go_simp
              exact rfl
            simp only [Act.put, List.setIfInBounds_toArray, List.set_cons_zero, List.set_cons_succ]
            with_reducible apply wpV_light
            · simp only [lightOp]
            · intro W hU hF
              have f0 := CS.out W hU
              clear hU hF
              go_simp
              exact rfl
            simp only [Act.put, List.setIfInBounds_toArray, List.set_cons_zero, List.set_cons_succ]
            with_reducible apply wpV_light
            · simp only [lightOp]
            · intro W hU hF
              have f0 := CS.out W hU
              clear hU hF
              go_simp
              exact rfl
            simp only [Act.put, List.setIfInBounds_toArray, List.set_cons_zero, List.set_cons_succ]
            with_reducible apply wpV_light
            · simp only [lightOp]
            · intro W hU hF
              have f0 := CS.out W hU
              clear hU hF
              go_simp
              exact rfl
            simp only [Act.put, List.setIfInBounds_toArray, List.set_cons_zero, List.set_cons_succ]
            with_reducible apply wpV_light
            · simp only [lightOp]
            · intro W hU hF
              have f0 := CS.out W hU
              clear hU hF
              go_simp
              exact rfl
            simp only [Act.put, List.setIfInBounds_toArray, List.set_cons_zero, List.set_cons_succ]
            with_reducible apply wpV_light
            · simp only [lightOp]
            · intro W hU hF
              have f0 := CS.out W hU
              clear hU hF
              go_simp
              exact rfl
            simp only [Act.put, List.setIfInBounds_toArray, List.set_cons_zero, List.set_cons_succ]
            with_reducible apply wpV_light
            · simp only [lightOp]
            · intro W hU hF
              have f0 := CS.out W hU
              clear hU hF
              go_simp
              exact rfl
            simp only [Act.put, List.setIfInBounds_toArray, List.set_cons_zero, List.set_cons_succ]
            with_reducible apply wpV_light
            · simp only [lightOp]
            · intro W hU hF
              have f0 := CS.out W hU
              clear hU hF
              go_simp
              exact rfl
            simp only [Act.put, List.setIfInBounds_toArray, List.set_cons_zero, List.set_cons_succ]
            refine wpV_end (fun W hU _ _ => ?_)
            have U6 : Hid (Upd [] w5 W) := Lib.hid ((Upd.refl [] w5).drew.trans hU)
            clear hU CS c0 c1 c2 c3
            have HO6 := Lib.hid (HO.out.upd0 U6.out)
            have HB6 := Lib.hid (HB.out.upd U6.out (by simp))
            have f0 : W.cell? ⟨g, i * 2 + 1, none⟩ = some (.int .i64 v0) := HO6.out.at_ HV0.out 1 _ rfl
            have OW6 : Hid (W.ownsRow w.heap.size 42 2 (.slice (some ⟨g, 0, none⟩) n c) n (flat encPr rk)) := Lib.hid (by have := HO6.out; unfold Ow at this; rw [HN.out] at this; exact this)
            have f1 : ∀ q, W.frozen? ⟨g, q, none⟩ = false := fun q => own_frozen OW6.out q
            have f2 : g < W.heap.size := (own_lt OW6.out rfl).2
            have O7 : Hid (Ow encPr 42 (W.setCell ⟨g, i * 2 + 1, none⟩ (.int .i64 t.2.2.2)) w.heap.size (.slice (some ⟨g, 0, none⟩) n c) rn) := Lib.hid (by
              rw [← FI.out]
              have h0 := HO6.out
              unfold Ow at h0 ⊢
              rw [HN.out] at h0
              rw [List.length_set, HN.out, ← flat_set HV0.out]
              exact own_set h0 _ _)
            have U7 : Hid (Upd [g] w5 (W.setCell ⟨g, i * 2 + 1, none⟩ (.int .i64 t.2.2.2))) := Lib.hid ((U6.out.mono (by simp)).setCell (.inl (by simp)) _)
            have S7 : Hid (SnapIs w.heap.size ob (W.setCell ⟨g, i * 2 + 1, none⟩ (.int .i64 t.2.2.2)) rn) := Lib.hid ⟨SN.out, RL.out, HOB.out, some ⟨g, 0, none⟩, c, by
              rw [← FI.out, List.length_set, HN.out]
              exact HB.out.upd U7.out (fun hm => own_type HO.out HB.out (by decide) (by simp at hm; rw [hm]; rfl)), by
              rw [show rn.length = n by rw [← FI.out, List.length_set, HN.out]]
              exact O7.out⟩
            have U9 : Hid (Upd [] w (W.setCell ⟨g, i * 2 + 1, none⟩ (.int .i64 t.2.2.2))) := Lib.hid (U5.out.trans' U7.out (fun x hx => .inr (own_lt HO.out (by simp at hx; rw [hx]; rfl)).1))
            refine wpT_op (by rfl) (fun K hK => ?_)
            go_wp2_with fail
            refine hK.out _ _ ?_
            clear hK K
            try simp only [Act.put, List.setIfInBounds_toArray, List.set_cons_zero, List.set_cons_succ]
            refine wpT_end ?_
            clear f0 f1 f2
            go_wp2_with fail
            go_roundw
            case rel => exact ⟨k + 1, rn, by go_num, by omega, RN, S7, U9⟩
            case measure => simp [intOf]; omega
    · go_wp2_with fail
      go_ret2
      refine ⟨U.out, .inl ⟨ob, rk, rfl, S.out, ?_⟩⟩
      have := HK.out.1
      rwa [List.take_of_length_le (by rw [HM.out]; omega)] at this
end Go.Proofs.Ythdjbflbhgbckaa

/-
  concordref27.Apply.
-/
import Derived.Test.YthdjbflbhgbckaaDoorRDiffM
set_option linter.unusedVariables false
namespace Go.Proofs.YthdjbflbhgbckaaDoor
open Go.RowKit Stab Snap Mrg
attribute [local go_sem] litStep_value

theorem put_over_del {l : PL} (h : Assoc.Srt l) (k v : Int) : Assoc.put (Assoc.del l k) k v = Assoc.put l k v := Assoc.ext (Assoc.srt_put (Assoc.srt_del h k) k v) (Assoc.srt_put h k v) fun x => by
  rw [Assoc.get_put (Assoc.srt_del h k), Assoc.get_put h, Assoc.get_del]
  by_cases e : x = k
  · rw [if_pos e, if_pos e]
  · rw [if_neg e, if_neg e, if_neg e]
/-- The place that Find tells: what is left without it. -/
theorem del_here {l : PL} (h : Assoc.Srt l) {i : Nat} {k v : Int} (hi : l[i]? = some (k, v)) : l.take i ++ l.drop (i + 1) = Assoc.del l k := by
  have e := split_here hi
  have h' := h
  rw [e] at h'
  have := del_at h'
  rw [← e] at this
  exact this.symm
def RApplyPost (B : Nat) (r : PL) (ts : List Tn) (w : World) (e : Ending) (w' : World) : Prop := Upd [] w w' ∧
  ∃ v q f a, e = .returned (.tuple #[v, .int .i64 f, .int .i64 a]) ∧ Ow encPr 39 w' B v q ∧
    ((f = 0 ∧ a = 0 ∧ runTn r ts = some q ∧ q.length ≤ r.length + ts.length) ∨ (f = 12 ∧ q = [] ∧ ∃ (k : Nat) (z : PL) (t : Tn), a = ((k + 1 : Nat) : Int) ∧ runTn r (ts.take k) = some z ∧ ts[k]? = some t ∧ stepTn z t = none))
set_option maxRecDepth 100000 in
set_option maxHeartbeats 8000000 in
theorem r_apply (B : Nat) (A : Option Addr) (n c : Nat) (r : PL) (At : Option Addr) (m ct : Nat) (ts : List Tn) (w : World) (h : Ow encPr 39 w B (.slice A n c) r) (hn : r.length = n) (ht : Rd encTn w (.slice At m ct) ts) (hm : ts.length = m) (hl : n ≤ 300) (hml : m ≤ 300) (hs : Assoc.Srt r) (hB : B ≤ w.heap.size) :
    Calls Tryd.prog 16 #[.slice A n c, .slice At m ct] w fun e w' => RApplyPost B r ts w e w' := by
  have H := Lib.hid h
  have HN := Lib.hid hn
  have HT := Lib.hid ht
  have HM := Lib.hid hm
  have HS := Lib.hid hs
  have HB := Lib.hid hB
  clear h hn ht hm hs hB
  go_enter Tryd.func16, Tryd.ntmps16
  go_wp2_with fail
  go_loopw [8, 7] (fun vi v7 wr => ∃ (k n7 : Nat) (A7 : Option Addr) (c7 : Nat) (rk : PL), vi = .int .i64 k ∧ v7 = .slice A7 n7 c7 ∧ k ≤ m ∧ Hid (rk.length = n7 ∧ runTn r (ts.take k) = some rk ∧ rk.length ≤ n + k) ∧ Hid (Upd [] w wr) ∧ Hid (Ow encPr 39 wr B (.slice A7 n7 c7) rk)) (fun vi _ _ => m - (intOf vi).toNat)
  case atStart => exact ⟨0, n, A, c, r, rfl, rfl, Nat.zero_le _, Lib.hid ⟨HN.out, rfl, by rw [HN.out]; omega⟩, Lib.hid (.refl _ _), H⟩
  case round =>
    obtain ⟨k, n7, A7, c7, rk, rfl, rfl, hk, HK, U, O⟩ := hrel
    rename World => wr
    by_cases hkm : k < m
    · obtain ⟨t, hkt⟩ : ∃ t, ts[k]? = some t := ⟨_, List.getElem?_eq_getElem (by rw [HM.out]; exact hkm)⟩
      obtain ⟨ad, rfl, -, hcl⟩ := (HT.out.upd0 U.out).at_ hkt
      have f0 : wr.cell? (ad.add (k * 4)) = some (.int .i64 t.1) := hcl 0 _ rfl
      have f1 : wr.cell? ⟨(ad.add (k * 4)).block, (ad.add (k * 4)).off + 1, none⟩ = some (.int .i64 t.2.1) := by have := hcl 1 _ rfl; rwa [show k * (encTn).s + 1 = k * 4 + (0 + 1) from rfl, add_more] at this
      have f2 : wr.cell? ⟨(ad.add (k * 4)).block, (ad.add (k * 4)).off + 2, none⟩ = some (.int .i64 t.2.2.1) := by have := hcl 2 _ rfl; rwa [show k * (encTn).s + 2 = k * 4 + (1 + 1) from rfl, add_more] at this
      have f3 : wr.cell? ⟨(ad.add (k * 4)).block, (ad.add (k * 4)).off + 3, none⟩ = some (.int .i64 t.2.2.2) := by have := hcl 3 _ rfl; rwa [show k * (encTn).s + 3 = k * 4 + (2 + 1) from rfl, add_more] at this
      have q1 : (0 : Int) ≤ (k : Int) := by omega
      have q2 : (k : Int) < (m : Int) := by omega
      have HKT := Lib.hid hkt
      have hn7 : n7 ≤ 600 := by have := HK.out; omega
      have SK := Lib.hid (run_srt HS.out HK.out.2.1)
      obtain ⟨tb, htb⟩ : ∃ tb, wr.heap.size = tb := ⟨_, rfl⟩
      have TB : Hid (Blk (wr.alloc (.cells #[.int .i64 t.1, .int .i64 t.2.1, .int .i64 t.2.2.1, .int .i64 t.2.2.2] 51)) tb 51 #[.int .i64 t.1, .int .i64 t.2.1, .int .i64 t.2.2.1, .int .i64 t.2.2.2]) := Lib.hid (by rw [← htb]; exact Blk.new wr _ _)
      have O3 := Lib.hid (O.out.upd0 ((Upd.refl [] wr).alloc (.cells #[.int .i64 t.1, .int .i64 t.2.1, .int .i64 t.2.2.1, .int .i64 t.2.2.2] 51)))
      have U3 := Lib.hid (U.out.alloc (.cells #[.int .i64 t.1, .int .i64 t.2.1, .int .i64 t.2.2.1, .int .i64 t.2.2.2] 51))
      clear hcl hkt O U
      go_wp2_with fail
      clear f0 f1 f2 f3 htb
      generalize (wr.alloc (.cells #[.int .i64 t.1, .int .i64 t.2.1, .int .i64 t.2.2.1, .int .i64 t.2.2.2] 51)) = w3 at *
      refine (r_find A7 n7 c7 rk t.2.1 w3 O3.out.rd HK.out.1 (by omega)).mono ?_
      rintro e w' ⟨kf, rfl, hf, rfl⟩
      have c0 : w3.cell? ⟨tb, 0, none⟩ = some (.int .i64 t.1) := TB.out.cell 0
      have c1 : w3.cell? ⟨tb, 1, none⟩ = some (.int .i64 t.2.1) := TB.out.cell 1
      have c3 : w3.cell? ⟨tb, 3, none⟩ = some (.int .i64 t.2.2.2) := TB.out.cell 3
      have n1 : decide ((0 : Int) ≤ -1) = false := by decide
      have n2 : decide ((-1 : Int) < 0) = true := by decide
      have BW : Hid (B ≤ w3.heap.size) := Lib.hid (Nat.le_trans HB.out U3.out.size)
      obtain ⟨k1, hk1⟩ : ∃ k1, k + 1 = k1 := ⟨_, rfl⟩
      have t1 : (k : Int) + 1 = (k1 : Int) := by omega
      have t1w : IntKind.i64.wrap (k1 : Int) = (k1 : Int) := by rw [IntKind.wrap_i64]; omega
      have HK1 := Lib.hid hk1
      clear hk1
      have C3 : Hid (∀ W, Upd [] w3.drew W → W.cell? ⟨tb, 0, none⟩ = some (.int .i64 t.1)) := Lib.hid (fun W hW => (TB.out.upd ((Upd.refl [] w3).drew.trans hW) (by simp)).cell 0)
      -- the turn can't be done
      by_cases k1' : t.1 = 1
      · have d1 : (t.1 == 1) = true := by simpa using k1'
        have d2 : (t.1 == 2) = false := by simp [k1']
        have d3 : (t.1 == 3) = false := by simp [k1']
        cases hg : Assoc.get rk t.2.1 with
        | none =>
          have ST : Hid (stepTn rk t = some (Assoc.put rk t.2.1 t.2.2.2)) := Lib.hid (by unfold stepTn; rw [if_pos k1', if_pos hg])
          obtain rfl := find_none hf hg
          have HG := Lib.hid hg
          clear hf hg k1'
          go_wp2_with fail
          refine (r_put B A7 n7 c7 rk t.2.1 t.2.2.2 w3 O3.out HK.out.1 (by omega) HG.out).mono ?_
          rintro e w4 ⟨v4, rfl, o4, u4⟩
          have HL4 : Hid ((Assoc.put rk t.2.1 t.2.2.2).length = n7 + 1) := Lib.hid (by rw [Assoc.len_put SK.out, HG.out, HK.out.1]; rfl)
          obtain ⟨A4, c4, rfl, _, _⟩ := own_slice o4
          have O4 : Hid (Ow encPr 39 w4 B (.slice A4 (n7 + 1) c4) (Assoc.put rk t.2.1 t.2.2.2)) := Lib.hid (by unfold Ow; have := own_base o4 BW.out; rw [HL4.out] at this ⊢; exact this)
          rw [HL4.out]
          have U4 := Lib.hid (U3.out.trans u4)
          have C4 : Hid (∀ W, Upd [] w4.drew W → W.cell? ⟨tb, 0, none⟩ = some (.int .i64 t.1)) := Lib.hid (fun W hW => (TB.out.upd (u4.trans ((Upd.refl [] w4).drew.trans hW)) (by simp)).cell 0)
          clear o4 u4 c0 c1 c3
          go_wp2_with fail
          refine wp_invN [] [] (by kernel_rfl) (by kernel_rfl) (by kernel_rfl) trivial ?_
          with_reducible apply wpV_light
          · simp only [lightOp]
          · intro W hU hF
            have f0 := C4.out W hU
            clear hU hF
            go_simp
            exact rfl
          simp only [Act.put, List.setIfInBounds_toArray, List.set_cons_zero, List.set_cons_succ]
          with_reducible apply wpV_light
          · simp only [lightOp]
          · intro W hU hF
            have f0 := C4.out W hU
            clear hU hF
            go_simp
            exact rfl
          simp only [Act.put, List.setIfInBounds_toArray, List.set_cons_zero, List.set_cons_succ]
          with_reducible apply wpV_light
          · simp only [lightOp]
          · intro W hU hF
            have f0 := C4.out W hU
            clear hU hF
            go_simp
            exact rfl
          simp only [Act.put, List.setIfInBounds_toArray, List.set_cons_zero, List.set_cons_succ]
          with_reducible apply wpV_light
          · simp only [lightOp]
          · intro W hU hF
            have f0 := C4.out W hU
            clear hU hF
            go_simp
            exact rfl
          simp only [Act.put, List.setIfInBounds_toArray, List.set_cons_zero, List.set_cons_succ]
          with_reducible apply wpV_light
          · simp only [lightOp]
          · intro W hU hF
            have f0 := C4.out W hU
            clear hU hF
            go_simp
            exact rfl
          simp only [Act.put, List.setIfInBounds_toArray, List.set_cons_zero, List.set_cons_succ]
          with_reducible apply wpV_light
          · simp only [lightOp]
          · intro W hU hF
            have f0 := C4.out W hU
            clear hU hF
            go_simp
            exact rfl
          simp only [Act.put, List.setIfInBounds_toArray, List.set_cons_zero, List.set_cons_succ]
          with_reducible apply wpV_light
          · simp only [lightOp]
          · intro W hU hF
            have f0 := C4.out W hU
            clear hU hF
            go_simp
            exact rfl
          simp only [Act.put, List.setIfInBounds_toArray, List.set_cons_zero, List.set_cons_succ]
          with_reducible apply wpV_light
          · simp only [lightOp]
          · intro W hU hF
            have f0 := C4.out W hU
            clear hU hF
            go_simp
            exact rfl
          simp only [Act.put, List.setIfInBounds_toArray, List.set_cons_zero, List.set_cons_succ]
          with_reducible apply wpV_light
          · simp only [lightOp]
          · intro W hU hF
            have f0 := C4.out W hU
            clear hU hF
            go_simp
            exact rfl
          simp only [Act.put, List.setIfInBounds_toArray, List.set_cons_zero, List.set_cons_succ]
          refine wpV_skip (by rfl) (by simp only [lightOp]) ?_
          simp only [Act.put, List.setIfInBounds_toArray, List.set_cons_zero, List.set_cons_succ]
          refine wpV_skip (by rfl) (by simp only [lightOp]) ?_
          simp only [Act.put, List.setIfInBounds_toArray, List.set_cons_zero, List.set_cons_succ]
          with_reducible apply wpV_light
          · simp only [lightOp]
          · intro W hU hF
            have f0 := C4.out W hU
            clear hU hF
            go_simp
            exact rfl
          simp only [Act.put, List.setIfInBounds_toArray, List.set_cons_zero, List.set_cons_succ]
          with_reducible apply wpV_light
          · simp only [lightOp]
          · intro W hU hF
            have f0 := C4.out W hU
            clear hU hF
            go_simp
            exact rfl
          simp only [Act.put, List.setIfInBounds_toArray, List.set_cons_zero, List.set_cons_succ]
          refine wpV_skip (by rfl) (by simp only [lightOp]) ?_
          simp only [Act.put, List.setIfInBounds_toArray, List.set_cons_zero, List.set_cons_succ]
          refine wpV_skip (by rfl) (by simp only [lightOp]) ?_
          simp only [Act.put, List.setIfInBounds_toArray, List.set_cons_zero, List.set_cons_succ]
          refine wpV_skip (by rfl) (by simp only [lightOp]) ?_
          simp only [Act.put, List.setIfInBounds_toArray, List.set_cons_zero, List.set_cons_succ]
          refine wpV_skip (by rfl) (by simp only [lightOp]) ?_
          simp only [Act.put, List.setIfInBounds_toArray, List.set_cons_zero, List.set_cons_succ]
          refine wpV_skip (by rfl) (by simp only [lightOp]) ?_
          simp only [Act.put, List.setIfInBounds_toArray, List.set_cons_zero, List.set_cons_succ]
          refine wpV_skip (by rfl) (by simp only [lightOp]) ?_
          simp only [Act.put, List.setIfInBounds_toArray, List.set_cons_zero, List.set_cons_succ]
          refine wpV_skip (by rfl) (by simp only [lightOp]) ?_
          simp only [Act.put, List.setIfInBounds_toArray, List.set_cons_zero, List.set_cons_succ]
          refine wpV_skip (by rfl) (by simp only [lightOp]) ?_
          simp only [Act.put, List.setIfInBounds_toArray, List.set_cons_zero, List.set_cons_succ]
          with_reducible apply wpV_light
          · simp only [lightOp]
          · intro W hU hF
            have f0 := C4.out W hU
            clear hU hF
            go_simp
            exact rfl
          simp only [Act.put, List.setIfInBounds_toArray, List.set_cons_zero, List.set_cons_succ]
          refine wpV_end (fun W hU _ _ => ?_)
          have U5 : Hid (Upd [] w W) := Lib.hid (U4.out.trans ((Upd.refl [] w4).drew.trans hU))
          have O5 := Lib.hid (O4.out.upd0 ((Upd.refl [] w4).drew.trans hU))
          clear hU
          refine wpT_end ?_
          go_wp2_with fail
          go_roundw
          case rel => exact ⟨k1, n7 + 1, A4, c4, _, by go_num, rfl, by have := HK1.out; omega, Lib.hid ⟨HL4.out, by rw [← HK1.out]; exact run_snoc HK.out.2.1 HKT.out ST.out, by have := HK.out; have := HK1.out; rw [HL4.out]; omega⟩, U5, O5⟩
          case measure => have := HK1.out; simp [intOf]; omega
        | some v =>
          have NO : Hid (stepTn rk t = none) := Lib.hid (by unfold stepTn; rw [if_pos k1', if_neg (by rw [hg]; simp)])
          obtain ⟨i, rfl, hi⟩ := find_some hf hg
          have r3 : decide ((i : Int) < 0) = false := by simp
          clear hf hg hi k1'
          go_wp2_with fail
          refine wp_invN [] [] (by kernel_rfl) (by kernel_rfl) (by kernel_rfl) trivial ?_
          with_reducible apply wpV_light
          · simp only [lightOp]
          · intro W hU hF
            have f0 := C3.out W hU
            clear hU hF
            go_simp
            exact rfl
          simp only [Act.put, List.setIfInBounds_toArray, List.set_cons_zero, List.set_cons_succ]
          with_reducible apply wpV_light
          · simp only [lightOp]
          · intro W hU hF
            have f0 := C3.out W hU
            clear hU hF
            go_simp
            exact rfl
          simp only [Act.put, List.setIfInBounds_toArray, List.set_cons_zero, List.set_cons_succ]
          with_reducible apply wpV_light
          · simp only [lightOp]
          · intro W hU hF
            have f0 := C3.out W hU
            clear hU hF
            go_simp
            exact rfl
          simp only [Act.put, List.setIfInBounds_toArray, List.set_cons_zero, List.set_cons_succ]
          with_reducible apply wpV_light
          · simp only [lightOp]
          · intro W hU hF
            have f0 := C3.out W hU
            clear hU hF
            go_simp
            exact rfl
          simp only [Act.put, List.setIfInBounds_toArray, List.set_cons_zero, List.set_cons_succ]
          with_reducible apply wpV_light
          · simp only [lightOp]
          · intro W hU hF
            have f0 := C3.out W hU
            clear hU hF
            go_simp
            exact rfl
          simp only [Act.put, List.setIfInBounds_toArray, List.set_cons_zero, List.set_cons_succ]
          with_reducible apply wpV_light
          · simp only [lightOp]
          · intro W hU hF
            have f0 := C3.out W hU
            clear hU hF
            go_simp
            exact rfl
          simp only [Act.put, List.setIfInBounds_toArray, List.set_cons_zero, List.set_cons_succ]
          with_reducible apply wpV_light
          · simp only [lightOp]
          · intro W hU hF
            have f0 := C3.out W hU
            clear hU hF
            go_simp
            exact rfl
          simp only [Act.put, List.setIfInBounds_toArray, List.set_cons_zero, List.set_cons_succ]
          with_reducible apply wpV_light
          · simp only [lightOp]
          · intro W hU hF
            have f0 := C3.out W hU
            clear hU hF
            go_simp
            exact rfl
          simp only [Act.put, List.setIfInBounds_toArray, List.set_cons_zero, List.set_cons_succ]
          with_reducible apply wpV_light
          · simp only [lightOp]
          · intro W hU hF
            have f0 := C3.out W hU
            clear hU hF
            go_simp
            exact rfl
          simp only [Act.put, List.setIfInBounds_toArray, List.set_cons_zero, List.set_cons_succ]
          refine wpV_skip (by rfl) (by simp only [lightOp]) ?_
          simp only [Act.put, List.setIfInBounds_toArray, List.set_cons_zero, List.set_cons_succ]
          refine wpV_skip (by rfl) (by simp only [lightOp]) ?_
          simp only [Act.put, List.setIfInBounds_toArray, List.set_cons_zero, List.set_cons_succ]
          with_reducible apply wpV_light
          · simp only [lightOp]
          · intro W hU hF
            have f0 := C3.out W hU
            clear hU hF
            go_simp
            exact rfl
          simp only [Act.put, List.setIfInBounds_toArray, List.set_cons_zero, List.set_cons_succ]
          with_reducible apply wpV_light
          · simp only [lightOp]
          · intro W hU hF
            have f0 := C3.out W hU
            clear hU hF
            go_simp
            exact rfl
          simp only [Act.put, List.setIfInBounds_toArray, List.set_cons_zero, List.set_cons_succ]
          refine wpV_skip (by rfl) (by simp only [lightOp]) ?_
          simp only [Act.put, List.setIfInBounds_toArray, List.set_cons_zero, List.set_cons_succ]
          refine wpV_skip (by rfl) (by simp only [lightOp]) ?_
          simp only [Act.put, List.setIfInBounds_toArray, List.set_cons_zero, List.set_cons_succ]
          refine wpV_skip (by rfl) (by simp only [lightOp]) ?_
          simp only [Act.put, List.setIfInBounds_toArray, List.set_cons_zero, List.set_cons_succ]
          refine wpV_skip (by rfl) (by simp only [lightOp]) ?_
          simp only [Act.put, List.setIfInBounds_toArray, List.set_cons_zero, List.set_cons_succ]
          refine wpV_skip (by rfl) (by simp only [lightOp]) ?_
          simp only [Act.put, List.setIfInBounds_toArray, List.set_cons_zero, List.set_cons_succ]
          refine wpV_skip (by rfl) (by simp only [lightOp]) ?_
          simp only [Act.put, List.setIfInBounds_toArray, List.set_cons_zero, List.set_cons_succ]
          refine wpV_skip (by rfl) (by simp only [lightOp]) ?_
          simp only [Act.put, List.setIfInBounds_toArray, List.set_cons_zero, List.set_cons_succ]
          refine wpV_skip (by rfl) (by simp only [lightOp]) ?_
          simp only [Act.put, List.setIfInBounds_toArray, List.set_cons_zero, List.set_cons_succ]
          with_reducible apply wpV_light
          · simp only [lightOp]
          · intro W hU hF
            have f0 := C3.out W hU
            clear hU hF
            go_simp
            exact rfl
          simp only [Act.put, List.setIfInBounds_toArray, List.set_cons_zero, List.set_cons_succ]
          refine wpV_end (fun W hU _ _ => ?_)
          have U6 : Hid (Upd [] w W) := Lib.hid (U3.out.trans ((Upd.refl [] w3).drew.trans hU))
          clear hU
          refine wpT_end ?_
          go_wp2_with fail
          go_ret3
          exact ⟨U6.out, _, [], 12, _, rfl, Ow.nil _ _ _ _, .inr ⟨rfl, rfl, k, rk, t, by rw [HK1.out], HK.out.2.1, HKT.out, NO.out⟩⟩
      · by_cases k23 : t.1 = 2 ∨ t.1 = 3
        · have d1 : (t.1 == 1) = false := by simpa using k1'
          cases hg : Assoc.get rk t.2.1 with
          | none =>
            obtain rfl := find_none hf hg
            have NO : Hid (stepTn rk t = none) := Lib.hid (by
              unfold stepTn
              rw [if_neg k1', hg]
              rcases k23 with e | e
              · rw [if_pos e, if_neg (by simp)]
              · rw [if_neg (by omega), if_pos e, if_neg (by simp)])
            clear hf hg
            rcases k23 with k2 | k3
            · have d2 : (t.1 == 2) = true := by simpa using k2
              clear k1' k2
              go_wp2_with fail
              refine wp_invN [] [] (by kernel_rfl) (by kernel_rfl) (by kernel_rfl) trivial ?_
              with_reducible apply wpV_light
              · simp only [lightOp]
              · intro W hU hF
                have f0 := C3.out W hU
                clear hU hF
                go_simp
                exact rfl
              simp only [Act.put, List.setIfInBounds_toArray, List.set_cons_zero, List.set_cons_succ]
              with_reducible apply wpV_light
              · simp only [lightOp]
              · intro W hU hF
                have f0 := C3.out W hU
                clear hU hF
                go_simp
                exact rfl
              simp only [Act.put, List.setIfInBounds_toArray, List.set_cons_zero, List.set_cons_succ]
              with_reducible apply wpV_light
              · simp only [lightOp]
              · intro W hU hF
                have f0 := C3.out W hU
                clear hU hF
                go_simp
                exact rfl
              simp only [Act.put, List.setIfInBounds_toArray, List.set_cons_zero, List.set_cons_succ]
              with_reducible apply wpV_light
              · simp only [lightOp]
              · intro W hU hF
                have f0 := C3.out W hU
                clear hU hF
                go_simp
                exact rfl
              simp only [Act.put, List.setIfInBounds_toArray, List.set_cons_zero, List.set_cons_succ]
              refine wpV_skip (by rfl) (by simp only [lightOp]) ?_
              simp only [Act.put, List.setIfInBounds_toArray, List.set_cons_zero, List.set_cons_succ]
              refine wpV_skip (by rfl) (by simp only [lightOp]) ?_
              simp only [Act.put, List.setIfInBounds_toArray, List.set_cons_zero, List.set_cons_succ]
              refine wpV_skip (by rfl) (by simp only [lightOp]) ?_
              simp only [Act.put, List.setIfInBounds_toArray, List.set_cons_zero, List.set_cons_succ]
              with_reducible apply wpV_light
              · simp only [lightOp]
              · intro W hU hF
                have f0 := C3.out W hU
                clear hU hF
                go_simp
                exact rfl
              simp only [Act.put, List.setIfInBounds_toArray, List.set_cons_zero, List.set_cons_succ]
              with_reducible apply wpV_light
              · simp only [lightOp]
              · intro W hU hF
                have f0 := C3.out W hU
                clear hU hF
                go_simp
                exact rfl
              simp only [Act.put, List.setIfInBounds_toArray, List.set_cons_zero, List.set_cons_succ]
              with_reducible apply wpV_light
              · simp only [lightOp]
              · intro W hU hF
                have f0 := C3.out W hU
                clear hU hF
                go_simp
                exact rfl
              simp only [Act.put, List.setIfInBounds_toArray, List.set_cons_zero, List.set_cons_succ]
              with_reducible apply wpV_light
              · simp only [lightOp]
              · intro W hU hF
                have f0 := C3.out W hU
                clear hU hF
                go_simp
                exact rfl
              simp only [Act.put, List.setIfInBounds_toArray, List.set_cons_zero, List.set_cons_succ]
              with_reducible apply wpV_light
              · simp only [lightOp]
              · intro W hU hF
                have f0 := C3.out W hU
                clear hU hF
                go_simp
                exact rfl
              simp only [Act.put, List.setIfInBounds_toArray, List.set_cons_zero, List.set_cons_succ]
              with_reducible apply wpV_light
              · simp only [lightOp]
              · intro W hU hF
                have f0 := C3.out W hU
                clear hU hF
                go_simp
                exact rfl
              simp only [Act.put, List.setIfInBounds_toArray, List.set_cons_zero, List.set_cons_succ]
              refine wpV_skip (by rfl) (by simp only [lightOp]) ?_
              simp only [Act.put, List.setIfInBounds_toArray, List.set_cons_zero, List.set_cons_succ]
              refine wpV_skip (by rfl) (by simp only [lightOp]) ?_
              simp only [Act.put, List.setIfInBounds_toArray, List.set_cons_zero, List.set_cons_succ]
              refine wpV_skip (by rfl) (by simp only [lightOp]) ?_
              simp only [Act.put, List.setIfInBounds_toArray, List.set_cons_zero, List.set_cons_succ]
              refine wpV_skip (by rfl) (by simp only [lightOp]) ?_
              simp only [Act.put, List.setIfInBounds_toArray, List.set_cons_zero, List.set_cons_succ]
              refine wpV_skip (by rfl) (by simp only [lightOp]) ?_
              simp only [Act.put, List.setIfInBounds_toArray, List.set_cons_zero, List.set_cons_succ]
              refine wpV_skip (by rfl) (by simp only [lightOp]) ?_
              simp only [Act.put, List.setIfInBounds_toArray, List.set_cons_zero, List.set_cons_succ]
              refine wpV_skip (by rfl) (by simp only [lightOp]) ?_
              simp only [Act.put, List.setIfInBounds_toArray, List.set_cons_zero, List.set_cons_succ]
              refine wpV_skip (by rfl) (by simp only [lightOp]) ?_
              simp only [Act.put, List.setIfInBounds_toArray, List.set_cons_zero, List.set_cons_succ]
              with_reducible apply wpV_light
              · simp only [lightOp]
              · intro W hU hF
                have f0 := C3.out W hU
                clear hU hF
                go_simp
                exact rfl
              simp only [Act.put, List.setIfInBounds_toArray, List.set_cons_zero, List.set_cons_succ]
              refine wpV_end (fun W hU _ _ => ?_)
              have U6 : Hid (Upd [] w W) := Lib.hid (U3.out.trans ((Upd.refl [] w3).drew.trans hU))
              clear hU
              refine wpT_end ?_
              go_wp2_with fail
              go_ret3
              exact ⟨U6.out, _, [], 12, _, rfl, Ow.nil _ _ _ _, .inr ⟨rfl, rfl, k, rk, t, by rw [HK1.out], HK.out.2.1, HKT.out, NO.out⟩⟩
            · have d2 : (t.1 == 2) = false := by simp [k3]
              have d3 : (t.1 == 3) = true := by simpa using k3
              clear k1' k3
              go_wp2_with fail
              refine wp_invN [] [] (by kernel_rfl) (by kernel_rfl) (by kernel_rfl) trivial ?_
              with_reducible apply wpV_light
              · simp only [lightOp]
              · intro W hU hF
                have f0 := C3.out W hU
                clear hU hF
                go_simp
                exact rfl
              simp only [Act.put, List.setIfInBounds_toArray, List.set_cons_zero, List.set_cons_succ]
              with_reducible apply wpV_light
              · simp only [lightOp]
              · intro W hU hF
                have f0 := C3.out W hU
                clear hU hF
                go_simp
                exact rfl
              simp only [Act.put, List.setIfInBounds_toArray, List.set_cons_zero, List.set_cons_succ]
              with_reducible apply wpV_light
              · simp only [lightOp]
              · intro W hU hF
                have f0 := C3.out W hU
                clear hU hF
                go_simp
                exact rfl
              simp only [Act.put, List.setIfInBounds_toArray, List.set_cons_zero, List.set_cons_succ]
              with_reducible apply wpV_light
              · simp only [lightOp]
              · intro W hU hF
                have f0 := C3.out W hU
                clear hU hF
                go_simp
                exact rfl
              simp only [Act.put, List.setIfInBounds_toArray, List.set_cons_zero, List.set_cons_succ]
              with_reducible apply wpV_light
              · simp only [lightOp]
              · intro W hU hF
                have f0 := C3.out W hU
                clear hU hF
                go_simp
                exact rfl
              simp only [Act.put, List.setIfInBounds_toArray, List.set_cons_zero, List.set_cons_succ]
              with_reducible apply wpV_light
              · simp only [lightOp]
              · intro W hU hF
                have f0 := C3.out W hU
                clear hU hF
                go_simp
                exact rfl
              simp only [Act.put, List.setIfInBounds_toArray, List.set_cons_zero, List.set_cons_succ]
              with_reducible apply wpV_light
              · simp only [lightOp]
              · intro W hU hF
                have f0 := C3.out W hU
                clear hU hF
                go_simp
                exact rfl
              simp only [Act.put, List.setIfInBounds_toArray, List.set_cons_zero, List.set_cons_succ]
              with_reducible apply wpV_light
              · simp only [lightOp]
              · intro W hU hF
                have f0 := C3.out W hU
                clear hU hF
                go_simp
                exact rfl
              simp only [Act.put, List.setIfInBounds_toArray, List.set_cons_zero, List.set_cons_succ]
              with_reducible apply wpV_light
              · simp only [lightOp]
              · intro W hU hF
                have f0 := C3.out W hU
                clear hU hF
                go_simp
                exact rfl
              simp only [Act.put, List.setIfInBounds_toArray, List.set_cons_zero, List.set_cons_succ]
              with_reducible apply wpV_light
              · simp only [lightOp]
              · intro W hU hF
                have f0 := C3.out W hU
                clear hU hF
                go_simp
                exact rfl
              simp only [Act.put, List.setIfInBounds_toArray, List.set_cons_zero, List.set_cons_succ]
              with_reducible apply wpV_light
              · simp only [lightOp]
              · intro W hU hF
                have f0 := C3.out W hU
                clear hU hF
                go_simp
                exact rfl
              simp only [Act.put, List.setIfInBounds_toArray, List.set_cons_zero, List.set_cons_succ]
              with_reducible apply wpV_light
              · simp only [lightOp]
              · intro W hU hF
                have f0 := C3.out W hU
                clear hU hF
                go_simp
                exact rfl
              simp only [Act.put, List.setIfInBounds_toArray, List.set_cons_zero, List.set_cons_succ]
              with_reducible apply wpV_light
              · simp only [lightOp]
              · intro W hU hF
                have f0 := C3.out W hU
                clear hU hF
                go_simp
                exact rfl
              simp only [Act.put, List.setIfInBounds_toArray, List.set_cons_zero, List.set_cons_succ]
              refine wpV_skip (by rfl) (by simp only [lightOp]) ?_
              simp only [Act.put, List.setIfInBounds_toArray, List.set_cons_zero, List.set_cons_succ]
              refine wpV_skip (by rfl) (by simp only [lightOp]) ?_
              simp only [Act.put, List.setIfInBounds_toArray, List.set_cons_zero, List.set_cons_succ]
              refine wpV_skip (by rfl) (by simp only [lightOp]) ?_
              simp only [Act.put, List.setIfInBounds_toArray, List.set_cons_zero, List.set_cons_succ]
              refine wpV_skip (by rfl) (by simp only [lightOp]) ?_
              simp only [Act.put, List.setIfInBounds_toArray, List.set_cons_zero, List.set_cons_succ]
              refine wpV_skip (by rfl) (by simp only [lightOp]) ?_
              simp only [Act.put, List.setIfInBounds_toArray, List.set_cons_zero, List.set_cons_succ]
              refine wpV_skip (by rfl) (by simp only [lightOp]) ?_
              simp only [Act.put, List.setIfInBounds_toArray, List.set_cons_zero, List.set_cons_succ]
              refine wpV_skip (by rfl) (by simp only [lightOp]) ?_
              simp only [Act.put, List.setIfInBounds_toArray, List.set_cons_zero, List.set_cons_succ]
              refine wpV_skip (by rfl) (by simp only [lightOp]) ?_
              simp only [Act.put, List.setIfInBounds_toArray, List.set_cons_zero, List.set_cons_succ]
              with_reducible apply wpV_light
              · simp only [lightOp]
              · intro W hU hF
                have f0 := C3.out W hU
                clear hU hF
                go_simp
                exact rfl
              simp only [Act.put, List.setIfInBounds_toArray, List.set_cons_zero, List.set_cons_succ]
              refine wpV_end (fun W hU _ _ => ?_)
              have U6 : Hid (Upd [] w W) := Lib.hid (U3.out.trans ((Upd.refl [] w3).drew.trans hU))
              clear hU
              refine wpT_end ?_
              go_wp2_with fail
              go_ret3
              exact ⟨U6.out, _, [], 12, _, rfl, Ow.nil _ _ _ _, .inr ⟨rfl, rfl, k, rk, t, by rw [HK1.out], HK.out.2.1, HKT.out, NO.out⟩⟩
          | some v =>
            obtain ⟨i, rfl, hi⟩ := find_some hf hg
            have hin : i < n7 := by rw [← HK.out.1]; exact (List.getElem?_eq_some_iff.1 hi).1
            obtain ⟨ad7, rfl, hcv⟩ := O3.out.rd.second hi
            have HI := Lib.hid hi
            have CS : Hid (∀ W, Upd [] w3.drew W → W.cell? ⟨tb, 0, none⟩ = some (.int .i64 t.1) ∧ W.cell? ⟨tb, 2, none⟩ = some (.int .i64 t.2.2.1) ∧ W.cell? ⟨(ad7.add (i * 2)).block, (ad7.add (i * 2)).off + 1, none⟩ = some (.int .i64 v)) := Lib.hid (fun W hW => by
              have hu := (Upd.refl [] w3).drew.trans hW
              exact ⟨(TB.out.upd hu (by simp)).cell 0, (TB.out.upd hu (by simp)).cell 2, hcv W hu⟩)
            have r1 : (0 : Int) ≤ (i : Int) := by omega
            have r2 : (i : Int) < (n7 : Int) := by omega
            have r3 : decide ((0 : Int) ≤ (i : Int)) = true := by simp
            by_cases hv : v = t.2.2.1
            · have dv : (v == t.2.2.1) = true := by simpa using hv
              have hst : stepTn rk t = some (if t.1 = 2 then Assoc.del rk t.2.1 else Assoc.put rk t.2.1 t.2.2.2) := by
                unfold stepTn
                rw [if_neg k1']
                rcases k23 with e | e
                · rw [if_pos e, if_pos e, if_pos (by rw [hg, hv])]
                · have h2 : ¬ t.1 = 2 := by omega
                  rw [if_neg h2, if_pos e, if_neg h2, if_pos (by rw [hg, hv])]
              have ST := Lib.hid hst
              obtain ⟨j, hj⟩ : ∃ j, i + 1 = j := ⟨_, rfl⟩
              have s1 : (i : Int) + 1 = (j : Int) := by omega
              have s1w : IntKind.i64.wrap (j : Int) = (j : Int) := by rw [IntKind.wrap_i64]; omega
              obtain ⟨_, cc, ecc, hnc, hcm⟩ := own_slice O3.out
              injection ecc with eca ecn ecc
              subst ecc
              clear eca ecn
              rw [HK.out.1] at hnc
              unfold maxLen at hcm
              have s2 : (0 : Int) ≤ (j : Int) := by omega
              have s3 : (j : Int) ≤ (n7 : Int) := by omega
              have s4 : (n7 : Int) ≤ (c7 : Int) := by omega
              have s5 : (i : Int) ≤ (c7 : Int) := by omega
              have s6 : (j : Int) ≤ (c7 : Int) := by omega
              have DE : Hid (rk.take i ++ rk.drop j = Assoc.del rk t.2.1) := Lib.hid (by rw [← hj]; exact del_here SK.out HI.out)
              have DLN : Hid ((Assoc.del rk t.2.1).length = n7 - 1) := Lib.hid (by rw [Assoc.len_del SK.out, hg, HK.out.1]; rfl)
              have HJ := Lib.hid hj
              have HG := Lib.hid hg
              clear hf hg hi hcv hv hst hj C3
              rcases k23 with k2 | k3
              · have d2 : (t.1 == 2) = true := by simpa using k2
                have d3 : (t.1 == 3) = false := by simp [k2]
                rw [if_pos k2] at ST
                clear k1' k2 c0 c1 c3
                have c0 : w3.cell? ⟨tb, 0, none⟩ = some (.int .i64 t.1) := TB.out.cell 0
                go_wp2_with fail
                refine wp_invN [] [] (by kernel_rfl) (by kernel_rfl) (by kernel_rfl) trivial ?_
                with_reducible apply wpV_light
                · simp only [lightOp]
                · intro W hU hF
                  have f0 := CS.out W hU
                  clear hU hF
                  go_simp
                  exact rfl
                simp only [Act.put, List.setIfInBounds_toArray, List.set_cons_zero, List.set_cons_succ]
                with_reducible apply wpV_light
                · simp only [lightOp]
                · intro W hU hF
                  have f0 := CS.out W hU
                  clear hU hF
                  go_simp
                  exact rfl
                simp only [Act.put, List.setIfInBounds_toArray, List.set_cons_zero, List.set_cons_succ]
                with_reducible apply wpV_light
                · simp only [lightOp]
                · intro W hU hF
                  have f0 := CS.out W hU
                  clear hU hF
                  go_simp
                  exact rfl
                simp only [Act.put, List.setIfInBounds_toArray, List.set_cons_zero, List.set_cons_succ]
                with_reducible apply wpV_light
                · simp only [lightOp]
                · intro W hU hF
                  have f0 := CS.out W hU
                  clear hU hF
                  go_simp
                  exact rfl
                simp only [Act.put, List.setIfInBounds_toArray, List.set_cons_zero, List.set_cons_succ]
                refine wpV_skip (by rfl) (by simp only [lightOp]) ?_
                simp only [Act.put, List.setIfInBounds_toArray, List.set_cons_zero, List.set_cons_succ]
                refine wpV_skip (by rfl) (by simp only [lightOp]) ?_
                simp only [Act.put, List.setIfInBounds_toArray, List.set_cons_zero, List.set_cons_succ]
                refine wpV_skip (by rfl) (by simp only [lightOp]) ?_
                simp only [Act.put, List.setIfInBounds_toArray, List.set_cons_zero, List.set_cons_succ]
                with_reducible apply wpV_light
                · simp only [lightOp]
                · intro W hU hF
                  have f0 := CS.out W hU
                  clear hU hF
                  go_simp
                  exact rfl
                simp only [Act.put, List.setIfInBounds_toArray, List.set_cons_zero, List.set_cons_succ]
                with_reducible apply wpV_light
                · simp only [lightOp]
                · intro W hU hF
                  have f0 := CS.out W hU
                  clear hU hF
                  go_simp
                  exact rfl
                simp only [Act.put, List.setIfInBounds_toArray, List.set_cons_zero, List.set_cons_succ]
                with_reducible apply wpV_light
                · simp only [lightOp]
                · intro W hU hF
                  have f0 := CS.out W hU
                  clear hU hF
                  go_simp
                  exact rfl
                simp only [Act.put, List.setIfInBounds_toArray, List.set_cons_zero, List.set_cons_succ]
                with_reducible apply wpV_light
                · simp only [lightOp]
                · intro W hU hF
                  have f0 := CS.out W hU
                  clear hU hF
                  go_simp
                  exact rfl
                simp only [Act.put, List.setIfInBounds_toArray, List.set_cons_zero, List.set_cons_succ]
                with_reducible apply wpV_light
                · simp only [lightOp]
                · intro W hU hF
                  have f0 := CS.out W hU
                  clear hU hF
                  go_simp
                  exact rfl
                simp only [Act.put, List.setIfInBounds_toArray, List.set_cons_zero, List.set_cons_succ]
                with_reducible apply wpV_light
                · simp only [lightOp]
                · intro W hU hF
                  have f0 := CS.out W hU
                  clear hU hF
                  go_simp
                  exact rfl
                simp only [Act.put, List.setIfInBounds_toArray, List.set_cons_zero, List.set_cons_succ]
                with_reducible apply wpV_light
                · simp only [lightOp]
                · intro W hU hF
                  have f0 := CS.out W hU
                  clear hU hF
                  go_simp
                  exact rfl
                simp only [Act.put, List.setIfInBounds_toArray, List.set_cons_zero, List.set_cons_succ]
                with_reducible apply wpV_light
                · simp only [lightOp]
                · intro W hU hF
                  have f0 := CS.out W hU
                  clear hU hF
                  go_simp
                  exact rfl
                simp only [Act.put, List.setIfInBounds_toArray, List.set_cons_zero, List.set_cons_succ]
                with_reducible apply wpV_light
                · simp only [lightOp]
                · intro W hU hF
                  have f0 := CS.out W hU
                  clear hU hF
                  go_simp
                  exact rfl
                simp only [Act.put, List.setIfInBounds_toArray, List.set_cons_zero, List.set_cons_succ]
                with_reducible apply wpV_light
                · simp only [lightOp]
                · intro W hU hF
                  have f0 := CS.out W hU
                  clear hU hF
                  go_simp
                  exact rfl
                simp only [Act.put, List.setIfInBounds_toArray, List.set_cons_zero, List.set_cons_succ]
                with_reducible apply wpV_light
                · simp only [lightOp]
                · intro W hU hF
                  have f0 := CS.out W hU
                  clear hU hF
                  go_simp
                  exact rfl
                simp only [Act.put, List.setIfInBounds_toArray, List.set_cons_zero, List.set_cons_succ]
                with_reducible apply wpV_light
                · simp only [lightOp]
                · intro W hU hF
                  have f0 := CS.out W hU
                  clear hU hF
                  go_simp
                  exact rfl
                simp only [Act.put, List.setIfInBounds_toArray, List.set_cons_zero, List.set_cons_succ]
                with_reducible apply wpV_light
                · simp only [lightOp]
                · intro W hU hF
                  have f0 := CS.out W hU
                  clear hU hF
                  go_simp
                  exact rfl
                simp only [Act.put, List.setIfInBounds_toArray, List.set_cons_zero, List.set_cons_succ]
                with_reducible apply wpV_light
                · simp only [lightOp]
                · intro W hU hF
                  have f0 := CS.out W hU
                  clear hU hF
                  go_simp
                  exact rfl
                simp only [Act.put, List.setIfInBounds_toArray, List.set_cons_zero, List.set_cons_succ]
                with_reducible apply wpV_light
                · simp only [lightOp]
                · intro W hU hF
                  have f0 := CS.out W hU
                  clear hU hF
                  go_simp
                  exact rfl
                simp only [Act.put, List.setIfInBounds_toArray, List.set_cons_zero, List.set_cons_succ]
                refine wpV_end (fun WD hU _ _ => ?_)
                have U5 : Hid (Upd [] w3 WD) := Lib.hid ((Upd.refl [] w3).drew.trans hU)
                clear hU
                refine wpT_end ?_
                have F1 : Hid (∀ X, Upd [] WD.drew X → Src X 2 (.slice (some ad7) i c7) i (flat encPr (rk.take i))) := Lib.hid (fun X hX => by
                  have := (O3.out.upd0 (U5.out.trans ((Upd.refl [] WD).drew.trans hX))).rd.take i (by rw [HK.out.1]; omega) c7
                  unfold Rd at this
                  rwa [List.length_take, HK.out.1, Nat.min_eq_left (by omega)] at this)
                have F2 : Hid (∀ X, Upd [] WD.drew X → Src X 2 (.slice (if c7 = j then some ad7 else some (ad7.add (j * 2))) (n7 - j) (c7 - j)) (n7 - j) (flat encPr (rk.drop j))) := Lib.hid (fun X hX => by
                  have := (O3.out.upd0 (U5.out.trans ((Upd.refl [] WD).drew.trans hX))).rd.drop j (by rw [HK.out.1]; have := HJ.out; omega) hnc (c7 - j)
                  unfold Rd at this
                  rwa [List.length_drop, HK.out.1] at this)
                have SZ : Hid (B ≤ WD.heap.size) := Lib.hid (Nat.le_trans BW.out U5.out.size)
                have LE : i + (n7 - j) = n7 - 1 := by have := HJ.out; omega
                go_wp2_with fail
                refine wp_invN [(0, .own B 39 2 0 []), (4, .own B 39 2 i (flat encPr (rk.take i))), (9, .own B 39 2 (i + (n7 - j)) (flat encPr (rk.take i) ++ flat encPr (rk.drop j)))] [(4, [0]), (9, [4])] (by kernel_rfl) (by kernel_rfl) (by kernel_rfl) ⟨lasts_own _ _ _ _ _ (by unfold maxLen; omega), lasts_own _ _ _ _ _ (by unfold maxLen; omega), lasts_own _ _ _ _ _ (by unfold maxLen; omega), trivial⟩ ?_
                refine wpV_heavy (by simp only [lightOp]) (by rfl) (fun W hU hk hF K hK => ?_) ?_
                · go_wp2_with fail
                  exact wpV_made hK rfl rfl rfl rfl (Nat.le_trans SZ.out hU.size)
                rintro _ ⟨A1, c1', rfl, _, _⟩
                simp only [Act.put, List.setIfInBounds_toArray, List.set_cons_zero, List.set_cons_succ]
                with_reducible apply wpV_light
                · simp only [lightOp]
                · intro W hU hF
                  clear hU hF
                  go_simp
                  exact rfl
                simp only [Act.put, List.setIfInBounds_toArray, List.set_cons_zero, List.set_cons_succ]
                with_reducible apply wpV_light
                · simp only [lightOp]
                · intro W hU hF
                  clear hU hF
                  go_simp
                  exact rfl
                simp only [Act.put, List.setIfInBounds_toArray, List.set_cons_zero, List.set_cons_succ]
                with_reducible apply wpV_light
                · simp only [lightOp]
                · intro W hU hF
                  clear hU hF
                  go_simp
                  exact rfl
                simp only [Act.put, List.setIfInBounds_toArray, List.set_cons_zero, List.set_cons_succ]
                refine wpV_heavy (by simp only [lightOp]) (by rfl) (fun W hU hk hF K hK => ?_) ?_
                · exact wpV_app hK (.tmp 64) (.tmp 67) _ (by rfl) elem_pair _ _ (by rfl) (by rfl) rfl rfl (by simp [usedV, mkI, conOf, specOf, Spec.own]) (hF.out.1 (by kernel_rfl)) (F1.out W hU) (by omega) (by simp) flat_cells (by unfold maxLen; omega) (by omega) (Nat.le_trans SZ.out hU.size)
                rintro _ ⟨A2, c2', rfl, _, _⟩
                simp only [Act.put, List.setIfInBounds_toArray, List.set_cons_zero, List.set_cons_succ]
                with_reducible apply wpV_light
                · simp only [lightOp]
                · intro W hU hF
                  clear hU hF
                  go_simp
                  exact rfl
                simp only [Act.put, List.setIfInBounds_toArray, List.set_cons_zero, List.set_cons_succ]
                with_reducible apply wpV_light
                · simp only [lightOp]
                · intro W hU hF
                  clear hU hF
                  go_simp
                  exact rfl
                simp only [Act.put, List.setIfInBounds_toArray, List.set_cons_zero, List.set_cons_succ]
                with_reducible apply wpV_light
                · simp only [lightOp]
                · intro W hU hF
                  clear hU hF
                  go_simp
                  exact rfl
                simp only [Act.put, List.setIfInBounds_toArray, List.set_cons_zero, List.set_cons_succ]
                with_reducible apply wpV_light
                · simp only [lightOp]
                · intro W hU hF
                  clear hU hF
                  go_simp
                  exact rfl
                simp only [Act.put, List.setIfInBounds_toArray, List.set_cons_zero, List.set_cons_succ]
                refine wpV_heavy (by simp only [lightOp]) (by rfl) (fun W hU hk hF K hK => ?_) ?_
                · exact wpV_app hK (.tmp 68) (.tmp 72) _ (by rfl) elem_pair _ _ (by rfl) (by rfl) rfl rfl (by simp [usedV, mkI, conOf, specOf, Spec.own]) (hF.out.2.1 (by kernel_rfl)) (F2.out W hU) (by omega) (by simp) flat_cells (by unfold maxLen; omega) (by omega) (Nat.le_trans SZ.out hU.size)
                rintro _ ⟨A5, c5, rfl, _, _⟩
                simp only [Act.put, List.setIfInBounds_toArray, List.set_cons_zero, List.set_cons_succ]
                with_reducible apply wpV_light
                · simp only [lightOp]
                · intro W hU hF
                  clear hU hF
                  go_simp
                  exact rfl
                simp only [Act.put, List.setIfInBounds_toArray, List.set_cons_zero, List.set_cons_succ]
                refine wpV_end (fun X hU _ hF => ?_)
                have U6 : Hid (Upd [] w3 X) := Lib.hid (U5.out.trans ((Upd.refl [] WD).drew.trans hU))
                have O6 : Hid (Ow encPr 39 X B (.slice A5 (n7 - 1) c5) (Assoc.del rk t.2.1)) := Lib.hid (by
                  have := hF.out.2.2.1 (by kernel_rfl)
                  unfold Ow
                  rw [DLN.out, ← DE.out, flat_append, ← LE]
                  exact this)
                clear hU hF F1 F2
                rw [LE]
                refine wpT_end ?_
                have T6 := Lib.hid (TB.out.upd U6.out (by simp))
                have g0 : X.cell? ⟨tb, 0, none⟩ = some (.int .i64 t.1) := T6.out.cell 0
                go_wp2_with fail
                go_roundw
                case rel => exact ⟨k1, n7 - 1, A5, c5, _, by go_num, rfl, by have := HK1.out; omega, Lib.hid ⟨DLN.out, by rw [← HK1.out]; exact run_snoc HK.out.2.1 HKT.out ST.out, by have := HK.out; have := HK1.out; rw [DLN.out]; omega⟩, Lib.hid (U3.out.trans U6.out), O6⟩
                case measure => have := HK1.out; simp [intOf]; omega
              · have d2 : (t.1 == 2) = false := by simp [k3]
                have d3 : (t.1 == 3) = true := by simpa using k3
                rw [if_neg (show ¬ t.1 = 2 by omega)] at ST
                clear k1' k3 c0 c1 c3
                have c0 : w3.cell? ⟨tb, 0, none⟩ = some (.int .i64 t.1) := TB.out.cell 0
                go_wp2_with fail
                refine wp_invN [] [] (by kernel_rfl) (by kernel_rfl) (by kernel_rfl) trivial ?_
                with_reducible apply wpV_light
                · simp only [lightOp]
                · intro W hU hF
                  have f0 := CS.out W hU
                  clear hU hF
                  go_simp
                  exact rfl
                simp only [Act.put, List.setIfInBounds_toArray, List.set_cons_zero, List.set_cons_succ]
                with_reducible apply wpV_light
                · simp only [lightOp]
                · intro W hU hF
                  have f0 := CS.out W hU
                  clear hU hF
                  go_simp
                  exact rfl
                simp only [Act.put, List.setIfInBounds_toArray, List.set_cons_zero, List.set_cons_succ]
                with_reducible apply wpV_light
                · simp only [lightOp]
                · intro W hU hF
                  have f0 := CS.out W hU
                  clear hU hF
                  go_simp
                  exact rfl
                simp only [Act.put, List.setIfInBounds_toArray, List.set_cons_zero, List.set_cons_succ]
                with_reducible apply wpV_light
                · simp only [lightOp]
                · intro W hU hF
                  have f0 := CS.out W hU
                  clear hU hF
                  go_simp
                  exact rfl
                simp only [Act.put, List.setIfInBounds_toArray, List.set_cons_zero, List.set_cons_succ]
                with_reducible apply wpV_light
                · simp only [lightOp]
                · intro W hU hF
                  have f0 := CS.out W hU
                  clear hU hF
                  go_simp
                  exact rfl
                simp only [Act.put, List.setIfInBounds_toArray, List.set_cons_zero, List.set_cons_succ]
                with_reducible apply wpV_light
                · simp only [lightOp]
                · intro W hU hF
                  have f0 := CS.out W hU
                  clear hU hF
                  go_simp
                  exact rfl
                simp only [Act.put, List.setIfInBounds_toArray, List.set_cons_zero, List.set_cons_succ]
                with_reducible apply wpV_light
                · simp only [lightOp]
                · intro W hU hF
                  have f0 := CS.out W hU
                  clear hU hF
                  go_simp
                  exact rfl
                simp only [Act.put, List.setIfInBounds_toArray, List.set_cons_zero, List.set_cons_succ]
                with_reducible apply wpV_light
                · simp only [lightOp]
                · intro W hU hF
                  have f0 := CS.out W hU
                  clear hU hF
                  go_simp
                  exact rfl
                simp only [Act.put, List.setIfInBounds_toArray, List.set_cons_zero, List.set_cons_succ]
                with_reducible apply wpV_light
                · simp only [lightOp]
                · intro W hU hF
                  have f0 := CS.out W hU
                  clear hU hF
                  go_simp
                  exact rfl
                simp only [Act.put, List.setIfInBounds_toArray, List.set_cons_zero, List.set_cons_succ]
                with_reducible apply wpV_light
                · simp only [lightOp]
                · intro W hU hF
                  have f0 := CS.out W hU
                  clear hU hF
                  go_simp
                  exact rfl
                simp only [Act.put, List.setIfInBounds_toArray, List.set_cons_zero, List.set_cons_succ]
                with_reducible apply wpV_light
                · simp only [lightOp]
                · intro W hU hF
                  have f0 := CS.out W hU
                  clear hU hF
                  go_simp
                  exact rfl
                simp only [Act.put, List.setIfInBounds_toArray, List.set_cons_zero, List.set_cons_succ]
                with_reducible apply wpV_light
                · simp only [lightOp]
                · intro W hU hF
                  have f0 := CS.out W hU
                  clear hU hF
                  go_simp
                  exact rfl
                simp only [Act.put, List.setIfInBounds_toArray, List.set_cons_zero, List.set_cons_succ]
                with_reducible apply wpV_light
                · simp only [lightOp]
                · intro W hU hF
                  have f0 := CS.out W hU
                  clear hU hF
                  go_simp
                  exact rfl
                simp only [Act.put, List.setIfInBounds_toArray, List.set_cons_zero, List.set_cons_succ]
                with_reducible apply wpV_light
                · simp only [lightOp]
                · intro W hU hF
                  have f0 := CS.out W hU
                  clear hU hF
                  go_simp
                  exact rfl
                simp only [Act.put, List.setIfInBounds_toArray, List.set_cons_zero, List.set_cons_succ]
                with_reducible apply wpV_light
                · simp only [lightOp]
                · intro W hU hF
                  have f0 := CS.out W hU
                  clear hU hF
                  go_simp
                  exact rfl
                simp only [Act.put, List.setIfInBounds_toArray, List.set_cons_zero, List.set_cons_succ]
                with_reducible apply wpV_light
                · simp only [lightOp]
                · intro W hU hF
                  have f0 := CS.out W hU
                  clear hU hF
                  go_simp
                  exact rfl
                simp only [Act.put, List.setIfInBounds_toArray, List.set_cons_zero, List.set_cons_succ]
                with_reducible apply wpV_light
                · simp only [lightOp]
                · intro W hU hF
                  have f0 := CS.out W hU
                  clear hU hF
                  go_simp
                  exact rfl
                simp only [Act.put, List.setIfInBounds_toArray, List.set_cons_zero, List.set_cons_succ]
                with_reducible apply wpV_light
                · simp only [lightOp]
                · intro W hU hF
                  have f0 := CS.out W hU
                  clear hU hF
                  go_simp
                  exact rfl
                simp only [Act.put, List.setIfInBounds_toArray, List.set_cons_zero, List.set_cons_succ]
                with_reducible apply wpV_light
                · simp only [lightOp]
                · intro W hU hF
                  have f0 := CS.out W hU
                  clear hU hF
                  go_simp
                  exact rfl
                simp only [Act.put, List.setIfInBounds_toArray, List.set_cons_zero, List.set_cons_succ]
                with_reducible apply wpV_light
                · simp only [lightOp]
                · intro W hU hF
                  have f0 := CS.out W hU
                  clear hU hF
                  go_simp
                  exact rfl
                simp only [Act.put, List.setIfInBounds_toArray, List.set_cons_zero, List.set_cons_succ]
                with_reducible apply wpV_light
                · simp only [lightOp]
                · intro W hU hF
                  have f0 := CS.out W hU
                  clear hU hF
                  go_simp
                  exact rfl
                simp only [Act.put, List.setIfInBounds_toArray, List.set_cons_zero, List.set_cons_succ]
                with_reducible apply wpV_light
                · simp only [lightOp]
                · intro W hU hF
                  have f0 := CS.out W hU
                  clear hU hF
                  go_simp
                  exact rfl
                simp only [Act.put, List.setIfInBounds_toArray, List.set_cons_zero, List.set_cons_succ]
                refine wpV_end (fun WD hU _ _ => ?_)
                have U5 : Hid (Upd [] w3 WD) := Lib.hid ((Upd.refl [] w3).drew.trans hU)
                clear hU
                refine wpT_end ?_
                have F1 : Hid (∀ X, Upd [] WD.drew X → Src X 2 (.slice (some ad7) i c7) i (flat encPr (rk.take i))) := Lib.hid (fun X hX => by
                  have := (O3.out.upd0 (U5.out.trans ((Upd.refl [] WD).drew.trans hX))).rd.take i (by rw [HK.out.1]; omega) c7
                  unfold Rd at this
                  rwa [List.length_take, HK.out.1, Nat.min_eq_left (by omega)] at this)
                have F2 : Hid (∀ X, Upd [] WD.drew X → Src X 2 (.slice (if c7 = j then some ad7 else some (ad7.add (j * 2))) (n7 - j) (c7 - j)) (n7 - j) (flat encPr (rk.drop j))) := Lib.hid (fun X hX => by
                  have := (O3.out.upd0 (U5.out.trans ((Upd.refl [] WD).drew.trans hX))).rd.drop j (by rw [HK.out.1]; have := HJ.out; omega) hnc (c7 - j)
                  unfold Rd at this
                  rwa [List.length_drop, HK.out.1] at this)
                have SZ : Hid (B ≤ WD.heap.size) := Lib.hid (Nat.le_trans BW.out U5.out.size)
                have LE : i + (n7 - j) = n7 - 1 := by have := HJ.out; omega
                go_wp2_with fail
                refine wp_invN [(0, .own B 39 2 0 []), (4, .own B 39 2 i (flat encPr (rk.take i))), (9, .own B 39 2 (i + (n7 - j)) (flat encPr (rk.take i) ++ flat encPr (rk.drop j)))] [(4, [0]), (9, [4])] (by kernel_rfl) (by kernel_rfl) (by kernel_rfl) ⟨lasts_own _ _ _ _ _ (by unfold maxLen; omega), lasts_own _ _ _ _ _ (by unfold maxLen; omega), lasts_own _ _ _ _ _ (by unfold maxLen; omega), trivial⟩ ?_
                refine wpV_heavy (by simp only [lightOp]) (by rfl) (fun W hU hk hF K hK => ?_) ?_
                · go_wp2_with fail
                  exact wpV_made hK rfl rfl rfl rfl (Nat.le_trans SZ.out hU.size)
                rintro _ ⟨A1, c1', rfl, _, _⟩
                simp only [Act.put, List.setIfInBounds_toArray, List.set_cons_zero, List.set_cons_succ]
                with_reducible apply wpV_light
                · simp only [lightOp]
                · intro W hU hF
                  clear hU hF
                  go_simp
                  exact rfl
                simp only [Act.put, List.setIfInBounds_toArray, List.set_cons_zero, List.set_cons_succ]
                with_reducible apply wpV_light
                · simp only [lightOp]
                · intro W hU hF
                  clear hU hF
                  go_simp
                  exact rfl
                simp only [Act.put, List.setIfInBounds_toArray, List.set_cons_zero, List.set_cons_succ]
                with_reducible apply wpV_light
                · simp only [lightOp]
                · intro W hU hF
                  clear hU hF
                  go_simp
                  exact rfl
                simp only [Act.put, List.setIfInBounds_toArray, List.set_cons_zero, List.set_cons_succ]
                refine wpV_heavy (by simp only [lightOp]) (by rfl) (fun W hU hk hF K hK => ?_) ?_
                · exact wpV_app hK (.tmp 64) (.tmp 67) _ (by rfl) elem_pair _ _ (by rfl) (by rfl) rfl rfl (by simp [usedV, mkI, conOf, specOf, Spec.own]) (hF.out.1 (by kernel_rfl)) (F1.out W hU) (by omega) (by simp) flat_cells (by unfold maxLen; omega) (by omega) (Nat.le_trans SZ.out hU.size)
                rintro _ ⟨A2, c2', rfl, _, _⟩
                simp only [Act.put, List.setIfInBounds_toArray, List.set_cons_zero, List.set_cons_succ]
                with_reducible apply wpV_light
                · simp only [lightOp]
                · intro W hU hF
                  clear hU hF
                  go_simp
                  exact rfl
                simp only [Act.put, List.setIfInBounds_toArray, List.set_cons_zero, List.set_cons_succ]
                with_reducible apply wpV_light
                · simp only [lightOp]
                · intro W hU hF
                  clear hU hF
                  go_simp
                  exact rfl
                simp only [Act.put, List.setIfInBounds_toArray, List.set_cons_zero, List.set_cons_succ]
                with_reducible apply wpV_light
                · simp only [lightOp]
                · intro W hU hF
                  clear hU hF
                  go_simp
                  exact rfl
                simp only [Act.put, List.setIfInBounds_toArray, List.set_cons_zero, List.set_cons_succ]
                with_reducible apply wpV_light
                · simp only [lightOp]
                · intro W hU hF
                  clear hU hF
                  go_simp
                  exact rfl
                simp only [Act.put, List.setIfInBounds_toArray, List.set_cons_zero, List.set_cons_succ]
                refine wpV_heavy (by simp only [lightOp]) (by rfl) (fun W hU hk hF K hK => ?_) ?_
                · exact wpV_app hK (.tmp 68) (.tmp 72) _ (by rfl) elem_pair _ _ (by rfl) (by rfl) rfl rfl (by simp [usedV, mkI, conOf, specOf, Spec.own]) (hF.out.2.1 (by kernel_rfl)) (F2.out W hU) (by omega) (by simp) flat_cells (by unfold maxLen; omega) (by omega) (Nat.le_trans SZ.out hU.size)
                rintro _ ⟨A5, c5, rfl, _, _⟩
                simp only [Act.put, List.setIfInBounds_toArray, List.set_cons_zero, List.set_cons_succ]
                with_reducible apply wpV_light
                · simp only [lightOp]
                · intro W hU hF
                  clear hU hF
                  go_simp
                  exact rfl
                simp only [Act.put, List.setIfInBounds_toArray, List.set_cons_zero, List.set_cons_succ]
                refine wpV_end (fun X hU _ hF => ?_)
                have U6 : Hid (Upd [] w3 X) := Lib.hid (U5.out.trans ((Upd.refl [] WD).drew.trans hU))
                have O6 : Hid (Ow encPr 39 X B (.slice A5 (n7 - 1) c5) (Assoc.del rk t.2.1)) := Lib.hid (by
                  have := hF.out.2.2.1 (by kernel_rfl)
                  unfold Ow
                  rw [DLN.out, ← DE.out, flat_append, ← LE]
                  exact this)
                clear hU hF F1 F2
                rw [LE]
                refine wpT_end ?_
                have T6 := Lib.hid (TB.out.upd U6.out (by simp))
                have g0 : X.cell? ⟨tb, 0, none⟩ = some (.int .i64 t.1) := T6.out.cell 0
                have g1 : X.cell? ⟨tb, 1, none⟩ = some (.int .i64 t.2.1) := T6.out.cell 1
                have g3 : X.cell? ⟨tb, 3, none⟩ = some (.int .i64 t.2.2.2) := T6.out.cell 3
                have GN : Hid (Assoc.get (Assoc.del rk t.2.1) t.2.1 = none) := Lib.hid (by rw [Assoc.get_del, if_pos rfl])
                have PL3 : Hid (Assoc.put (Assoc.del rk t.2.1) t.2.1 t.2.2.2 = Assoc.put rk t.2.1 t.2.2.2) := Lib.hid (put_over_del SK.out _ _)
                have PLN : Hid ((Assoc.put rk t.2.1 t.2.2.2).length = n7) := Lib.hid (by rw [Assoc.len_put SK.out, HG.out, HK.out.1]; rfl)
                go_wp2_with fail
                all_goals
                  refine (r_put B A5 (n7 - 1) c5 (Assoc.del rk t.2.1) t.2.1 t.2.2.2 X O6.out DLN.out (by omega) GN.out).mono ?_
                  rintro e w8 ⟨v8, rfl, o8, u8⟩
                  rw [PL3.out] at o8
                  obtain ⟨A8, c8, rfl, _, _⟩ := own_slice o8
                  have O8 : Hid (Ow encPr 39 w8 B (.slice A8 n7 c8) (Assoc.put rk t.2.1 t.2.2.2)) := Lib.hid (by unfold Ow; have := own_base o8 (Nat.le_trans BW.out U6.out.size); rw [PLN.out] at this ⊢; exact this)
                  rw [PLN.out]
                  have U8 := Lib.hid (U3.out.trans (U6.out.trans u8))
                  clear o8 u8 g0 g1 g3
                  go_wp2_with fail
                  go_roundw
                  case rel => exact ⟨k1, n7, A8, c8, _, by go_num, rfl, by have := HK1.out; omega, Lib.hid ⟨PLN.out, by rw [← HK1.out]; exact run_snoc HK.out.2.1 HKT.out ST.out, by have := HK.out; have := HK1.out; rw [PLN.out]; omega⟩, U8, O8⟩
                  case measure => have := HK1.out; simp [intOf]; omega
            · have dv : (v == t.2.2.1) = false := by simpa using hv
              have NO : Hid (stepTn rk t = none) := Lib.hid (by
                have hne : ¬ Assoc.get rk t.2.1 = some t.2.2.1 := by rw [hg]; intro e; injection e with e; exact hv e
                unfold stepTn
                rw [if_neg k1']
                rcases k23 with e | e
                · rw [if_pos e, if_neg hne]
                · rw [if_neg (by omega), if_pos e, if_neg hne])
              clear hf hg hi hcv hv C3
              rcases k23 with k2 | k3
              · have d2 : (t.1 == 2) = true := by simpa using k2
                clear k1' k2
                go_wp2_with fail
                refine wp_invN [] [] (by kernel_rfl) (by kernel_rfl) (by kernel_rfl) trivial ?_
                with_reducible apply wpV_light
                · simp only [lightOp]
                · intro W hU hF
                  have f0 := CS.out W hU
                  clear hU hF
                  go_simp
                  exact rfl
                simp only [Act.put, List.setIfInBounds_toArray, List.set_cons_zero, List.set_cons_succ]
                with_reducible apply wpV_light
                · simp only [lightOp]
                · intro W hU hF
                  have f0 := CS.out W hU
                  clear hU hF
                  go_simp
                  exact rfl
                simp only [Act.put, List.setIfInBounds_toArray, List.set_cons_zero, List.set_cons_succ]
                with_reducible apply wpV_light
                · simp only [lightOp]
                · intro W hU hF
                  have f0 := CS.out W hU
                  clear hU hF
                  go_simp
                  exact rfl
                simp only [Act.put, List.setIfInBounds_toArray, List.set_cons_zero, List.set_cons_succ]
                with_reducible apply wpV_light
                · simp only [lightOp]
                · intro W hU hF
                  have f0 := CS.out W hU
                  clear hU hF
                  go_simp
                  exact rfl
                simp only [Act.put, List.setIfInBounds_toArray, List.set_cons_zero, List.set_cons_succ]
                refine wpV_skip (by rfl) (by simp only [lightOp]) ?_
                simp only [Act.put, List.setIfInBounds_toArray, List.set_cons_zero, List.set_cons_succ]
                refine wpV_skip (by rfl) (by simp only [lightOp]) ?_
                simp only [Act.put, List.setIfInBounds_toArray, List.set_cons_zero, List.set_cons_succ]
                refine wpV_skip (by rfl) (by simp only [lightOp]) ?_
                simp only [Act.put, List.setIfInBounds_toArray, List.set_cons_zero, List.set_cons_succ]
                with_reducible apply wpV_light
                · simp only [lightOp]
                · intro W hU hF
                  have f0 := CS.out W hU
                  clear hU hF
                  go_simp
                  exact rfl
                simp only [Act.put, List.setIfInBounds_toArray, List.set_cons_zero, List.set_cons_succ]
                with_reducible apply wpV_light
                · simp only [lightOp]
                · intro W hU hF
                  have f0 := CS.out W hU
                  clear hU hF
                  go_simp
                  exact rfl
                simp only [Act.put, List.setIfInBounds_toArray, List.set_cons_zero, List.set_cons_succ]
                with_reducible apply wpV_light
                · simp only [lightOp]
                · intro W hU hF
                  have f0 := CS.out W hU
                  clear hU hF
                  go_simp
                  exact rfl
                simp only [Act.put, List.setIfInBounds_toArray, List.set_cons_zero, List.set_cons_succ]
                with_reducible apply wpV_light
                · simp only [lightOp]
                · intro W hU hF
                  have f0 := CS.out W hU
                  clear hU hF
                  go_simp
                  exact rfl
                simp only [Act.put, List.setIfInBounds_toArray, List.set_cons_zero, List.set_cons_succ]
                with_reducible apply wpV_light
                · simp only [lightOp]
                · intro W hU hF
                  have f0 := CS.out W hU
                  clear hU hF
                  go_simp
                  exact rfl
                simp only [Act.put, List.setIfInBounds_toArray, List.set_cons_zero, List.set_cons_succ]
                with_reducible apply wpV_light
                · simp only [lightOp]
                · intro W hU hF
                  have f0 := CS.out W hU
                  clear hU hF
                  go_simp
                  exact rfl
                simp only [Act.put, List.setIfInBounds_toArray, List.set_cons_zero, List.set_cons_succ]
                with_reducible apply wpV_light
                · simp only [lightOp]
                · intro W hU hF
                  have f0 := CS.out W hU
                  clear hU hF
                  go_simp
                  exact rfl
                simp only [Act.put, List.setIfInBounds_toArray, List.set_cons_zero, List.set_cons_succ]
                with_reducible apply wpV_light
                · simp only [lightOp]
                · intro W hU hF
                  have f0 := CS.out W hU
                  clear hU hF
                  go_simp
                  exact rfl
                simp only [Act.put, List.setIfInBounds_toArray, List.set_cons_zero, List.set_cons_succ]
                with_reducible apply wpV_light
                · simp only [lightOp]
                · intro W hU hF
                  have f0 := CS.out W hU
                  clear hU hF
                  go_simp
                  exact rfl
                simp only [Act.put, List.setIfInBounds_toArray, List.set_cons_zero, List.set_cons_succ]
                with_reducible apply wpV_light
                · simp only [lightOp]
                · intro W hU hF
                  have f0 := CS.out W hU
                  clear hU hF
                  go_simp
                  exact rfl
                simp only [Act.put, List.setIfInBounds_toArray, List.set_cons_zero, List.set_cons_succ]
                with_reducible apply wpV_light
                · simp only [lightOp]
                · intro W hU hF
                  have f0 := CS.out W hU
                  clear hU hF
                  go_simp
                  exact rfl
                simp only [Act.put, List.setIfInBounds_toArray, List.set_cons_zero, List.set_cons_succ]
                with_reducible apply wpV_light
                · simp only [lightOp]
                · intro W hU hF
                  have f0 := CS.out W hU
                  clear hU hF
                  go_simp
                  exact rfl
                simp only [Act.put, List.setIfInBounds_toArray, List.set_cons_zero, List.set_cons_succ]
                with_reducible apply wpV_light
                · simp only [lightOp]
                · intro W hU hF
                  have f0 := CS.out W hU
                  clear hU hF
                  go_simp
                  exact rfl
                simp only [Act.put, List.setIfInBounds_toArray, List.set_cons_zero, List.set_cons_succ]
                with_reducible apply wpV_light
                · simp only [lightOp]
                · intro W hU hF
                  have f0 := CS.out W hU
                  clear hU hF
                  go_simp
                  exact rfl
                simp only [Act.put, List.setIfInBounds_toArray, List.set_cons_zero, List.set_cons_succ]
                with_reducible apply wpV_light
                · simp only [lightOp]
                · intro W hU hF
                  have f0 := CS.out W hU
                  clear hU hF
                  go_simp
                  exact rfl
                simp only [Act.put, List.setIfInBounds_toArray, List.set_cons_zero, List.set_cons_succ]
                refine wpV_end (fun W hU _ _ => ?_)
                have U6 : Hid (Upd [] w W) := Lib.hid (U3.out.trans ((Upd.refl [] w3).drew.trans hU))
                clear hU
                refine wpT_end ?_
                go_wp2_with fail
                go_ret3
                exact ⟨U6.out, _, [], 12, _, rfl, Ow.nil _ _ _ _, .inr ⟨rfl, rfl, k, rk, t, by rw [HK1.out], HK.out.2.1, HKT.out, NO.out⟩⟩
              · have d2 : (t.1 == 2) = false := by simp [k3]
                have d3 : (t.1 == 3) = true := by simpa using k3
                clear k1' k3
                go_wp2_with fail
                refine wp_invN [] [] (by kernel_rfl) (by kernel_rfl) (by kernel_rfl) trivial ?_
                with_reducible apply wpV_light
                · simp only [lightOp]
                · intro W hU hF
                  have f0 := CS.out W hU
                  clear hU hF
                  go_simp
                  exact rfl
                simp only [Act.put, List.setIfInBounds_toArray, List.set_cons_zero, List.set_cons_succ]
                with_reducible apply wpV_light
                · simp only [lightOp]
                · intro W hU hF
                  have f0 := CS.out W hU
                  clear hU hF
                  go_simp
                  exact rfl
                simp only [Act.put, List.setIfInBounds_toArray, List.set_cons_zero, List.set_cons_succ]
                with_reducible apply wpV_light
                · simp only [lightOp]
                · intro W hU hF
                  have f0 := CS.out W hU
                  clear hU hF
                  go_simp
                  exact rfl
                simp only [Act.put, List.setIfInBounds_toArray, List.set_cons_zero, List.set_cons_succ]
                with_reducible apply wpV_light
                · simp only [lightOp]
                · intro W hU hF
                  have f0 := CS.out W hU
                  clear hU hF
                  go_simp
                  exact rfl
                simp only [Act.put, List.setIfInBounds_toArray, List.set_cons_zero, List.set_cons_succ]
                with_reducible apply wpV_light
                · simp only [lightOp]
                · intro W hU hF
                  have f0 := CS.out W hU
                  clear hU hF
                  go_simp
                  exact rfl
                simp only [Act.put, List.setIfInBounds_toArray, List.set_cons_zero, List.set_cons_succ]
                with_reducible apply wpV_light
                · simp only [lightOp]
                · intro W hU hF
                  have f0 := CS.out W hU
                  clear hU hF
                  go_simp
                  exact rfl
                simp only [Act.put, List.setIfInBounds_toArray, List.set_cons_zero, List.set_cons_succ]
                with_reducible apply wpV_light
                · simp only [lightOp]
                · intro W hU hF
                  have f0 := CS.out W hU
                  clear hU hF
                  go_simp
                  exact rfl
                simp only [Act.put, List.setIfInBounds_toArray, List.set_cons_zero, List.set_cons_succ]
                with_reducible apply wpV_light
                · simp only [lightOp]
                · intro W hU hF
                  have f0 := CS.out W hU
                  clear hU hF
                  go_simp
                  exact rfl
                simp only [Act.put, List.setIfInBounds_toArray, List.set_cons_zero, List.set_cons_succ]
                with_reducible apply wpV_light
                · simp only [lightOp]
                · intro W hU hF
                  have f0 := CS.out W hU
                  clear hU hF
                  go_simp
                  exact rfl
                simp only [Act.put, List.setIfInBounds_toArray, List.set_cons_zero, List.set_cons_succ]
                with_reducible apply wpV_light
                · simp only [lightOp]
                · intro W hU hF
                  have f0 := CS.out W hU
                  clear hU hF
                  go_simp
                  exact rfl
                simp only [Act.put, List.setIfInBounds_toArray, List.set_cons_zero, List.set_cons_succ]
                with_reducible apply wpV_light
                · simp only [lightOp]
                · intro W hU hF
                  have f0 := CS.out W hU
                  clear hU hF
                  go_simp
                  exact rfl
                simp only [Act.put, List.setIfInBounds_toArray, List.set_cons_zero, List.set_cons_succ]
                with_reducible apply wpV_light
                · simp only [lightOp]
                · intro W hU hF
                  have f0 := CS.out W hU
                  clear hU hF
                  go_simp
                  exact rfl
                simp only [Act.put, List.setIfInBounds_toArray, List.set_cons_zero, List.set_cons_succ]
                with_reducible apply wpV_light
                · simp only [lightOp]
                · intro W hU hF
                  have f0 := CS.out W hU
                  clear hU hF
                  go_simp
                  exact rfl
                simp only [Act.put, List.setIfInBounds_toArray, List.set_cons_zero, List.set_cons_succ]
                with_reducible apply wpV_light
                · simp only [lightOp]
                · intro W hU hF
                  have f0 := CS.out W hU
                  clear hU hF
                  go_simp
                  exact rfl
                simp only [Act.put, List.setIfInBounds_toArray, List.set_cons_zero, List.set_cons_succ]
                with_reducible apply wpV_light
                · simp only [lightOp]
                · intro W hU hF
                  have f0 := CS.out W hU
                  clear hU hF
                  go_simp
                  exact rfl
                simp only [Act.put, List.setIfInBounds_toArray, List.set_cons_zero, List.set_cons_succ]
                with_reducible apply wpV_light
                · simp only [lightOp]
                · intro W hU hF
                  have f0 := CS.out W hU
                  clear hU hF
                  go_simp
                  exact rfl
                simp only [Act.put, List.setIfInBounds_toArray, List.set_cons_zero, List.set_cons_succ]
                with_reducible apply wpV_light
                · simp only [lightOp]
                · intro W hU hF
                  have f0 := CS.out W hU
                  clear hU hF
                  go_simp
                  exact rfl
                simp only [Act.put, List.setIfInBounds_toArray, List.set_cons_zero, List.set_cons_succ]
                with_reducible apply wpV_light
                · simp only [lightOp]
                · intro W hU hF
                  have f0 := CS.out W hU
                  clear hU hF
                  go_simp
                  exact rfl
                simp only [Act.put, List.setIfInBounds_toArray, List.set_cons_zero, List.set_cons_succ]
                with_reducible apply wpV_light
                · simp only [lightOp]
                · intro W hU hF
                  have f0 := CS.out W hU
                  clear hU hF
                  go_simp
                  exact rfl
                simp only [Act.put, List.setIfInBounds_toArray, List.set_cons_zero, List.set_cons_succ]
                with_reducible apply wpV_light
                · simp only [lightOp]
                · intro W hU hF
                  have f0 := CS.out W hU
                  clear hU hF
                  go_simp
                  exact rfl
                simp only [Act.put, List.setIfInBounds_toArray, List.set_cons_zero, List.set_cons_succ]
                with_reducible apply wpV_light
                · simp only [lightOp]
                · intro W hU hF
                  have f0 := CS.out W hU
                  clear hU hF
                  go_simp
                  exact rfl
                simp only [Act.put, List.setIfInBounds_toArray, List.set_cons_zero, List.set_cons_succ]
                with_reducible apply wpV_light
                · simp only [lightOp]
                · intro W hU hF
                  have f0 := CS.out W hU
                  clear hU hF
                  go_simp
                  exact rfl
                simp only [Act.put, List.setIfInBounds_toArray, List.set_cons_zero, List.set_cons_succ]
                refine wpV_end (fun W hU _ _ => ?_)
                have U6 : Hid (Upd [] w W) := Lib.hid (U3.out.trans ((Upd.refl [] w3).drew.trans hU))
                clear hU
                refine wpT_end ?_
                go_wp2_with fail
                go_ret3
                exact ⟨U6.out, _, [], 12, _, rfl, Ow.nil _ _ _ _, .inr ⟨rfl, rfl, k, rk, t, by rw [HK1.out], HK.out.2.1, HKT.out, NO.out⟩⟩
        · have d1 : (t.1 == 1) = false := by simpa using k1'
          have d2 : (t.1 == 2) = false := by simp; intro e; exact k23 (.inl e)
          have d3 : (t.1 == 3) = false := by simp; intro e; exact k23 (.inr e)
          have NO : Hid (stepTn rk t = none) := Lib.hid (by unfold stepTn; rw [if_neg k1', if_neg (fun e => k23 (.inl e)), if_neg (fun e => k23 (.inr e))])
          clear hf k1' k23
          go_wp2_with fail
          refine wp_invN [] [] (by kernel_rfl) (by kernel_rfl) (by kernel_rfl) trivial ?_
          with_reducible apply wpV_light
          · simp only [lightOp]
          · intro W hU hF
            have f0 := C3.out W hU
            clear hU hF
            go_simp
            exact rfl
          simp only [Act.put, List.setIfInBounds_toArray, List.set_cons_zero, List.set_cons_succ]
          with_reducible apply wpV_light
          · simp only [lightOp]
          · intro W hU hF
            have f0 := C3.out W hU
            clear hU hF
            go_simp
            exact rfl
          simp only [Act.put, List.setIfInBounds_toArray, List.set_cons_zero, List.set_cons_succ]
          with_reducible apply wpV_light
          · simp only [lightOp]
          · intro W hU hF
            have f0 := C3.out W hU
            clear hU hF
            go_simp
            exact rfl
          simp only [Act.put, List.setIfInBounds_toArray, List.set_cons_zero, List.set_cons_succ]
          with_reducible apply wpV_light
          · simp only [lightOp]
          · intro W hU hF
            have f0 := C3.out W hU
            clear hU hF
            go_simp
            exact rfl
          simp only [Act.put, List.setIfInBounds_toArray, List.set_cons_zero, List.set_cons_succ]
          with_reducible apply wpV_light
          · simp only [lightOp]
          · intro W hU hF
            have f0 := C3.out W hU
            clear hU hF
            go_simp
            exact rfl
          simp only [Act.put, List.setIfInBounds_toArray, List.set_cons_zero, List.set_cons_succ]
          with_reducible apply wpV_light
          · simp only [lightOp]
          · intro W hU hF
            have f0 := C3.out W hU
            clear hU hF
            go_simp
            exact rfl
          simp only [Act.put, List.setIfInBounds_toArray, List.set_cons_zero, List.set_cons_succ]
          with_reducible apply wpV_light
          · simp only [lightOp]
          · intro W hU hF
            have f0 := C3.out W hU
            clear hU hF
            go_simp
            exact rfl
          simp only [Act.put, List.setIfInBounds_toArray, List.set_cons_zero, List.set_cons_succ]
          with_reducible apply wpV_light
          · simp only [lightOp]
          · intro W hU hF
            have f0 := C3.out W hU
            clear hU hF
            go_simp
            exact rfl
          simp only [Act.put, List.setIfInBounds_toArray, List.set_cons_zero, List.set_cons_succ]
          with_reducible apply wpV_light
          · simp only [lightOp]
          · intro W hU hF
            have f0 := C3.out W hU
            clear hU hF
            go_simp
            exact rfl
          simp only [Act.put, List.setIfInBounds_toArray, List.set_cons_zero, List.set_cons_succ]
          refine wpV_skip (by rfl) (by simp only [lightOp]) ?_
          simp only [Act.put, List.setIfInBounds_toArray, List.set_cons_zero, List.set_cons_succ]
          refine wpV_skip (by rfl) (by simp only [lightOp]) ?_
          simp only [Act.put, List.setIfInBounds_toArray, List.set_cons_zero, List.set_cons_succ]
          with_reducible apply wpV_light
          · simp only [lightOp]
          · intro W hU hF
            have f0 := C3.out W hU
            clear hU hF
            go_simp
            exact rfl
          simp only [Act.put, List.setIfInBounds_toArray, List.set_cons_zero, List.set_cons_succ]
          with_reducible apply wpV_light
          · simp only [lightOp]
          · intro W hU hF
            have f0 := C3.out W hU
            clear hU hF
            go_simp
            exact rfl
          simp only [Act.put, List.setIfInBounds_toArray, List.set_cons_zero, List.set_cons_succ]
          refine wpV_skip (by rfl) (by simp only [lightOp]) ?_
          simp only [Act.put, List.setIfInBounds_toArray, List.set_cons_zero, List.set_cons_succ]
          refine wpV_skip (by rfl) (by simp only [lightOp]) ?_
          simp only [Act.put, List.setIfInBounds_toArray, List.set_cons_zero, List.set_cons_succ]
          refine wpV_skip (by rfl) (by simp only [lightOp]) ?_
          simp only [Act.put, List.setIfInBounds_toArray, List.set_cons_zero, List.set_cons_succ]
          refine wpV_skip (by rfl) (by simp only [lightOp]) ?_
          simp only [Act.put, List.setIfInBounds_toArray, List.set_cons_zero, List.set_cons_succ]
          refine wpV_skip (by rfl) (by simp only [lightOp]) ?_
          simp only [Act.put, List.setIfInBounds_toArray, List.set_cons_zero, List.set_cons_succ]
          refine wpV_skip (by rfl) (by simp only [lightOp]) ?_
          simp only [Act.put, List.setIfInBounds_toArray, List.set_cons_zero, List.set_cons_succ]
          refine wpV_skip (by rfl) (by simp only [lightOp]) ?_
          simp only [Act.put, List.setIfInBounds_toArray, List.set_cons_zero, List.set_cons_succ]
          refine wpV_skip (by rfl) (by simp only [lightOp]) ?_
          simp only [Act.put, List.setIfInBounds_toArray, List.set_cons_zero, List.set_cons_succ]
          with_reducible apply wpV_light
          · simp only [lightOp]
          · intro W hU hF
            have f0 := C3.out W hU
            clear hU hF
            go_simp
            exact rfl
          simp only [Act.put, List.setIfInBounds_toArray, List.set_cons_zero, List.set_cons_succ]
          refine wpV_end (fun W hU _ _ => ?_)
          have U6 : Hid (Upd [] w W) := Lib.hid (U3.out.trans ((Upd.refl [] w3).drew.trans hU))
          clear hU
          refine wpT_end ?_
          go_wp2_with fail
          go_ret3
          exact ⟨U6.out, _, [], 12, _, rfl, Ow.nil _ _ _ _, .inr ⟨rfl, rfl, k, rk, t, by rw [HK1.out], HK.out.2.1, HKT.out, NO.out⟩⟩
    · have e : ts.take k = ts := List.take_of_length_le (by rw [HM.out]; omega)
      have RE : Hid (runTn r ts = some rk) := Lib.hid (by rw [← e]; exact HK.out.2.1)
      clear e
      go_wp2_with fail
      go_ret3
      exact ⟨U.out, _, rk, 0, 0, rfl, O.out, .inl ⟨rfl, rfl, RE.out, by have := HK.out; rw [HN.out, HM.out]; omega⟩⟩
end Go.Proofs.YthdjbflbhgbckaaDoor

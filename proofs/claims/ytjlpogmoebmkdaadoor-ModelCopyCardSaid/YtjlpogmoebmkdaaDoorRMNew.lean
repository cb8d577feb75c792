/-
  concordref08.New.
-/
import Derived.Test.YtjlpogmoebmkdaaDoorRMdl3
import Derived.Test.YtjlpogmoebmkdaaDoorMNew
import Derived.Laws.MakeOwn
set_option linter.unusedVariables false
namespace Go.Proofs.YtjlpogmoebmkdaaDoor
open Go.RowKit Assoc MP
attribute [local go_sem] litStep_value

theorem prs_info : (Tryd.prog.info? 27).map (fun i => (i.zero, i.size, i.bytes)) = some (some (.slice none 0 0), 1, 24) := by kernel_rfl
theorem run_makePrs (w : World) (n : Nat) (hn : n ≤ 1000) : (Instr.makeSlice 57 (.int .i64 n) (.int .i64 n)).run Tryd.prog w = .ok (.slice (some ⟨w.heap.size, 0, none⟩) n n) (w.alloc (.cells (madeCells #[Value.slice none 0 0] n) 27)) := by
  obtain ⟨i0, hi0, hz0, hz1, hz2⟩ := info_parts prs_info
  have h := run_make (P := Tryd.prog) w 57 27 i0 _ Tryd.underlying57 hi0 hz0 .i64 .i64 n n (by omega) (by omega) (by rw [hz2]; omega) (by omega)
  rw [hz1] at h
  simpa [Value.cells] using h
theorem madePrs (n : Nat) : (madeCells #[Value.slice none 0 0] n).toList = List.replicate n (.slice none 0 0) := by
  apply List.ext_getElem
  · simp [madeCells]
  · intro i h1 h2
    simp [madeCells, Nat.mod_one]
theorem own_madePrs (w : World) (B n : Nat) (hB : B ≤ w.heap.size) (hn : n ≤ 1000) : (w.alloc (.cells (madeCells #[Value.slice none 0 0] n) 27)).ownsRow B 27 1 (.slice (some ⟨w.heap.size, 0, none⟩) n n) n (List.replicate n (.slice none 0 0)) := by
  refine ⟨by simp, .inr ⟨w.heap.size, n, _, rfl, hB, Blk.new w _ _, Nat.le_refl _, by simp only [maxLen]; omega, by simp [size_madeCells], ?_⟩⟩
  rw [madePrs, List.take_of_length_le (by simp)]
theorem rmst_new {B rb n c d : Nat} {A A' : Option Addr} {xs : List Int} {w : World} (hn : xs.length = n) (hb : Blk w rb 80 #[.slice A n c, .slice A' n d]) (hk : Ow encK 3 w B (.slice A n c) xs) (hl : w.ownsRow B 27 1 (.slice A' n d) n (List.replicate n (.slice none 0 0))) (hB : B ≤ rb) :
    RMSt B rb (.slice A n c) (.slice A' n d) (List.replicate n (.slice none 0 0)) w (newS xs) := by
  refine ⟨hb, hk, by show w.ownsRow B _ 1 _ (List.replicate xs.length ([] : AL)).length _; rw [List.length_replicate, hn]; exact hl, fun i v l hv hx => ?_, hB⟩
  have h1 : v = .slice none 0 0 := List.eq_of_mem_replicate (List.mem_of_getElem? hv)
  have h2 : l = [] := List.eq_of_mem_replicate (List.mem_of_getElem? (show (List.replicate xs.length ([] : AL))[i]? = some l from hx))
  subst h1 h2
  exact Ow.nil _ _ _ _
def RNewPost (xs : List Int) (w : World) (e : Ending) (w' : World) : Prop := Upd [] w w' ∧
  ((∃ i, badK xs = some i ∧ e = .returned (.tuple #[.pointer none, .int .i64 17, .int .i64 ((i : Int) + 1)])) ∨
   (badK xs = none ∧ 8 < xs.length ∧ e = .returned (.tuple #[.pointer none, .int .i64 8, .int .i64 0])) ∨
   (badK xs = none ∧ xs.length ≤ 8 ∧ ∃ rb F, e = .returned (.tuple #[.pointer (some ⟨rb, 0, none⟩), .int .i64 0, .int .i64 0]) ∧ RMdl w.heap.size rb F w' (newS xs)))
set_option maxRecDepth 100000 in
set_option maxHeartbeats 4000000 in
theorem rm_new (A : Option Addr) (n c : Nat) (xs : List Int) (w : World) (h : Rd encK w (.slice A n c) xs) (hn : xs.length = n) (hl : n ≤ 1000) :
    Calls Tryd.prog 15 #[.slice A n c] w fun e w' => RNewPost xs w e w' := by
  have HR := Lib.hid h
  have HN := Lib.hid hn
  clear h hn
  go_enter Tryd.func15, Tryd.ntmps15
  go_wp2_with fail
  go_loop [5] (fun v => ∃ k : Nat, v = .int .i64 k ∧ k ≤ n ∧ Hid (∀ j, j < k → kOk (xs.getD j 0) = true)) (fun v => n - (intOf v).toNat)
  case atStart => exact ⟨0, rfl, by omega, Lib.hid (fun j hj => by omega)⟩
  case round =>
    obtain ⟨k, rfl, hk, HOK⟩ := hrel
    by_cases hkn : k < n
    · obtain ⟨y, hy⟩ : ∃ y, xs[k]? = some y := ⟨_, List.getElem?_eq_getElem (by rw [HN.out]; exact hkn)⟩
      obtain ⟨ad, rfl, hlt, hcells⟩ := HR.out.at_ hy
      have e0 : w.cell? (ad.add k) = some (.int .i64 y) := by have := hcells 0 _ rfl; rwa [show k * encK.s + 0 = k by simp [encI]] at this
      have HY := Lib.hid hy
      have q1 : (0 : Int) ≤ (k : Int) := by omega
      have q2 : (k : Int) < (n : Int) := by omega
      clear hy hcells
      by_cases h1 : y < 1
      · have d1 : decide (y < 1) = true := by simpa using h1
        have HOKY : Hid (kOk y = false) := Lib.hid (by unfold kOk; rw [decide_eq_false_iff_not]; omega)
        clear h1
        have HZ : Hid (badK xs = some k) := Lib.hid (badK_at HOK.out HY.out HOKY.out)
        go_wp2_with fail
        go_ret3
        exact ⟨.refl _ _, .inl ⟨k, HZ.out, by rfl⟩⟩
      · have d1 : decide (y < 1) = false := by simpa using h1
        by_cases h3 : 3 < y
        · have d3 : decide (3 < y) = true := by simpa using h3
          have HOKY : Hid (kOk y = false) := Lib.hid (by unfold kOk; rw [decide_eq_false_iff_not]; omega)
          clear h1 h3
          have HZ : Hid (badK xs = some k) := Lib.hid (badK_at HOK.out HY.out HOKY.out)
          go_wp2_with fail
          go_ret3
          exact ⟨.refl _ _, .inl ⟨k, HZ.out, by rfl⟩⟩
        · have d3 : decide (3 < y) = false := by simpa using h3
          have HOKY : Hid (kOk y = true) := Lib.hid (by unfold kOk; rw [decide_eq_true_iff]; omega)
          clear h1 h3
          have HO2 : Hid (∀ j, j < k + 1 → kOk (xs.getD j 0) = true) := Lib.hid (fun j hj => by
            rcases Nat.lt_or_ge j k with h1 | h1
            · exact HOK.out j h1
            · obtain rfl : j = k := by omega
              rw [List.getD_eq_getElem?_getD, HY.out]
              exact HOKY.out)
          go_wp2_with fail
          go_round
          case rel => exact ⟨k + 1, by go_num, by omega, HO2⟩
          case measure => simp [intOf]; omega
    · obtain rfl : k = n := by omega
      have HZ : Hid (badK xs = none) := Lib.hid (badK_no (by rw [HN.out]; exact HOK.out))
      by_cases h8 : 8 < k
      · have d8 : decide ((8 : Int) < (k : Int)) = true := by simp; omega
        go_wp2_with fail
        go_ret3
        exact ⟨.refl _ _, .inr (.inl ⟨HZ.out, by rw [HN.out]; exact h8, rfl⟩)⟩
      · have d8 : decide ((8 : Int) < (k : Int)) = false := by simp; omega
        have HMK : Hid (∀ W, (Instr.makeSlice 57 (.int .i64 k) (.int .i64 k)).run Tryd.prog W = .ok (.slice (some ⟨W.heap.size, 0, none⟩) k k) (W.alloc (.cells (madeCells #[Value.slice none 0 0] k) 27))) := Lib.hid (fun W => run_makePrs W k hl)
        have F1 : Hid (∀ W, Upd [] w.drew W → Src W 1 (.slice A k c) k (flat encK xs)) := Lib.hid (fun W hW => by
          have := HR.out.upd0 ((Upd.refl [] w).drew.trans hW)
          unfold Rd at this
          rw [HN.out] at this
          exact this)
        go_wp2_with fail
        refine wp_invNT 6 [(0, .own w.heap.size 3 1 0 []), (2, .own w.heap.size 3 1 k (flat encK xs)), (5, .own w.heap.size 27 1 k (List.replicate k (.slice none 0 0)))] [(2, [0])] (by kernel_rfl) (by simp) (by kernel_rfl) (by kernel_rfl) ⟨lasts_own _ _ _ _ _ (by simp [maxLen]), lasts_own _ _ _ _ _ (by unfold maxLen; omega), lasts_own _ _ _ _ _ (by unfold maxLen; omega), trivial⟩ ?_
        simp only [List.take_succ_cons, List.take_zero, List.drop_succ_cons, List.drop_zero]
        refine wpV_heavy (by simp only [lightOp]) (by rfl) (fun W hU hk hF K hK => ?_) ?_
        · go_wp2_with fail
          exact wpV_made hK rfl rfl rfl rfl hU.size
        rintro _ ⟨A1, c1, rfl, _, _⟩
        simp only [Act.put, List.setIfInBounds_toArray, List.set_cons_zero, List.set_cons_succ]
        with_reducible apply wpV_light
        · simp only [lightOp]
        · intro W hU hF
          clear hU hF
          go_simp
          exact rfl
        simp only [Act.put, List.setIfInBounds_toArray, List.set_cons_zero, List.set_cons_succ]
        refine wpV_heavy (by simp only [lightOp]) (by rfl) (fun W hU hk hF K hK => ?_) ?_
        · exact wpV_app hK (.tmp 29) (.tmp 30) _ (by rfl) elem_int _ _ (by rfl) (by rfl) rfl rfl (by simp [usedV, mkI, conOf, specOf, Spec.own]) (hF.out.1 (by kernel_rfl)) (F1.out W hU) (by omega) (by simp) flat_cells (by unfold maxLen; omega) (by omega) hU.size
        rintro _ ⟨A2, c2, rfl, _, _⟩
        simp only [Act.put, List.setIfInBounds_toArray, List.set_cons_zero, List.set_cons_succ]
        with_reducible apply wpV_light
        · simp only [lightOp]
        · intro W hU hF
          clear hU hF
          go_simp
          exact rfl
        simp only [Act.put, List.setIfInBounds_toArray, List.set_cons_zero, List.set_cons_succ]
        with_reducible apply wpV_light
        · simp only [lightOp]
        · intro W hU hF
          clear hU hF
          go_simp
          exact rfl
        simp only [Act.put, List.setIfInBounds_toArray, List.set_cons_zero, List.set_cons_succ]
        refine wpV_heavy (by simp only [lightOp]) (by rfl) (fun W hU hk hF K hK => ?_) ?_
        · have hm := HMK.out W
          go_wp2_with fail
          exact hK.out _ _ (outV_own (v := undef) rfl rfl (by rfl) (own_madePrs W w.heap.size k hU.size hl) ((Upd.refl [] W).alloc _) (.inr rfl))
        rintro _ ⟨A5, c5, rfl, _, _⟩
        simp only [Act.put, List.setIfInBounds_toArray, List.set_cons_zero, List.set_cons_succ]
        refine wpV_end (fun W hU _ hF => ?_)
        have U3 : Hid (Upd [] w W) := Lib.hid ((Upd.refl [] w).drew.trans hU)
        have O2 : Hid (W.ownsRow w.heap.size 3 1 (.slice A2 k c2) k (flat encK xs)) := Lib.hid (hF.out.2.1 (by kernel_rfl))
        have O5 : Hid (W.ownsRow w.heap.size 27 1 (.slice A5 k c5) k (List.replicate k (.slice none 0 0))) := Lib.hid (hF.out.2.2.1 (by kernel_rfl))
        clear hU hF
        refine wpT_op (by rfl) (fun K hK => ?_)
        go_wp2_with fail
        refine hK.out _ _ ?_
        clear hK K
        try simp only [Act.put, List.setIfInBounds_toArray, List.set_cons_zero, List.set_cons_succ]
        refine wpT_op (by rfl) (fun K hK => ?_)
        go_wp2_with fail
        refine hK.out _ _ ?_
        clear hK K
        try simp only [Act.put, List.setIfInBounds_toArray, List.set_cons_zero, List.set_cons_succ]
        refine wpT_op (by rfl) (fun K hK => ?_)
        go_wp2_with fail
        refine hK.out _ _ ?_
        clear hK K
        try simp only [Act.put, List.setIfInBounds_toArray, List.set_cons_zero, List.set_cons_succ]
        refine wpT_op (by rfl) (fun K hK => ?_)
        go_wp2_with fail
        refine hK.out _ _ ?_
        clear hK K
        try simp only [Act.put, List.setIfInBounds_toArray, List.set_cons_zero, List.set_cons_succ]
        refine wpT_op (by rfl) (fun K hK => ?_)
        go_wp2_with fail
        refine hK.out _ _ ?_
        clear hK K
        try simp only [Act.put, List.setIfInBounds_toArray, List.set_cons_zero, List.set_cons_succ]
        refine wpT_end ?_
        have HB : Hid (Blk (W.alloc (.cells #[.slice A2 k c2, .slice A5 k c5] 80)) W.heap.size 80 #[.slice A2 k c2, .slice A5 k c5]) := Lib.hid (Blk.new W _ _)
        go_wp2_with fail
        go_ret3
        refine ⟨U3.out.alloc _, .inr (.inr ⟨HZ.out, by rw [HN.out]; omega, W.heap.size, _, rfl, good_newS (by rw [HN.out]; omega), _, _, _, rfl, rmst_new HN.out HB.out (by unfold Ow; rw [HN.out]; exact own_upd0 O2.out ((Upd.refl [] W).alloc _)) (own_upd0 O5.out ((Upd.refl [] W).alloc _)) U3.out.size⟩)⟩
end Go.Proofs.YtjlpogmoebmkdaaDoor

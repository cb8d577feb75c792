/-
  concordref08.State: Del.
-/
import Derived.Test.YtjlpogmoebmkdaaDoorRMdl3
set_option linter.unusedVariables false
namespace Go.Proofs.YtjlpogmoebmkdaaDoor
open Go.RowKit Assoc MP
attribute [local go_sem] litStep_value

theorem del_snoc (l : AL) (x : Int × Int) (k : Int) : del (l ++ [x]) k = if x.1 = k then del l k else del l k ++ [x] := by
  unfold del
  rw [List.filter_append]
  by_cases h : x.1 = k
  · rw [if_pos h]; simp [h]
  · rw [if_neg h]; simp [h]
def RDelPost (B rb : Nat) (F : List Nat) (s : MS) (c k : Int) (w : World) (e : Ending) (w' : World) : Prop := ∃ F', e = .returned (.int .i64 (if isC s c then 0 else 3)) ∧ RMdl B rb F' w' (if isC s c then mDel s c.toNat k else s) ∧ Frm F F' w w'
/-- A new list, by rising keys, as the walk makes it. -/
structure DelI (l : AL) (w : World) (vl : Value) (wr : World) : Prop where
  own : Ow encPr 36 wr w.heap.size vl l
  upd : Upd [] w wr
theorem frm_set {B : Nat} {F F' : List Nat} {w w1 w2 : World} {va : Value} {l : AL} (hu : Upd [] w w1) (ho : Ow encPr 36 w1 w.heap.size va l) (h1 : Upd F w1 w2) (h2 : ∀ k ∈ F', k ∈ F ∨ w1.heap.size ≤ k ∨ va.ownBlock = some k) : Frm F F' w w2 := by
  refine ⟨(hu.mono (by simp)).trans h1, fun k hk => ?_⟩
  rcases h2 k hk with h | h | h
  · exact .inl h
  · exact .inr (Nat.le_trans hu.size h)
  · exact .inr (own_lt ho h).1
set_option maxRecDepth 100000 in
set_option maxHeartbeats 4000000 in
theorem rm_del (B rb : Nat) (F : List Nat) (s : MS) (c k : Int) (w : World) (h : RMdl B rb F w s) (hBw : B ≤ w.heap.size) :
    Calls Tryd.prog 36 #[.pointer (some ⟨rb, 0, none⟩), .int .i64 c, .int .i64 k] w fun e w' => RDelPost B rb F s c k w e w' := by
  have H := Lib.hid h
  cases hc : isC s c with
  | false =>
    have HC := Lib.hid hc
    clear h hc
    go_enter Tryd.func36, Tryd.ntmps36
    go_wp2_with fail
    refine (rm_there B rb F s c w H.out).mono ?_; rintro e w' ⟨rfl, rfl⟩
    rw [HC.out]
    go_wp2_with fail
    go_ret
    unfold RDelPost
    rw [HC.out]
    exact ⟨_, rfl, H.out, .refl _ _⟩
  | true =>
    have HC := Lib.hid hc
    obtain ⟨i, rfl, hi⟩ := isC_form hc
    obtain ⟨hgd, vk, vl, ms, hF, hst⟩ := h
    have HST := Lib.hid hst
    obtain ⟨gl, cl, Ai, ci, rfl, hcell, hoi, hmi⟩ := hst.at_ hi
    obtain ⟨N, hN⟩ : ∃ N, s.L.length = N := ⟨_, rfl⟩
    obtain ⟨n, hn⟩ : ∃ n, (coll s i).length = n := ⟨_, rfl⟩
    have hn1 : n ≤ 100 := hn ▸ hgd.len _ (coll_mem hi)
    have hi2 : i < N := hN ▸ hi
    have HOW : Hid (∀ W, Upd [] w W → W.cell? ⟨rb, 1, none⟩ = some (.slice (some ⟨gl, 0, none⟩) N cl) ∧ W.cell? ⟨gl, i, none⟩ = some (.slice Ai n ci)) := Lib.hid (fun W hW => ⟨by rw [← hN]; exact (hst.box.upd hW (by simp)).cell 1, by rw [← hn]; exact own_cell (own_upd0 hst.l hW) i _ hmi⟩)
    have ON : Hid (w.ownsRow B 36 2 (.slice Ai n ci) n (flat encPr (coll s i))) := Lib.hid (by have := hoi; unfold Ow at this; rw [hn] at this; exact this)
    have HN := Lib.hid hn
    have OI : Hid (Ow encPr 36 w B (.slice Ai n ci) (coll s i)) := Lib.hid (by rw [← hn]; exact hoi)
    have q1 : (0 : Int) ≤ (i : Int) := by omega
    have q2 : (i : Int) < (N : Int) := by omega
    have HII := Lib.hid hi
    have HGD := Lib.hid hgd
    clear hcell hoi hN hn hmi
    clear hc hgd hst hF hi
    go_enter Tryd.func36, Tryd.ntmps36
    go_wp2_with fail
    refine (rm_there B rb F s i w H.out).mono ?_; rintro e w' ⟨rfl, rfl⟩
    rw [HC.out]
    go_wp2_with fail
    go_loopw [7, 8] (fun vl vi wr => ∃ j : Nat, vi = .int .i64 j ∧ j ≤ n ∧ Hid (DelI (del ((coll s i).take j) k) w vl wr)) (fun _ v _ => n - (intOf v).toNat)
    case atStart => exact ⟨0, rfl, by omega, Lib.hid ⟨Ow.nil _ _ _ _, .refl _ _⟩⟩
    case round =>
      obtain ⟨j, rfl, hj, hs0⟩ := hrel
      rename World => wi
      have UI := Lib.hid hs0.out.upd
      have HD := Lib.hid hs0.out.own
      clear hs0
      obtain ⟨acc, hacc⟩ : ∃ acc, del ((coll s i).take j) k = acc := ⟨_, rfl⟩
      have HACC := Lib.hid hacc
      rw [hacc] at HD
      obtain ⟨q, hq⟩ : ∃ q, acc.length = q := ⟨_, rfl⟩
      have HQ := Lib.hid hq
      have hqj : q ≤ j := by
        rw [← hq, ← hacc]
        exact Nat.le_trans (List.length_filter_le _ _) (by rw [List.length_take]; omega)
      obtain ⟨Al, ca, rfl, _, _⟩ := own_slice HD.out
      rw [hq] at HD ⊢
      have O1 : Hid (wi.ownsRow w.heap.size 36 2 (.slice Al q ca) q (flat encPr acc)) := Lib.hid (by have := HD.out; unfold Ow at this; rw [hq] at this; exact this)
      obtain ⟨c1, e0⟩ := HOW.out wi UI.out
      clear hacc hq
      by_cases hjn : j < n
      ·
        obtain ⟨⟨xc, xv⟩, hx⟩ : ∃ x, (coll s i)[j]? = some x := ⟨_, List.getElem?_eq_getElem (by rw [HN.out]; omega)⟩
        obtain ⟨gw, cgw, curw, e1, _⟩ := own_form ON.out (by omega)
        injection e1 with e1 _ e1'
        subst e1 e1'
        have HEW : Hid (∀ W, Upd [] w W → W.cell? ⟨gw, j * 2, none⟩ = some (.int .i64 xc) ∧ W.cell? ⟨gw, j * 2 + 1, none⟩ = some (.int .i64 xv)) := Lib.hid (fun W hW => ⟨(OI.out.upd0 hW).at_ hx 0 _ rfl, (OI.out.upd0 hW).at_ hx 1 _ rfl⟩)
        have HX := Lib.hid hx
        have q3 : (0 : Int) ≤ (j : Int) := by omega
        have q4 : (j : Int) < (n : Int) := by omega
        clear hx
        obtain ⟨f0, f1⟩ := HEW.out wi UI.out
        have HT : Hid (del ((coll s i).take (j + 1)) k = if xc = k then acc else acc ++ [(xc, xv)]) := Lib.hid (by rw [take_snoc_ HX.out, del_snoc, HACC.out])
        by_cases hid : xc = k
        · have d1 : (xc != k) = false := by simpa using hid
          have HZ : Hid (del ((coll s i).take (j + 1)) k = acc) := Lib.hid (by rw [HT.out, if_pos hid])
          clear hid
          go_wp2_with fail
          go_roundw
          case rel => exact ⟨j + 1, by go_num, by omega, Lib.hid ⟨by rw [HZ.out]; exact HD.out, UI.out⟩⟩
          case measure => simp [intOf]; omega
        · have d1 : (xc != k) = true := by simpa using hid
          have HZ : Hid (del ((coll s i).take (j + 1)) k = acc ++ [(xc, xv)]) := Lib.hid (by rw [HT.out, if_neg hid])
          clear hid
          go_wp2_with (at_builtin; refine stopped ?_)
          refine Lib.hid ?_
          refine wpList_app _ (by rfl) (.tmp 38) (.tmp 49) _ (by rfl) elem_pair (.slice Al q ca) _ (by rfl) (by rfl) (own_upd0 O1.out ((Upd.refl [] wi).alloc _)) (.of_blk (Blk.new _ _ _) (m := 1) 1 rfl) (by intro u hu; simp at hu; rcases hu with rfl | rfl <;> rfl) (by simp only [maxLen]; omega) (by omega) (Nat.le_trans UI.out.size (by simp)) ?_
          intro v5 w5 o5 u5 b5
          obtain ⟨A5, c5, rfl, _, _⟩ := own_slice o5
          have U5 : Hid (Upd [] w w5) := Lib.hid (UI.out.trans' (((Upd.refl _ wi).alloc _).trans u5) (fun k hk => .inr (own_lt O1.out (by simpa using hk)).1))
          have O5 : Hid (Ow encPr 36 w5 w.heap.size (.slice A5 (q + 1) c5) (acc ++ [(xc, xv)])) := Lib.hid (by unfold Ow; rw [List.length_append, HQ.out, flat_append]; exact o5)
          clear o5 u5 b5
          go_wp2_with fail
          go_roundw
          case rel => exact ⟨j + 1, by go_num, by omega, Lib.hid ⟨by rw [HZ.out]; exact O5.out, U5.out⟩⟩
          case measure => simp [intOf]; omega
      · obtain rfl : j = n := by omega
        have HA : Hid (del (coll s i) k = acc) := Lib.hid (by rw [← HACC.out, List.take_of_length_le (by rw [HN.out]; exact Nat.le_refl _)])
        go_wp2_with fail
        refine (rm_set B rb F s i (.slice Al q ca) acc wi (H.out.upd0 UI.out) HII.out (own_base HD.out hBw) (by rw [← HA.out]; exact good_del HGD.out HII.out k) (Nat.le_trans hBw UI.out.size)).mono ?_
        rintro e w6 ⟨F', rfl, R6, U6, S6⟩
        have R := Lib.hid (And.intro R6 (frm_set (B := B) UI.out HD.out U6 S6))
        clear R6 U6 S6
        go_wp2_with fail
        go_ret
        unfold RDelPost
        rw [HC.out, Int.toNat_natCast]
        refine ⟨F', rfl, ?_, R.out.2⟩
        have := R.out.1
        rw [← HA.out] at this
        exact this
end Go.Proofs.YtjlpogmoebmkdaaDoor

/-
  concordref08.State: Put.
-/
import Derived.Test.YtfbeaklplefojaaGreatDoorEvB7
set_option linter.unusedVariables false
namespace Go.Proofs.YtfbeaklplefojaaGreatDoor
open Go.RowKit Assoc MP
attribute [local go_sem] litStep_value

theorem drop_at {W : AL} {k : Nat} {x : Int × Int} (h : W[k]? = some x) : W.drop k = x :: W.drop (k + 1) := by
  obtain ⟨hk, rfl⟩ := List.getElem?_eq_some_iff.1 h
  exact List.drop_eq_getElem_cons hk
theorem over_cons (k v : Int) (p : Int × Int) (l : AL) (done : Bool) : over k v (p :: l) done = (if k ≤ p.1 ∧ done = false then [(k, v)] else []) ++ ((if p.1 = k then [] else [p]) ++ over k v l (done || decide (k ≤ p.1))) := rfl
theorem over_in {W acc : AL} {c v : Int} {k : Nat} {x : Int × Int} (h : W[k]? = some x) (hc : c ≤ x.1) (e : acc ++ over c v (W.drop k) false = over c v W false) :
    (if x.1 = c then acc ++ [(c, v)] else acc ++ [(c, v)] ++ [x]) ++ over c v (W.drop (k + 1)) true = over c v W false := by
  rw [drop_at h, over_cons] at e
  rw [if_pos ⟨hc, rfl⟩, decide_eq_true hc, Bool.or_true] at e
  rw [← e]
  split <;> simp
theorem over_out {W acc : AL} {c v : Int} {k : Nat} {done : Bool} {x : Int × Int} (h : W[k]? = some x) (hc : done = true ∨ ¬ c ≤ x.1) (e : acc ++ over c v (W.drop k) done = over c v W false) :
    (if x.1 = c then acc else acc ++ [x]) ++ over c v (W.drop (k + 1)) done = over c v W false := by
  rw [drop_at h, over_cons] at e
  have h1 : (done || decide (c ≤ x.1)) = done := by
    rcases hc with rfl | hc
    · rfl
    · rw [decide_eq_false hc, Bool.or_false]
  rw [if_neg (by rintro ⟨h2, rfl⟩; rcases hc with hc | hc; · cases hc
                 · exact hc h2), h1] at e
  rw [← e]
  split <;> simp
/-- The new list behind j of the old one. -/
structure PutI (L : AL) (k v : Int) (w : World) (vl : Value) (acc : AL) (done : Bool) (j : Nat) (wr : World) : Prop where
  own : Ow encPr 56 wr w.heap.size vl acc
  upd : Upd [] w wr
  eq : acc ++ over k v (L.drop j) done = over k v L false
  len : acc.length ≤ j + done.toNat
def RPutPost (B rb : Nat) (F : List Nat) (s : MS) (c k v : Int) (w : World) (e : Ending) (w' : World) : Prop := ∃ F', e = .returned (.int .i64 (if isC s c then putE (coll s c.toNat) k else 3)) ∧ RMdl B rb F' w' (if isC s c then mPut s c.toNat k v else s) ∧ Frm F F' w w'
set_option maxRecDepth 100000 in
set_option maxHeartbeats 8000000 in
theorem rm_put (B rb : Nat) (F : List Nat) (s : MS) (c k v : Int) (w : World) (h : RMdl B rb F w s) (hkb : kB k) (hBw : B ≤ w.heap.size) :
    Calls Tryz.prog 18 #[.pointer (some ⟨rb, 0, none⟩), .int .i64 c, .int .i64 k, .int .i64 v] w fun e w' => RPutPost B rb F s c k v w e w' := by
  have H := Lib.hid h
  have HKB := Lib.hid hkb
  clear hkb
  cases hc : isC s c with
  | false =>
    have HC := Lib.hid hc
    clear h hc
    go_enter Tryz.func18, Tryz.ntmps18
    go_wp2_with fail
    refine (rm_there B rb F s c w H.out).mono ?_; rintro e w' ⟨rfl, rfl⟩
    rw [HC.out]
    go_wp2_with fail
    go_ret
    unfold RPutPost
    rw [HC.out]
    exact ⟨_, rfl, H.out, .refl _ _⟩
  | true =>
    have HC := Lib.hid hc
    obtain ⟨i, rfl, hi⟩ := isC_form hc
    obtain ⟨hgd, vk, vl, ms, hF, hst⟩ := h
    obtain ⟨Ak, ck, rfl, hnk, _⟩ := own_slice hst.k
    obtain ⟨NK, hNK⟩ : ∃ NK, s.K.length = NK := ⟨_, rfl⟩
    have hik : i < NK := by rw [← hNK, hgd.kl]; exact hi
    have OK : Hid (w.ownsRow B 3 1 (.slice Ak NK ck) NK (flat encK s.K)) := Lib.hid (by have := hst.k; unfold Ow at this; rw [hNK] at this; exact this)
    obtain ⟨gk, cg, cur, e1, _⟩ := own_form OK.out (by omega)
    injection e1 with e1 _ e1'
    subst e1 e1'
    obtain ⟨y, hy⟩ : ∃ y, s.K[i]? = some y := ⟨_, List.getElem?_eq_getElem (by rw [hNK]; exact hik)⟩
    have k0 : w.cell? ⟨gk, i, none⟩ = some (.int .i64 y) := by
      have := own_cell OK.out _ _ ((flat_get (E := encK) hy (j := 0) (by decide)).trans rfl)
      rwa [show i * encK.s + 0 = i by simp [encI]] at this
    have c0 : w.cell? ⟨rb, 0, none⟩ = some (.slice (some ⟨gk, 0, none⟩) NK ck) := by rw [← hNK]; exact hst.box.cell 0
    have q5 : (i : Int) < (NK : Int) := by omega
    have HY : Hid (∀ u, putV s i u = if y = 2 then 1 else u) := Lib.hid (fun u => by unfold putV; rw [List.getD_eq_getElem?_getD, hy]; rfl)
    have KN : Hid (s.K.length = NK) := Lib.hid hNK
    have KC : Hid ((flat encK s.K)[i]? = some (.int .i64 y)) := Lib.hid (by have := (flat_get (E := encK) hy (j := 0) (by decide)).trans rfl; rwa [show i * encK.s + 0 = i by simp [encI]] at this)
    clear hNK hy
    have HST := Lib.hid hst
    obtain ⟨gl, cl, Ai, ci, rfl, hcell, hoi, hmi⟩ := hst.at_ hi
    obtain ⟨N, hN⟩ : ∃ N, s.L.length = N := ⟨_, rfl⟩
    obtain ⟨n, hn⟩ : ∃ n, (coll s i).length = n := ⟨_, rfl⟩
    have hn1 : n ≤ 100 := hn ▸ hgd.len _ (coll_mem hi)
    have hi2 : i < N := hN ▸ hi
    have HOW : Hid (∀ W, Upd [] w W → W.cell? ⟨rb, 1, none⟩ = some (.slice (some ⟨gl, 0, none⟩) N cl) ∧ W.cell? ⟨gl, i, none⟩ = some (.slice Ai n ci)) := Lib.hid (fun W hW => ⟨by rw [← hN]; exact (hst.box.upd hW (by simp)).cell 1, by rw [← hn]; exact own_cell (own_upd0 hst.l hW) i _ hmi⟩)
    have ON : Hid (w.ownsRow B 56 2 (.slice Ai n ci) n (flat encPr (coll s i))) := Lib.hid (by have := hoi; unfold Ow at this; rw [hn] at this; exact this)
    have HN := Lib.hid hn
    have OI : Hid (Ow encPr 56 w B (.slice Ai n ci) (coll s i)) := Lib.hid (by rw [← hn]; exact hoi)
    have q1 : (0 : Int) ≤ (i : Int) := by omega
    have q2 : (i : Int) < (N : Int) := by omega
    have HII := Lib.hid hi
    have HGD := Lib.hid hgd
    clear hcell hoi hN hn hmi
    have hgn : get (coll s i) k = none → Hid (putE (coll s i) k = if 100 ≤ n then 8 else 0) := fun hg => Lib.hid (by unfold putE; rw [hg, HN.out]; simp)
    have hgs : ∀ u, get (coll s i) k = some u → Hid (putE (coll s i) k = 0) := fun u hg => Lib.hid (by unfold putE; rw [hg]; simp)
    have HGN := Lib.hid hgn
    have HGS := Lib.hid hgs
    have HK0 : Hid (∀ W, Upd [] w W → W.cell? ⟨rb, 0, none⟩ = some (.slice (some ⟨gk, 0, none⟩) NK ck) ∧ W.cell? ⟨gk, i, none⟩ = some (.int .i64 y)) := Lib.hid (fun W hW => ⟨by rw [← KN.out]; exact (HST.out.box.upd hW (by simp)).cell 0, own_cell (own_upd0 OK.out hW) _ _ KC.out⟩)
    clear hc hgd hst hF hi hgn hgs k0 c0
    go_enter Tryz.func18, Tryz.ntmps18
    go_wp2_with fail
    refine (rm_there B rb F s i w H.out).mono ?_; rintro e w' ⟨rfl, rfl⟩
    rw [HC.out]
    go_wp2_with fail
    refine (rm_find B rb F s i k w H.out HII.out).mono ?_; rintro e w' ⟨rfl, rfl⟩
    obtain ⟨c1, e0⟩ := HOW.out w (.refl _ _)
    obtain ⟨k1, k0⟩ := HK0.out w (.refl _ _)
    by_cases hy2 : y = 2
    · have d2 : (y == 2) = true := by simpa using hy2
      have HVV : Hid (putV s i v = 1) := Lib.hid (by rw [HY.out, if_pos hy2])
      clear hy2
      cases hg : get (coll s i) k with
      | some ov =>
        have HE := HGS.out ov hg
        obtain ⟨pk, hp1, hp2⟩ := posW_some hg
        rw [hp1]
        have q0 : (0 : Int) ≤ (pk : Int) := by omega
        clear hg hp1 hp2
        go_wp2_with fail
        go_loopw [9, 10, 11, 12] (fun vl vp vi vx wr => ∃ (j : Nat) (done : Bool), vp = .bool done ∧ vi = .int .i64 j ∧ j ≤ n ∧ Hid (∃ acc, PutI (coll s i) k 1 w vl acc done j wr)) (fun _ _ v _ _ => n - (intOf v).toNat)
        case atStart => exact ⟨0, false, rfl, rfl, by omega, Lib.hid ⟨[], Ow.nil _ _ _ _, .refl _ _, rfl, by simp⟩⟩
        case round =>
          obtain ⟨j, done, rfl, rfl, hj, acc, hs0⟩ := hrel
          rename World => wi
          have ST := Lib.hid hs0
          obtain ⟨Al, ca, rfl, _, _⟩ := own_slice hs0.own
          obtain ⟨q, hq⟩ : ∃ q, acc.length = q := ⟨_, rfl⟩
          have HQ := Lib.hid hq
          have QK : Hid (q ≤ j + done.toNat) := Lib.hid (hq ▸ hs0.len)
          have hqk : q ≤ j + 1 := by have := QK.out; have := Bool.toNat_le done; omega
          rw [hq] at ST ⊢
          have O1 : Hid (wi.ownsRow w.heap.size 56 2 (.slice Al q ca) q (flat encPr acc)) := Lib.hid (by have := ST.out.own; unfold Ow at this; rw [hq] at this; exact this)
          have U1 := Lib.hid hs0.upd
          clear c1 e0 k0 k1
          obtain ⟨c1, e0⟩ := HOW.out wi U1.out
          clear hs0 hq
          by_cases hjn : j < n
          · obtain ⟨⟨xc, xv⟩, hx⟩ : ∃ x, (coll s i)[j]? = some x := ⟨_, List.getElem?_eq_getElem (by rw [HN.out]; omega)⟩
            obtain ⟨gw, cgw, curw, e1, _⟩ := own_form ON.out (by omega)
            injection e1 with e1 _ e1'
            subst e1 e1'
            have HEW : Hid (∀ W, Upd [] w W → W.cell? ⟨gw, j * 2, none⟩ = some (.int .i64 xc) ∧ W.cell? ⟨gw, j * 2 + 1, none⟩ = some (.int .i64 xv)) := Lib.hid (fun W hW => ⟨(OI.out.upd0 hW).at_ hx 0 _ rfl, (OI.out.upd0 hW).at_ hx 1 _ rfl⟩)
            have HX := Lib.hid hx
            have q3 : (0 : Int) ≤ (j : Int) := by omega
            have q4 : (j : Int) < (n : Int) := by omega
            clear hx
            obtain ⟨f0, f1⟩ := HEW.out wi U1.out
            have O1p : Hid ((wi.alloc (.cells #[.int .i64 xc, .int .i64 xv] 56)).ownsRow w.heap.size 56 2 (.slice Al q ca) q (flat encPr acc)) := Lib.hid (own_upd0 O1.out ((Upd.refl [] wi).alloc _))
            have U1p : Hid (Upd [] w (wi.alloc (.cells #[.int .i64 xc, .int .i64 xv] 56))) := Lib.hid (U1.out.alloc _)
            by_cases hcx : k ≤ xc
            · have d1 : decide (k ≤ xc) = true := by simpa using hcx
              cases done with
              | true =>
                by_cases he : xc = k
                · have d3 : (xc != k) = false := by simpa using he
                  have E1 : Hid (acc ++ over k 1 ((coll s i).drop (j + 1)) true = over k 1 (coll s i) false) := Lib.hid (by have := over_out HX.out (.inl rfl) ST.out.eq; rwa [if_pos he] at this)
                  have LL : Hid (acc.length ≤ j + 1 + true.toNat) := Lib.hid (by rw [HQ.out]; have := QK.out; omega)
                  have OO : Hid (Ow encPr 56 (wi.alloc (.cells #[.int .i64 xc, .int .i64 xv] 56)) w.heap.size (.slice Al q ca) acc) := Lib.hid (by unfold Ow; rw [HQ.out]; exact O1p.out)
                  clear he
                  go_wp2_with fail
                  go_roundw
                  case rel => exact ⟨j + 1, true, rfl, by go_num, by omega, Lib.hid ⟨_, OO.out, U1p.out, E1.out, LL.out⟩⟩
                  case measure => simp [intOf]; omega
                · have d3 : (xc != k) = true := by simpa using he
                  have E1 : Hid (acc ++ [(xc, xv)] ++ over k 1 ((coll s i).drop (j + 1)) true = over k 1 (coll s i) false) := Lib.hid (by have := over_out HX.out (.inl rfl) ST.out.eq; rwa [if_neg he] at this)
                  have LL : Hid ((acc ++ [(xc, xv)]).length ≤ j + 1 + true.toNat) := Lib.hid (by rw [List.length_append, HQ.out]; have := QK.out; simp at this ⊢; omega)
                  clear he
                  go_wp2_with (at_builtin; refine stopped ?_)
                  refine Lib.hid ?_
                  refine wpList_app _ (by rfl) (.tmp 81) (.tmp 83) _ (by rfl) elem_pair (.slice Al q ca) _ (by rfl) (by rfl) (own_upd0 O1p.out ((Upd.refl [] (wi.alloc (.cells #[.int .i64 xc, .int .i64 xv] 56))).alloc _)) (.of_blk (Blk.newAt _ _ (H := wi.heap.size + 1) (by simp)) (m := 1) 1 rfl) (by intro u hu; simp at hu; rcases hu with rfl | rfl <;> rfl) (by simp only [maxLen]; omega) (by omega) (Nat.le_trans U1p.out.size (by simp)) ?_
                  intro v5 w5 o5 u5 b5
                  obtain ⟨A5, c5, rfl, _, _⟩ := own_slice o5
                  have U5 : Hid (Upd [] w w5) := Lib.hid (U1p.out.trans' (((Upd.refl _ (wi.alloc (.cells #[.int .i64 xc, .int .i64 xv] 56))).alloc _).trans u5) (fun k hk => .inr (own_lt O1p.out (by simpa using hk)).1))
                  have O5 : Hid (w5.ownsRow w.heap.size 56 2 (.slice A5 (q + 1) c5) (q + 1) (flat encPr (acc ++ [(xc, xv)]))) := Lib.hid (by
                    rw [flat_append]
                    exact o5)
                  clear o5 u5 b5
                  have OO : Hid (Ow encPr 56 w5 w.heap.size (.slice A5 (q + 1) c5) (acc ++ [(xc, xv)])) := Lib.hid (by unfold Ow; rw [List.length_append, HQ.out]; exact O5.out)
                  go_wp2_with fail
                  go_roundw
                  case rel => exact ⟨j + 1, true, rfl, by go_num, by omega, Lib.hid ⟨_, OO.out, U5.out, E1.out, LL.out⟩⟩
                  case measure => simp [intOf]; omega
              | false =>
                go_wp2_with (at_builtin; refine stopped ?_)
                refine Lib.hid ?_
                refine wpList_app _ (by rfl) (.tmp 71) (.tmp 75) _ (by rfl) elem_pair (.slice Al q ca) _ (by rfl) (by rfl) (own_upd0 O1p.out ((Upd.refl [] (wi.alloc (.cells #[.int .i64 xc, .int .i64 xv] 56))).alloc _)) (.of_blk (Blk.newAt _ _ (H := wi.heap.size + 1) (by simp)) (m := 1) 1 rfl) (by intro u hu; simp at hu; rcases hu with rfl | rfl <;> rfl) (by simp only [maxLen]; omega) (by omega) (Nat.le_trans U1p.out.size (by simp)) ?_
                intro v5 w4 o5 u5 b5
                obtain ⟨A4, c4, rfl, _, _⟩ := own_slice o5
                have U4 : Hid (Upd [] w w4) := Lib.hid (U1p.out.trans' (((Upd.refl _ (wi.alloc (.cells #[.int .i64 xc, .int .i64 xv] 56))).alloc _).trans u5) (fun k hk => .inr (own_lt O1p.out (by simpa using hk)).1))
                have O4 : Hid (w4.ownsRow w.heap.size 56 2 (.slice A4 (q + 1) c4) (q + 1) (flat encPr (acc ++ [(k, 1)]))) := Lib.hid (by
                  rw [flat_append]
                  exact o5)
                have HP4 : Hid (Blk w4 wi.heap.size 56 #[.int .i64 xc, .int .i64 xv]) := Lib.hid (((Blk.new wi _ _).alloc _).upd u5 (by intro hb; have := (own_lt O1.out (by simpa using hb)).2; omega))
                obtain ⟨p0, p1⟩ : w4.cell? ⟨wi.heap.size, 0, none⟩ = some (.int .i64 xc) ∧ w4.cell? ⟨wi.heap.size, 1, none⟩ = some (.int .i64 xv) := ⟨HP4.out.cell 0, HP4.out.cell 1⟩
                clear o5 u5 b5
                clear f0 f1 c1 e0
                by_cases he : xc = k
                · have d3 : (xc != k) = false := by simpa using he
                  have E1 : Hid (acc ++ [(k, 1)] ++ over k 1 ((coll s i).drop (j + 1)) true = over k 1 (coll s i) false) := Lib.hid (by have := over_in HX.out hcx ST.out.eq; rwa [if_pos he] at this)
                  have LL : Hid ((acc ++ [(k, (1 : Int))]).length ≤ j + 1 + true.toNat) := Lib.hid (by rw [List.length_append, HQ.out]; have := QK.out; simp at this ⊢; omega)
                  have OO : Hid (Ow encPr 56 w4 w.heap.size (.slice A4 (q + 1) c4) (acc ++ [(k, 1)])) := Lib.hid (by unfold Ow; rw [List.length_append, HQ.out]; exact O4.out)
                  clear he
                  go_wp2_with fail
                  go_roundw
                  case rel => exact ⟨j + 1, true, rfl, by go_num, by omega, Lib.hid ⟨_, OO.out, U4.out, E1.out, LL.out⟩⟩
                  case measure => simp [intOf]; omega
                · have d3 : (xc != k) = true := by simpa using he
                  have E1 : Hid (acc ++ [(k, 1)] ++ [(xc, xv)] ++ over k 1 ((coll s i).drop (j + 1)) true = over k 1 (coll s i) false) := Lib.hid (by have := over_in HX.out hcx ST.out.eq; rwa [if_neg he] at this)
                  clear he
                  go_wp2_with (at_builtin; refine stopped ?_)
                  refine Lib.hid ?_
                  refine wpList_app _ (by rfl) (.tmp 81) (.tmp 83) _ (by rfl) elem_pair (.slice A4 (q + 1) c4) _ (by rfl) (by rfl) (own_upd0 O4.out ((Upd.refl [] w4).alloc _)) (.of_blk (Blk.new _ _ _) (m := 1) 1 rfl) (by intro u hu; simp at hu; rcases hu with rfl | rfl <;> rfl) (by simp only [maxLen]; omega) (by omega) (Nat.le_trans U4.out.size (by simp)) ?_
                  intro v5 w5 o5 u5 b5
                  obtain ⟨A5, c5, rfl, _, _⟩ := own_slice o5
                  have U5 : Hid (Upd [] w w5) := Lib.hid (U4.out.trans' (((Upd.refl _ w4).alloc _).trans u5) (fun k hk => .inr (own_lt O4.out (by simpa using hk)).1))
                  have O5 : Hid (w5.ownsRow w.heap.size 56 2 (.slice A5 ((q + 1) + 1) c5) ((q + 1) + 1) (flat encPr ((acc ++ [(k, 1)]) ++ [(xc, xv)]))) := Lib.hid (by
                    rw [flat_append]
                    exact o5)
                  clear o5 u5 b5
                  have OO : Hid (Ow encPr 56 w5 w.heap.size (.slice A5 (q + 1 + 1) c5) (acc ++ [(k, 1)] ++ [(xc, xv)])) := Lib.hid (by unfold Ow; rw [List.length_append, List.length_append, HQ.out]; exact O5.out)
                  have LL : Hid ((acc ++ [(k, (1 : Int))] ++ [(xc, xv)]).length ≤ j + 1 + true.toNat) := Lib.hid (by rw [List.length_append, List.length_append, HQ.out]; have := QK.out; simp at this ⊢; omega)
                  go_wp2_with fail
                  go_roundw
                  case rel => exact ⟨j + 1, true, rfl, by go_num, by omega, Lib.hid ⟨_, OO.out, U5.out, E1.out, LL.out⟩⟩
                  case measure => simp [intOf]; omega
            · have d1 : decide (k ≤ xc) = false := by simpa using hcx
              by_cases he : xc = k
              · have d3 : (xc != k) = false := by simpa using he
                have E1 : Hid (acc ++ over k 1 ((coll s i).drop (j + 1)) done = over k 1 (coll s i) false) := Lib.hid (by have := over_out HX.out (.inr hcx) ST.out.eq; rwa [if_pos he] at this)
                have LL : Hid (acc.length ≤ j + 1 + done.toNat) := Lib.hid (by rw [HQ.out]; have := QK.out; omega)
                have OO : Hid (Ow encPr 56 (wi.alloc (.cells #[.int .i64 xc, .int .i64 xv] 56)) w.heap.size (.slice Al q ca) acc) := Lib.hid (by unfold Ow; rw [HQ.out]; exact O1p.out)
                clear he
                go_wp2_with fail
                go_roundw
                case rel => exact ⟨j + 1, done, rfl, by go_num, by omega, Lib.hid ⟨_, OO.out, U1p.out, E1.out, LL.out⟩⟩
                case measure => simp [intOf]; omega
              · have d3 : (xc != k) = true := by simpa using he
                have E1 : Hid (acc ++ [(xc, xv)] ++ over k 1 ((coll s i).drop (j + 1)) done = over k 1 (coll s i) false) := Lib.hid (by have := over_out HX.out (.inr hcx) ST.out.eq; rwa [if_neg he] at this)
                have LL : Hid ((acc ++ [(xc, xv)]).length ≤ j + 1 + done.toNat) := Lib.hid (by rw [List.length_append, HQ.out]; have := QK.out; simp at this ⊢; omega)
                clear he
                go_wp2_with (at_builtin; refine stopped ?_)
                refine Lib.hid ?_
                refine wpList_app _ (by rfl) (.tmp 81) (.tmp 83) _ (by rfl) elem_pair (.slice Al q ca) _ (by rfl) (by rfl) (own_upd0 O1p.out ((Upd.refl [] (wi.alloc (.cells #[.int .i64 xc, .int .i64 xv] 56))).alloc _)) (.of_blk (Blk.newAt _ _ (H := wi.heap.size + 1) (by simp)) (m := 1) 1 rfl) (by intro u hu; simp at hu; rcases hu with rfl | rfl <;> rfl) (by simp only [maxLen]; omega) (by omega) (Nat.le_trans U1p.out.size (by simp)) ?_
                intro v5 w5 o5 u5 b5
                obtain ⟨A5, c5, rfl, _, _⟩ := own_slice o5
                have U5 : Hid (Upd [] w w5) := Lib.hid (U1p.out.trans' (((Upd.refl _ (wi.alloc (.cells #[.int .i64 xc, .int .i64 xv] 56))).alloc _).trans u5) (fun k hk => .inr (own_lt O1p.out (by simpa using hk)).1))
                have O5 : Hid (w5.ownsRow w.heap.size 56 2 (.slice A5 (q + 1) c5) (q + 1) (flat encPr (acc ++ [(xc, xv)]))) := Lib.hid (by
                  rw [flat_append]
                  exact o5)
                clear o5 u5 b5
                have OO : Hid (Ow encPr 56 w5 w.heap.size (.slice A5 (q + 1) c5) (acc ++ [(xc, xv)])) := Lib.hid (by unfold Ow; rw [List.length_append, HQ.out]; exact O5.out)
                go_wp2_with fail
                go_roundw
                case rel => exact ⟨j + 1, done, rfl, by go_num, by omega, Lib.hid ⟨_, OO.out, U5.out, E1.out, LL.out⟩⟩
                case measure => simp [intOf]; omega
          · obtain rfl : j = n := by omega
            have HD : Hid ((coll s i).drop j = []) := Lib.hid (List.drop_eq_nil_of_le (by rw [HN.out]; exact Nat.le_refl _))
            cases done with
            | true =>
              have EE : Hid (acc = over k 1 (coll s i) false) := Lib.hid (by have := ST.out.eq; rw [HD.out] at this; simpa [over] using this)
              have OO : Hid (Ow encPr 56 wi w.heap.size (.slice Al q ca) acc) := Lib.hid (by unfold Ow; rw [HQ.out]; exact O1.out)
              have HM : Hid (mPut s i k v = setC s i (acc)) := Lib.hid (by unfold mPut; rw [if_pos HE.out, HVV.out, ← over_put (HGD.out.srt _ (coll_mem HII.out)), ← EE.out])
              go_wp2_with fail
              refine (rm_set B rb F s i (.slice Al (q) ca) (acc) wi (H.out.upd0 U1.out) HII.out (own_base OO.out hBw) (HM.out ▸ good_put HGD.out HII.out k v HKB.out) (Nat.le_trans hBw U1.out.size)).mono ?_
              rintro e w6 ⟨F', rfl, R6, U6, S6⟩
              have R := Lib.hid (And.intro R6 (frm_set (B := B) U1.out OO.out U6 S6))
              clear R6 U6 S6
              go_wp2_with fail
              go_ret
              unfold RPutPost
              rw [HC.out, Int.toNat_natCast]
              refine ⟨F', by rw [HE.out]; rfl, ?_, R.out.2⟩
              have := R.out.1
              rw [← HM.out] at this
              exact this
            | false =>
              have EE : Hid (acc ++ [(k, 1)] = over k 1 (coll s i) false) := Lib.hid (by have := ST.out.eq; rw [HD.out] at this; simpa [over] using this)
              go_wp2_with (at_builtin; refine stopped ?_)
              refine Lib.hid ?_
              refine wpList_app _ (by rfl) (.tmp 87) (.tmp 91) _ (by rfl) elem_pair (.slice Al q ca) _ (by rfl) (by rfl) (own_upd0 O1.out ((Upd.refl [] wi).alloc _)) (.of_blk (Blk.new _ _ _) (m := 1) 1 rfl) (by intro u hu; simp at hu; rcases hu with rfl | rfl <;> rfl) (by simp only [maxLen]; omega) (by omega) (Nat.le_trans U1.out.size (by simp)) ?_
              intro v5 w5 o5 u5 b5
              obtain ⟨A5, c5, rfl, _, _⟩ := own_slice o5
              have U5 : Hid (Upd [] w w5) := Lib.hid (U1.out.trans' (((Upd.refl _ wi).alloc _).trans u5) (fun k hk => .inr (own_lt O1.out (by simpa using hk)).1))
              have O5 : Hid (w5.ownsRow w.heap.size 56 2 (.slice A5 (q + 1) c5) (q + 1) (flat encPr (acc ++ [(k, 1)]))) := Lib.hid (by
                rw [flat_append]
                exact o5)
              clear o5 u5 b5
              have OO : Hid (Ow encPr 56 w5 w.heap.size (.slice A5 (q + 1) c5) (acc ++ [(k, 1)])) := Lib.hid (by unfold Ow; rw [List.length_append, HQ.out]; exact O5.out)
              clear c1 e0
              have HM : Hid (mPut s i k v = setC s i (acc ++ [(k, 1)])) := Lib.hid (by unfold mPut; rw [if_pos HE.out, HVV.out, ← over_put (HGD.out.srt _ (coll_mem HII.out)), ← EE.out])
              go_wp2_with fail
              refine (rm_set B rb F s i (.slice A5 (q + 1) c5) (acc ++ [(k, 1)]) w5 (H.out.upd0 U5.out) HII.out (own_base OO.out hBw) (HM.out ▸ good_put HGD.out HII.out k v HKB.out) (Nat.le_trans hBw U5.out.size)).mono ?_
              rintro e w6 ⟨F', rfl, R6, U6, S6⟩
              have R := Lib.hid (And.intro R6 (frm_set (B := B) U5.out OO.out U6 S6))
              clear R6 U6 S6
              go_wp2_with fail
              go_ret
              unfold RPutPost
              rw [HC.out, Int.toNat_natCast]
              refine ⟨F', by rw [HE.out]; rfl, ?_, R.out.2⟩
              have := R.out.1
              rw [← HM.out] at this
              exact this
      | none =>
        have HE8 := HGN.out hg
        obtain ⟨pv, hpv⟩ : ∃ p, posW (coll s i) k = p := ⟨_, rfl⟩
        have q0 : pv < 0 := by rw [← hpv, posW_none hg]; omega
        rw [hpv]
        clear hg hpv
        by_cases h5 : 100 ≤ n
        · have d5 : decide ((100 : Int) ≤ (n : Int)) = true := by simp; omega
          have HE : Hid (putE (coll s i) k = 8) := Lib.hid (by rw [HE8.out, if_pos h5])
          clear h5
          go_wp2_with fail
          go_ret
          unfold RPutPost mPut
          rw [HC.out, Int.toNat_natCast, HE.out]
          exact ⟨_, rfl, H.out, .refl _ _⟩
        · have d5 : decide ((100 : Int) ≤ (n : Int)) = false := by simp; omega
          have HE : Hid (putE (coll s i) k = 0) := Lib.hid (by rw [HE8.out, if_neg h5])
          clear h5
          go_wp2_with fail
          go_loopw [9, 10, 11, 12] (fun vl vp vi vx wr => ∃ (j : Nat) (done : Bool), vp = .bool done ∧ vi = .int .i64 j ∧ j ≤ n ∧ Hid (∃ acc, PutI (coll s i) k 1 w vl acc done j wr)) (fun _ _ v _ _ => n - (intOf v).toNat)
          case atStart => exact ⟨0, false, rfl, rfl, by omega, Lib.hid ⟨[], Ow.nil _ _ _ _, .refl _ _, rfl, by simp⟩⟩
          case round =>
            obtain ⟨j, done, rfl, rfl, hj, acc, hs0⟩ := hrel
            rename World => wi
            have ST := Lib.hid hs0
            obtain ⟨Al, ca, rfl, _, _⟩ := own_slice hs0.own
            obtain ⟨q, hq⟩ : ∃ q, acc.length = q := ⟨_, rfl⟩
            have HQ := Lib.hid hq
            have QK : Hid (q ≤ j + done.toNat) := Lib.hid (hq ▸ hs0.len)
            have hqk : q ≤ j + 1 := by have := QK.out; have := Bool.toNat_le done; omega
            rw [hq] at ST ⊢
            have O1 : Hid (wi.ownsRow w.heap.size 56 2 (.slice Al q ca) q (flat encPr acc)) := Lib.hid (by have := ST.out.own; unfold Ow at this; rw [hq] at this; exact this)
            have U1 := Lib.hid hs0.upd
            clear c1 e0 k0 k1
            obtain ⟨c1, e0⟩ := HOW.out wi U1.out
            clear hs0 hq
            by_cases hjn : j < n
            · obtain ⟨⟨xc, xv⟩, hx⟩ : ∃ x, (coll s i)[j]? = some x := ⟨_, List.getElem?_eq_getElem (by rw [HN.out]; omega)⟩
              obtain ⟨gw, cgw, curw, e1, _⟩ := own_form ON.out (by omega)
              injection e1 with e1 _ e1'
              subst e1 e1'
              have HEW : Hid (∀ W, Upd [] w W → W.cell? ⟨gw, j * 2, none⟩ = some (.int .i64 xc) ∧ W.cell? ⟨gw, j * 2 + 1, none⟩ = some (.int .i64 xv)) := Lib.hid (fun W hW => ⟨(OI.out.upd0 hW).at_ hx 0 _ rfl, (OI.out.upd0 hW).at_ hx 1 _ rfl⟩)
              have HX := Lib.hid hx
              have q3 : (0 : Int) ≤ (j : Int) := by omega
              have q4 : (j : Int) < (n : Int) := by omega
              clear hx
              obtain ⟨f0, f1⟩ := HEW.out wi U1.out
              have O1p : Hid ((wi.alloc (.cells #[.int .i64 xc, .int .i64 xv] 56)).ownsRow w.heap.size 56 2 (.slice Al q ca) q (flat encPr acc)) := Lib.hid (own_upd0 O1.out ((Upd.refl [] wi).alloc _))
              have U1p : Hid (Upd [] w (wi.alloc (.cells #[.int .i64 xc, .int .i64 xv] 56))) := Lib.hid (U1.out.alloc _)
              by_cases hcx : k ≤ xc
              · have d1 : decide (k ≤ xc) = true := by simpa using hcx
                cases done with
                | true =>
                  by_cases he : xc = k
                  · have d3 : (xc != k) = false := by simpa using he
                    have E1 : Hid (acc ++ over k 1 ((coll s i).drop (j + 1)) true = over k 1 (coll s i) false) := Lib.hid (by have := over_out HX.out (.inl rfl) ST.out.eq; rwa [if_pos he] at this)
                    have LL : Hid (acc.length ≤ j + 1 + true.toNat) := Lib.hid (by rw [HQ.out]; have := QK.out; omega)
                    have OO : Hid (Ow encPr 56 (wi.alloc (.cells #[.int .i64 xc, .int .i64 xv] 56)) w.heap.size (.slice Al q ca) acc) := Lib.hid (by unfold Ow; rw [HQ.out]; exact O1p.out)
                    clear he
                    go_wp2_with fail
                    go_roundw
                    case rel => exact ⟨j + 1, true, rfl, by go_num, by omega, Lib.hid ⟨_, OO.out, U1p.out, E1.out, LL.out⟩⟩
                    case measure => simp [intOf]; omega
                  · have d3 : (xc != k) = true := by simpa using he
                    have E1 : Hid (acc ++ [(xc, xv)] ++ over k 1 ((coll s i).drop (j + 1)) true = over k 1 (coll s i) false) := Lib.hid (by have := over_out HX.out (.inl rfl) ST.out.eq; rwa [if_neg he] at this)
                    have LL : Hid ((acc ++ [(xc, xv)]).length ≤ j + 1 + true.toNat) := Lib.hid (by rw [List.length_append, HQ.out]; have := QK.out; simp at this ⊢; omega)
                    clear he
                    go_wp2_with (at_builtin; refine stopped ?_)
                    refine Lib.hid ?_
                    refine wpList_app _ (by rfl) (.tmp 81) (.tmp 83) _ (by rfl) elem_pair (.slice Al q ca) _ (by rfl) (by rfl) (own_upd0 O1p.out ((Upd.refl [] (wi.alloc (.cells #[.int .i64 xc, .int .i64 xv] 56))).alloc _)) (.of_blk (Blk.newAt _ _ (H := wi.heap.size + 1) (by simp)) (m := 1) 1 rfl) (by intro u hu; simp at hu; rcases hu with rfl | rfl <;> rfl) (by simp only [maxLen]; omega) (by omega) (Nat.le_trans U1p.out.size (by simp)) ?_
                    intro v5 w5 o5 u5 b5
                    obtain ⟨A5, c5, rfl, _, _⟩ := own_slice o5
                    have U5 : Hid (Upd [] w w5) := Lib.hid (U1p.out.trans' (((Upd.refl _ (wi.alloc (.cells #[.int .i64 xc, .int .i64 xv] 56))).alloc _).trans u5) (fun k hk => .inr (own_lt O1p.out (by simpa using hk)).1))
                    have O5 : Hid (w5.ownsRow w.heap.size 56 2 (.slice A5 (q + 1) c5) (q + 1) (flat encPr (acc ++ [(xc, xv)]))) := Lib.hid (by
                      rw [flat_append]
                      exact o5)
                    clear o5 u5 b5
                    have OO : Hid (Ow encPr 56 w5 w.heap.size (.slice A5 (q + 1) c5) (acc ++ [(xc, xv)])) := Lib.hid (by unfold Ow; rw [List.length_append, HQ.out]; exact O5.out)
                    go_wp2_with fail
                    go_roundw
                    case rel => exact ⟨j + 1, true, rfl, by go_num, by omega, Lib.hid ⟨_, OO.out, U5.out, E1.out, LL.out⟩⟩
                    case measure => simp [intOf]; omega
                | false =>
                  go_wp2_with (at_builtin; refine stopped ?_)
                  refine Lib.hid ?_
                  refine wpList_app _ (by rfl) (.tmp 71) (.tmp 75) _ (by rfl) elem_pair (.slice Al q ca) _ (by rfl) (by rfl) (own_upd0 O1p.out ((Upd.refl [] (wi.alloc (.cells #[.int .i64 xc, .int .i64 xv] 56))).alloc _)) (.of_blk (Blk.newAt _ _ (H := wi.heap.size + 1) (by simp)) (m := 1) 1 rfl) (by intro u hu; simp at hu; rcases hu with rfl | rfl <;> rfl) (by simp only [maxLen]; omega) (by omega) (Nat.le_trans U1p.out.size (by simp)) ?_
                  intro v5 w4 o5 u5 b5
                  obtain ⟨A4, c4, rfl, _, _⟩ := own_slice o5
                  have U4 : Hid (Upd [] w w4) := Lib.hid (U1p.out.trans' (((Upd.refl _ (wi.alloc (.cells #[.int .i64 xc, .int .i64 xv] 56))).alloc _).trans u5) (fun k hk => .inr (own_lt O1p.out (by simpa using hk)).1))
                  have O4 : Hid (w4.ownsRow w.heap.size 56 2 (.slice A4 (q + 1) c4) (q + 1) (flat encPr (acc ++ [(k, 1)]))) := Lib.hid (by
                    rw [flat_append]
                    exact o5)
                  have HP4 : Hid (Blk w4 wi.heap.size 56 #[.int .i64 xc, .int .i64 xv]) := Lib.hid (((Blk.new wi _ _).alloc _).upd u5 (by intro hb; have := (own_lt O1.out (by simpa using hb)).2; omega))
                  obtain ⟨p0, p1⟩ : w4.cell? ⟨wi.heap.size, 0, none⟩ = some (.int .i64 xc) ∧ w4.cell? ⟨wi.heap.size, 1, none⟩ = some (.int .i64 xv) := ⟨HP4.out.cell 0, HP4.out.cell 1⟩
                  clear o5 u5 b5
                  clear f0 f1 c1 e0
                  by_cases he : xc = k
                  · have d3 : (xc != k) = false := by simpa using he
                    have E1 : Hid (acc ++ [(k, 1)] ++ over k 1 ((coll s i).drop (j + 1)) true = over k 1 (coll s i) false) := Lib.hid (by have := over_in HX.out hcx ST.out.eq; rwa [if_pos he] at this)
                    have LL : Hid ((acc ++ [(k, (1 : Int))]).length ≤ j + 1 + true.toNat) := Lib.hid (by rw [List.length_append, HQ.out]; have := QK.out; simp at this ⊢; omega)
                    have OO : Hid (Ow encPr 56 w4 w.heap.size (.slice A4 (q + 1) c4) (acc ++ [(k, 1)])) := Lib.hid (by unfold Ow; rw [List.length_append, HQ.out]; exact O4.out)
                    clear he
                    go_wp2_with fail
                    go_roundw
                    case rel => exact ⟨j + 1, true, rfl, by go_num, by omega, Lib.hid ⟨_, OO.out, U4.out, E1.out, LL.out⟩⟩
                    case measure => simp [intOf]; omega
                  · have d3 : (xc != k) = true := by simpa using he
                    have E1 : Hid (acc ++ [(k, 1)] ++ [(xc, xv)] ++ over k 1 ((coll s i).drop (j + 1)) true = over k 1 (coll s i) false) := Lib.hid (by have := over_in HX.out hcx ST.out.eq; rwa [if_neg he] at this)
                    clear he
                    go_wp2_with (at_builtin; refine stopped ?_)
                    refine Lib.hid ?_
                    refine wpList_app _ (by rfl) (.tmp 81) (.tmp 83) _ (by rfl) elem_pair (.slice A4 (q + 1) c4) _ (by rfl) (by rfl) (own_upd0 O4.out ((Upd.refl [] w4).alloc _)) (.of_blk (Blk.new _ _ _) (m := 1) 1 rfl) (by intro u hu; simp at hu; rcases hu with rfl | rfl <;> rfl) (by simp only [maxLen]; omega) (by omega) (Nat.le_trans U4.out.size (by simp)) ?_
                    intro v5 w5 o5 u5 b5
                    obtain ⟨A5, c5, rfl, _, _⟩ := own_slice o5
                    have U5 : Hid (Upd [] w w5) := Lib.hid (U4.out.trans' (((Upd.refl _ w4).alloc _).trans u5) (fun k hk => .inr (own_lt O4.out (by simpa using hk)).1))
                    have O5 : Hid (w5.ownsRow w.heap.size 56 2 (.slice A5 ((q + 1) + 1) c5) ((q + 1) + 1) (flat encPr ((acc ++ [(k, 1)]) ++ [(xc, xv)]))) := Lib.hid (by
                      rw [flat_append]
                      exact o5)
                    clear o5 u5 b5
                    have OO : Hid (Ow encPr 56 w5 w.heap.size (.slice A5 (q + 1 + 1) c5) (acc ++ [(k, 1)] ++ [(xc, xv)])) := Lib.hid (by unfold Ow; rw [List.length_append, List.length_append, HQ.out]; exact O5.out)
                    have LL : Hid ((acc ++ [(k, (1 : Int))] ++ [(xc, xv)]).length ≤ j + 1 + true.toNat) := Lib.hid (by rw [List.length_append, List.length_append, HQ.out]; have := QK.out; simp at this ⊢; omega)
                    go_wp2_with fail
                    go_roundw
                    case rel => exact ⟨j + 1, true, rfl, by go_num, by omega, Lib.hid ⟨_, OO.out, U5.out, E1.out, LL.out⟩⟩
                    case measure => simp [intOf]; omega
              · have d1 : decide (k ≤ xc) = false := by simpa using hcx
                by_cases he : xc = k
                · have d3 : (xc != k) = false := by simpa using he
                  have E1 : Hid (acc ++ over k 1 ((coll s i).drop (j + 1)) done = over k 1 (coll s i) false) := Lib.hid (by have := over_out HX.out (.inr hcx) ST.out.eq; rwa [if_pos he] at this)
                  have LL : Hid (acc.length ≤ j + 1 + done.toNat) := Lib.hid (by rw [HQ.out]; have := QK.out; omega)
                  have OO : Hid (Ow encPr 56 (wi.alloc (.cells #[.int .i64 xc, .int .i64 xv] 56)) w.heap.size (.slice Al q ca) acc) := Lib.hid (by unfold Ow; rw [HQ.out]; exact O1p.out)
                  clear he
                  go_wp2_with fail
                  go_roundw
                  case rel => exact ⟨j + 1, done, rfl, by go_num, by omega, Lib.hid ⟨_, OO.out, U1p.out, E1.out, LL.out⟩⟩
                  case measure => simp [intOf]; omega
                · have d3 : (xc != k) = true := by simpa using he
                  have E1 : Hid (acc ++ [(xc, xv)] ++ over k 1 ((coll s i).drop (j + 1)) done = over k 1 (coll s i) false) := Lib.hid (by have := over_out HX.out (.inr hcx) ST.out.eq; rwa [if_neg he] at this)
                  have LL : Hid ((acc ++ [(xc, xv)]).length ≤ j + 1 + done.toNat) := Lib.hid (by rw [List.length_append, HQ.out]; have := QK.out; simp at this ⊢; omega)
                  clear he
                  go_wp2_with (at_builtin; refine stopped ?_)
                  refine Lib.hid ?_
                  refine wpList_app _ (by rfl) (.tmp 81) (.tmp 83) _ (by rfl) elem_pair (.slice Al q ca) _ (by rfl) (by rfl) (own_upd0 O1p.out ((Upd.refl [] (wi.alloc (.cells #[.int .i64 xc, .int .i64 xv] 56))).alloc _)) (.of_blk (Blk.newAt _ _ (H := wi.heap.size + 1) (by simp)) (m := 1) 1 rfl) (by intro u hu; simp at hu; rcases hu with rfl | rfl <;> rfl) (by simp only [maxLen]; omega) (by omega) (Nat.le_trans U1p.out.size (by simp)) ?_
                  intro v5 w5 o5 u5 b5
                  obtain ⟨A5, c5, rfl, _, _⟩ := own_slice o5
                  have U5 : Hid (Upd [] w w5) := Lib.hid (U1p.out.trans' (((Upd.refl _ (wi.alloc (.cells #[.int .i64 xc, .int .i64 xv] 56))).alloc _).trans u5) (fun k hk => .inr (own_lt O1p.out (by simpa using hk)).1))
                  have O5 : Hid (w5.ownsRow w.heap.size 56 2 (.slice A5 (q + 1) c5) (q + 1) (flat encPr (acc ++ [(xc, xv)]))) := Lib.hid (by
                    rw [flat_append]
                    exact o5)
                  clear o5 u5 b5
                  have OO : Hid (Ow encPr 56 w5 w.heap.size (.slice A5 (q + 1) c5) (acc ++ [(xc, xv)])) := Lib.hid (by unfold Ow; rw [List.length_append, HQ.out]; exact O5.out)
                  go_wp2_with fail
                  go_roundw
                  case rel => exact ⟨j + 1, done, rfl, by go_num, by omega, Lib.hid ⟨_, OO.out, U5.out, E1.out, LL.out⟩⟩
                  case measure => simp [intOf]; omega
            · obtain rfl : j = n := by omega
              have HD : Hid ((coll s i).drop j = []) := Lib.hid (List.drop_eq_nil_of_le (by rw [HN.out]; exact Nat.le_refl _))
              cases done with
              | true =>
                have EE : Hid (acc = over k 1 (coll s i) false) := Lib.hid (by have := ST.out.eq; rw [HD.out] at this; simpa [over] using this)
                have OO : Hid (Ow encPr 56 wi w.heap.size (.slice Al q ca) acc) := Lib.hid (by unfold Ow; rw [HQ.out]; exact O1.out)
                have HM : Hid (mPut s i k v = setC s i (acc)) := Lib.hid (by unfold mPut; rw [if_pos HE.out, HVV.out, ← over_put (HGD.out.srt _ (coll_mem HII.out)), ← EE.out])
                go_wp2_with fail
                refine (rm_set B rb F s i (.slice Al (q) ca) (acc) wi (H.out.upd0 U1.out) HII.out (own_base OO.out hBw) (HM.out ▸ good_put HGD.out HII.out k v HKB.out) (Nat.le_trans hBw U1.out.size)).mono ?_
                rintro e w6 ⟨F', rfl, R6, U6, S6⟩
                have R := Lib.hid (And.intro R6 (frm_set (B := B) U1.out OO.out U6 S6))
                clear R6 U6 S6
                go_wp2_with fail
                go_ret
                unfold RPutPost
                rw [HC.out, Int.toNat_natCast]
                refine ⟨F', by rw [HE.out]; rfl, ?_, R.out.2⟩
                have := R.out.1
                rw [← HM.out] at this
                exact this
              | false =>
                have EE : Hid (acc ++ [(k, 1)] = over k 1 (coll s i) false) := Lib.hid (by have := ST.out.eq; rw [HD.out] at this; simpa [over] using this)
                go_wp2_with (at_builtin; refine stopped ?_)
                refine Lib.hid ?_
                refine wpList_app _ (by rfl) (.tmp 87) (.tmp 91) _ (by rfl) elem_pair (.slice Al q ca) _ (by rfl) (by rfl) (own_upd0 O1.out ((Upd.refl [] wi).alloc _)) (.of_blk (Blk.new _ _ _) (m := 1) 1 rfl) (by intro u hu; simp at hu; rcases hu with rfl | rfl <;> rfl) (by simp only [maxLen]; omega) (by omega) (Nat.le_trans U1.out.size (by simp)) ?_
                intro v5 w5 o5 u5 b5
                obtain ⟨A5, c5, rfl, _, _⟩ := own_slice o5
                have U5 : Hid (Upd [] w w5) := Lib.hid (U1.out.trans' (((Upd.refl _ wi).alloc _).trans u5) (fun k hk => .inr (own_lt O1.out (by simpa using hk)).1))
                have O5 : Hid (w5.ownsRow w.heap.size 56 2 (.slice A5 (q + 1) c5) (q + 1) (flat encPr (acc ++ [(k, 1)]))) := Lib.hid (by
                  rw [flat_append]
                  exact o5)
                clear o5 u5 b5
                have OO : Hid (Ow encPr 56 w5 w.heap.size (.slice A5 (q + 1) c5) (acc ++ [(k, 1)])) := Lib.hid (by unfold Ow; rw [List.length_append, HQ.out]; exact O5.out)
                clear c1 e0
                have HM : Hid (mPut s i k v = setC s i (acc ++ [(k, 1)])) := Lib.hid (by unfold mPut; rw [if_pos HE.out, HVV.out, ← over_put (HGD.out.srt _ (coll_mem HII.out)), ← EE.out])
                go_wp2_with fail
                refine (rm_set B rb F s i (.slice A5 (q + 1) c5) (acc ++ [(k, 1)]) w5 (H.out.upd0 U5.out) HII.out (own_base OO.out hBw) (HM.out ▸ good_put HGD.out HII.out k v HKB.out) (Nat.le_trans hBw U5.out.size)).mono ?_
                rintro e w6 ⟨F', rfl, R6, U6, S6⟩
                have R := Lib.hid (And.intro R6 (frm_set (B := B) U5.out OO.out U6 S6))
                clear R6 U6 S6
                go_wp2_with fail
                go_ret
                unfold RPutPost
                rw [HC.out, Int.toNat_natCast]
                refine ⟨F', by rw [HE.out]; rfl, ?_, R.out.2⟩
                have := R.out.1
                rw [← HM.out] at this
                exact this
    · have d2 : (y == 2) = false := by simpa using hy2
      have HVV : Hid (putV s i v = v) := Lib.hid (by rw [HY.out, if_neg hy2])
      clear hy2
      cases hg : get (coll s i) k with
      | some ov =>
        have HE := HGS.out ov hg
        obtain ⟨pk, hp1, hp2⟩ := posW_some hg
        rw [hp1]
        have q0 : (0 : Int) ≤ (pk : Int) := by omega
        clear hg hp1 hp2
        go_wp2_with fail
        go_loopw [9, 10, 11, 12] (fun vl vp vi vx wr => ∃ (j : Nat) (done : Bool), vp = .bool done ∧ vi = .int .i64 j ∧ j ≤ n ∧ Hid (∃ acc, PutI (coll s i) k v w vl acc done j wr)) (fun _ _ v _ _ => n - (intOf v).toNat)
        case atStart => exact ⟨0, false, rfl, rfl, by omega, Lib.hid ⟨[], Ow.nil _ _ _ _, .refl _ _, rfl, by simp⟩⟩
        case round =>
          obtain ⟨j, done, rfl, rfl, hj, acc, hs0⟩ := hrel
          rename World => wi
          have ST := Lib.hid hs0
          obtain ⟨Al, ca, rfl, _, _⟩ := own_slice hs0.own
          obtain ⟨q, hq⟩ : ∃ q, acc.length = q := ⟨_, rfl⟩
          have HQ := Lib.hid hq
          have QK : Hid (q ≤ j + done.toNat) := Lib.hid (hq ▸ hs0.len)
          have hqk : q ≤ j + 1 := by have := QK.out; have := Bool.toNat_le done; omega
          rw [hq] at ST ⊢
          have O1 : Hid (wi.ownsRow w.heap.size 56 2 (.slice Al q ca) q (flat encPr acc)) := Lib.hid (by have := ST.out.own; unfold Ow at this; rw [hq] at this; exact this)
          have U1 := Lib.hid hs0.upd
          clear c1 e0 k0 k1
          obtain ⟨c1, e0⟩ := HOW.out wi U1.out
          clear hs0 hq
          by_cases hjn : j < n
          · obtain ⟨⟨xc, xv⟩, hx⟩ : ∃ x, (coll s i)[j]? = some x := ⟨_, List.getElem?_eq_getElem (by rw [HN.out]; omega)⟩
            obtain ⟨gw, cgw, curw, e1, _⟩ := own_form ON.out (by omega)
            injection e1 with e1 _ e1'
            subst e1 e1'
            have HEW : Hid (∀ W, Upd [] w W → W.cell? ⟨gw, j * 2, none⟩ = some (.int .i64 xc) ∧ W.cell? ⟨gw, j * 2 + 1, none⟩ = some (.int .i64 xv)) := Lib.hid (fun W hW => ⟨(OI.out.upd0 hW).at_ hx 0 _ rfl, (OI.out.upd0 hW).at_ hx 1 _ rfl⟩)
            have HX := Lib.hid hx
            have q3 : (0 : Int) ≤ (j : Int) := by omega
            have q4 : (j : Int) < (n : Int) := by omega
            clear hx
            obtain ⟨f0, f1⟩ := HEW.out wi U1.out
            have O1p : Hid ((wi.alloc (.cells #[.int .i64 xc, .int .i64 xv] 56)).ownsRow w.heap.size 56 2 (.slice Al q ca) q (flat encPr acc)) := Lib.hid (own_upd0 O1.out ((Upd.refl [] wi).alloc _))
            have U1p : Hid (Upd [] w (wi.alloc (.cells #[.int .i64 xc, .int .i64 xv] 56))) := Lib.hid (U1.out.alloc _)
            by_cases hcx : k ≤ xc
            · have d1 : decide (k ≤ xc) = true := by simpa using hcx
              cases done with
              | true =>
                by_cases he : xc = k
                · have d3 : (xc != k) = false := by simpa using he
                  have E1 : Hid (acc ++ over k v ((coll s i).drop (j + 1)) true = over k v (coll s i) false) := Lib.hid (by have := over_out HX.out (.inl rfl) ST.out.eq; rwa [if_pos he] at this)
                  have LL : Hid (acc.length ≤ j + 1 + true.toNat) := Lib.hid (by rw [HQ.out]; have := QK.out; omega)
                  have OO : Hid (Ow encPr 56 (wi.alloc (.cells #[.int .i64 xc, .int .i64 xv] 56)) w.heap.size (.slice Al q ca) acc) := Lib.hid (by unfold Ow; rw [HQ.out]; exact O1p.out)
                  clear he
                  go_wp2_with fail
                  go_roundw
                  case rel => exact ⟨j + 1, true, rfl, by go_num, by omega, Lib.hid ⟨_, OO.out, U1p.out, E1.out, LL.out⟩⟩
                  case measure => simp [intOf]; omega
                · have d3 : (xc != k) = true := by simpa using he
                  have E1 : Hid (acc ++ [(xc, xv)] ++ over k v ((coll s i).drop (j + 1)) true = over k v (coll s i) false) := Lib.hid (by have := over_out HX.out (.inl rfl) ST.out.eq; rwa [if_neg he] at this)
                  have LL : Hid ((acc ++ [(xc, xv)]).length ≤ j + 1 + true.toNat) := Lib.hid (by rw [List.length_append, HQ.out]; have := QK.out; simp at this ⊢; omega)
                  clear he
                  go_wp2_with (at_builtin; refine stopped ?_)
                  refine Lib.hid ?_
                  refine wpList_app _ (by rfl) (.tmp 81) (.tmp 83) _ (by rfl) elem_pair (.slice Al q ca) _ (by rfl) (by rfl) (own_upd0 O1p.out ((Upd.refl [] (wi.alloc (.cells #[.int .i64 xc, .int .i64 xv] 56))).alloc _)) (.of_blk (Blk.newAt _ _ (H := wi.heap.size + 1) (by simp)) (m := 1) 1 rfl) (by intro u hu; simp at hu; rcases hu with rfl | rfl <;> rfl) (by simp only [maxLen]; omega) (by omega) (Nat.le_trans U1p.out.size (by simp)) ?_
                  intro v5 w5 o5 u5 b5
                  obtain ⟨A5, c5, rfl, _, _⟩ := own_slice o5
                  have U5 : Hid (Upd [] w w5) := Lib.hid (U1p.out.trans' (((Upd.refl _ (wi.alloc (.cells #[.int .i64 xc, .int .i64 xv] 56))).alloc _).trans u5) (fun k hk => .inr (own_lt O1p.out (by simpa using hk)).1))
                  have O5 : Hid (w5.ownsRow w.heap.size 56 2 (.slice A5 (q + 1) c5) (q + 1) (flat encPr (acc ++ [(xc, xv)]))) := Lib.hid (by
                    rw [flat_append]
                    exact o5)
                  clear o5 u5 b5
                  have OO : Hid (Ow encPr 56 w5 w.heap.size (.slice A5 (q + 1) c5) (acc ++ [(xc, xv)])) := Lib.hid (by unfold Ow; rw [List.length_append, HQ.out]; exact O5.out)
                  go_wp2_with fail
                  go_roundw
                  case rel => exact ⟨j + 1, true, rfl, by go_num, by omega, Lib.hid ⟨_, OO.out, U5.out, E1.out, LL.out⟩⟩
                  case measure => simp [intOf]; omega
              | false =>
                go_wp2_with (at_builtin; refine stopped ?_)
                refine Lib.hid ?_
                refine wpList_app _ (by rfl) (.tmp 71) (.tmp 75) _ (by rfl) elem_pair (.slice Al q ca) _ (by rfl) (by rfl) (own_upd0 O1p.out ((Upd.refl [] (wi.alloc (.cells #[.int .i64 xc, .int .i64 xv] 56))).alloc _)) (.of_blk (Blk.newAt _ _ (H := wi.heap.size + 1) (by simp)) (m := 1) 1 rfl) (by intro u hu; simp at hu; rcases hu with rfl | rfl <;> rfl) (by simp only [maxLen]; omega) (by omega) (Nat.le_trans U1p.out.size (by simp)) ?_
                intro v5 w4 o5 u5 b5
                obtain ⟨A4, c4, rfl, _, _⟩ := own_slice o5
                have U4 : Hid (Upd [] w w4) := Lib.hid (U1p.out.trans' (((Upd.refl _ (wi.alloc (.cells #[.int .i64 xc, .int .i64 xv] 56))).alloc _).trans u5) (fun k hk => .inr (own_lt O1p.out (by simpa using hk)).1))
                have O4 : Hid (w4.ownsRow w.heap.size 56 2 (.slice A4 (q + 1) c4) (q + 1) (flat encPr (acc ++ [(k, v)]))) := Lib.hid (by
                  rw [flat_append]
                  exact o5)
                have HP4 : Hid (Blk w4 wi.heap.size 56 #[.int .i64 xc, .int .i64 xv]) := Lib.hid (((Blk.new wi _ _).alloc _).upd u5 (by intro hb; have := (own_lt O1.out (by simpa using hb)).2; omega))
                obtain ⟨p0, p1⟩ : w4.cell? ⟨wi.heap.size, 0, none⟩ = some (.int .i64 xc) ∧ w4.cell? ⟨wi.heap.size, 1, none⟩ = some (.int .i64 xv) := ⟨HP4.out.cell 0, HP4.out.cell 1⟩
                clear o5 u5 b5
                clear f0 f1 c1 e0
                by_cases he : xc = k
                · have d3 : (xc != k) = false := by simpa using he
                  have E1 : Hid (acc ++ [(k, v)] ++ over k v ((coll s i).drop (j + 1)) true = over k v (coll s i) false) := Lib.hid (by have := over_in HX.out hcx ST.out.eq; rwa [if_pos he] at this)
                  have LL : Hid ((acc ++ [(k, (v : Int))]).length ≤ j + 1 + true.toNat) := Lib.hid (by rw [List.length_append, HQ.out]; have := QK.out; simp at this ⊢; omega)
                  have OO : Hid (Ow encPr 56 w4 w.heap.size (.slice A4 (q + 1) c4) (acc ++ [(k, v)])) := Lib.hid (by unfold Ow; rw [List.length_append, HQ.out]; exact O4.out)
                  clear he
                  go_wp2_with fail
                  go_roundw
                  case rel => exact ⟨j + 1, true, rfl, by go_num, by omega, Lib.hid ⟨_, OO.out, U4.out, E1.out, LL.out⟩⟩
                  case measure => simp [intOf]; omega
                · have d3 : (xc != k) = true := by simpa using he
                  have E1 : Hid (acc ++ [(k, v)] ++ [(xc, xv)] ++ over k v ((coll s i).drop (j + 1)) true = over k v (coll s i) false) := Lib.hid (by have := over_in HX.out hcx ST.out.eq; rwa [if_neg he] at this)
                  clear he
                  go_wp2_with (at_builtin; refine stopped ?_)
                  refine Lib.hid ?_
                  refine wpList_app _ (by rfl) (.tmp 81) (.tmp 83) _ (by rfl) elem_pair (.slice A4 (q + 1) c4) _ (by rfl) (by rfl) (own_upd0 O4.out ((Upd.refl [] w4).alloc _)) (.of_blk (Blk.new _ _ _) (m := 1) 1 rfl) (by intro u hu; simp at hu; rcases hu with rfl | rfl <;> rfl) (by simp only [maxLen]; omega) (by omega) (Nat.le_trans U4.out.size (by simp)) ?_
                  intro v5 w5 o5 u5 b5
                  obtain ⟨A5, c5, rfl, _, _⟩ := own_slice o5
                  have U5 : Hid (Upd [] w w5) := Lib.hid (U4.out.trans' (((Upd.refl _ w4).alloc _).trans u5) (fun k hk => .inr (own_lt O4.out (by simpa using hk)).1))
                  have O5 : Hid (w5.ownsRow w.heap.size 56 2 (.slice A5 ((q + 1) + 1) c5) ((q + 1) + 1) (flat encPr ((acc ++ [(k, v)]) ++ [(xc, xv)]))) := Lib.hid (by
                    rw [flat_append]
                    exact o5)
                  clear o5 u5 b5
                  have OO : Hid (Ow encPr 56 w5 w.heap.size (.slice A5 (q + 1 + 1) c5) (acc ++ [(k, v)] ++ [(xc, xv)])) := Lib.hid (by unfold Ow; rw [List.length_append, List.length_append, HQ.out]; exact O5.out)
                  have LL : Hid ((acc ++ [(k, (v : Int))] ++ [(xc, xv)]).length ≤ j + 1 + true.toNat) := Lib.hid (by rw [List.length_append, List.length_append, HQ.out]; have := QK.out; simp at this ⊢; omega)
                  go_wp2_with fail
                  go_roundw
                  case rel => exact ⟨j + 1, true, rfl, by go_num, by omega, Lib.hid ⟨_, OO.out, U5.out, E1.out, LL.out⟩⟩
                  case measure => simp [intOf]; omega
            · have d1 : decide (k ≤ xc) = false := by simpa using hcx
              by_cases he : xc = k
              · have d3 : (xc != k) = false := by simpa using he
                have E1 : Hid (acc ++ over k v ((coll s i).drop (j + 1)) done = over k v (coll s i) false) := Lib.hid (by have := over_out HX.out (.inr hcx) ST.out.eq; rwa [if_pos he] at this)
                have LL : Hid (acc.length ≤ j + 1 + done.toNat) := Lib.hid (by rw [HQ.out]; have := QK.out; omega)
                have OO : Hid (Ow encPr 56 (wi.alloc (.cells #[.int .i64 xc, .int .i64 xv] 56)) w.heap.size (.slice Al q ca) acc) := Lib.hid (by unfold Ow; rw [HQ.out]; exact O1p.out)
                clear he
                go_wp2_with fail
                go_roundw
                case rel => exact ⟨j + 1, done, rfl, by go_num, by omega, Lib.hid ⟨_, OO.out, U1p.out, E1.out, LL.out⟩⟩
                case measure => simp [intOf]; omega
              · have d3 : (xc != k) = true := by simpa using he
                have E1 : Hid (acc ++ [(xc, xv)] ++ over k v ((coll s i).drop (j + 1)) done = over k v (coll s i) false) := Lib.hid (by have := over_out HX.out (.inr hcx) ST.out.eq; rwa [if_neg he] at this)
                have LL : Hid ((acc ++ [(xc, xv)]).length ≤ j + 1 + done.toNat) := Lib.hid (by rw [List.length_append, HQ.out]; have := QK.out; simp at this ⊢; omega)
                clear he
                go_wp2_with (at_builtin; refine stopped ?_)
                refine Lib.hid ?_
                refine wpList_app _ (by rfl) (.tmp 81) (.tmp 83) _ (by rfl) elem_pair (.slice Al q ca) _ (by rfl) (by rfl) (own_upd0 O1p.out ((Upd.refl [] (wi.alloc (.cells #[.int .i64 xc, .int .i64 xv] 56))).alloc _)) (.of_blk (Blk.newAt _ _ (H := wi.heap.size + 1) (by simp)) (m := 1) 1 rfl) (by intro u hu; simp at hu; rcases hu with rfl | rfl <;> rfl) (by simp only [maxLen]; omega) (by omega) (Nat.le_trans U1p.out.size (by simp)) ?_
                intro v5 w5 o5 u5 b5
                obtain ⟨A5, c5, rfl, _, _⟩ := own_slice o5
                have U5 : Hid (Upd [] w w5) := Lib.hid (U1p.out.trans' (((Upd.refl _ (wi.alloc (.cells #[.int .i64 xc, .int .i64 xv] 56))).alloc _).trans u5) (fun k hk => .inr (own_lt O1p.out (by simpa using hk)).1))
                have O5 : Hid (w5.ownsRow w.heap.size 56 2 (.slice A5 (q + 1) c5) (q + 1) (flat encPr (acc ++ [(xc, xv)]))) := Lib.hid (by
                  rw [flat_append]
                  exact o5)
                clear o5 u5 b5
                have OO : Hid (Ow encPr 56 w5 w.heap.size (.slice A5 (q + 1) c5) (acc ++ [(xc, xv)])) := Lib.hid (by unfold Ow; rw [List.length_append, HQ.out]; exact O5.out)
                go_wp2_with fail
                go_roundw
                case rel => exact ⟨j + 1, done, rfl, by go_num, by omega, Lib.hid ⟨_, OO.out, U5.out, E1.out, LL.out⟩⟩
                case measure => simp [intOf]; omega
          · obtain rfl : j = n := by omega
            have HD : Hid ((coll s i).drop j = []) := Lib.hid (List.drop_eq_nil_of_le (by rw [HN.out]; exact Nat.le_refl _))
            cases done with
            | true =>
              have EE : Hid (acc = over k v (coll s i) false) := Lib.hid (by have := ST.out.eq; rw [HD.out] at this; simpa [over] using this)
              have OO : Hid (Ow encPr 56 wi w.heap.size (.slice Al q ca) acc) := Lib.hid (by unfold Ow; rw [HQ.out]; exact O1.out)
              have HM : Hid (mPut s i k v = setC s i (acc)) := Lib.hid (by unfold mPut; rw [if_pos HE.out, HVV.out, ← over_put (HGD.out.srt _ (coll_mem HII.out)), ← EE.out])
              go_wp2_with fail
              refine (rm_set B rb F s i (.slice Al (q) ca) (acc) wi (H.out.upd0 U1.out) HII.out (own_base OO.out hBw) (HM.out ▸ good_put HGD.out HII.out k v HKB.out) (Nat.le_trans hBw U1.out.size)).mono ?_
              rintro e w6 ⟨F', rfl, R6, U6, S6⟩
              have R := Lib.hid (And.intro R6 (frm_set (B := B) U1.out OO.out U6 S6))
              clear R6 U6 S6
              go_wp2_with fail
              go_ret
              unfold RPutPost
              rw [HC.out, Int.toNat_natCast]
              refine ⟨F', by rw [HE.out]; rfl, ?_, R.out.2⟩
              have := R.out.1
              rw [← HM.out] at this
              exact this
            | false =>
              have EE : Hid (acc ++ [(k, v)] = over k v (coll s i) false) := Lib.hid (by have := ST.out.eq; rw [HD.out] at this; simpa [over] using this)
              go_wp2_with (at_builtin; refine stopped ?_)
              refine Lib.hid ?_
              refine wpList_app _ (by rfl) (.tmp 87) (.tmp 91) _ (by rfl) elem_pair (.slice Al q ca) _ (by rfl) (by rfl) (own_upd0 O1.out ((Upd.refl [] wi).alloc _)) (.of_blk (Blk.new _ _ _) (m := 1) 1 rfl) (by intro u hu; simp at hu; rcases hu with rfl | rfl <;> rfl) (by simp only [maxLen]; omega) (by omega) (Nat.le_trans U1.out.size (by simp)) ?_
              intro v5 w5 o5 u5 b5
              obtain ⟨A5, c5, rfl, _, _⟩ := own_slice o5
              have U5 : Hid (Upd [] w w5) := Lib.hid (U1.out.trans' (((Upd.refl _ wi).alloc _).trans u5) (fun k hk => .inr (own_lt O1.out (by simpa using hk)).1))
              have O5 : Hid (w5.ownsRow w.heap.size 56 2 (.slice A5 (q + 1) c5) (q + 1) (flat encPr (acc ++ [(k, v)]))) := Lib.hid (by
                rw [flat_append]
                exact o5)
              clear o5 u5 b5
              have OO : Hid (Ow encPr 56 w5 w.heap.size (.slice A5 (q + 1) c5) (acc ++ [(k, v)])) := Lib.hid (by unfold Ow; rw [List.length_append, HQ.out]; exact O5.out)
              clear c1 e0
              have HM : Hid (mPut s i k v = setC s i (acc ++ [(k, v)])) := Lib.hid (by unfold mPut; rw [if_pos HE.out, HVV.out, ← over_put (HGD.out.srt _ (coll_mem HII.out)), ← EE.out])
              go_wp2_with fail
              refine (rm_set B rb F s i (.slice A5 (q + 1) c5) (acc ++ [(k, v)]) w5 (H.out.upd0 U5.out) HII.out (own_base OO.out hBw) (HM.out ▸ good_put HGD.out HII.out k v HKB.out) (Nat.le_trans hBw U5.out.size)).mono ?_
              rintro e w6 ⟨F', rfl, R6, U6, S6⟩
              have R := Lib.hid (And.intro R6 (frm_set (B := B) U5.out OO.out U6 S6))
              clear R6 U6 S6
              go_wp2_with fail
              go_ret
              unfold RPutPost
              rw [HC.out, Int.toNat_natCast]
              refine ⟨F', by rw [HE.out]; rfl, ?_, R.out.2⟩
              have := R.out.1
              rw [← HM.out] at this
              exact this
      | none =>
        have HE8 := HGN.out hg
        obtain ⟨pv, hpv⟩ : ∃ p, posW (coll s i) k = p := ⟨_, rfl⟩
        have q0 : pv < 0 := by rw [← hpv, posW_none hg]; omega
        rw [hpv]
        clear hg hpv
        by_cases h5 : 100 ≤ n
        · have d5 : decide ((100 : Int) ≤ (n : Int)) = true := by simp; omega
          have HE : Hid (putE (coll s i) k = 8) := Lib.hid (by rw [HE8.out, if_pos h5])
          clear h5
          go_wp2_with fail
          go_ret
          unfold RPutPost mPut
          rw [HC.out, Int.toNat_natCast, HE.out]
          exact ⟨_, rfl, H.out, .refl _ _⟩
        · have d5 : decide ((100 : Int) ≤ (n : Int)) = false := by simp; omega
          have HE : Hid (putE (coll s i) k = 0) := Lib.hid (by rw [HE8.out, if_neg h5])
          clear h5
          go_wp2_with fail
          go_loopw [9, 10, 11, 12] (fun vl vp vi vx wr => ∃ (j : Nat) (done : Bool), vp = .bool done ∧ vi = .int .i64 j ∧ j ≤ n ∧ Hid (∃ acc, PutI (coll s i) k v w vl acc done j wr)) (fun _ _ v _ _ => n - (intOf v).toNat)
          case atStart => exact ⟨0, false, rfl, rfl, by omega, Lib.hid ⟨[], Ow.nil _ _ _ _, .refl _ _, rfl, by simp⟩⟩
          case round =>
            obtain ⟨j, done, rfl, rfl, hj, acc, hs0⟩ := hrel
            rename World => wi
            have ST := Lib.hid hs0
            obtain ⟨Al, ca, rfl, _, _⟩ := own_slice hs0.own
            obtain ⟨q, hq⟩ : ∃ q, acc.length = q := ⟨_, rfl⟩
            have HQ := Lib.hid hq
            have QK : Hid (q ≤ j + done.toNat) := Lib.hid (hq ▸ hs0.len)
            have hqk : q ≤ j + 1 := by have := QK.out; have := Bool.toNat_le done; omega
            rw [hq] at ST ⊢
            have O1 : Hid (wi.ownsRow w.heap.size 56 2 (.slice Al q ca) q (flat encPr acc)) := Lib.hid (by have := ST.out.own; unfold Ow at this; rw [hq] at this; exact this)
            have U1 := Lib.hid hs0.upd
            clear c1 e0 k0 k1
            obtain ⟨c1, e0⟩ := HOW.out wi U1.out
            clear hs0 hq
            by_cases hjn : j < n
            · obtain ⟨⟨xc, xv⟩, hx⟩ : ∃ x, (coll s i)[j]? = some x := ⟨_, List.getElem?_eq_getElem (by rw [HN.out]; omega)⟩
              obtain ⟨gw, cgw, curw, e1, _⟩ := own_form ON.out (by omega)
              injection e1 with e1 _ e1'
              subst e1 e1'
              have HEW : Hid (∀ W, Upd [] w W → W.cell? ⟨gw, j * 2, none⟩ = some (.int .i64 xc) ∧ W.cell? ⟨gw, j * 2 + 1, none⟩ = some (.int .i64 xv)) := Lib.hid (fun W hW => ⟨(OI.out.upd0 hW).at_ hx 0 _ rfl, (OI.out.upd0 hW).at_ hx 1 _ rfl⟩)
              have HX := Lib.hid hx
              have q3 : (0 : Int) ≤ (j : Int) := by omega
              have q4 : (j : Int) < (n : Int) := by omega
              clear hx
              obtain ⟨f0, f1⟩ := HEW.out wi U1.out
              have O1p : Hid ((wi.alloc (.cells #[.int .i64 xc, .int .i64 xv] 56)).ownsRow w.heap.size 56 2 (.slice Al q ca) q (flat encPr acc)) := Lib.hid (own_upd0 O1.out ((Upd.refl [] wi).alloc _))
              have U1p : Hid (Upd [] w (wi.alloc (.cells #[.int .i64 xc, .int .i64 xv] 56))) := Lib.hid (U1.out.alloc _)
              by_cases hcx : k ≤ xc
              · have d1 : decide (k ≤ xc) = true := by simpa using hcx
                cases done with
                | true =>
                  by_cases he : xc = k
                  · have d3 : (xc != k) = false := by simpa using he
                    have E1 : Hid (acc ++ over k v ((coll s i).drop (j + 1)) true = over k v (coll s i) false) := Lib.hid (by have := over_out HX.out (.inl rfl) ST.out.eq; rwa [if_pos he] at this)
                    have LL : Hid (acc.length ≤ j + 1 + true.toNat) := Lib.hid (by rw [HQ.out]; have := QK.out; omega)
                    have OO : Hid (Ow encPr 56 (wi.alloc (.cells #[.int .i64 xc, .int .i64 xv] 56)) w.heap.size (.slice Al q ca) acc) := Lib.hid (by unfold Ow; rw [HQ.out]; exact O1p.out)
                    clear he
                    go_wp2_with fail
                    go_roundw
                    case rel => exact ⟨j + 1, true, rfl, by go_num, by omega, Lib.hid ⟨_, OO.out, U1p.out, E1.out, LL.out⟩⟩
                    case measure => simp [intOf]; omega
                  · have d3 : (xc != k) = true := by simpa using he
                    have E1 : Hid (acc ++ [(xc, xv)] ++ over k v ((coll s i).drop (j + 1)) true = over k v (coll s i) false) := Lib.hid (by have := over_out HX.out (.inl rfl) ST.out.eq; rwa [if_neg he] at this)
                    have LL : Hid ((acc ++ [(xc, xv)]).length ≤ j + 1 + true.toNat) := Lib.hid (by rw [List.length_append, HQ.out]; have := QK.out; simp at this ⊢; omega)
                    clear he
                    go_wp2_with (at_builtin; refine stopped ?_)
                    refine Lib.hid ?_
                    refine wpList_app _ (by rfl) (.tmp 81) (.tmp 83) _ (by rfl) elem_pair (.slice Al q ca) _ (by rfl) (by rfl) (own_upd0 O1p.out ((Upd.refl [] (wi.alloc (.cells #[.int .i64 xc, .int .i64 xv] 56))).alloc _)) (.of_blk (Blk.newAt _ _ (H := wi.heap.size + 1) (by simp)) (m := 1) 1 rfl) (by intro u hu; simp at hu; rcases hu with rfl | rfl <;> rfl) (by simp only [maxLen]; omega) (by omega) (Nat.le_trans U1p.out.size (by simp)) ?_
                    intro v5 w5 o5 u5 b5
                    obtain ⟨A5, c5, rfl, _, _⟩ := own_slice o5
                    have U5 : Hid (Upd [] w w5) := Lib.hid (U1p.out.trans' (((Upd.refl _ (wi.alloc (.cells #[.int .i64 xc, .int .i64 xv] 56))).alloc _).trans u5) (fun k hk => .inr (own_lt O1p.out (by simpa using hk)).1))
                    have O5 : Hid (w5.ownsRow w.heap.size 56 2 (.slice A5 (q + 1) c5) (q + 1) (flat encPr (acc ++ [(xc, xv)]))) := Lib.hid (by
                      rw [flat_append]
                      exact o5)
                    clear o5 u5 b5
                    have OO : Hid (Ow encPr 56 w5 w.heap.size (.slice A5 (q + 1) c5) (acc ++ [(xc, xv)])) := Lib.hid (by unfold Ow; rw [List.length_append, HQ.out]; exact O5.out)
                    go_wp2_with fail
                    go_roundw
                    case rel => exact ⟨j + 1, true, rfl, by go_num, by omega, Lib.hid ⟨_, OO.out, U5.out, E1.out, LL.out⟩⟩
                    case measure => simp [intOf]; omega
                | false =>
                  go_wp2_with (at_builtin; refine stopped ?_)
                  refine Lib.hid ?_
                  refine wpList_app _ (by rfl) (.tmp 71) (.tmp 75) _ (by rfl) elem_pair (.slice Al q ca) _ (by rfl) (by rfl) (own_upd0 O1p.out ((Upd.refl [] (wi.alloc (.cells #[.int .i64 xc, .int .i64 xv] 56))).alloc _)) (.of_blk (Blk.newAt _ _ (H := wi.heap.size + 1) (by simp)) (m := 1) 1 rfl) (by intro u hu; simp at hu; rcases hu with rfl | rfl <;> rfl) (by simp only [maxLen]; omega) (by omega) (Nat.le_trans U1p.out.size (by simp)) ?_
                  intro v5 w4 o5 u5 b5
                  obtain ⟨A4, c4, rfl, _, _⟩ := own_slice o5
                  have U4 : Hid (Upd [] w w4) := Lib.hid (U1p.out.trans' (((Upd.refl _ (wi.alloc (.cells #[.int .i64 xc, .int .i64 xv] 56))).alloc _).trans u5) (fun k hk => .inr (own_lt O1p.out (by simpa using hk)).1))
                  have O4 : Hid (w4.ownsRow w.heap.size 56 2 (.slice A4 (q + 1) c4) (q + 1) (flat encPr (acc ++ [(k, v)]))) := Lib.hid (by
                    rw [flat_append]
                    exact o5)
                  have HP4 : Hid (Blk w4 wi.heap.size 56 #[.int .i64 xc, .int .i64 xv]) := Lib.hid (((Blk.new wi _ _).alloc _).upd u5 (by intro hb; have := (own_lt O1.out (by simpa using hb)).2; omega))
                  obtain ⟨p0, p1⟩ : w4.cell? ⟨wi.heap.size, 0, none⟩ = some (.int .i64 xc) ∧ w4.cell? ⟨wi.heap.size, 1, none⟩ = some (.int .i64 xv) := ⟨HP4.out.cell 0, HP4.out.cell 1⟩
                  clear o5 u5 b5
                  clear f0 f1 c1 e0
                  by_cases he : xc = k
                  · have d3 : (xc != k) = false := by simpa using he
                    have E1 : Hid (acc ++ [(k, v)] ++ over k v ((coll s i).drop (j + 1)) true = over k v (coll s i) false) := Lib.hid (by have := over_in HX.out hcx ST.out.eq; rwa [if_pos he] at this)
                    have LL : Hid ((acc ++ [(k, (v : Int))]).length ≤ j + 1 + true.toNat) := Lib.hid (by rw [List.length_append, HQ.out]; have := QK.out; simp at this ⊢; omega)
                    have OO : Hid (Ow encPr 56 w4 w.heap.size (.slice A4 (q + 1) c4) (acc ++ [(k, v)])) := Lib.hid (by unfold Ow; rw [List.length_append, HQ.out]; exact O4.out)
                    clear he
                    go_wp2_with fail
                    go_roundw
                    case rel => exact ⟨j + 1, true, rfl, by go_num, by omega, Lib.hid ⟨_, OO.out, U4.out, E1.out, LL.out⟩⟩
                    case measure => simp [intOf]; omega
                  · have d3 : (xc != k) = true := by simpa using he
                    have E1 : Hid (acc ++ [(k, v)] ++ [(xc, xv)] ++ over k v ((coll s i).drop (j + 1)) true = over k v (coll s i) false) := Lib.hid (by have := over_in HX.out hcx ST.out.eq; rwa [if_neg he] at this)
                    clear he
                    go_wp2_with (at_builtin; refine stopped ?_)
                    refine Lib.hid ?_
                    refine wpList_app _ (by rfl) (.tmp 81) (.tmp 83) _ (by rfl) elem_pair (.slice A4 (q + 1) c4) _ (by rfl) (by rfl) (own_upd0 O4.out ((Upd.refl [] w4).alloc _)) (.of_blk (Blk.new _ _ _) (m := 1) 1 rfl) (by intro u hu; simp at hu; rcases hu with rfl | rfl <;> rfl) (by simp only [maxLen]; omega) (by omega) (Nat.le_trans U4.out.size (by simp)) ?_
                    intro v5 w5 o5 u5 b5
                    obtain ⟨A5, c5, rfl, _, _⟩ := own_slice o5
                    have U5 : Hid (Upd [] w w5) := Lib.hid (U4.out.trans' (((Upd.refl _ w4).alloc _).trans u5) (fun k hk => .inr (own_lt O4.out (by simpa using hk)).1))
                    have O5 : Hid (w5.ownsRow w.heap.size 56 2 (.slice A5 ((q + 1) + 1) c5) ((q + 1) + 1) (flat encPr ((acc ++ [(k, v)]) ++ [(xc, xv)]))) := Lib.hid (by
                      rw [flat_append]
                      exact o5)
                    clear o5 u5 b5
                    have OO : Hid (Ow encPr 56 w5 w.heap.size (.slice A5 (q + 1 + 1) c5) (acc ++ [(k, v)] ++ [(xc, xv)])) := Lib.hid (by unfold Ow; rw [List.length_append, List.length_append, HQ.out]; exact O5.out)
                    have LL : Hid ((acc ++ [(k, (v : Int))] ++ [(xc, xv)]).length ≤ j + 1 + true.toNat) := Lib.hid (by rw [List.length_append, List.length_append, HQ.out]; have := QK.out; simp at this ⊢; omega)
                    go_wp2_with fail
                    go_roundw
                    case rel => exact ⟨j + 1, true, rfl, by go_num, by omega, Lib.hid ⟨_, OO.out, U5.out, E1.out, LL.out⟩⟩
                    case measure => simp [intOf]; omega
              · have d1 : decide (k ≤ xc) = false := by simpa using hcx
                by_cases he : xc = k
                · have d3 : (xc != k) = false := by simpa using he
                  have E1 : Hid (acc ++ over k v ((coll s i).drop (j + 1)) done = over k v (coll s i) false) := Lib.hid (by have := over_out HX.out (.inr hcx) ST.out.eq; rwa [if_pos he] at this)
                  have LL : Hid (acc.length ≤ j + 1 + done.toNat) := Lib.hid (by rw [HQ.out]; have := QK.out; omega)
                  have OO : Hid (Ow encPr 56 (wi.alloc (.cells #[.int .i64 xc, .int .i64 xv] 56)) w.heap.size (.slice Al q ca) acc) := Lib.hid (by unfold Ow; rw [HQ.out]; exact O1p.out)
                  clear he
                  go_wp2_with fail
                  go_roundw
                  case rel => exact ⟨j + 1, done, rfl, by go_num, by omega, Lib.hid ⟨_, OO.out, U1p.out, E1.out, LL.out⟩⟩
                  case measure => simp [intOf]; omega
                · have d3 : (xc != k) = true := by simpa using he
                  have E1 : Hid (acc ++ [(xc, xv)] ++ over k v ((coll s i).drop (j + 1)) done = over k v (coll s i) false) := Lib.hid (by have := over_out HX.out (.inr hcx) ST.out.eq; rwa [if_neg he] at this)
                  have LL : Hid ((acc ++ [(xc, xv)]).length ≤ j + 1 + done.toNat) := Lib.hid (by rw [List.length_append, HQ.out]; have := QK.out; simp at this ⊢; omega)
                  clear he
                  go_wp2_with (at_builtin; refine stopped ?_)
                  refine Lib.hid ?_
                  refine wpList_app _ (by rfl) (.tmp 81) (.tmp 83) _ (by rfl) elem_pair (.slice Al q ca) _ (by rfl) (by rfl) (own_upd0 O1p.out ((Upd.refl [] (wi.alloc (.cells #[.int .i64 xc, .int .i64 xv] 56))).alloc _)) (.of_blk (Blk.newAt _ _ (H := wi.heap.size + 1) (by simp)) (m := 1) 1 rfl) (by intro u hu; simp at hu; rcases hu with rfl | rfl <;> rfl) (by simp only [maxLen]; omega) (by omega) (Nat.le_trans U1p.out.size (by simp)) ?_
                  intro v5 w5 o5 u5 b5
                  obtain ⟨A5, c5, rfl, _, _⟩ := own_slice o5
                  have U5 : Hid (Upd [] w w5) := Lib.hid (U1p.out.trans' (((Upd.refl _ (wi.alloc (.cells #[.int .i64 xc, .int .i64 xv] 56))).alloc _).trans u5) (fun k hk => .inr (own_lt O1p.out (by simpa using hk)).1))
                  have O5 : Hid (w5.ownsRow w.heap.size 56 2 (.slice A5 (q + 1) c5) (q + 1) (flat encPr (acc ++ [(xc, xv)]))) := Lib.hid (by
                    rw [flat_append]
                    exact o5)
                  clear o5 u5 b5
                  have OO : Hid (Ow encPr 56 w5 w.heap.size (.slice A5 (q + 1) c5) (acc ++ [(xc, xv)])) := Lib.hid (by unfold Ow; rw [List.length_append, HQ.out]; exact O5.out)
                  go_wp2_with fail
                  go_roundw
                  case rel => exact ⟨j + 1, done, rfl, by go_num, by omega, Lib.hid ⟨_, OO.out, U5.out, E1.out, LL.out⟩⟩
                  case measure => simp [intOf]; omega
            · obtain rfl : j = n := by omega
              have HD : Hid ((coll s i).drop j = []) := Lib.hid (List.drop_eq_nil_of_le (by rw [HN.out]; exact Nat.le_refl _))
              cases done with
              | true =>
                have EE : Hid (acc = over k v (coll s i) false) := Lib.hid (by have := ST.out.eq; rw [HD.out] at this; simpa [over] using this)
                have OO : Hid (Ow encPr 56 wi w.heap.size (.slice Al q ca) acc) := Lib.hid (by unfold Ow; rw [HQ.out]; exact O1.out)
                have HM : Hid (mPut s i k v = setC s i (acc)) := Lib.hid (by unfold mPut; rw [if_pos HE.out, HVV.out, ← over_put (HGD.out.srt _ (coll_mem HII.out)), ← EE.out])
                go_wp2_with fail
                refine (rm_set B rb F s i (.slice Al (q) ca) (acc) wi (H.out.upd0 U1.out) HII.out (own_base OO.out hBw) (HM.out ▸ good_put HGD.out HII.out k v HKB.out) (Nat.le_trans hBw U1.out.size)).mono ?_
                rintro e w6 ⟨F', rfl, R6, U6, S6⟩
                have R := Lib.hid (And.intro R6 (frm_set (B := B) U1.out OO.out U6 S6))
                clear R6 U6 S6
                go_wp2_with fail
                go_ret
                unfold RPutPost
                rw [HC.out, Int.toNat_natCast]
                refine ⟨F', by rw [HE.out]; rfl, ?_, R.out.2⟩
                have := R.out.1
                rw [← HM.out] at this
                exact this
              | false =>
                have EE : Hid (acc ++ [(k, v)] = over k v (coll s i) false) := Lib.hid (by have := ST.out.eq; rw [HD.out] at this; simpa [over] using this)
                go_wp2_with (at_builtin; refine stopped ?_)
                refine Lib.hid ?_
                refine wpList_app _ (by rfl) (.tmp 87) (.tmp 91) _ (by rfl) elem_pair (.slice Al q ca) _ (by rfl) (by rfl) (own_upd0 O1.out ((Upd.refl [] wi).alloc _)) (.of_blk (Blk.new _ _ _) (m := 1) 1 rfl) (by intro u hu; simp at hu; rcases hu with rfl | rfl <;> rfl) (by simp only [maxLen]; omega) (by omega) (Nat.le_trans U1.out.size (by simp)) ?_
                intro v5 w5 o5 u5 b5
                obtain ⟨A5, c5, rfl, _, _⟩ := own_slice o5
                have U5 : Hid (Upd [] w w5) := Lib.hid (U1.out.trans' (((Upd.refl _ wi).alloc _).trans u5) (fun k hk => .inr (own_lt O1.out (by simpa using hk)).1))
                have O5 : Hid (w5.ownsRow w.heap.size 56 2 (.slice A5 (q + 1) c5) (q + 1) (flat encPr (acc ++ [(k, v)]))) := Lib.hid (by
                  rw [flat_append]
                  exact o5)
                clear o5 u5 b5
                have OO : Hid (Ow encPr 56 w5 w.heap.size (.slice A5 (q + 1) c5) (acc ++ [(k, v)])) := Lib.hid (by unfold Ow; rw [List.length_append, HQ.out]; exact O5.out)
                clear c1 e0
                have HM : Hid (mPut s i k v = setC s i (acc ++ [(k, v)])) := Lib.hid (by unfold mPut; rw [if_pos HE.out, HVV.out, ← over_put (HGD.out.srt _ (coll_mem HII.out)), ← EE.out])
                go_wp2_with fail
                refine (rm_set B rb F s i (.slice A5 (q + 1) c5) (acc ++ [(k, v)]) w5 (H.out.upd0 U5.out) HII.out (own_base OO.out hBw) (HM.out ▸ good_put HGD.out HII.out k v HKB.out) (Nat.le_trans hBw U5.out.size)).mono ?_
                rintro e w6 ⟨F', rfl, R6, U6, S6⟩
                have R := Lib.hid (And.intro R6 (frm_set (B := B) U5.out OO.out U6 S6))
                clear R6 U6 S6
                go_wp2_with fail
                go_ret
                unfold RPutPost
                rw [HC.out, Int.toNat_natCast]
                refine ⟨F', by rw [HE.out]; rfl, ?_, R.out.2⟩
                have := R.out.1
                rw [← HM.out] at this
                exact this
end Go.Proofs.YtfbeaklplefojaaGreatDoor

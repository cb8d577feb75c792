/-
  concordref07.Sets: Write.
-/
import Derived.Test.YtbpmkbcpnnpdjaaDoorRefS2
set_option linter.unusedVariables false
namespace Go.Proofs.YtbpmkbcpnnpdjaaDoor
open Go.RowKit Assoc SP
attribute [local go_sem] litStep_value

/-- The new list behind k of the old one. -/
structure WrI (W : AL) (c v : Int) (w : World) (vl : Value) (acc : AL) (done : Bool) (k : Nat) (wr : World) : Prop where
  own : Ow encW 55 wr w.heap.size vl acc
  upd : Upd [] w wr
  eq : acc ++ over c v (W.drop k) done = over c v W false
  len : acc.length ≤ k + done.toNat
theorem drop_at {W : AL} {k : Nat} {x : Int × Int} (h : W[k]? = some x) : W.drop k = x :: W.drop (k + 1) := by
  obtain ⟨hk, rfl⟩ := List.getElem?_eq_some_iff.1 h
  exact List.drop_eq_getElem_cons hk
theorem over_cons (k v : Int) (p : Int × Int) (l : AL) (done : Bool) : over k v (p :: l) done = (if k ≤ p.1 ∧ done = false then [(k, v)] else []) ++ ((if p.1 = k then [] else [p]) ++ over k v l (done || decide (k ≤ p.1))) := rfl
theorem over_in {W acc : AL} {c v : Int} {k : Nat} {x : Int × Int} (h : W[k]? = some x) (hc : c ≤ x.1) (e : acc ++ over c v (W.drop k) false = over c v W false) :
    (if x.1 = c then acc ++ [(c, v)] else acc ++ [(c, v)] ++ [x]) ++ over c v (W.drop (k + 1)) true = over c v W false := by
  rw [drop_at h, over_cons] at e
  rw [if_pos ⟨hc, rfl⟩, decide_eq_true hc, Bool.or_true] at e
  rw [← e]
  split <;> simp
theorem over_out {W acc : AL} {c v : Int} {k : Nat} {done : Bool} {x : Int × Int} (h : W[k]? = some x) (hc : done = true ∨ ¬ c ≤ x.1) (e : acc ++ over c v (W.drop k) done = over c v W false) :
    (if x.1 = c then acc else acc ++ [x]) ++ over c v (W.drop (k + 1)) done = over c v W false := by
  rw [drop_at h, over_cons] at e
  have h1 : (done || decide (c ≤ x.1)) = done := by
    rcases hc with rfl | hc
    · rfl
    · rw [decide_eq_false hc, Bool.or_false]
  rw [if_neg (by rintro ⟨h2, rfl⟩; rcases hc with hc | hc; · cases hc
                 · exact hc h2), h1] at e
  rw [← e]
  split <;> simp

def RWritePost (B rb : Nat) (F : List Nat) (d : DS) (c x : Int) (w : World) (e : Ending) (w' : World) : Prop := ∃ F', e = .returned (.int .i64 (wErr d.W c)) ∧ RefS B rb F' w' (dWrite d c x) ∧ Frm F F' w w'
set_option maxRecDepth 100000 in
set_option maxHeartbeats 8000000 in
theorem rs_write (B rb : Nat) (F : List Nat) (d : DS) (c x : Int) (w : World) (h : RefS B rb F w d) (hBw : B ≤ w.heap.size) :
    Calls Tryd.prog 28 #[.pointer (some ⟨rb, 0, none⟩), .int .u64 c, .int .u64 x] w fun e w' => RWritePost B rb F d c x w e w' := by
  have H := Lib.hid h
  obtain ⟨g, vr, vw, vm, ms, hF, h⟩ := h
  have HF := Lib.hid hF
  have HS := Lib.hid h
  have HG := Lib.hid g
  obtain ⟨A, ca, rfl, hnc, hcm⟩ := own_slice h.ww
  obtain ⟨n, hn⟩ : ∃ n, d.W.length = n := ⟨_, rfl⟩
  have c1 : w.cell? ⟨rb, 1, none⟩ = some (.slice A n ca) := by rw [← hn]; exact h.box.cell 1
  have hn5 : n ≤ 500 := hn ▸ g.wl
  rw [hn] at hnc
  have HB : Hid (Blk w rb 37 #[vr, .slice A n ca, vm]) := Lib.hid (by rw [← hn]; exact h.box)
  have HO := Lib.hid h.ww
  rw [hn] at HO
  have OO0 : Hid (w.ownsRow B 55 2 (.slice A n ca) n (flat encW d.W)) := Lib.hid (by have := h.ww; unfold Ow at this; rw [hn] at this; exact this)
  have HN := Lib.hid hn
  have hgn : get d.W c = none → Hid (wErr d.W c = if 500 ≤ n then 8 else 0) := fun hg => Lib.hid (by unfold wErr; rw [hg, hn]; simp)
  have hgs : ∀ v, get d.W c = some v → Hid (wErr d.W c = 0) := fun v hg => Lib.hid (by unfold wErr; rw [hg]; simp)
  have HGN := Lib.hid hgn
  have HGS := Lib.hid hgs
  clear h hn hF g hgn hgs
  go_enter Tryd.func28, Tryd.ntmps28
  go_wp2_with fail
  refine (rs_find B rb F d c w H.out).mono ?_; rintro e w2 ⟨rfl, rfl⟩
  cases hg : get d.W c with
  | some ov =>
    have HE := HGS.out ov hg
    obtain ⟨pk, hp1, hp2⟩ := posW_some hg
    rw [hp1]
    have q0 : (0 : Int) ≤ (pk : Int) := by omega
    clear hg hp1 hp2 c1
    have c1 : w.cell? ⟨rb, 1, none⟩ = some (.slice A n ca) := HB.out.cell 1
    go_wp2_with fail
    go_loopw [7, 8, 9] (fun vl vp vi wr => ∃ (k : Nat) (done : Bool), vp = .bool done ∧ vi = .int .i64 k ∧ k ≤ n ∧ Hid (∃ acc, WrI d.W c x w vl acc done k wr)) (fun _ _ v _ => n - (intOf v).toNat)
    case atStart => exact ⟨0, false, rfl, rfl, by omega, Lib.hid ⟨[], Ow.nil _ _ _ _, .refl _ _, rfl, by simp⟩⟩
    case round =>
      obtain ⟨k, done, rfl, rfl, hk, acc, hst⟩ := hrel
      rename World => wi
      have ST := Lib.hid hst
      obtain ⟨Al, cl, rfl, _, _⟩ := own_slice hst.own
      obtain ⟨q, hq⟩ : ∃ q, acc.length = q := ⟨_, rfl⟩
      have HQ := Lib.hid hq
      have QK : Hid (q ≤ k + done.toNat) := Lib.hid (hq ▸ hst.len)
      have hqk : q ≤ k + 1 := by have := QK.out; have := Bool.toNat_le done; omega
      rw [hq] at ST ⊢
      have O1 : Hid (wi.ownsRow w.heap.size 55 2 (.slice Al q cl) q (flat encW acc)) := Lib.hid (by have := ST.out.own; unfold Ow at this; rw [hq] at this; exact this)
      have U1 := Lib.hid hst.upd
      have HB1 := Lib.hid (HB.out.upd U1.out (by simp))
      have c1 : wi.cell? ⟨rb, 1, none⟩ = some (.slice A n ca) := HB1.out.cell 1
      clear hst hq
      by_cases hkn : k < n
      · obtain ⟨⟨xc, xv⟩, hx⟩ : ∃ x, d.W[k]? = some x := ⟨_, List.getElem?_eq_getElem (by rw [HN.out]; omega)⟩
        obtain ⟨gw, cg, cur, e1, _⟩ := own_form OO0.out (by omega)
        injection e1 with e1 _ e1'
        subst e1 e1'
        have HX := Lib.hid hx
        have HOW : Hid (∀ W, Upd [] w W → W.cell? ⟨gw, k * 2, none⟩ = some (.int .u64 xc) ∧ W.cell? ⟨gw, k * 2 + 1, none⟩ = some (.int .u64 xv) ∧ W.cell? ⟨rb, 1, none⟩ = some (.slice (some ⟨gw, 0, none⟩) n ca)) := Lib.hid (fun W hW => ⟨(HO.out.upd0 hW).at_ hx 0 _ rfl, (HO.out.upd0 hW).at_ hx 1 _ rfl, (HB.out.upd hW (by simp)).cell 1⟩)
        have f1 := HOW.out wi U1.out
        have q1 : (0 : Int) ≤ (k : Int) := by omega
        have q2 : (k : Int) < (n : Int) := by omega
        clear hx
        by_cases hc : c ≤ xc
        · have d1 : decide (c ≤ xc) = true := by simpa using hc
          cases done with
          | true =>
            by_cases he : xc = c
            · have d2 : (xc != c) = false := by simpa using he
              have E1 : Hid (acc ++ over c x (d.W.drop (k + 1)) true = over c x d.W false) := Lib.hid (by have := over_out HX.out (.inl rfl) ST.out.eq; rwa [if_pos he] at this)
              have LL : Hid (acc.length ≤ k + 1 + true.toNat) := Lib.hid (by rw [HQ.out]; have := QK.out; omega)
              have OO : Hid (Ow encW 55 wi w.heap.size (.slice Al q cl) acc) := Lib.hid (by unfold Ow; rw [HQ.out]; exact O1.out)
              clear he
              go_wp2_with fail
              go_roundw
              case rel => exact ⟨k + 1, true, rfl, by go_num, by omega, Lib.hid ⟨_, OO.out, U1.out, E1.out, LL.out⟩⟩
              case measure => simp [intOf]; omega
            · have d2 : (xc != c) = true := by simpa using he
              have E1 : Hid (acc ++ [(xc, xv)] ++ over c x (d.W.drop (k + 1)) true = over c x d.W false) := Lib.hid (by have := over_out HX.out (.inl rfl) ST.out.eq; rwa [if_neg he] at this)
              have LL : Hid ((acc ++ [(xc, xv)]).length ≤ k + 1 + true.toNat) := Lib.hid (by rw [List.length_append, HQ.out]; have := QK.out; simp at this ⊢; omega)
              clear he
              go_wp2_with (at_builtin; refine stopped ?_)
              refine Lib.hid ?_
              refine wpList_app _ (by rfl) (.tmp 61) (.tmp 69) _ (by rfl) elem_wrote (.slice Al q cl) _ (by rfl) (by rfl) (own_upd0 O1.out ((Upd.refl [] wi).alloc _)) (.of_blk (Blk.new _ _ _) (m := 1) 1 rfl) (by intro u hu; simp at hu; rcases hu with rfl | rfl <;> rfl) (by simp only [maxLen]; omega) (by omega) (Nat.le_trans U1.out.size (by simp)) ?_
              intro v5 w5 o5 u5 b5
              obtain ⟨A5, c5, rfl, _, _⟩ := own_slice o5
              have U5 : Hid (Upd [] w w5) := Lib.hid (U1.out.trans' (((Upd.refl _ wi).alloc _).trans u5) (fun k hk => .inr (own_lt O1.out (by simpa using hk)).1))
              have O5 : Hid (w5.ownsRow w.heap.size 55 2 (.slice A5 (q + 1) c5) (q + 1) (flat encW (acc ++ [(xc, xv)]))) := Lib.hid (by
                rw [flat_append]
                exact o5)
              clear o5 u5 b5
              have OO : Hid (Ow encW 55 w5 w.heap.size (.slice A5 (q + 1) c5) (acc ++ [(xc, xv)])) := Lib.hid (by unfold Ow; rw [List.length_append, HQ.out]; exact O5.out)
              go_wp2_with fail
              go_roundw
              case rel => exact ⟨k + 1, true, rfl, by go_num, by omega, Lib.hid ⟨_, OO.out, U5.out, E1.out, LL.out⟩⟩
              case measure => simp [intOf]; omega
          | false =>
            go_wp2_with (at_builtin; refine stopped ?_)
            refine Lib.hid ?_
            refine wpList_app _ (by rfl) (.tmp 45) (.tmp 49) _ (by rfl) elem_wrote (.slice Al q cl) _ (by rfl) (by rfl) (own_upd0 O1.out ((Upd.refl [] wi).alloc _)) (.of_blk (Blk.new _ _ _) (m := 1) 1 rfl) (by intro u hu; simp at hu; rcases hu with rfl | rfl <;> rfl) (by simp only [maxLen]; omega) (by omega) (Nat.le_trans U1.out.size (by simp)) ?_
            intro v5 w4 o5 u5 b5
            obtain ⟨A4, c4, rfl, _, _⟩ := own_slice o5
            have U4 : Hid (Upd [] w w4) := Lib.hid (U1.out.trans' (((Upd.refl _ wi).alloc _).trans u5) (fun k hk => .inr (own_lt O1.out (by simpa using hk)).1))
            have O4 : Hid (w4.ownsRow w.heap.size 55 2 (.slice A4 (q + 1) c4) (q + 1) (flat encW (acc ++ [(c, x)]))) := Lib.hid (by
              rw [flat_append]
              exact o5)
            clear o5 u5 b5
            clear f1 c1
            have f1 := HOW.out w4 U4.out
            by_cases he : xc = c
            · have d2 : (xc != c) = false := by simpa using he
              have E1 : Hid (acc ++ [(c, x)] ++ over c x (d.W.drop (k + 1)) true = over c x d.W false) := Lib.hid (by have := over_in HX.out hc ST.out.eq; rwa [if_pos he] at this)
              have LL : Hid ((acc ++ [(c, x)]).length ≤ k + 1 + true.toNat) := Lib.hid (by rw [List.length_append, HQ.out]; have := QK.out; simp at this ⊢; omega)
              have OO : Hid (Ow encW 55 w4 w.heap.size (.slice A4 (q + 1) c4) (acc ++ [(c, x)])) := Lib.hid (by unfold Ow; rw [List.length_append, HQ.out]; exact O4.out)
              clear he
              go_wp2_with fail
              go_roundw
              case rel => exact ⟨k + 1, true, rfl, by go_num, by omega, Lib.hid ⟨_, OO.out, U4.out, E1.out, LL.out⟩⟩
              case measure => simp [intOf]; omega
            · have d2 : (xc != c) = true := by simpa using he
              have E1 : Hid (acc ++ [(c, x)] ++ [(xc, xv)] ++ over c x (d.W.drop (k + 1)) true = over c x d.W false) := Lib.hid (by have := over_in HX.out hc ST.out.eq; rwa [if_neg he] at this)
              clear he
              go_wp2_with (at_builtin; refine stopped ?_)
              refine Lib.hid ?_
              refine wpList_app _ (by rfl) (.tmp 61) (.tmp 69) _ (by rfl) elem_wrote (.slice A4 (q + 1) c4) _ (by rfl) (by rfl) (own_upd0 O4.out ((Upd.refl [] w4).alloc _)) (.of_blk (Blk.new _ _ _) (m := 1) 1 rfl) (by intro u hu; simp at hu; rcases hu with rfl | rfl <;> rfl) (by simp only [maxLen]; omega) (by omega) (Nat.le_trans U4.out.size (by simp)) ?_
              intro v5 w5 o5 u5 b5
              obtain ⟨A5, c5, rfl, _, _⟩ := own_slice o5
              have U5 : Hid (Upd [] w w5) := Lib.hid (U4.out.trans' (((Upd.refl _ w4).alloc _).trans u5) (fun k hk => .inr (own_lt O4.out (by simpa using hk)).1))
              have O5 : Hid (w5.ownsRow w.heap.size 55 2 (.slice A5 ((q + 1) + 1) c5) ((q + 1) + 1) (flat encW ((acc ++ [(c, x)]) ++ [(xc, xv)]))) := Lib.hid (by
                rw [flat_append]
                exact o5)
              clear o5 u5 b5
              have OO : Hid (Ow encW 55 w5 w.heap.size (.slice A5 (q + 1 + 1) c5) (acc ++ [(c, x)] ++ [(xc, xv)])) := Lib.hid (by unfold Ow; rw [List.length_append, List.length_append, HQ.out]; exact O5.out)
              have LL : Hid ((acc ++ [(c, x)] ++ [(xc, xv)]).length ≤ k + 1 + true.toNat) := Lib.hid (by rw [List.length_append, List.length_append, HQ.out]; have := QK.out; simp at this ⊢; omega)
              go_wp2_with fail
              go_roundw
              case rel => exact ⟨k + 1, true, rfl, by go_num, by omega, Lib.hid ⟨_, OO.out, U5.out, E1.out, LL.out⟩⟩
              case measure => simp [intOf]; omega
        · have d1 : decide (c ≤ xc) = false := by simpa using hc
          by_cases he : xc = c
          · have d2 : (xc != c) = false := by simpa using he
            have E1 : Hid (acc ++ over c x (d.W.drop (k + 1)) done = over c x d.W false) := Lib.hid (by have := over_out HX.out (.inr hc) ST.out.eq; rwa [if_pos he] at this)
            have LL : Hid (acc.length ≤ k + 1 + done.toNat) := Lib.hid (by rw [HQ.out]; have := QK.out; omega)
            have OO : Hid (Ow encW 55 wi w.heap.size (.slice Al q cl) acc) := Lib.hid (by unfold Ow; rw [HQ.out]; exact O1.out)
            clear he
            go_wp2_with fail
            go_roundw
            case rel => exact ⟨k + 1, done, rfl, by go_num, by omega, Lib.hid ⟨_, OO.out, U1.out, E1.out, LL.out⟩⟩
            case measure => simp [intOf]; omega
          · have d2 : (xc != c) = true := by simpa using he
            have E1 : Hid (acc ++ [(xc, xv)] ++ over c x (d.W.drop (k + 1)) done = over c x d.W false) := Lib.hid (by have := over_out HX.out (.inr hc) ST.out.eq; rwa [if_neg he] at this)
            have LL : Hid ((acc ++ [(xc, xv)]).length ≤ k + 1 + done.toNat) := Lib.hid (by rw [List.length_append, HQ.out]; have := QK.out; simp at this ⊢; omega)
            clear he
            go_wp2_with (at_builtin; refine stopped ?_)
            refine Lib.hid ?_
            refine wpList_app _ (by rfl) (.tmp 61) (.tmp 69) _ (by rfl) elem_wrote (.slice Al q cl) _ (by rfl) (by rfl) (own_upd0 O1.out ((Upd.refl [] wi).alloc _)) (.of_blk (Blk.new _ _ _) (m := 1) 1 rfl) (by intro u hu; simp at hu; rcases hu with rfl | rfl <;> rfl) (by simp only [maxLen]; omega) (by omega) (Nat.le_trans U1.out.size (by simp)) ?_
            intro v5 w5 o5 u5 b5
            obtain ⟨A5, c5, rfl, _, _⟩ := own_slice o5
            have U5 : Hid (Upd [] w w5) := Lib.hid (U1.out.trans' (((Upd.refl _ wi).alloc _).trans u5) (fun k hk => .inr (own_lt O1.out (by simpa using hk)).1))
            have O5 : Hid (w5.ownsRow w.heap.size 55 2 (.slice A5 (q + 1) c5) (q + 1) (flat encW (acc ++ [(xc, xv)]))) := Lib.hid (by
              rw [flat_append]
              exact o5)
            clear o5 u5 b5
            have OO : Hid (Ow encW 55 w5 w.heap.size (.slice A5 (q + 1) c5) (acc ++ [(xc, xv)])) := Lib.hid (by unfold Ow; rw [List.length_append, HQ.out]; exact O5.out)
            go_wp2_with fail
            go_roundw
            case rel => exact ⟨k + 1, done, rfl, by go_num, by omega, Lib.hid ⟨_, OO.out, U5.out, E1.out, LL.out⟩⟩
            case measure => simp [intOf]; omega
      · have : k = n := by omega
        subst this
        have HD : Hid (d.W.drop k = []) := Lib.hid (List.drop_eq_nil_of_le (by rw [HN.out]; exact Nat.le_refl _))
        cases done with
        | true =>
          have EE : Hid (acc = over c x d.W false) := Lib.hid (by have := ST.out.eq; rw [HD.out] at this; simpa [over] using this)
          have OO : Hid (Ow encW 55 wi w.heap.size (.slice Al q cl) acc) := Lib.hid (by unfold Ow; rw [HQ.out]; exact O1.out)
          have f0 : wi.cell? ⟨rb, 1, none⟩ = some (.slice A k ca) := (HB.out.upd U1.out (by simp)).cell 1
          have f1 : wi.frozen? ⟨rb, 1, none⟩ = false := (HB.out.upd U1.out (by simp)).frozen 1
          have f2 : rb < wi.heap.size := (HB.out.upd U1.out (by simp)).lt
          go_wp2_with fail
          go_ret
          unfold RWritePost
          have GD := goodD_write HG.out c x
          unfold dWrite at GD ⊢
          rw [if_pos HE.out] at GD ⊢
          rw [← over_put HG.out.srt] at GD ⊢
          rw [← EE.out] at GD ⊢
          have HS1 := HS.out.upd0 U1.out
          have UF : Upd [rb] wi (wi.setCell ⟨rb, 1, none⟩ (.slice Al q cl)) := (Upd.refl [rb] wi).setCell (.inl (by simp)) _
          refine ⟨fpD rb vr (.slice Al q cl) vm ms, by rw [HE.out]; rfl, ⟨GD, _, _, _, _, rfl, HS1.turn UF (by simp) (by have := HS1.box.set_eq (i := 1) (u := .slice Al q cl) rfl; exact this) (.inr ⟨rfl, rfl⟩) (.inl ?_) (.inr ⟨rfl, rfl, rfl⟩)⟩, ?_, ?_⟩
          · exact Ow.upd (own_base OO.out hBw) UF (by intro b hb; simp; rintro rfl; exact own_type OO.out HS1.box (by decide) hb)
          · rw [HF.out]
            exact (U1.out.mono (by simp)).trans (UF.mono (by intro y hy; simp at hy; subst hy; exact .inl (by simp [fpD])))
          · rw [HF.out]
            intro y hy
            unfold fpD at hy ⊢
            simp only [List.mem_cons, List.mem_append, Option.mem_toList] at hy ⊢
            rcases hy with rfl | ((hy | hy) | hy) | hy
            · simp
            · simp [hy]
            · exact .inr (own_lt OO.out hy).1
            · simp [hy]
            · simp [hy]
        | false =>
          have EE : Hid (acc ++ [(c, x)] = over c x d.W false) := Lib.hid (by have := ST.out.eq; rw [HD.out] at this; simpa [over] using this)
          go_wp2_with (at_builtin; refine stopped ?_)
          refine Lib.hid ?_
          refine wpList_app _ (by rfl) (.tmp 73) (.tmp 77) _ (by rfl) elem_wrote (.slice Al q cl) _ (by rfl) (by rfl) (own_upd0 O1.out ((Upd.refl [] wi).alloc _)) (.of_blk (Blk.new _ _ _) (m := 1) 1 rfl) (by intro u hu; simp at hu; rcases hu with rfl | rfl <;> rfl) (by simp only [maxLen]; omega) (by omega) (Nat.le_trans U1.out.size (by simp)) ?_
          intro v5 w5 o5 u5 b5
          obtain ⟨A5, c5, rfl, _, _⟩ := own_slice o5
          have U5 : Hid (Upd [] w w5) := Lib.hid (U1.out.trans' (((Upd.refl _ wi).alloc _).trans u5) (fun k hk => .inr (own_lt O1.out (by simpa using hk)).1))
          have O5 : Hid (w5.ownsRow w.heap.size 55 2 (.slice A5 (q + 1) c5) (q + 1) (flat encW (acc ++ [(c, x)]))) := Lib.hid (by
            rw [flat_append]
            exact o5)
          clear o5 u5 b5
          have OO : Hid (Ow encW 55 w5 w.heap.size (.slice A5 (q + 1) c5) (acc ++ [(c, x)])) := Lib.hid (by unfold Ow; rw [List.length_append, HQ.out]; exact O5.out)
          clear c1
          have f0 : w5.cell? ⟨rb, 1, none⟩ = some (.slice A k ca) := (HB.out.upd U5.out (by simp)).cell 1
          have f1 : w5.frozen? ⟨rb, 1, none⟩ = false := (HB.out.upd U5.out (by simp)).frozen 1
          have f2 : rb < w5.heap.size := (HB.out.upd U5.out (by simp)).lt
          go_wp2_with fail
          go_ret
          unfold RWritePost
          have GD := goodD_write HG.out c x
          unfold dWrite at GD ⊢
          rw [if_pos HE.out] at GD ⊢
          rw [← over_put HG.out.srt] at GD ⊢
          rw [← EE.out] at GD ⊢
          have HS1 := HS.out.upd0 U5.out
          have UF : Upd [rb] w5 (w5.setCell ⟨rb, 1, none⟩ (.slice A5 (q + 1) c5)) := (Upd.refl [rb] w5).setCell (.inl (by simp)) _
          refine ⟨fpD rb vr (.slice A5 (q + 1) c5) vm ms, by rw [HE.out]; rfl, ⟨GD, _, _, _, _, rfl, HS1.turn UF (by simp) (by have := HS1.box.set_eq (i := 1) (u := .slice A5 (q + 1) c5) rfl; exact this) (.inr ⟨rfl, rfl⟩) (.inl ?_) (.inr ⟨rfl, rfl, rfl⟩)⟩, ?_, ?_⟩
          · exact Ow.upd (own_base OO.out hBw) UF (by intro b hb; simp; rintro rfl; exact own_type OO.out HS1.box (by decide) hb)
          · rw [HF.out]
            exact (U5.out.mono (by simp)).trans (UF.mono (by intro y hy; simp at hy; subst hy; exact .inl (by simp [fpD])))
          · rw [HF.out]
            intro y hy
            unfold fpD at hy ⊢
            simp only [List.mem_cons, List.mem_append, Option.mem_toList] at hy ⊢
            rcases hy with rfl | ((hy | hy) | hy) | hy
            · simp
            · simp [hy]
            · exact .inr (own_lt OO.out hy).1
            · simp [hy]
            · simp [hy]
  | none =>
    have HE8 := HGN.out hg
    obtain ⟨pv, hpv⟩ : ∃ p, posW d.W c = p := ⟨_, rfl⟩
    have q0 : pv < 0 := by rw [← hpv, posW_none hg]; omega
    rw [hpv]
    clear hg hpv
    by_cases h5 : 500 ≤ n
    · have d5 : decide ((500 : Int) ≤ (n : Int)) = true := by simp; omega
      go_wp2_with fail
      go_ret
      unfold RWritePost dWrite
      rw [HE8.out, if_pos h5, if_neg (by omega)]
      exact ⟨_, rfl, H.out, .refl _ _⟩
    · have d5 : decide ((500 : Int) ≤ (n : Int)) = false := by simp; omega
      have HE : Hid (wErr d.W c = 0) := Lib.hid (by rw [HE8.out, if_neg h5])
      clear c1
      have c1 : w.cell? ⟨rb, 1, none⟩ = some (.slice A n ca) := HB.out.cell 1
      go_wp2_with fail
      go_loopw [7, 8, 9] (fun vl vp vi wr => ∃ (k : Nat) (done : Bool), vp = .bool done ∧ vi = .int .i64 k ∧ k ≤ n ∧ Hid (∃ acc, WrI d.W c x w vl acc done k wr)) (fun _ _ v _ => n - (intOf v).toNat)
      case atStart => exact ⟨0, false, rfl, rfl, by omega, Lib.hid ⟨[], Ow.nil _ _ _ _, .refl _ _, rfl, by simp⟩⟩
      case round =>
        obtain ⟨k, done, rfl, rfl, hk, acc, hst⟩ := hrel
        rename World => wi
        have ST := Lib.hid hst
        obtain ⟨Al, cl, rfl, _, _⟩ := own_slice hst.own
        obtain ⟨q, hq⟩ : ∃ q, acc.length = q := ⟨_, rfl⟩
        have HQ := Lib.hid hq
        have QK : Hid (q ≤ k + done.toNat) := Lib.hid (hq ▸ hst.len)
        have hqk : q ≤ k + 1 := by have := QK.out; have := Bool.toNat_le done; omega
        rw [hq] at ST ⊢
        have O1 : Hid (wi.ownsRow w.heap.size 55 2 (.slice Al q cl) q (flat encW acc)) := Lib.hid (by have := ST.out.own; unfold Ow at this; rw [hq] at this; exact this)
        have U1 := Lib.hid hst.upd
        have HB1 := Lib.hid (HB.out.upd U1.out (by simp))
        have c1 : wi.cell? ⟨rb, 1, none⟩ = some (.slice A n ca) := HB1.out.cell 1
        clear hst hq
        by_cases hkn : k < n
        · obtain ⟨⟨xc, xv⟩, hx⟩ : ∃ x, d.W[k]? = some x := ⟨_, List.getElem?_eq_getElem (by rw [HN.out]; omega)⟩
          obtain ⟨gw, cg, cur, e1, _⟩ := own_form OO0.out (by omega)
          injection e1 with e1 _ e1'
          subst e1 e1'
          have HX := Lib.hid hx
          have HOW : Hid (∀ W, Upd [] w W → W.cell? ⟨gw, k * 2, none⟩ = some (.int .u64 xc) ∧ W.cell? ⟨gw, k * 2 + 1, none⟩ = some (.int .u64 xv) ∧ W.cell? ⟨rb, 1, none⟩ = some (.slice (some ⟨gw, 0, none⟩) n ca)) := Lib.hid (fun W hW => ⟨(HO.out.upd0 hW).at_ hx 0 _ rfl, (HO.out.upd0 hW).at_ hx 1 _ rfl, (HB.out.upd hW (by simp)).cell 1⟩)
          have f1 := HOW.out wi U1.out
          have q1 : (0 : Int) ≤ (k : Int) := by omega
          have q2 : (k : Int) < (n : Int) := by omega
          clear hx
          by_cases hc : c ≤ xc
          · have d1 : decide (c ≤ xc) = true := by simpa using hc
            cases done with
            | true =>
              by_cases he : xc = c
              · have d2 : (xc != c) = false := by simpa using he
                have E1 : Hid (acc ++ over c x (d.W.drop (k + 1)) true = over c x d.W false) := Lib.hid (by have := over_out HX.out (.inl rfl) ST.out.eq; rwa [if_pos he] at this)
                have LL : Hid (acc.length ≤ k + 1 + true.toNat) := Lib.hid (by rw [HQ.out]; have := QK.out; omega)
                have OO : Hid (Ow encW 55 wi w.heap.size (.slice Al q cl) acc) := Lib.hid (by unfold Ow; rw [HQ.out]; exact O1.out)
                clear he
                go_wp2_with fail
                go_roundw
                case rel => exact ⟨k + 1, true, rfl, by go_num, by omega, Lib.hid ⟨_, OO.out, U1.out, E1.out, LL.out⟩⟩
                case measure => simp [intOf]; omega
              · have d2 : (xc != c) = true := by simpa using he
                have E1 : Hid (acc ++ [(xc, xv)] ++ over c x (d.W.drop (k + 1)) true = over c x d.W false) := Lib.hid (by have := over_out HX.out (.inl rfl) ST.out.eq; rwa [if_neg he] at this)
                have LL : Hid ((acc ++ [(xc, xv)]).length ≤ k + 1 + true.toNat) := Lib.hid (by rw [List.length_append, HQ.out]; have := QK.out; simp at this ⊢; omega)
                clear he
                go_wp2_with (at_builtin; refine stopped ?_)
                refine Lib.hid ?_
                refine wpList_app _ (by rfl) (.tmp 61) (.tmp 69) _ (by rfl) elem_wrote (.slice Al q cl) _ (by rfl) (by rfl) (own_upd0 O1.out ((Upd.refl [] wi).alloc _)) (.of_blk (Blk.new _ _ _) (m := 1) 1 rfl) (by intro u hu; simp at hu; rcases hu with rfl | rfl <;> rfl) (by simp only [maxLen]; omega) (by omega) (Nat.le_trans U1.out.size (by simp)) ?_
                intro v5 w5 o5 u5 b5
                obtain ⟨A5, c5, rfl, _, _⟩ := own_slice o5
                have U5 : Hid (Upd [] w w5) := Lib.hid (U1.out.trans' (((Upd.refl _ wi).alloc _).trans u5) (fun k hk => .inr (own_lt O1.out (by simpa using hk)).1))
                have O5 : Hid (w5.ownsRow w.heap.size 55 2 (.slice A5 (q + 1) c5) (q + 1) (flat encW (acc ++ [(xc, xv)]))) := Lib.hid (by
                  rw [flat_append]
                  exact o5)
                clear o5 u5 b5
                have OO : Hid (Ow encW 55 w5 w.heap.size (.slice A5 (q + 1) c5) (acc ++ [(xc, xv)])) := Lib.hid (by unfold Ow; rw [List.length_append, HQ.out]; exact O5.out)
                go_wp2_with fail
                go_roundw
                case rel => exact ⟨k + 1, true, rfl, by go_num, by omega, Lib.hid ⟨_, OO.out, U5.out, E1.out, LL.out⟩⟩
                case measure => simp [intOf]; omega
            | false =>
              go_wp2_with (at_builtin; refine stopped ?_)
              refine Lib.hid ?_
              refine wpList_app _ (by rfl) (.tmp 45) (.tmp 49) _ (by rfl) elem_wrote (.slice Al q cl) _ (by rfl) (by rfl) (own_upd0 O1.out ((Upd.refl [] wi).alloc _)) (.of_blk (Blk.new _ _ _) (m := 1) 1 rfl) (by intro u hu; simp at hu; rcases hu with rfl | rfl <;> rfl) (by simp only [maxLen]; omega) (by omega) (Nat.le_trans U1.out.size (by simp)) ?_
              intro v5 w4 o5 u5 b5
              obtain ⟨A4, c4, rfl, _, _⟩ := own_slice o5
              have U4 : Hid (Upd [] w w4) := Lib.hid (U1.out.trans' (((Upd.refl _ wi).alloc _).trans u5) (fun k hk => .inr (own_lt O1.out (by simpa using hk)).1))
              have O4 : Hid (w4.ownsRow w.heap.size 55 2 (.slice A4 (q + 1) c4) (q + 1) (flat encW (acc ++ [(c, x)]))) := Lib.hid (by
                rw [flat_append]
                exact o5)
              clear o5 u5 b5
              clear f1 c1
              have f1 := HOW.out w4 U4.out
              by_cases he : xc = c
              · have d2 : (xc != c) = false := by simpa using he
                have E1 : Hid (acc ++ [(c, x)] ++ over c x (d.W.drop (k + 1)) true = over c x d.W false) := Lib.hid (by have := over_in HX.out hc ST.out.eq; rwa [if_pos he] at this)
                have LL : Hid ((acc ++ [(c, x)]).length ≤ k + 1 + true.toNat) := Lib.hid (by rw [List.length_append, HQ.out]; have := QK.out; simp at this ⊢; omega)
                have OO : Hid (Ow encW 55 w4 w.heap.size (.slice A4 (q + 1) c4) (acc ++ [(c, x)])) := Lib.hid (by unfold Ow; rw [List.length_append, HQ.out]; exact O4.out)
                clear he
                go_wp2_with fail
                go_roundw
                case rel => exact ⟨k + 1, true, rfl, by go_num, by omega, Lib.hid ⟨_, OO.out, U4.out, E1.out, LL.out⟩⟩
                case measure => simp [intOf]; omega
              · have d2 : (xc != c) = true := by simpa using he
                have E1 : Hid (acc ++ [(c, x)] ++ [(xc, xv)] ++ over c x (d.W.drop (k + 1)) true = over c x d.W false) := Lib.hid (by have := over_in HX.out hc ST.out.eq; rwa [if_neg he] at this)
                clear he
                go_wp2_with (at_builtin; refine stopped ?_)
                refine Lib.hid ?_
                refine wpList_app _ (by rfl) (.tmp 61) (.tmp 69) _ (by rfl) elem_wrote (.slice A4 (q + 1) c4) _ (by rfl) (by rfl) (own_upd0 O4.out ((Upd.refl [] w4).alloc _)) (.of_blk (Blk.new _ _ _) (m := 1) 1 rfl) (by intro u hu; simp at hu; rcases hu with rfl | rfl <;> rfl) (by simp only [maxLen]; omega) (by omega) (Nat.le_trans U4.out.size (by simp)) ?_
                intro v5 w5 o5 u5 b5
                obtain ⟨A5, c5, rfl, _, _⟩ := own_slice o5
                have U5 : Hid (Upd [] w w5) := Lib.hid (U4.out.trans' (((Upd.refl _ w4).alloc _).trans u5) (fun k hk => .inr (own_lt O4.out (by simpa using hk)).1))
                have O5 : Hid (w5.ownsRow w.heap.size 55 2 (.slice A5 ((q + 1) + 1) c5) ((q + 1) + 1) (flat encW ((acc ++ [(c, x)]) ++ [(xc, xv)]))) := Lib.hid (by
                  rw [flat_append]
                  exact o5)
                clear o5 u5 b5
                have OO : Hid (Ow encW 55 w5 w.heap.size (.slice A5 (q + 1 + 1) c5) (acc ++ [(c, x)] ++ [(xc, xv)])) := Lib.hid (by unfold Ow; rw [List.length_append, List.length_append, HQ.out]; exact O5.out)
                have LL : Hid ((acc ++ [(c, x)] ++ [(xc, xv)]).length ≤ k + 1 + true.toNat) := Lib.hid (by rw [List.length_append, List.length_append, HQ.out]; have := QK.out; simp at this ⊢; omega)
                go_wp2_with fail
                go_roundw
                case rel => exact ⟨k + 1, true, rfl, by go_num, by omega, Lib.hid ⟨_, OO.out, U5.out, E1.out, LL.out⟩⟩
                case measure => simp [intOf]; omega
          · have d1 : decide (c ≤ xc) = false := by simpa using hc
            by_cases he : xc = c
            · have d2 : (xc != c) = false := by simpa using he
              have E1 : Hid (acc ++ over c x (d.W.drop (k + 1)) done = over c x d.W false) := Lib.hid (by have := over_out HX.out (.inr hc) ST.out.eq; rwa [if_pos he] at this)
              have LL : Hid (acc.length ≤ k + 1 + done.toNat) := Lib.hid (by rw [HQ.out]; have := QK.out; omega)
              have OO : Hid (Ow encW 55 wi w.heap.size (.slice Al q cl) acc) := Lib.hid (by unfold Ow; rw [HQ.out]; exact O1.out)
              clear he
              go_wp2_with fail
              go_roundw
              case rel => exact ⟨k + 1, done, rfl, by go_num, by omega, Lib.hid ⟨_, OO.out, U1.out, E1.out, LL.out⟩⟩
              case measure => simp [intOf]; omega
            · have d2 : (xc != c) = true := by simpa using he
              have E1 : Hid (acc ++ [(xc, xv)] ++ over c x (d.W.drop (k + 1)) done = over c x d.W false) := Lib.hid (by have := over_out HX.out (.inr hc) ST.out.eq; rwa [if_neg he] at this)
              have LL : Hid ((acc ++ [(xc, xv)]).length ≤ k + 1 + done.toNat) := Lib.hid (by rw [List.length_append, HQ.out]; have := QK.out; simp at this ⊢; omega)
              clear he
              go_wp2_with (at_builtin; refine stopped ?_)
              refine Lib.hid ?_
              refine wpList_app _ (by rfl) (.tmp 61) (.tmp 69) _ (by rfl) elem_wrote (.slice Al q cl) _ (by rfl) (by rfl) (own_upd0 O1.out ((Upd.refl [] wi).alloc _)) (.of_blk (Blk.new _ _ _) (m := 1) 1 rfl) (by intro u hu; simp at hu; rcases hu with rfl | rfl <;> rfl) (by simp only [maxLen]; omega) (by omega) (Nat.le_trans U1.out.size (by simp)) ?_
              intro v5 w5 o5 u5 b5
              obtain ⟨A5, c5, rfl, _, _⟩ := own_slice o5
              have U5 : Hid (Upd [] w w5) := Lib.hid (U1.out.trans' (((Upd.refl _ wi).alloc _).trans u5) (fun k hk => .inr (own_lt O1.out (by simpa using hk)).1))
              have O5 : Hid (w5.ownsRow w.heap.size 55 2 (.slice A5 (q + 1) c5) (q + 1) (flat encW (acc ++ [(xc, xv)]))) := Lib.hid (by
                rw [flat_append]
                exact o5)
              clear o5 u5 b5
              have OO : Hid (Ow encW 55 w5 w.heap.size (.slice A5 (q + 1) c5) (acc ++ [(xc, xv)])) := Lib.hid (by unfold Ow; rw [List.length_append, HQ.out]; exact O5.out)
              go_wp2_with fail
              go_roundw
              case rel => exact ⟨k + 1, done, rfl, by go_num, by omega, Lib.hid ⟨_, OO.out, U5.out, E1.out, LL.out⟩⟩
              case measure => simp [intOf]; omega
        · have : k = n := by omega
          subst this
          have HD : Hid (d.W.drop k = []) := Lib.hid (List.drop_eq_nil_of_le (by rw [HN.out]; exact Nat.le_refl _))
          cases done with
          | true =>
            have EE : Hid (acc = over c x d.W false) := Lib.hid (by have := ST.out.eq; rw [HD.out] at this; simpa [over] using this)
            have OO : Hid (Ow encW 55 wi w.heap.size (.slice Al q cl) acc) := Lib.hid (by unfold Ow; rw [HQ.out]; exact O1.out)
            have f0 : wi.cell? ⟨rb, 1, none⟩ = some (.slice A k ca) := (HB.out.upd U1.out (by simp)).cell 1
            have f1 : wi.frozen? ⟨rb, 1, none⟩ = false := (HB.out.upd U1.out (by simp)).frozen 1
            have f2 : rb < wi.heap.size := (HB.out.upd U1.out (by simp)).lt
            go_wp2_with fail
            go_ret
            unfold RWritePost
            have GD := goodD_write HG.out c x
            unfold dWrite at GD ⊢
            rw [if_pos HE.out] at GD ⊢
            rw [← over_put HG.out.srt] at GD ⊢
            rw [← EE.out] at GD ⊢
            have HS1 := HS.out.upd0 U1.out
            have UF : Upd [rb] wi (wi.setCell ⟨rb, 1, none⟩ (.slice Al q cl)) := (Upd.refl [rb] wi).setCell (.inl (by simp)) _
            refine ⟨fpD rb vr (.slice Al q cl) vm ms, by rw [HE.out]; rfl, ⟨GD, _, _, _, _, rfl, HS1.turn UF (by simp) (by have := HS1.box.set_eq (i := 1) (u := .slice Al q cl) rfl; exact this) (.inr ⟨rfl, rfl⟩) (.inl ?_) (.inr ⟨rfl, rfl, rfl⟩)⟩, ?_, ?_⟩
            · exact Ow.upd (own_base OO.out hBw) UF (by intro b hb; simp; rintro rfl; exact own_type OO.out HS1.box (by decide) hb)
            · rw [HF.out]
              exact (U1.out.mono (by simp)).trans (UF.mono (by intro y hy; simp at hy; subst hy; exact .inl (by simp [fpD])))
            · rw [HF.out]
              intro y hy
              unfold fpD at hy ⊢
              simp only [List.mem_cons, List.mem_append, Option.mem_toList] at hy ⊢
              rcases hy with rfl | ((hy | hy) | hy) | hy
              · simp
              · simp [hy]
              · exact .inr (own_lt OO.out hy).1
              · simp [hy]
              · simp [hy]
          | false =>
            have EE : Hid (acc ++ [(c, x)] = over c x d.W false) := Lib.hid (by have := ST.out.eq; rw [HD.out] at this; simpa [over] using this)
            go_wp2_with (at_builtin; refine stopped ?_)
            refine Lib.hid ?_
            refine wpList_app _ (by rfl) (.tmp 73) (.tmp 77) _ (by rfl) elem_wrote (.slice Al q cl) _ (by rfl) (by rfl) (own_upd0 O1.out ((Upd.refl [] wi).alloc _)) (.of_blk (Blk.new _ _ _) (m := 1) 1 rfl) (by intro u hu; simp at hu; rcases hu with rfl | rfl <;> rfl) (by simp only [maxLen]; omega) (by omega) (Nat.le_trans U1.out.size (by simp)) ?_
            intro v5 w5 o5 u5 b5
            obtain ⟨A5, c5, rfl, _, _⟩ := own_slice o5
            have U5 : Hid (Upd [] w w5) := Lib.hid (U1.out.trans' (((Upd.refl _ wi).alloc _).trans u5) (fun k hk => .inr (own_lt O1.out (by simpa using hk)).1))
            have O5 : Hid (w5.ownsRow w.heap.size 55 2 (.slice A5 (q + 1) c5) (q + 1) (flat encW (acc ++ [(c, x)]))) := Lib.hid (by
              rw [flat_append]
              exact o5)
            clear o5 u5 b5
            have OO : Hid (Ow encW 55 w5 w.heap.size (.slice A5 (q + 1) c5) (acc ++ [(c, x)])) := Lib.hid (by unfold Ow; rw [List.length_append, HQ.out]; exact O5.out)
            clear c1
            have f0 : w5.cell? ⟨rb, 1, none⟩ = some (.slice A k ca) := (HB.out.upd U5.out (by simp)).cell 1
            have f1 : w5.frozen? ⟨rb, 1, none⟩ = false := (HB.out.upd U5.out (by simp)).frozen 1
            have f2 : rb < w5.heap.size := (HB.out.upd U5.out (by simp)).lt
            go_wp2_with fail
            go_ret
            unfold RWritePost
            have GD := goodD_write HG.out c x
            unfold dWrite at GD ⊢
            rw [if_pos HE.out] at GD ⊢
            rw [← over_put HG.out.srt] at GD ⊢
            rw [← EE.out] at GD ⊢
            have HS1 := HS.out.upd0 U5.out
            have UF : Upd [rb] w5 (w5.setCell ⟨rb, 1, none⟩ (.slice A5 (q + 1) c5)) := (Upd.refl [rb] w5).setCell (.inl (by simp)) _
            refine ⟨fpD rb vr (.slice A5 (q + 1) c5) vm ms, by rw [HE.out]; rfl, ⟨GD, _, _, _, _, rfl, HS1.turn UF (by simp) (by have := HS1.box.set_eq (i := 1) (u := .slice A5 (q + 1) c5) rfl; exact this) (.inr ⟨rfl, rfl⟩) (.inl ?_) (.inr ⟨rfl, rfl, rfl⟩)⟩, ?_, ?_⟩
            · exact Ow.upd (own_base OO.out hBw) UF (by intro b hb; simp; rintro rfl; exact own_type OO.out HS1.box (by decide) hb)
            · rw [HF.out]
              exact (U5.out.mono (by simp)).trans (UF.mono (by intro y hy; simp at hy; subst hy; exact .inl (by simp [fpD])))
            · rw [HF.out]
              intro y hy
              unfold fpD at hy ⊢
              simp only [List.mem_cons, List.mem_append, Option.mem_toList] at hy ⊢
              rcases hy with rfl | ((hy | hy) | hy) | hy
              · simp
              · simp [hy]
              · exact .inr (own_lt OO.out hy).1
              · simp [hy]
              · simp [hy]
end Go.Proofs.YtbpmkbcpnnpdjaaDoor

/-
  model.State: Range, List, Kinds.
-/
import Derived.Test.YtjlpogmoebmkdaaDoorMdl3
set_option linter.unusedVariables false
namespace Go.Proofs.YtjlpogmoebmkdaaDoor
open Go.RowKit Assoc MP
attribute [local go_sem] litStep_value

def rangeK (xs : List Int) (a b : Int) : Nat := (xs.filter (fun x => decide (a ≤ x) && decide (x ≤ b))).length
theorem rangeK_snoc (xs : List Int) (a b x : Int) : rangeK (xs ++ [x]) a b = rangeK xs a b + if a ≤ x ∧ x ≤ b then 1 else 0 := by
  unfold rangeK
  rw [List.filter_append, List.length_append]
  by_cases h : a ≤ x ∧ x ≤ b
  · simp [h]
  · have : (decide (a ≤ x) && decide (x ≤ b)) = false := by simpa using h
    simp [this, h]
theorem rangeL_eq (l : AL) (a b : Int) : rangeL l a b = rangeK (l.map (·.1)) a b := by
  unfold rangeL rangeK
  rw [List.filter_map, List.length_map]
  rfl
theorem take_snoc_ {α : Type} {L : List α} {k : Nat} {x : α} (h : L[k]? = some x) : L.take (k + 1) = L.take k ++ [x] := by
  obtain ⟨hk, rfl⟩ := List.getElem?_eq_some_iff.1 h
  exact List.take_succ_eq_append_getElem hk
def rangeC (s : MS) (c a b : Int) : Nat := if oErr s c = 0 then rangeL (coll s c.toNat) a b else 0
def MRangePost (s : MS) (c a b : Int) (w : World) (e : Ending) (w' : World) : Prop := ∃ u, e = .returned (.tuple #[.int .i64 (rangeC s c a b : Nat), u]) ∧ ErrV w' u (oErr s c) (if isC s c then 0 else c) ∧ Upd [] w w'
set_option maxRecDepth 100000 in
set_option maxHeartbeats 4000000 in
theorem m_range (B sb : Nat) (F : List Nat) (s : MS) (c a b : Int) (w : World) (h : Mdl B sb F w s) :
    Calls Tryd.prog 13 #[.pointer (some ⟨sb, 0, none⟩), .int .i64 c, .int .i64 a, .int .i64 b] w fun e w' => MRangePost s c a b w e w' := by
  have H := Lib.hid h
  clear h
  go_enter Tryd.func13, Tryd.ntmps13
  go_wp2_with fail
  refine (m_ordered B sb F s c w H.out).mono ?_
  rintro e w1 ⟨v, u, rfl, u1, hor⟩
  have U1 := Lib.hid u1
  clear u1
  rcases hor with ⟨h1, h2, rfl, ho⟩ | hor
  · have HE := Lib.hid h1
    have HC := Lib.hid h2
    have KL := Lib.hid (keys_len H.out.1 h2)
    obtain ⟨A, ca, rfl, hnc, _⟩ := own_slice ho
    obtain ⟨n, hn⟩ : ∃ n, (keysC s c).length = n := ⟨_, rfl⟩
    have HN := Lib.hid hn
    have HO := Lib.hid ho
    have ON : Hid (w1.ownsRow w.heap.size 3 1 (.slice A n ca) n (flat encK (keysC s c))) := Lib.hid (by have := ho; unfold Ow at this; rw [hn] at this; exact this)
    have hn1 : n ≤ 100 := hn ▸ KL.out.1
    rw [hn] at hnc ⊢
    clear ho hn h1 h2
    go_wp2_with fail
    go_loopw [12, 26] (fun vm vk wr => ∃ k : Nat, vk = .int .i64 k ∧ vm = .int .i64 (rangeK ((keysC s c).take k) a b : Nat) ∧ k ≤ n ∧ Hid (rangeK ((keysC s c).take k) a b ≤ k) ∧ Hid (Upd [] w1 wr)) (fun _ v _ => n - (intOf v).toNat)
    case atStart => exact ⟨0, rfl, rfl, by omega, Lib.hid (by simp [rangeK]), Lib.hid (.refl _ _)⟩
    case round =>
      obtain ⟨k, rfl, rfl, hk, HR, HU⟩ := hrel
      obtain ⟨r, hr⟩ : ∃ r, rangeK ((keysC s c).take k) a b = r := ⟨_, rfl⟩
      have HRR := Lib.hid hr
      have hrk : r ≤ k := hr ▸ HR.out
      rw [hr]
      clear hr
      by_cases hkn : k < n
      · obtain ⟨y, hy⟩ : ∃ y, (keysC s c)[k]? = some y := ⟨_, List.getElem?_eq_getElem (by rw [HN.out]; exact hkn)⟩
        obtain ⟨g, cg, cur, e1, _⟩ := own_form ON.out (by omega)
        injection e1 with e1 _ e1'
        subst e1 e1'
        have e0 : wr.cell? ⟨g, k, none⟩ = some (.int .i64 y) := by
          have := own_cell (own_upd0 ON.out HU.out) _ _ ((flat_get (E := encK) hy (j := 0) (by decide)).trans rfl)
          rwa [show k * encK.s + 0 = k by simp [encI]] at this
        have HT := Lib.hid (take_snoc_ hy)
        have q1 : (0 : Int) ≤ (k : Int) := by omega
        have q2 : (k : Int) < (n : Int) := by omega
        clear hy
        by_cases h1 : a ≤ y
        · have d1 : decide (a ≤ y) = true := by simpa using h1
          by_cases h2 : y ≤ b
          · have d2 : decide (y ≤ b) = true := by simpa using h2
            have HZ : Hid (rangeK ((keysC s c).take (k + 1)) a b = r + 1) := Lib.hid (by rw [HT.out, rangeK_snoc, HRR.out, if_pos ⟨h1, h2⟩])
            go_wp2_with fail
            go_roundw
            case rel => exact ⟨k + 1, by go_num, by rw [HZ.out]; go_num, by omega, Lib.hid (by rw [HZ.out]; omega), HU⟩
            case measure => simp [intOf]; omega
          · have d2 : decide (y ≤ b) = false := by simpa using h2
            have HZ : Hid (rangeK ((keysC s c).take (k + 1)) a b = r + 0) := Lib.hid (by rw [HT.out, rangeK_snoc, HRR.out, if_neg (fun h => h2 h.2)])
            go_wp2_with fail
            go_roundw
            case rel => exact ⟨k + 1, by go_num, by rw [HZ.out]; go_num, by omega, Lib.hid (by rw [HZ.out]; omega), HU⟩
            case measure => simp [intOf]; omega
        · have d1 : decide (a ≤ y) = false := by simpa using h1
          have HZ : Hid (rangeK ((keysC s c).take (k + 1)) a b = r + 0) := Lib.hid (by rw [HT.out, rangeK_snoc, HRR.out, if_neg (fun h => h1 h.1)])
          go_wp2_with fail
          go_roundw
          case rel => exact ⟨k + 1, by go_num, by rw [HZ.out]; go_num, by omega, Lib.hid (by rw [HZ.out]; omega), HU⟩
          case measure => simp [intOf]; omega
      · obtain rfl : k = n := by omega
        go_wp2_with fail
        go_ret2
        unfold MRangePost
        have HX : rangeC s c a b = r := by
          unfold rangeC
          rw [HE.out, if_pos rfl, rangeL_eq, ← HRR.out, List.take_of_length_le (by rw [HN.out]; exact Nat.le_refl _)]
          rfl
        rw [HX, HE.out, HC.out]
        exact ⟨_, rfl, ErrV.nil _, U1.out.trans HU.out⟩
  · have EV := Lib.hid (oErr_err hor)
    have HNE : Hid (rangeC s c a b = 0) := Lib.hid (by unfold rangeC; rw [if_neg (by rcases hor with ⟨h, _⟩ | ⟨h, _⟩ <;> omega)])
    have HU : (∃ x, u = .iface 67 x) ∨ ∃ g, u = .iface 76 (.pointer (some ⟨g, 0, none⟩)) := by
      rcases hor with ⟨_, _, _, h⟩ | ⟨_, _, _, g, h, _⟩
      · exact .inl ⟨_, h⟩
      · exact .inr ⟨g, h⟩
    clear hor
    rcases HU with ⟨x, rfl⟩ | ⟨g, rfl⟩
    · go_wp2_with fail
      go_ret2
      unfold MRangePost
      rw [HNE.out]
      exact ⟨_, rfl, EV.out, U1.out⟩
    · go_wp2_with fail
      go_ret2
      unfold MRangePost
      rw [HNE.out]
      exact ⟨_, rfl, EV.out, U1.out⟩
/-- What a collection lists. -/
def listC (s : MS) (c : Int) : AL := if isC s c then coll s c.toNat else []
def ListPost (s : MS) (c : Int) (w : World) (e : Ending) (w' : World) : Prop := ∃ v u, e = .returned (.tuple #[v, u]) ∧ ErrV w' u (if isC s c then 0 else 3) (if isC s c then 0 else c) ∧ Ow encPr 36 w' w.heap.size v (listC s c) ∧ Upd [] w w'
def slLen_ : Value → Nat
  | .slice _ n _ => n
  | _ => 0
set_option maxRecDepth 100000 in
set_option maxHeartbeats 4000000 in
theorem m_list (B sb : Nat) (F : List Nat) (s : MS) (c : Int) (w : World) (h : Mdl B sb F w s) :
    Calls Tryd.prog 9 #[.pointer (some ⟨sb, 0, none⟩), .int .i64 c] w fun e w' => ListPost s c w e w' := by
  have H := Lib.hid h
  obtain ⟨g, vk, gc, cc, ms, hF, h⟩ := h
  have HF := Lib.hid hF
  have HS := Lib.hid h
  have HG := Lib.hid g
  have K8 := Lib.hid (show s.L.length ≤ 8 by have := g.k8; rw [g.kl] at this; exact this)
  clear g hF h
  go_enter Tryd.func9, Tryd.ntmps9
  go_wp2_with fail
  refine (m_coll B sb vk gc cc ms s c w HS.out K8.out).mono ?_
  rintro e w1 (⟨hc, rfl, i, m, rfl, hi, hm, rfl⟩ | ⟨hc, u1, gf, rfl, bf⟩)
  · obtain ⟨m', hm', him⟩ := HS.out.at_ hi
    obtain rfl : m' = m := by rw [hm] at hm'; exact (Option.some.inj hm').symm
    have HI := Lib.hid hc
    have HIM := Lib.hid him
    have HII := Lib.hid hi
    obtain ⟨l, hl⟩ : ∃ l, coll s i = l := ⟨_, rfl⟩
    have HL : Hid (listC s i = l) := Lib.hid (by unfold listC; rw [hc, Int.toNat_natCast]; exact hl)
    have SR : Hid (Srt l ∧ kwf l ∧ l.length ≤ 100) := Lib.hid ⟨hl ▸ HG.out.srt _ (coll_mem hi), hl ▸ good_kwf HG.out hi, hl ▸ HG.out.len _ (coll_mem hi)⟩
    rw [hl] at HIM
    clear hm hm' hi hc him hl
    go_wp2_with fail
    refine (keysM (some m') w).mono ?_; rintro e w1 ⟨rfl, rfl⟩
    have U1 : Hid (Upd [] w (w.alloc (.cells #[.map (some m')] 59))) := Lib.hid ((Upd.refl [] w).alloc _)
    have Y1 : Hid (Blk (w.alloc (.cells #[.map (some m')] 59)) w.heap.size 59 #[.map (some m')]) := Lib.hid (Blk.new w _ _)
    go_wp2_with fail
    generalize (w.alloc (.cells #[.map (some m')] 59)) = w2 at *
    refine (sortedKeys w.heap.size m' l w2 Y1.out (HIM.out.upd U1.out (by simp)) SR.out.1 SR.out.2.1 SR.out.2.2).mono ?_
    rintro e w3 ⟨v, rfl, o3, u3⟩
    have U3 := Lib.hid (U1.out.trans u3)
    obtain ⟨A, ca, rfl, hnc, _⟩ := own_slice o3
    rw [List.length_map] at hnc ⊢
    obtain ⟨n, hn⟩ : ∃ n, l.length = n := ⟨_, rfl⟩
    have HN := Lib.hid hn
    have ON : Hid (w3.ownsRow w2.heap.size 3 1 (.slice A n ca) n (flat encK (l.map (·.1)))) := Lib.hid (by have := o3; unfold Ow at this; rw [List.length_map, hn] at this; exact this)
    have hn1 : n ≤ 100 := hn ▸ SR.out.2.2
    rw [hn] at hnc ⊢
    clear o3 u3 hn Y1 U1
    go_wp2_with fail
    go_loopw [8, 24] (fun vl vk wr => ∃ k : Nat, vk = .int .i64 k ∧ k ≤ n ∧ Hid (Ow encPr 36 wr w3.heap.size vl (l.take k) ∧ Upd [] w3 wr)) (fun _ v _ => n - (intOf v).toNat)
    case atStart => exact ⟨0, rfl, by omega, Lib.hid ⟨Ow.nil _ _ _ _, .refl _ _⟩⟩
    case round =>
      obtain ⟨k, rfl, hk, HK⟩ := hrel
      obtain ⟨ho, hu⟩ := HK.out
      rename World => wi
      obtain ⟨Al, cl, rfl, _, _⟩ := own_slice ho
      obtain ⟨q, hq⟩ : ∃ q, (l.take k).length = q := ⟨_, rfl⟩
      have hqk : q = k := by rw [← hq, List.length_take, HN.out]; omega
      subst hqk
      have O1 : Hid (wi.ownsRow w3.heap.size 36 2 (.slice Al q cl) q (flat encPr (l.take q))) := Lib.hid (by have := ho; unfold Ow at this; rw [hq] at this; exact this)
      have HUI := Lib.hid hu
      rw [hq]
      clear HK ho hu hq
      by_cases hkn : q < n
      · obtain ⟨⟨xk, xv⟩, hx⟩ : ∃ x, l[q]? = some x := ⟨_, List.getElem?_eq_getElem (by rw [HN.out]; exact hkn)⟩
        obtain ⟨g, cg, cur, e1, _⟩ := own_form ON.out (by omega)
        injection e1 with e1 _ e1'
        subst e1 e1'
        have e0 : wi.cell? ⟨g, q, none⟩ = some (.int .i64 xk) := by
          have := own_cell (own_upd0 ON.out HUI.out) _ _ ((flat_get (E := encK) (L := l.map (·.1)) (a := xk) (by rw [List.getElem?_map, hx]; rfl) (j := 0) (by decide)).trans rfl)
          rwa [show q * encK.s + 0 = q by simp [encI]] at this
        have l0 : (Instr.lookup 59 (.map (some m')) (.int .i64 xk) false).run Tryd.prog wi = .ok (.int .i64 xv) wi := by
          have hr := run_lookup_int' (P := Tryd.prog) (z := .int .i64 0) (mt := 59) Tryd.underlying59 Tryd.underlying3 (w := wi) (by kernel_rfl) (HIM.out.upd (U3.out.trans HUI.out) (by simp)) xk
          rw [hr]
          unfold mapI
          rw [get_mem SR.out.1 (List.mem_of_getElem? hx)]
          rfl
        have HT := Lib.hid (take_snoc_ hx)
        have q1 : (0 : Int) ≤ (q : Int) := by omega
        have q2 : (q : Int) < (n : Int) := by omega
        clear hx
        go_wp2_with (at_builtin; refine stopped ?_)
        refine Lib.hid ?_
        refine wpList_app _ (by rfl) (.tmp 28) (.tmp 34) _ (by rfl) elem_pair (.slice Al q cl) _ (by rfl) (by rfl) (own_upd0 O1.out ((Upd.refl [] wi).alloc _)) (.of_blk (Blk.new _ _ _) (m := 1) 1 rfl) (by intro u hu; simp at hu; rcases hu with rfl | rfl <;> rfl) (by simp only [maxLen]; omega) (by omega) (Nat.le_trans HUI.out.size (by simp)) ?_
        intro v5 w5 o5 u5 b5
        obtain ⟨A5, c5, rfl, _, _⟩ := own_slice o5
        have U5' : Hid (Upd [] w3 w5) := Lib.hid (HUI.out.trans' (((Upd.refl _ wi).alloc _).trans u5) (fun k hk => .inr (own_lt O1.out (by simpa using hk)).1))
        have O5 : Hid (Ow encPr 36 w5 w3.heap.size (.slice A5 (q + 1) c5) (l.take (q + 1))) := Lib.hid (by
          rw [HT.out]
          have e1 : flat encPr (l.take q) ++ #[Value.int .i64 xk, Value.int .i64 xv].toList = flat encPr (l.take q ++ [(xk, xv)]) := by rw [flat_append]; rfl
          rw [e1] at o5
          unfold Ow
          rw [List.length_append, List.length_take, HN.out, Nat.min_eq_left (by omega)]
          exact o5)
        clear o5 u5 b5
        go_wp2_with fail
        go_roundw
        case rel => exact ⟨q + 1, by go_num, by omega, Lib.hid ⟨O5.out, U5'.out⟩⟩
        case measure => simp [intOf]; omega
      · obtain rfl : q = n := by omega
        go_wp2_with fail
        go_ret2
        unfold ListPost
        rw [HI.out, HL.out]
        refine ⟨_, _, rfl, ErrV.nil _, ?_, U3.out.trans HUI.out⟩
        have := own_base O1.out U3.out.size
        rw [List.take_of_length_le (by rw [HN.out]; exact Nat.le_refl _)] at this
        unfold Ow
        rw [HN.out]
        exact this
  · have U1 := Lib.hid u1
    have BF := Lib.hid bf
    have HI := Lib.hid hc
    clear u1 bf hc
    go_wp2_with fail
    go_ret2
    unfold ListPost listC
    rw [HI.out]
    exact ⟨_, _, rfl, ErrV.fault (no := 3) (at_ := c) BF.out (by omega) (by omega), Ow.nil _ _ _ _, U1.out⟩
end Go.Proofs.YtjlpogmoebmkdaaDoor

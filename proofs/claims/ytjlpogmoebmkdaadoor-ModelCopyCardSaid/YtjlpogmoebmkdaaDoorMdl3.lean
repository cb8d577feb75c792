/-
  model.State: ordered, Ceil, Range, List.
-/
import Derived.Test.YtjlpogmoebmkdaaDoorKeysI
import Derived.Test.YtjlpogmoebmkdaaDoorBin
set_option linter.unusedVariables false
namespace Go.Proofs.YtjlpogmoebmkdaaDoor
open Go.RowKit Assoc MP
attribute [local go_sem] litStep_value

def encPr : Enc (Int × Int) := encII .i64 .i64
theorem elem_pair : Elem Tryd.prog 27 36 2 16 := .mk' (z := ((Tryd.prog.info? 36).bind (·.zero)).getD undef) Tryd.underlying27 (by kernel_rfl) (by kernel_rfl) (by omega)
/-- The error of whoever asks for an order. -/
def oErr (s : MS) (c : Int) : Int := if isC s c then (if s.K.getD c.toNat 0 = 3 then 0 else 17) else 3
def keysC (s : MS) (c : Int) : List Int := (coll s c.toNat).map (·.1)
def OrdPost (s : MS) (c : Int) (w : World) (e : Ending) (w' : World) : Prop := ∃ v u, e = .returned (.tuple #[v, u]) ∧ Upd [] w w' ∧
  ((oErr s c = 0 ∧ isC s c = true ∧ u = .nilIface ∧ Ow encK 3 w' w.heap.size v (keysC s c)) ∨ (oErr s c = 17 ∧ isC s c = true ∧ v = .slice none 0 0 ∧ u = .iface 67 (.int .i64 17)) ∨
   (oErr s c = 3 ∧ isC s c = false ∧ v = .slice none 0 0 ∧ ∃ g, u = .iface 76 (.pointer (some ⟨g, 0, none⟩)) ∧ Blk w' g 78 #[.int .i64 c, .int .i64 3]))
theorem good_kwf {s : MS} (h : MP.Good s) {i : Nat} (hi : i < s.L.length) : kwf (coll s i) := fun p hp => WalkArith.wf_i64 (h.kb _ (coll_mem hi) p hp)
set_option maxRecDepth 100000 in
set_option maxHeartbeats 4000000 in
theorem m_ordered (B sb : Nat) (F : List Nat) (s : MS) (c : Int) (w : World) (h : Mdl B sb F w s) :
    Calls Tryd.prog 29 #[.pointer (some ⟨sb, 0, none⟩), .int .i64 c] w fun e w' => OrdPost s c w e w' := by
  have H := Lib.hid h
  obtain ⟨g, vk, gc, cc, ms, hF, h⟩ := h
  have HF := Lib.hid hF
  have HS := Lib.hid h
  have HG := Lib.hid g
  have K8 := Lib.hid (show s.L.length ≤ 8 by have := g.k8; rw [g.kl] at this; exact this)
  clear g hF h
  go_enter Tryd.func29, Tryd.ntmps29
  go_wp2_with fail
  refine (m_coll B sb vk gc cc ms s c w HS.out K8.out).mono ?_
  rintro e w1 (⟨hc, rfl, i, m, rfl, hi, hm, rfl⟩ | ⟨hc, u1, gf, rfl, bf⟩)
  · obtain ⟨m', hm', him⟩ := HS.out.at_ hi
    obtain rfl : m' = m := by rw [hm] at hm'; exact (Option.some.inj hm').symm
    have HI := Lib.hid hc
    have HIM := Lib.hid him
    have HII := Lib.hid hi
    obtain ⟨Ak, ck, rfl, hnk, _⟩ := own_slice HS.out.k
    obtain ⟨NK, hNK⟩ : ∃ NK, s.K.length = NK := ⟨_, rfl⟩
    have hik : i < NK := by rw [← hNK, HG.out.kl]; exact hi
    have OK : Hid (w.ownsRow B 3 1 (.slice Ak NK ck) NK (flat encK s.K)) := Lib.hid (by have := HS.out.k; unfold Ow at this; rw [hNK] at this; exact this)
    obtain ⟨gk, cg, cur, e1, _⟩ := own_form OK.out (by omega)
    injection e1 with e1 _ e1'
    subst e1 e1'
    obtain ⟨y, hy⟩ : ∃ y, s.K[i]? = some y := ⟨_, List.getElem?_eq_getElem (by rw [hNK]; exact hik)⟩
    have e0 : w.cell? ⟨gk, i, none⟩ = some (.int .i64 y) := by
      have := own_cell OK.out _ _ ((flat_get (E := encK) hy (j := 0) (by decide)).trans rfl)
      rwa [show i * encK.s + 0 = i by simp [encI]] at this
    have c0 : w.cell? ⟨sb, 0, none⟩ = some (.slice (some ⟨gk, 0, none⟩) NK ck) := by rw [← hNK]; exact HS.out.box.cell 0
    have q1 : (0 : Int) ≤ (i : Int) := by omega
    have q2 : (i : Int) < (NK : Int) := by omega
    have HE : Hid (oErr s i = if y = 3 then 0 else 17) := Lib.hid (by unfold oErr; rw [hc, Int.toNat_natCast, List.getD_eq_getElem?_getD, hy]; rfl)
    clear hm hm' hi hc him hNK hy
    by_cases h3 : y = 3
    · have d : (y != 3) = false := by simpa using h3
      have HE0 : Hid (oErr s i = 0) := Lib.hid (by rw [HE.out, if_pos h3])
      clear h3
      go_wp2_with fail
      refine (keysM (some m') w).mono ?_; rintro e w1 ⟨rfl, rfl⟩
      have U1 : Hid (Upd [] w (w.alloc (.cells #[.map (some m')] 59))) := Lib.hid ((Upd.refl [] w).alloc _)
      have Y1 : Hid (Blk (w.alloc (.cells #[.map (some m')] 59)) w.heap.size 59 #[.map (some m')]) := Lib.hid (Blk.new w _ _)
      clear c0 e0
      go_wp2_with fail
      generalize (w.alloc (.cells #[.map (some m')] 59)) = w2 at *
      refine (sortedKeys w.heap.size m' (coll s i) w2 Y1.out (HIM.out.upd U1.out (by simp)) (HG.out.srt _ (coll_mem HII.out)) (good_kwf HG.out HII.out) (HG.out.len _ (coll_mem HII.out))).mono ?_
      rintro e w3 ⟨v, rfl, o3, u3⟩
      have O3 := Lib.hid (own_base o3 U1.out.size)
      have U3 := Lib.hid (U1.out.trans u3)
      clear o3 u3
      go_wp2_with fail
      go_ret2
      unfold OrdPost
      exact ⟨_, _, rfl, U3.out, .inl ⟨HE0.out, HI.out, rfl, O3.out⟩⟩
    · have d : (y != 3) = true := by simpa using h3
      have HE0 : Hid (oErr s i = 17) := Lib.hid (by rw [HE.out, if_neg h3])
      clear h3
      go_wp2_with fail
      go_ret2
      unfold OrdPost
      exact ⟨_, _, rfl, .refl _ _, .inr (.inl ⟨HE0.out, HI.out, rfl, rfl⟩)⟩
  · have U1 := Lib.hid u1
    have BF := Lib.hid bf
    have HI := Lib.hid hc
    clear u1 bf hc
    go_wp2_with fail
    go_ret2
    unfold OrdPost
    exact ⟨_, _, rfl, U1.out, .inr (.inr ⟨by unfold oErr; rw [HI.out]; rfl, HI.out, rfl, gf, rfl, BF.out⟩)⟩
theorem oErr_err {s : MS} {c : Int} {w : World} {u v : Value} (h : (oErr s c = 17 ∧ isC s c = true ∧ v = .slice none 0 0 ∧ u = .iface 67 (.int .i64 17)) ∨
   (oErr s c = 3 ∧ isC s c = false ∧ v = .slice none 0 0 ∧ ∃ g, u = .iface 76 (.pointer (some ⟨g, 0, none⟩)) ∧ Blk w g 78 #[.int .i64 c, .int .i64 3])) : ErrV w u (oErr s c) (if isC s c then 0 else c) := by
  rcases h with ⟨h1, h2, _, rfl⟩ | ⟨h1, h2, _, g, rfl, hb⟩
  · rw [h1, h2]; exact ErrV.errno _ 17 (by omega) (by omega)
  · rw [h1, h2]; exact ErrV.fault (no := 3) (at_ := c) hb (by omega) (by omega)
theorem ceil_at {l : AL} {k : Int} {i : Nat} (h1 : ∀ j, j < i → (l.map (·.1)).getD j 0 < k) (h2 : ∀ j, i ≤ j → j < (l.map (·.1)).length → k ≤ (l.map (·.1)).getD j 0) : ceilL l k = (l.map (·.1))[i]? := by
  unfold ceilL
  rw [List.getElem?_map]
  congr 1
  rw [List.length_map] at h2
  rcases Nat.lt_or_ge i l.length with hi | hi
  · rw [List.getElem?_eq_getElem hi, List.find?_eq_some_iff_getElem]
    have h3 := h2 i (Nat.le_refl _) hi
    rw [List.getD_eq_getElem?_getD, List.getElem?_map, List.getElem?_eq_getElem hi] at h3
    refine ⟨by simpa using h3, i, hi, rfl, fun j hj => ?_⟩
    have h4 := h1 j hj
    rw [List.getD_eq_getElem?_getD, List.getElem?_map, List.getElem?_eq_getElem (by omega)] at h4
    simp at h4 ⊢
    exact h4
  · rw [List.getElem?_eq_none hi, List.find?_eq_none]
    intro p hp
    obtain ⟨j, hj, rfl⟩ := List.getElem_of_mem hp
    have h4 := h1 j (by omega)
    rw [List.getD_eq_getElem?_getD, List.getElem?_map, List.getElem?_eq_getElem hj] at h4
    simp at h4 ⊢
    exact h4
/-- What Ceil tells. -/
def ceilC (s : MS) (c k : Int) : Option Int := if oErr s c = 0 then ceilL (coll s c.toNat) k else none
def CeilPost (s : MS) (c k : Int) (w : World) (e : Ending) (w' : World) : Prop := ∃ u, e = .returned (.tuple #[.int .i64 ((ceilC s c k).getD 0), .bool (ceilC s c k).isSome, u]) ∧ ErrV w' u (oErr s c) (if isC s c then 0 else c) ∧ Upd [] w w'
theorem keys_len {s : MS} {c : Int} (h : MP.Good s) (hc : isC s c = true) : (keysC s c).length ≤ 100 ∧ (keysC s c).Pairwise (· < ·) := by
  obtain ⟨i, rfl, hi⟩ := isC_form hc
  unfold keysC
  rw [Int.toNat_natCast, List.length_map]
  exact ⟨h.len _ (coll_mem hi), srt_keys (h.srt _ (coll_mem hi))⟩
set_option maxRecDepth 100000 in
set_option maxHeartbeats 4000000 in
theorem m_ceil (B sb : Nat) (F : List Nat) (s : MS) (c k : Int) (w : World) (h : Mdl B sb F w s) :
    Calls Tryd.prog 12 #[.pointer (some ⟨sb, 0, none⟩), .int .i64 c, .int .i64 k] w fun e w' => CeilPost s c k w e w' := by
  have H := Lib.hid h
  clear h
  go_enter Tryd.func12, Tryd.ntmps12
  go_wp2_with fail
  refine (m_ordered B sb F s c w H.out).mono ?_
  rintro e w1 ⟨v, u, rfl, u1, hor⟩
  have U1 := Lib.hid u1
  clear u1
  rcases hor with ⟨h1, h2, rfl, ho⟩ | hor
  · have HE := Lib.hid h1
    have HC := Lib.hid h2
    have KL := Lib.hid (keys_len H.out.1 h2)
    obtain ⟨A, ca, rfl, hnc, _⟩ := own_slice ho
    obtain ⟨n, hn⟩ : ∃ n, (keysC s c).length = n := ⟨_, rfl⟩
    have HN := Lib.hid hn
    have HO := Lib.hid ho
    rw [hn] at hnc HO ⊢
    clear ho hn h1 h2
    go_wp2_with fail
    refine (bin_ok _ (keysC s c) (.slice A n ca) k w1 HO.out KL.out.2 (by have := KL.out.1; omega)).mono ?_
    rintro e w2 ⟨i, b, rfl, hi, ha, hb, u2⟩
    have HCE : Hid (ceilC s c k = (keysC s c)[i]?) := Lib.hid (by unfold ceilC; rw [HE.out, if_pos rfl]; exact ceil_at ha hb)
    have U2 := Lib.hid (U1.out.trans u2)
    rw [HN.out] at hi
    have O2 := Lib.hid (HO.out.upd0 u2)
    clear ha hb u2
    by_cases hin : i = n
    · have d : ((i : Int) == (n : Int)) = true := by simp [hin]
      have HX : Hid (ceilC s c k = none) := Lib.hid (by rw [HCE.out, List.getElem?_eq_none (by rw [HN.out]; omega)])
      clear hin
      go_wp2_with fail
      go_ret3
      unfold CeilPost
      rw [HX.out, HE.out, HC.out]
      exact ⟨_, rfl, ErrV.nil _, U2.out⟩
    · have d : ((i : Int) == (n : Int)) = false := by simp; omega
      obtain ⟨y, hy⟩ : ∃ y, (keysC s c)[i]? = some y := ⟨_, List.getElem?_eq_getElem (by rw [HN.out]; omega)⟩
      have HX : Hid (ceilC s c k = some y) := Lib.hid (by rw [HCE.out, hy])
      have ON : Hid (w2.ownsRow w.heap.size 3 1 (.slice A n ca) n (flat encK (keysC s c))) := Lib.hid (by have := O2.out; unfold Ow at this; rw [HN.out] at this; exact this)
      obtain ⟨g, cg, cur, e1, _⟩ := own_form ON.out (by omega)
      injection e1 with e1 _ e1'
      subst e1 e1'
      have e0 : w2.cell? ⟨g, i, none⟩ = some (.int .i64 y) := by
        have := own_cell ON.out _ _ ((flat_get (E := encK) hy (j := 0) (by decide)).trans rfl)
        rwa [show i * encK.s + 0 = i by simp [encI]] at this
      have q1 : (0 : Int) ≤ (i : Int) := by omega
      have q2 : (i : Int) < (n : Int) := by omega
      clear hy hin
      go_wp2_with fail
      go_ret3
      unfold CeilPost
      rw [HX.out, HE.out, HC.out]
      exact ⟨_, rfl, ErrV.nil _, U2.out⟩
  · have EV := Lib.hid (oErr_err hor)
    have HNE : Hid (ceilC s c k = none) := Lib.hid (by unfold ceilC; rw [if_neg (by rcases hor with ⟨h, _⟩ | ⟨h, _⟩ <;> omega)])
    have HU : (∃ x, u = .iface 67 x) ∨ ∃ g, u = .iface 76 (.pointer (some ⟨g, 0, none⟩)) := by
      rcases hor with ⟨_, _, _, h⟩ | ⟨_, _, _, g, h, _⟩
      · exact .inl ⟨_, h⟩
      · exact .inr ⟨g, h⟩
    clear hor
    rcases HU with ⟨x, rfl⟩ | ⟨g, rfl⟩
    · go_wp2_with fail
      go_ret3
      unfold CeilPost
      rw [HNE.out]
      exact ⟨_, rfl, EV.out, U1.out⟩
    · go_wp2_with fail
      go_ret3
      unfold CeilPost
      rw [HNE.out]
      exact ⟨_, rfl, EV.out, U1.out⟩
end Go.Proofs.YtjlpogmoebmkdaaDoor

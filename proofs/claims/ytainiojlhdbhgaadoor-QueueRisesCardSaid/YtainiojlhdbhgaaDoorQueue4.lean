/-
  queue.Queue: Move.
-/
import Derived.Test.YtainiojlhdbhgaaDoorQueue2
set_option linter.unusedVariables false
namespace Go.Proofs.YtainiojlhdbhgaaDoor
open Go.RowKit HeapPlain
attribute [local go_sem] litStep_value

theorem lgetD_set {α : Type} [Inhabited α] (xs : List α) (i k : Nat) (y : α) (hi : i < xs.length) : (xs.set i y).getD k default = if k = i then y else xs.getD k default := by
  simp only [List.getD_eq_getElem?_getD, List.getElem?_set]
  by_cases h : k = i
  · subst h
    rw [if_pos rfl, if_pos rfl, if_pos hi]
    rfl
  · rw [if_neg h, if_neg (fun e => h e.symm)]
/-- A heap of which one has turned. -/
theorem hp_set {α : Type} [Inhabited α] {lt : α → α → Bool} (o : Ord lt) {n i : Nat} {xs : List α} (h : Hp lt n xs) (hl : xs.length = n) (hi : i < n) (y : α) : Ex lt n (xs.set i y) i := by
  constructor
  · intro k k0 kn ke ke'
    rw [lgetD_set _ _ _ _ (by omega), lgetD_set _ _ _ _ (by omega), if_neg ke, if_neg ke']
    exact h k k0 kn
  · intro k k0 kn ke i0
    rw [lgetD_set _ _ _ _ (by omega), lgetD_set _ _ _ _ (by omega), if_neg (by omega), if_neg (by omega)]
    have h1 := h k k0 kn
    rw [ke] at h1
    exact o.tran _ _ _ (h i i0 hi) h1
theorem flatT_set1 {L : List Tm} {k : Nat} {t : Tm} (h : L[k]? = some t) (wn : Int) : (flatT L).set (k * 2) (.int .i64 wn) = flatT (L.set k ⟨wn, t.id⟩) := by
  rw [flatT_set]
  have h1 := (flatT_get L k t h).2
  apply List.ext_getElem?
  intro j
  by_cases hj : j = k * 2 + 1
  · subst hj
    rw [List.getElem?_set_ne (by omega), h1]
    rw [List.getElem?_set_self]
    · rw [List.length_set]
      exact (List.getElem?_eq_some_iff.1 h1).1
  · rw [List.getElem?_set_ne (l := (flatT L).set _ _) (by omega)]
theorem ids_set {L : List Tm} {k : Nat} {t : Tm} (h : L[k]? = some t) (wn : Int) : (L.set k ⟨wn, t.id⟩).map (·.id) = L.map (·.id) := by
  rw [List.map_set]
  apply List.ext_getElem?
  intro j
  by_cases hj : k = j
  · subst hj
    have hk := (List.getElem?_eq_some_iff.1 h).1
    rw [List.getElem?_set_self (by rw [List.length_map]; exact hk), List.getElem?_map, h]
    rfl
  · rw [List.getElem?_set_ne hj]
theorem posT_ids {L M : List Tm} (h : L.map (·.id) = M.map (·.id)) (id : Int) : posT L id = posT M id := by
  have key : ∀ L : List Tm, L.findIdx? (fun t => t.id == id) = (L.map (·.id)).findIdx? (fun j => j == id) := fun L => by
    rw [List.findIdx?_map]; rfl
  unfold posT
  rw [key, key, h]

def MovePost (B qb p mb : Nat) (ts : List Tm) (id wn : Int) (w : World) (e : Ending) (w' : World) : Prop := ∃ v us, e = .returned v ∧ ErrV w' v (if hasT ts id then 0 else 6) (if hasT ts id then 0 else id) ∧ QSt B qb p mb w' us ∧ (if hasT ts id then us.Perm (ts.set (atT ts id) ⟨wn, id⟩) else us = ts) ∧ FrT p mb w w'
set_option maxRecDepth 100000 in
set_option maxHeartbeats 1000000 in
theorem q_move (B qb p mb : Nat) (ts : List Tm) (id wn : Int) (w : World) (h : QSt B qb p mb w ts) :
    Calls Tryd.prog 21 #[.pointer (some ⟨qb, 0, none⟩), .int .i64 id, .int .i64 wn] w fun e w' => MovePost B qb p mb ts id wn w e w' := by
  have H := Lib.hid h
  obtain ⟨k, hk⟩ : ∃ k, atT ts id = k := ⟨_, rfl⟩
  have HK := Lib.hid hk
  clear h hk
  go_enter Tryd.func21, Tryd.ntmps21
  go_wp2_with fail
  refine (q_find B qb p mb ts id w H.out).mono ?_
  rintro e w1 ⟨v, rfl, ev, u1, ht, hf⟩
  rw [HK.out]
  obtain ⟨q1, f1⟩ := H.out.upd0 u1
  have Q1 := Lib.hid q1
  have F1 := Lib.hid f1
  have EV := Lib.hid ev
  clear ev q1 f1 u1
  cases hb : hasT ts id with
  | false =>
    obtain ⟨b, rfl⟩ := hf hb
    have HB := Lib.hid hb
    clear hb ht hf
    go_wp2_with fail
    go_ret
    unfold MovePost
    rw [HB.out]
    have ev := EV.out
    rw [HB.out] at ev
    exact ⟨_, ts, rfl, ev, Q1.out, rfl, F1.out⟩
  | true =>
    obtain rfl := ht hb
    have HB := Lib.hid hb
    obtain ⟨hkl, hkid⟩ := atT_at hb
    rw [HK.out] at hkl hkid
    clear hb ht hf
    obtain ⟨x, hx⟩ : ∃ x, ts[k]? = some x := ⟨_, List.getElem?_eq_getElem hkl⟩
    have hxid : x.id = id := by rw [List.getD_eq_getElem?_getD, hx] at hkid; exact hkid
    subst hxid
    have HX := Lib.hid hx
    obtain ⟨v, hbo, hown⟩ := Q1.out.tim.obj
    obtain ⟨g, c, cur, rfl, hBg, hbg, hnc, hcm, _, _⟩ := own_form hown (by omega)
    obtain ⟨n, hn⟩ : ∃ n, ts.length = n := ⟨_, rfl⟩
    have HN := Lib.hid hn
    have hsm := Q1.out.tim.small
    rw [hn] at hkl hnc hsm
    have c0 : w1.cell? ⟨qb, 0, none⟩ = some (.pointer (some ⟨p, 0, none⟩)) := Q1.out.box.cell 0
    have c1 : w1.cell? ⟨p, 0, none⟩ = some (.slice (some ⟨g, 0, none⟩) n c) := by have := hbo.cell 0; rw [hn] at this; exact this
    have e0 := own_cell hown _ _ (flatT_get ts k x hx).1
    have e1 := own_frozen hown (k * 2)
    have hgl : g < w1.heap.size := hbg.lt
    have hgp : Hid (g ≠ p) := Lib.hid (fun e => by subst e; exact (Blk.ne_ hbo hbg (by decide)) rfl)
    have hgm : Hid (g ≠ mb) := Lib.hid (blk_map hbg Q1.out.tim.mp)
    have hgq : Hid (qb ≠ g) := Lib.hid (Blk.ne_ Q1.out.box hbg (by decide))
    have HBO := Lib.hid hbo
    have HOW := Lib.hid hown
    have q1 : (0 : Int) ≤ (k : Int) := by omega
    have q2 : (k : Int) < (n : Int) := by omega
    have hqg : ¬ qb = g := hgq.out
    have hqg' : ¬ g = qb := fun e => hgq.out e.symm
    clear hx hbo hown hbg hn hkid
    go_wp2_with fail
    have US : Hid (Upd [g] w1 (w1.setCell ⟨g, k * 2, none⟩ (.int .i64 wn))) := Lib.hid ((Upd.refl _ w1).setCell (.inl (by simp)) _)
    have OS : Hid ((w1.setCell ⟨g, k * 2, none⟩ (.int .i64 wn)).ownsRow B 29 2 (.slice (some ⟨g, 0, none⟩) ts.length c) ts.length (flatT (ts.set k ⟨wn, x.id⟩))) := Lib.hid (by
      have := own_set HOW.out (k * 2) (.int .i64 wn)
      rwa [flatT_set1 HX.out] at this)
    clear e0 e1 c0 c1
    generalize (w1.setCell ⟨g, k * 2, none⟩ (.int .i64 wn)) = w2 at *
    have SL : Hid ((ts.set k ⟨wn, x.id⟩).length = n) := Lib.hid (by rw [List.length_set, HN.out])
    have T2 : Hid (TimSt B p mb w2 (ts.set k ⟨wn, x.id⟩)) := Lib.hid (by
      refine ⟨⟨_, HBO.out.upd US.out (by simp; exact fun e => hgp.out e.symm), ?_⟩, ?_, ?_, ?_, Q1.out.tim.bp, Q1.out.tim.bm⟩
      · rw [List.length_set]; exact OS.out
      · rw [List.length_set]
        exact (Q1.out.tim.mp.upd US.out (by simp; exact fun e => hgm.out e.symm)).congr (fun j => posT_ids (ids_set HX.out wn).symm j)
      · rw [ids_set HX.out]; exact Q1.out.tim.nd
      · rw [List.length_set, HN.out]; exact hsm)
    have F2 : Hid (FrT p mb w1 w2) := Lib.hid (by
      refine ⟨.of_upd US.out (fun y hy => ?_), fun j hj => ?_⟩
      · simp only [List.mem_cons, List.not_mem_nil, or_false] at hy
        subst hy
        exact .inl (.inr (.inr ⟨_, HBO.out.cell 0, rfl⟩))
      · rcases hj with rfl | rfl | ⟨v', h1, h2⟩
        · exact .inl (.inl rfl)
        · exact .inl (.inr (.inl rfl))
        · rw [(HBO.out.upd US.out (by simp; exact fun e => hgp.out e.symm)).cell] at h1
          cases h1
          exact .inl (.inr (.inr ⟨_, HBO.out.cell 0, h2⟩)))
    refine (heap_fix (tim_heaped B p mb) ltT_ord n k (ts.set k ⟨wn, x.id⟩) w2 T2.out SL.out hkl (hp_set ltT_ord (by have := Q1.out.hp; rw [HN.out] at this; exact this) HN.out hkl _)).mono ?_
    rintro e w3 ⟨rfl, us, s3, p3, h3, f3⟩
    have Q3 : Hid (QSt B qb p mb w3 us) := Lib.hid (Q1.out.step (F2.out.trans f3) s3 (by rw [p3.length_eq, SL.out]; exact h3))
    have F3 := Lib.hid (F1.out.trans (F2.out.trans f3))
    have P3 := Lib.hid p3
    clear s3 p3 h3 f3
    go_wp2_with fail
    go_ret
    unfold MovePost
    rw [HB.out, HK.out]
    exact ⟨_, us, rfl, ErrV.nil _, Q3.out, P3.out, F3.out⟩
end Go.Proofs.YtainiojlhdbhgaaDoor

/-
  slices.Equal of ints, maps.Equal.
-/
import Derived.Test.YtjlpogmoebmkdaaDoorKeysI
import Derived.Test.YtjlpogmoebmkdaaDoorIRange
set_option linter.unusedVariables false
namespace Go.Proofs.YtjlpogmoebmkdaaDoor
open Go.RowKit Assoc MP
attribute [local go_sem] litStep_value

def sameToK (L M : List Int) (k : Nat) : Prop := ∀ j, j < k → L.getD j 0 = M.getD j 0
theorem sameK_all {L M : List Int} {n : Nat} (hl : L.length = n) (hm : M.length = n) (h : sameToK L M n) : L = M := by
  apply List.ext_getElem (by rw [hl, hm])
  intro i h1 h2
  have := h i (by omega)
  rwa [List.getD_eq_getElem?_getD, List.getD_eq_getElem?_getD, List.getElem?_eq_getElem h1, List.getElem?_eq_getElem h2] at this
set_option maxRecDepth 100000 in
set_option maxHeartbeats 2000000 in
theorem equal_ints (B B' : Nat) (L M : List Int) (v u : Value) (w : World) (hv : Ow encK 3 w B v L) (hu : Ow encK 3 w B' u M) (hL : L.length ≤ 1000) (hM : M.length ≤ 1000) :
    Calls Tryd.prog 41 #[v, u] w fun e w' => e = .returned (.bool (decide (L = M))) ∧ Upd [] w w' := by
  obtain ⟨A, c, rfl, hnc, hcm⟩ := own_slice hv
  obtain ⟨A', c', rfl, hnc', hcm'⟩ := own_slice hu
  obtain ⟨n, hn⟩ : ∃ n, L.length = n := ⟨_, rfl⟩
  obtain ⟨m, hm⟩ : ∃ m, M.length = m := ⟨_, rfl⟩
  have HV : Hid (w.ownsRow B 3 1 (.slice A n c) n (flat encK L)) := Lib.hid (by have := hv; unfold Ow at this; rw [hn] at this; exact this)
  have HU : Hid (w.ownsRow B' 3 1 (.slice A' m c') m (flat encK M)) := Lib.hid (by have := hu; unfold Ow at this; rw [hm] at this; exact this)
  have HN := Lib.hid hn
  have HM := Lib.hid hm
  rw [hn] at hL hnc ⊢
  rw [hm] at hM hnc' ⊢
  clear hv hu hn hm
  obtain ⟨r, hr⟩ : ∃ r, decide (L = M) = r := ⟨_, rfl⟩
  have HR := Lib.hid hr
  rw [hr]
  clear hr
  go_enter Tryd.func41, Tryd.ntmps41
  by_cases hnm : n = m
  · subst hnm
    have d : ((n : Int) != (n : Int)) = false := by simp
    go_wp2_with fail
    go_loopw [13] (fun v wr => ∃ k : Nat, v = .int .i64 k ∧ k ≤ n ∧ Hid (sameToK L M k) ∧ Hid (Upd [] w wr)) (fun v _ => n - (intOf v).toNat)
    case atStart => exact ⟨0, rfl, by omega, Lib.hid (fun j hj => by omega), Lib.hid (.refl _ _)⟩
    case round =>
      obtain ⟨k, rfl, hk, HS, U1⟩ := hrel
      by_cases hkn : k < n
      · obtain ⟨x, hx⟩ : ∃ x, L[k]? = some x := ⟨_, List.getElem?_eq_getElem (by rw [HN.out]; omega)⟩
        obtain ⟨y, hy⟩ : ∃ y, M[k]? = some y := ⟨_, List.getElem?_eq_getElem (by rw [HM.out]; omega)⟩
        have HX := Lib.hid hx
        have HY := Lib.hid hy
        obtain ⟨g, cg, cur, e1, _⟩ := own_form HV.out (by omega)
        obtain ⟨g', cg', cur', e2, _⟩ := own_form HU.out (by omega)
        injection e1 with e1 _ e1'
        injection e2 with e2 _ e2'
        subst e1 e2 e1' e2'
        have CS : Hid (∀ W, Upd [] wr.drew W → W.cell? ⟨g, k, none⟩ = some (.int .i64 x) ∧ W.cell? ⟨g', k, none⟩ = some (.int .i64 y)) := Lib.hid (fun W hW => by
          have hu : Upd [] w W := U1.out.drew.trans hW
          have h1 := own_cell (own_upd0 HV.out hu) _ _ ((flat_get (E := encK) hx (j := 0) (by decide)).trans rfl)
          have h2 := own_cell (own_upd0 HU.out hu) _ _ ((flat_get (E := encK) hy (j := 0) (by decide)).trans rfl)
          rw [show k * encK.s + 0 = k by simp [encI]] at h1 h2
          exact ⟨h1, h2⟩)
        have q1 : (0 : Int) ≤ (k : Int) := by omega
        have q2 : (k : Int) < (n : Int) := by omega
        clear hx hy
        go_wp2_with fail
        refine wp_invN [] [] (by kernel_rfl) (by kernel_rfl) (by kernel_rfl) trivial ?_
        with_reducible apply wpV_light
        · simp only [lightOp]
        · intro W hU hF
          have f0 := CS.out W hU
          clear hU hF
          go_simp
          exact rfl
        simp only [Act.put, List.setIfInBounds_toArray, List.set_cons_zero, List.set_cons_succ]
        with_reducible apply wpV_light
        · simp only [lightOp]
        · intro W hU hF
          have f0 := CS.out W hU
          clear hU hF
          go_simp
          exact rfl
        simp only [Act.put, List.setIfInBounds_toArray, List.set_cons_zero, List.set_cons_succ]
        with_reducible apply wpV_light
        · simp only [lightOp]
        · intro W hU hF
          have f0 := CS.out W hU
          clear hU hF
          go_simp
          exact rfl
        simp only [Act.put, List.setIfInBounds_toArray, List.set_cons_zero, List.set_cons_succ]
        with_reducible apply wpV_light
        · simp only [lightOp]
        · intro W hU hF
          have f0 := CS.out W hU
          clear hU hF
          go_simp
          exact rfl
        simp only [Act.put, List.setIfInBounds_toArray, List.set_cons_zero, List.set_cons_succ]
        with_reducible apply wpV_light
        · simp only [lightOp]
        · intro W hU hF
          have f0 := CS.out W hU
          clear hU hF
          go_simp
          exact rfl
        simp only [Act.put, List.setIfInBounds_toArray, List.set_cons_zero, List.set_cons_succ]
        with_reducible apply wpV_light
        · simp only [lightOp]
        · intro W hU hF
          have f0 := CS.out W hU
          clear hU hF
          go_simp
          exact rfl
        simp only [Act.put, List.setIfInBounds_toArray, List.set_cons_zero, List.set_cons_succ]
        with_reducible apply wpV_light
        · simp only [lightOp]
        · intro W hU hF
          have f0 := CS.out W hU
          clear hU hF
          go_simp
          exact rfl
        simp only [Act.put, List.setIfInBounds_toArray, List.set_cons_zero, List.set_cons_succ]
        with_reducible apply wpV_light
        · simp only [lightOp]
        · intro W hU hF
          have f0 := CS.out W hU
          clear hU hF
          go_simp
          exact rfl
        simp only [Act.put, List.setIfInBounds_toArray, List.set_cons_zero, List.set_cons_succ]
        with_reducible apply wpV_light
        · simp only [lightOp]
        · intro W hU hF
          have f0 := CS.out W hU
          clear hU hF
          go_simp
          exact rfl
        simp only [Act.put, List.setIfInBounds_toArray, List.set_cons_zero, List.set_cons_succ]
        refine wpV_end (fun W hU _ _ => ?_)
        have U2 : Hid (Upd [] w W) := Lib.hid (U1.out.drew.trans hU)
        clear hU
        refine wpT_end ?_
        by_cases hxy : x = y
        · have dd : (x != y) = false := by simpa using hxy
          have HS2 : Hid (sameToK L M (k + 1)) := Lib.hid (fun j hj => by
            rcases Nat.lt_or_ge j k with h1 | h1
            · exact HS.out j h1
            · obtain rfl : j = k := by omega
              rw [List.getD_eq_getElem?_getD, List.getD_eq_getElem?_getD, HX.out, HY.out, hxy])
          clear hxy
          go_wp2_with fail
          go_roundw
          case rel => exact ⟨k + 1, by go_num, by omega, HS2, U2⟩
          case measure => simp [intOf]; omega
        · have dd : (x != y) = true := by simpa using hxy
          have HZ : Hid (r = false) := Lib.hid (by
            rw [← HR.out, decide_eq_false_iff_not]
            intro e
            have h1 := HX.out
            rw [e, HY.out] at h1
            injection h1 with h1
            exact hxy h1.symm)
          clear hxy
          go_wp2_with fail
          go_ret
          exact ⟨by rw [HZ.out]; rfl, U2.out⟩
      · obtain rfl : k = n := by omega
        have HZ : Hid (r = true) := Lib.hid (by rw [← HR.out, decide_eq_true_iff]; exact sameK_all HN.out HM.out HS.out)
        go_wp2_with fail
        go_ret
        exact ⟨by rw [HZ.out]; rfl, U1.out⟩
  · have d : ((n : Int) != (m : Int)) = true := by simp; omega
    have HZ : Hid (r = false) := Lib.hid (by rw [← HR.out, decide_eq_false_iff_not]; intro e; exact hnm (by rw [← HN.out, ← HM.out, e]))
    go_wp2_with fail
    go_ret
    exact ⟨by rw [HZ.out]; rfl, .refl _ _⟩

theorem sub_srt : ∀ {m l : AL}, Srt l → Srt m → (∀ p ∈ l, p ∈ m) → l.Sublist m
  | [], l, _, _, h => by
    cases l with
    | nil => exact .slnil
    | cons p l => exact absurd (h p (by simp)) (by simp)
  | q :: m, [], _, _, _ => List.nil_sublist _
  | q :: m, p :: l, hl, hm, h => by
    by_cases e : p = q
    · subst e
      refine .cons_cons _ (sub_srt hl.tail hm.tail fun x hx => ?_)
      rcases List.mem_cons.1 (h x (by simp [hx])) with h1 | h1
      · have := hl.head x hx
        subst h1
        omega
      · exact h1
    · have hp : p ∈ m := by
        rcases List.mem_cons.1 (h p (by simp)) with h1 | h1
        · exact absurd h1 e
        · exact h1
      have hpq := hm.head p hp
      refine .cons _ (sub_srt hl hm.tail fun x hx => ?_)
      rcases List.mem_cons.1 (h x hx) with h1 | h1
      · subst h1
        rcases List.mem_cons.1 hx with h2 | h2
        · exact absurd h2.symm e
        · have := hl.head x h2
          omega
      · exact h1
theorem eq_of_in {l m : AL} (hl : Srt l) (hm : Srt m) (hlen : l.length = m.length) (h : ∀ p ∈ l, get m p.1 = some p.2) : l = m :=
  (sub_srt hl hm fun p hp => mem_of_get (h p hp)).eq_of_length hlen
/-- How many are still to come. -/
def itLeft (b r : Nat) (w : World) : Nat := match w.heap[r]?, w.heap[b]? with
  | some (.mapIter _ _ seen _), some (.map es _) => (es.toList.filter (fun e => !seen.contains e.born)).length
  | _, _ => 0
theorem IIter.left {w : World} {q : IntKind} {b r : Nat} {L rest : List IEnt} (h : IIter w q b r L rest) : itLeft b r w = rest.length := by
  obtain ⟨c, s, seen, c0, h1, h2, _, _, _, rfl⟩ := h.all
  unfold itLeft
  rw [h2, h1.blk]
  simp only
  show (List.filter (fun e => !seen.contains e.born) (L.map (ent q))).length = _
  rw [List.filter_map, List.length_map]
  rfl
set_option maxRecDepth 100000 in
set_option maxHeartbeats 4000000 in
theorem equal_maps (m1 m2 : Nat) (l1 l2 : AL) (w : World) (h1 : IMap w .i64 m1 (mapI l1) l1.length) (h2 : IMap w .i64 m2 (mapI l2) l2.length) (s1 : Srt l1) (s2 : Srt l2) :
    Calls Tryd.prog 42 #[.map (some m1), .map (some m2)] w fun e w' => e = .returned (.bool (decide (l1 = l2))) ∧ Upd [] w w' := by
  obtain ⟨n1, hn1⟩ : ∃ n, l1.length = n := ⟨_, rfl⟩
  obtain ⟨n2, hn2⟩ : ∃ n, l2.length = n := ⟨_, rfl⟩
  have ln1 : (Builtin.len_ #[59] 3 #[.map (some m1)]).run Tryd.prog w = .ok (.int .i64 n1) w := hn1 ▸ run_len_int Tryd.underlying59 h1 _
  have ln2 : (Builtin.len_ #[59] 3 #[.map (some m2)]).run Tryd.prog w = .ok (.int .i64 n2) w := hn2 ▸ run_len_int Tryd.underlying59 h2 _
  obtain ⟨r, hr⟩ : ∃ r, decide (l1 = l2) = r := ⟨_, rfl⟩
  have HR := Lib.hid hr
  have HN1 := Lib.hid hn1
  have HN2 := Lib.hid hn2
  have H2 := Lib.hid h2
  have S1 := Lib.hid s1
  have S2 := Lib.hid s2
  rw [hr]
  by_cases hnn : n1 = n2
  · have d : ((n1 : Int) != (n2 : Int)) = false := by simp [hnn]
    obtain ⟨L, w1, r1, it1, hf, hk, hL, u1, _⟩ := run_range_int (P := Tryd.prog) (mt := 59) Tryd.underlying59 h1
    have HIT := Lib.hid it1
    have HFI := Lib.hid hf
    have HKE := Lib.hid hk
    have U1 := Lib.hid u1
    have LT2 := Lib.hid h2.lt
    have HEQ := Lib.hid hnn
    clear it1 hf hk u1 h1 h2 s1 s2 hn1 hn2 hr hL hnn
    go_enter Tryd.func42, Tryd.ntmps42
    go_wp2_with fail
    clear r1 ln1 ln2
    go_loopw [5] (fun _ wr => Hid (∃ rest, IIter wr .i64 m1 w.heap.size L rest ∧ (∀ x ∈ L, x ∈ rest ∨ get l2 x.1 = get l1 x.1) ∧ Upd [] w wr)) (fun _ wr => itLeft m1 w.heap.size wr)
    case atStart => exact Lib.hid ⟨L, HIT.out, fun x hx => .inl hx, U1.out⟩
    case round =>
      obtain ⟨rest, hit, hag, hu⟩ := hrel.out
      rename World => wi
      have HAG := Lib.hid hag
      have UI := Lib.hid hu
      have HLF := Lib.hid hit.left
      clear hrel hag hu
      rcases run_next_int (P := Tryd.prog) hit 0 with ⟨h0, r2⟩ | ⟨x, rest', w2, hp, r2, it2, u2, r3⟩
      · subst h0
        have HZ : Hid (r = true) := Lib.hid (by
          rw [← HR.out, decide_eq_true_iff]
          refine eq_of_in S1.out S2.out (by rw [HN1.out, HN2.out, HEQ.out]) fun p hp => ?_
          have h3 := get_mem S1.out hp
          have h4 : (findI L p.1).isSome = true := by rw [← HFI.out, mapI_some, h3]; rfl
          obtain ⟨x, hx, e⟩ := List.mem_map.1 (findI_some.1 h4)
          rcases HAG.out x hx with h5 | h5
          · cases h5
          · have e' : x.1 = p.1 := e
            rw [← e', h5, e', h3])
        clear hit
        go_wp2_with fail
        go_ret
        exact ⟨by rw [HZ.out]; rfl, UI.out⟩
      · obtain ⟨xk, xv, xs⟩ := x
        have hxL : (xk, xv, xs) ∈ L := by
          obtain ⟨_, _, _, _, _, _, _, _, _, hrest⟩ := hit.all
          have := hp.mem_iff.1 (List.mem_cons_self (a := ((xk, xv, xs) : IEnt)))
          rw [hrest] at this
          exact (List.mem_filter.1 this).1
        have hfx := findI_mem HKE.out hxL
        rw [← HFI.out] at hfx
        obtain ⟨v, hv⟩ : ∃ v, get l1 xk = some v := by
          cases hg : get l1 xk with
          | none => unfold mapI at hfx; rw [hg] at hfx; cases hfx
          | some v => exact ⟨v, rfl⟩
        obtain rfl : xv = .int .i64 v := by unfold mapI at hfx; rw [hv] at hfx; exact (Option.some.inj hfx).symm
        have U2 : Hid (Upd [] w w2) := Lib.hid (UI.out.trans' u2 (by intro y hy; simp at hy; subst hy; exact .inr (Nat.le_refl _)))
        have IM2 := Lib.hid (H2.out.upd U2.out (by simp))
        have IT2 := Lib.hid it2
        have HP := Lib.hid hp
        have HV := Lib.hid hv
        have lk := run_lookup_int (P := Tryd.prog) (z := .int .i64 0) (mt := 59) Tryd.underlying59 Tryd.underlying3 (w := w2) (by kernel_rfl) IM2.out xk
        have HLK := Lib.hid lk
        clear hit hp it2 u2 hfx hv hxL lk
        cases hg : get l2 xk with
        | none =>
          have l0 : (Instr.lookup 59 (.map (some m2)) (.int .i64 xk) true).run Tryd.prog w2 = .ok (.tuple #[.int .i64 0, .bool false]) w2 := by
            have h5 := HLK.out
            unfold mapI at h5
            rw [hg] at h5
            exact h5
          have HZ : Hid (r = false) := Lib.hid (by rw [← HR.out, decide_eq_false_iff_not]; intro e; rw [← e, HV.out] at hg; cases hg)
          clear hg
          go_wp2_with fail
          go_ret
          exact ⟨by rw [HZ.out]; rfl, U2.out⟩
        | some v2 =>
          have l0 : (Instr.lookup 59 (.map (some m2)) (.int .i64 xk) true).run Tryd.prog w2 = .ok (.tuple #[.int .i64 v2, .bool true]) w2 := by
            have h5 := HLK.out
            unfold mapI at h5
            rw [hg] at h5
            exact h5
          by_cases hvv : v = v2
          · have dd : (v != v2) = false := by simpa using hvv
            have HAG2 : Hid (∀ x ∈ L, x ∈ rest' ∨ get l2 x.1 = get l1 x.1) := Lib.hid (fun x hx => by
              rcases HAG.out x hx with h5 | h5
              · rcases List.mem_cons.1 (HP.out.mem_iff.2 h5) with h6 | h6
                · subst h6
                  exact .inr (by show get l2 xk = get l1 xk; rw [hg, HV.out, hvv])
                · exact .inl h6
              · exact .inr h5)
            have HM : Hid (itLeft m1 w.heap.size w2 < itLeft m1 w.heap.size wi) := Lib.hid (by
              rw [IT2.out.left, HLF.out, ← HP.out.length_eq]
              simp)
            clear hvv hg
            go_wp2_with fail
            go_roundw
            case rel => exact Lib.hid ⟨rest', IT2.out, HAG2.out, U2.out⟩
            case measure => exact HM.out
          · have dd : (v != v2) = true := by simpa using hvv
            have HZ : Hid (r = false) := Lib.hid (by
              rw [← HR.out, decide_eq_false_iff_not]
              intro e
              rw [← e, HV.out] at hg
              injection hg with hg
              exact hvv hg)
            clear hvv hg
            go_wp2_with fail
            go_ret
            exact ⟨by rw [HZ.out]; rfl, U2.out⟩
  · have d : ((n1 : Int) != (n2 : Int)) = true := by simp; omega
    have HZ : Hid (r = false) := Lib.hid (by rw [← HR.out, decide_eq_false_iff_not]; intro e; exact hnn (by rw [← HN1.out, ← HN2.out, e]))
    clear h1 h2 s1 s2 hn1 hn2 hr hnn
    go_enter Tryd.func42, Tryd.ntmps42
    go_wp2_with fail
    go_ret
    exact ⟨by rw [HZ.out]; rfl, .refl _ _⟩
end Go.Proofs.YtjlpogmoebmkdaaDoor

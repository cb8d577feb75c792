/-
  concordref27: Of, Merge.
-/
import Derived.Test.YthdjbflbhgbckaaDoorRef27
set_option linter.unusedVariables false
namespace Go.Proofs.YthdjbflbhgbckaaDoor
open Go.RowKit Stab Snap Mrg
attribute [local go_sem] litStep_value

def ROfPost (l : PL) (w : World) (e : Ending) (w' : World) : Prop := ∃ v r f a, e = .returned (.tuple #[v, .int .i64 f, .int .i64 a]) ∧ OfR l r f a ∧ r.length ≤ l.length ∧ Ow encPr 39 w' w.heap.size v r ∧ Upd [] w w'
structure ROf (l : PL) (w wr : World) (i : Nat) (out : PL) (tw : Bool) (le : Int) (v : Value) : Prop where
  st : OfSt (l.take i) out tw le
  ow : Ow encPr 39 wr w.heap.size v out
  u : Upd [] w wr
  len : out.length ≤ i
set_option maxRecDepth 100000 in
set_option maxHeartbeats 4000000 in
theorem r_of (A : Option Addr) (n c : Nat) (l : PL) (w : World) (h : Rd encPr w (.slice A n c) l) (hn : l.length = n) (hl : n ≤ 1000) :
    Calls Tryd.prog 7 #[.slice A n c] w fun e w' => ROfPost l w e w' := by
  have H := Lib.hid h
  have HN := Lib.hid hn
  clear h hn
  go_enter Tryd.func7, Tryd.ntmps7
  go_wp2_with fail
  go_loopw [5, 6, 7, 8] (fun v5 v6 v7 v8 wr => ∃ (i N : Nat) (out : PL) (tw : Bool) (le : Int) (A' : Option Addr) (c' : Nat), v5 = .slice A' N c' ∧ v6 = .bool tw ∧ v7 = .int .i64 le ∧ v8 = .int .i64 i ∧ i ≤ n ∧ N ≤ n ∧ Hid (out.length = N) ∧ Hid (ROf l w wr i out tw le (.slice A' N c'))) (fun _ _ _ v _ => n - (intOf v).toNat)
  case atStart => exact ⟨0, 0, [], false, 0, none, 0, rfl, rfl, rfl, rfl, by omega, by omega, Lib.hid rfl, Lib.hid ⟨OfSt.start, Ow.nil _ _ _ _, .refl _ _, Nat.le_refl _⟩⟩
  case round =>
    obtain ⟨i, N, out, tw, le, A', c', rfl, rfl, rfl, rfl, hi, hN, HO, D⟩ := hrel
    have q1 : (0 : Int) ≤ (i : Int) := by omega
    by_cases hin : i < n
    · obtain ⟨x, hx⟩ : ∃ x, l[i]? = some x := ⟨_, List.getElem?_eq_getElem (by rw [HN.out]; omega)⟩
      have HT : Hid (l.take (i + 1) = l.take i ++ [x]) := Lib.hid (by rw [List.take_add_one, hx]; rfl)
      obtain ⟨ad, rfl, hb, hc⟩ := (H.out.upd0 D.out.u).at_ hx
      have f0 : wr.cell? (ad.add (i * 2)) = some (.int .i64 x.1) := hc 0 _ rfl
      have f1 : wr.cell? ⟨(ad.add (i * 2)).block, (ad.add (i * 2)).off + 1, none⟩ = some (.int .i64 x.2) := by have := hc 1 _ rfl; rwa [show i * encPr.s + 1 = i * 2 + (0 + 1) from rfl, add_more] at this
      have q2 : (i : Int) < (n : Int) := by omega
      clear hx hc
      go_wp2_with fail
      refine (r_find A' N c' out x.1 wr D.out.ow.rd HO.out (by omega)).mono ?_
      rintro e w1 ⟨r, rfl, hr, rfl⟩
      have HR := Lib.hid hr
      clear hr
      by_cases hr0 : 0 ≤ r
      · have d0 : decide (0 ≤ r) = true := by simpa using hr0
        have hs : Hid ((Assoc.get out x.1).isSome = true) := Lib.hid (by
          rcases HR.out with ⟨_, v, _, _, _, h⟩ | ⟨h, _⟩
          · rw [h]; rfl
          · omega)
        have D2 := Lib.hid (ROf.mk (l := l) (i := i + 1) (by rw [HT.out]; exact D.out.st.there hs.out) D.out.ow D.out.u (Nat.le_succ_of_le D.out.len))
        clear hr0 hs
        cases tw with
        | false =>
          have D3 : Hid (ROf l w wr (i + 1) out true x.1 (.slice A' N c')) := by rwa [if_pos (.inl rfl)] at D2
          clear D2
          go_wp2_with fail
          go_roundw
          case rel => exact ⟨i + 1, N, out, true, x.1, A', c', rfl, rfl, rfl, by go_num, by omega, hN, HO, D3⟩
          case measure => simp [intOf]; omega
        | true =>
          by_cases hle : x.1 < le
          · have d1 : decide (x.1 < le) = true := by simpa using hle
            have D3 : Hid (ROf l w wr (i + 1) out true x.1 (.slice A' N c')) := by rwa [if_pos (.inr hle)] at D2
            clear hle D2
            go_wp2_with fail
            go_roundw
            case rel => exact ⟨i + 1, N, out, true, x.1, A', c', rfl, rfl, rfl, by go_num, by omega, hN, HO, D3⟩
            case measure => simp [intOf]; omega
          · have d1 : decide (x.1 < le) = false := by simpa using hle
            have D3 : Hid (ROf l w wr (i + 1) out true le (.slice A' N c')) := by rwa [if_neg (by simpa using hle)] at D2
            clear hle D2
            go_wp2_with fail
            go_roundw
            case rel => exact ⟨i + 1, N, out, true, le, A', c', rfl, rfl, rfl, by go_num, by omega, hN, HO, D3⟩
            case measure => simp [intOf]; omega
      · have d0 : decide (0 ≤ r) = false := by simpa using hr0
        have hs : Hid (Assoc.get out x.1 = none) := Lib.hid (by
          rcases HR.out with ⟨_, v, h, _⟩ | ⟨_, h⟩
          · omega
          · exact h)
        clear hr0
        go_wp2_with fail
        refine (r_put w.heap.size A' N c' out x.1 x.2 wr D.out.ow HO.out (by omega) hs.out).mono ?_
        rintro e w2 ⟨u, rfl, o2, u2⟩
        have hlen : (Assoc.put out x.1 x.2).length = N + 1 := by
          rw [Assoc.len_put D.out.st.srt, hs.out]
          simp [HO.out]
        have D2 : Hid (ROf l w w2 (i + 1) (Assoc.put out x.1 x.2) tw le u) := Lib.hid ⟨by rw [HT.out]; exact D.out.st.fresh hs.out, own_base o2 D.out.u.size, D.out.u.trans u2, by rw [hlen]; have := D.out.len; rw [HO.out] at this; omega⟩
        obtain ⟨A2, c2, rfl, _, _⟩ := own_slice o2
        rw [hlen] at D2 ⊢
        have HL2 := Lib.hid hlen
        have hN2 : N + 1 ≤ n := by have := D2.out.len; rw [hlen] at this; omega
        clear hlen o2 u2 f0 f1
        go_wp2_with fail
        go_roundw
        case rel => exact ⟨i + 1, N + 1, _, tw, le, A2, c2, rfl, rfl, rfl, by go_num, by omega, hN2, HL2, D2⟩
        case measure => simp [intOf]; omega
    · have hin' : i = n := by omega
      subst hin'
      have E : Hid (l.take i = l) := Lib.hid (List.take_of_length_le (by rw [HN.out]; omega))
      have F := D.out.st.done
      rw [E.out] at F
      have FF := Lib.hid F
      have LN := Lib.hid D.out.len
      clear F
      cases tw with
      | false =>
        go_wp2_with fail
        refine bodyPost_ret (v := .tuple #[.slice A' N c', .int .i64 0, .int .i64 0]) (by simp [results, Tryd.results7, go_sem]) rfl ?_
        exact ⟨_, out, 0, 0, rfl, FF.out, by rw [HN.out]; exact LN.out, D.out.ow, D.out.u⟩
      | true =>
        go_wp2_with fail
        refine bodyPost_ret (v := .tuple #[.slice none 0 0, .int .i64 7, .int .i64 le]) (by simp [results, Tryd.results7, go_sem]) rfl ?_
        exact ⟨_, [], 7, le, rfl, FF.out, Nat.zero_le _, Ow.nil _ _ _ _, D.out.u⟩
/-- The document's Merge, so far. -/
structure RMg (X : PL) (w wr : World) (out : PL) (v : Value) : Prop where
  srt : Assoc.Srt out
  get : ∀ k, Assoc.get out k = Assoc.get X k
  ow : Ow encPr 39 wr w.heap.size v out
  u : Upd [] w wr
theorem RMg.len {X : PL} {w wr : World} {out : PL} {v : Value} (h : RMg X w wr out v) : out.length ≤ X.length :=
  srt_len h.srt (fun q hq => by
    have h1 := Assoc.get_mem h.srt hq
    rw [h.get] at h1
    exact ⟨_, Assoc.mem_of_get h1, rfl⟩)
theorem RMg.there {X : PL} {w wr : World} {out : PL} {v : Value} {x : Int × Int} (h : RMg X w wr out v) (hx : (Assoc.get out x.1).isSome = true) : RMg (X ++ [x]) w wr out v :=
  ⟨h.srt, fun k => by
    rw [get_append, h.get, Assoc.get_cons, Assoc.get_nil]
    by_cases e : x.1 = k
    · subst e
      rw [h.get] at hx
      obtain ⟨v, hv⟩ := Option.isSome_iff_exists.1 hx
      rw [hv]; rfl
    · rw [if_neg e]; simp, h.ow, h.u⟩
theorem RMg.fresh {X : PL} {w wr w2 : World} {out : PL} {v v' : Value} {x : Int × Int} (h : RMg X w wr out v) (hx : Assoc.get out x.1 = none) (ho : Ow encPr 39 w2 w.heap.size v' (Assoc.put out x.1 x.2)) (hu : Upd [] wr w2) : RMg (X ++ [x]) w w2 (Assoc.put out x.1 x.2) v' :=
  ⟨Assoc.srt_put h.srt _ _, fun k => by
    rw [Assoc.get_put h.srt, get_append, ← h.get, Assoc.get_cons, Assoc.get_nil]
    by_cases e : k = x.1
    · subst e; rw [if_pos rfl, if_pos rfl, hx]; rfl
    · rw [if_neg e, if_neg (fun h => e h.symm)]; simp, ho, h.u.trans hu⟩
def RMergePost (L : List PL) (w : World) (e : Ending) (w' : World) : Prop := ∃ v M, e = .returned v ∧ Uni L M ∧ Ow encPr 39 w' w.heap.size v M ∧ Upd [] w w'
set_option maxRecDepth 100000 in
set_option maxHeartbeats 4000000 in
theorem r_merge (A : Option Addr) (n c : Nat) (vs : List Value) (L : List PL) (w : World) (h : Src w 1 (.slice A n c) n vs) (hn : L.length = n) (hN : n ≤ 1000) (hv : ∀ i, i < n → Rd encPr w (vs.getD i undef) (L.getD i [])) (hf : L.flatten.length ≤ 1000) :
    Calls Tryd.prog 36 #[.slice A n c] w fun e w' => RMergePost L w e w' := by
  have H := Lib.hid h
  have HN := Lib.hid hn
  have HV := Lib.hid hv
  have HF := Lib.hid hf
  clear h hn hv hf
  go_enter Tryd.func36, Tryd.ntmps36
  go_wp2_with fail
  go_loopw [3, 4] (fun v3 v4 wr => ∃ (i N : Nat) (out : PL) (A' : Option Addr) (c' : Nat), v3 = .slice A' N c' ∧ v4 = .int .i64 i ∧ i ≤ n ∧ Hid (out.length = N) ∧ Hid (RMg (L.take i).flatten w wr out (.slice A' N c'))) (fun _ v _ => n - (intOf v).toNat)
  case atStart => exact ⟨0, 0, [], none, 0, rfl, rfl, by omega, Lib.hid rfl, Lib.hid ⟨Assoc.Srt.nil, fun k => rfl, Ow.nil _ _ _ _, .refl _ _⟩⟩
  case round =>
    obtain ⟨i, N0, out0, A0, c0, rfl, rfl, hi, HO0, D0⟩ := hrel
    have q1 : (0 : Int) ≤ (i : Int) := by omega
    by_cases hin : i < n
    · obtain ⟨r, hr⟩ : ∃ r, L[i]? = some r := ⟨_, List.getElem?_eq_getElem (by rw [HN.out]; omega)⟩
      have q2 : (i : Int) < (n : Int) := by omega
      have hvi := HV.out i hin
      have hrd : L.getD i [] = r := by rw [List.getD_eq_getElem?_getD, hr]; rfl
      rw [hrd] at hvi
      obtain ⟨u, hu⟩ : ∃ u, vs[i]? = some u := ⟨_, List.getElem?_eq_getElem (by have := H.out.1; omega)⟩
      have hud : vs.getD i undef = u := by rw [List.getD_eq_getElem?_getD, hu]; rfl
      rw [hud] at hvi
      obtain ⟨Ai, ci, hAi⟩ := hvi.form
      obtain ⟨m, hm⟩ : ∃ m, r.length = m := ⟨_, rfl⟩
      rw [hm] at hAi
      subst hAi
      obtain ⟨_, A2, c2, e2, h2⟩ := H.out
      injection e2 with e2 _ e2'
      subst e2 e2'
      obtain ⟨ad, rfl, hadb, hcell⟩ := h2 i _ hu
      have CI : Hid (∀ W, Upd [] w W → W.cell? (ad.add i) = some (.slice Ai m ci)) := Lib.hid (fun W hW => by
        obtain ⟨_, A2, c2, e2, h2⟩ := Src.upd0 H.out hW
        injection e2 with e2 _ e2'
        subst e2 e2'
        obtain ⟨ad', e, _, h⟩ := h2 i _ hu
        cases e
        exact h)
      have HVI := Lib.hid hvi
      have HM := Lib.hid hm
      have HR := Lib.hid hr
      have HT1 : Hid ((L.take (i + 1)).flatten = (L.take i).flatten ++ r) := Lib.hid (by rw [List.take_add_one, hr]; simp)
      have hle : Hid (∀ k, ((L.take i).flatten ++ r.take k).length ≤ 1000) := Lib.hid (fun k => by
        have h1 := HF.out
        have h3 : L.flatten = (L.take (i + 1)).flatten ++ (L.drop (i + 1)).flatten := by rw [← List.flatten_append, List.take_append_drop]
        rw [h3, List.length_append, HT1.out, List.length_append] at h1
        rw [List.length_append, List.length_take]
        omega)
      have hm1 : m ≤ 1000 := by
        have := hle.out m
        rw [List.length_append, List.length_take, hm, Nat.min_self] at this
        omega
      clear hvi hrd hu hud hm hr h2 hadb hcell
      go_wp2_with fail
      go_loopw [3, 5] (fun v3 v5 wr => ∃ (k N : Nat) (out : PL) (A' : Option Addr) (c' : Nat), v3 = .slice A' N c' ∧ v5 = .int .i64 k ∧ k ≤ m ∧ Hid (out.length = N) ∧ Hid (RMg ((L.take i).flatten ++ r.take k) w wr out (.slice A' N c'))) (fun _ v _ => m - (intOf v).toNat)
      case atStart => exact ⟨0, N0, out0, A0, c0, rfl, rfl, by omega, HO0, by rw [List.take_zero, List.append_nil]; exact D0⟩
      case round =>
        obtain ⟨k, N, out, A', c', rfl, rfl, hk, HO, D⟩ := hrel
        rename World => wk
        have k0 : (0 : Int) ≤ (k : Int) := by omega
        have e0 := CI.out wk D.out.u
        by_cases hkm : k < m
        · obtain ⟨x, hx⟩ : ∃ x, r[k]? = some x := ⟨_, List.getElem?_eq_getElem (by rw [HM.out]; omega)⟩
          have HT : Hid ((L.take i).flatten ++ r.take (k + 1) = (L.take i).flatten ++ r.take k ++ [x]) := Lib.hid (by rw [List.take_add_one, hx, List.append_assoc]; rfl)
          obtain ⟨ai, rfl, hb, hc⟩ := (HVI.out.upd0 D.out.u).at_ hx
          have f0 : wk.cell? (ai.add (k * 2)) = some (.int .i64 x.1) := hc 0 _ rfl
          have f1 : wk.cell? ⟨(ai.add (k * 2)).block, (ai.add (k * 2)).off + 1, none⟩ = some (.int .i64 x.2) := by have := hc 1 _ rfl; rwa [show k * encPr.s + 1 = k * 2 + (0 + 1) from rfl, add_more] at this
          have k2 : (k : Int) < (m : Int) := by omega
          have hNN : N ≤ 1000 := by have := D.out.len; rw [HO.out] at this; exact Nat.le_trans this (hle.out k)
          clear hx hc hb
          go_wp2_with fail
          refine (r_find A' N c' out x.1 wk D.out.ow.rd HO.out hNN).mono ?_
          rintro e w1 ⟨p, rfl, hp, rfl⟩
          have HP := Lib.hid hp
          clear hp
          by_cases hr0 : p < 0
          · have d0 : decide (p < 0) = true := by simpa using hr0
            have hs : Hid (Assoc.get out x.1 = none) := Lib.hid (by
              rcases HP.out with ⟨_, v, h, _⟩ | ⟨_, h⟩
              · omega
              · exact h)
            clear hr0
            go_wp2_with fail
            refine (r_put w.heap.size A' N c' out x.1 x.2 wk D.out.ow HO.out hNN hs.out).mono ?_
            rintro e w2 ⟨u, rfl, o2, u2⟩
            have hlen : (Assoc.put out x.1 x.2).length = N + 1 := by
              rw [Assoc.len_put D.out.srt, hs.out]
              simp [HO.out]
            have D2 : Hid (RMg ((L.take i).flatten ++ r.take (k + 1)) w w2 (Assoc.put out x.1 x.2) u) := Lib.hid (by rw [HT.out]; exact D.out.fresh hs.out (own_base o2 D.out.u.size) u2)
            obtain ⟨A2, c2, rfl, _, _⟩ := own_slice o2
            rw [hlen] at D2 ⊢
            have HL2 := Lib.hid hlen
            clear hlen o2 u2 f0 f1
            go_wp2_with fail
            go_roundw
            case rel => exact ⟨k + 1, N + 1, _, A2, c2, rfl, by go_num, by omega, HL2, D2⟩
            case measure => simp [intOf]; omega
          · have d0 : decide (p < 0) = false := by simpa using hr0
            have hs : Hid ((Assoc.get out x.1).isSome = true) := Lib.hid (by
              rcases HP.out with ⟨_, v, _, _, _, h⟩ | ⟨h, _⟩
              · rw [h]; rfl
              · omega)
            have D2 : Hid (RMg ((L.take i).flatten ++ r.take (k + 1)) w wk out (.slice A' N c')) := Lib.hid (by rw [HT.out]; exact D.out.there hs.out)
            clear hr0
            go_wp2_with fail
            go_roundw
            case rel => exact ⟨k + 1, N, out, A', c', rfl, by go_num, by omega, HO, D2⟩
            case measure => simp [intOf]; omega
        · have hkm' : k = m := by omega
          subst hkm'
          have D2 : Hid (RMg (L.take (i + 1)).flatten w wk out (.slice A' N c')) := Lib.hid (by have e : r.take k = r := List.take_of_length_le (by rw [HM.out]; omega); rw [HT1.out]; have := D.out; rwa [e] at this)
          go_wp2_with fail
          go_roundw
          case rel => exact ⟨i + 1, N, out, A', c', rfl, by go_num, by omega, HO, D2⟩
          case measure => simp [intOf]; omega
    · have hin' : i = n := by omega
      subst hin'
      have E : Hid (L.take i = L) := Lib.hid (List.take_of_length_le (by rw [HN.out]; omega))
      go_wp2_with fail
      go_ret
      exact ⟨_, out0, rfl, ⟨D0.out.srt, fun k => by rw [D0.out.get, E.out]⟩, D0.out.ow, D0.out.u⟩
end Go.Proofs.YthdjbflbhgbckaaDoor

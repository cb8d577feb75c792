/-
  ModelCopy, the walk.
-/
import Derived.Test.YtjlpogmoebmkdaaDoorMRun
import Derived.Test.YtjlpogmoebmkdaaDoorMIs
import Derived.Test.YtjlpogmoebmkdaaDoorRMdl3
import Derived.Test.YtjlpogmoebmkdaaDoorMdl6
import Derived.Test.YtjlpogmoebmkdaaDoorMAlive
set_option linter.unusedVariables false
namespace Go.Proofs.YtjlpogmoebmkdaaDoor
open Go.RowKit Assoc MP
attribute [local go_sem] litStep_value

/-- What the first collections had, kept in a list of lists. -/
structure WasSt (B : Nat) (vw : Value) (vs : List Value) (k : Nat) (s : MS) (w : World) : Prop where
  own : w.ownsRow B 27 1 vw k vs
  each : ∀ j v, vs[j]? = some v → Ow encPr 36 w B v (coll s j)
theorem WasSt.len {B k : Nat} {vw : Value} {vs : List Value} {s : MS} {w : World} (h : WasSt B vw vs k s w) : vs.length = k := by have := own_len h.own; omega
theorem WasSt.upd {B k : Nat} {vw : Value} {vs : List Value} {s : MS} {w w' : World} {T : List Nat} (h : WasSt B vw vs k s w) (hu : Upd T w w') (hT : ∀ x ∈ T, x < B) : WasSt B vw vs k s w' :=
  ⟨own_upd h.own hu (fun b hb hbT => by have := (own_lt h.own hb).1; have := hT b hbT; omega), fun j v hv => (h.each j v hv).upd hu (fun b hb hbT => by have := (own_lt (h.each j v hv) hb).1; have := hT b hbT; omega)⟩
theorem WasSt.upd0 {B k : Nat} {vw : Value} {vs : List Value} {s : MS} {w w' : World} (h : WasSt B vw vs k s w) (hu : Upd [] w w') : WasSt B vw vs k s w' := h.upd hu (by simp)
theorem own_apart {w : World} {B B' n n' s s' : Nat} {e e' : TypeId} {v v' : Value} {xs xs' : List Value} (h : w.ownsRow B e s v n xs) (h' : w.ownsRow B' e' s' v' n' xs') (hne : e ≠ e') {b : Nat} (hb : v.ownBlock = some b) : v'.ownBlock ≠ some b := by
  rcases h.2 with ⟨e, _⟩ | ⟨g, cap, cur, e, _, hg, _⟩
  · rw [e] at hb; simp [Value.ownBlock] at hb
  · rw [e] at hb
    simp only [Value.ownBlock, Option.some.injEq] at hb
    subst hb
    exact own_type h' hg hne
theorem WasSt.push {B k : Nat} {vw vw' v : Value} {vs : List Value} {s : MS} {w w' : World} (h : WasSt B vw vs k s w) (o : w'.ownsRow B 27 1 vw' (k + 1) (vs ++ [v])) (hu : Upd vw.ownBlock.toList w w') (hv : Ow encPr 36 w B v (coll s k)) : WasSt B vw' (vs ++ [v]) (k + 1) s w' := by
  have ap : ∀ (u : Value) (l : AL), Ow encPr 36 w B u l → Ow encPr 36 w' B u l := fun u l hu' => hu'.upd hu (fun b hb hbT => own_apart hu' h.own (by decide) hb (by simpa using hbT))
  refine ⟨o, fun j u hj => ?_⟩
  rcases Nat.lt_or_ge j k with hjk | hjk
  · rw [List.getElem?_append_left (by rw [h.len]; exact hjk)] at hj
    exact ap _ _ (h.each j u hj)
  · rw [List.getElem?_append_right (by rw [h.len]; exact hjk), h.len] at hj
    obtain ⟨hl, hj⟩ := List.getElem?_eq_some_iff.1 hj
    simp at hl
    obtain rfl : j = k := by omega
    simp at hj
    subst hj
    exact ap _ _ hv
theorem steps_snoc (s : MS) (l : List MAct) (a : MAct) : (l ++ [a]).foldl stepM s = stepM (l.foldl stepM s) a := by rw [List.foldl_append]; rfl
theorem same_dec {s t : MS} {n : Nat} (hs : s.L.length = n) (ht : t.L.length = n) (hK : s.K = t.K) : (s = t) ↔ ∀ j, j < n → coll s j = coll t j :=
  ⟨fun h _ _ => by rw [h], fun h => ms_eq hK hs ht h⟩
set_option maxRecDepth 100000 in
set_option maxHeartbeats 8000000 in
theorem law_mcopy (A' : Option Addr) (m d : Nat) (ks : List Int) (A : Option Addr) (n c : Nat) (L : List MAct) (A2 : Option Addr) (n2 c2 : Nat) (L2 : List MAct) (w : World) (hK : Rd encK w (.slice A' m d) ks) (hm : ks.length = m) (hA : Rd encA w (.slice A n c) L) (hn : L.length = n) (hkb : ∀ a ∈ L, kB a.2.2.1) (hA2 : Rd encA w (.slice A2 n2 c2) L2) (hn2 : L2.length = n2) (hkb2 : ∀ a ∈ L2, kB a.2.2.1) (hg : Typed w) :
    Calls Tryd.prog 6 #[.slice A' m d, .slice A n c, .slice A2 n2 c2] w fun e w' => e = .returned (.bool true) ∧ Upd [] w w' := by
  have HG := Lib.hid hg
  have HA := Lib.hid hA
  have HK := Lib.hid hK
  have HN := Lib.hid hn
  have HM := Lib.hid hm
  have HKB := Lib.hid hkb
  have HA2 := Lib.hid hA2
  have HN2 := Lib.hid hn2
  have HKB2 := Lib.hid hkb2
  clear hg hA hn hK hm hkb hA2 hn2 hkb2
  go_enter Tryd.func6, Tryd.ntmps6
  go_wp2_with fail
  refine (mplay_ok A A' m d n c ks L w w HK.out HM.out HA.out HN.out HKB.out HG.out (.refl _ _)).mono ?_; rintro e w1 h
  rcases h with ⟨rfl, u1⟩ | ⟨hb, h8, sb, F, rfl, s1, u1⟩
  · have U1 := Lib.hid u1
    clear u1
    go_wp2_with fail
    refine (m_alive w1).mono ?_; rintro e w9 ⟨rfl, u9⟩
    have U9 := Lib.hid (U1.out.trans u9)
    clear u9
    go_wp2_with fail
    go_ret
    exact ⟨rfl, U9.out⟩
  · have U1 := Lib.hid u1
    by_cases h6 : 60 < n2
    · have d6 : decide ((60 : Int) < (n2 : Int)) = true := by simp; omega
      clear u1 s1 hb h8
      go_wp2_with fail
      refine (m_alive w1).mono ?_; rintro e w9 ⟨rfl, u9⟩
      have U9 := Lib.hid (U1.out.trans u9)
      clear u9
      go_wp2_with fail
      go_ret
      exact ⟨rfl, U9.out⟩
    have d6 : decide ((60 : Int) < (n2 : Int)) = false := by simp; omega
    have hm8 : m ≤ 8 := by rw [← HM.out]; exact h8
    obtain ⟨s, hs⟩ : ∃ s, runM ks L = s := ⟨_, rfl⟩
    have SK : Hid (s.K = ks) := Lib.hid (by rw [← hs]; exact runM_K ks L)
    have SL : Hid (s.L.length = m) := Lib.hid (by rw [← hs, ← HM.out]; exact runM_len ks L)
    rw [hs] at s1
    have S1 := Lib.hid s1
    clear u1 s1 hb h8 hs
    go_wp2_with fail
    refine (m_copy w.heap.size sb F s w1 S1.out).mono ?_; rintro e w2 ⟨tb, G, rfl, t2, u2⟩
    have U2 := Lib.hid (U1.out.trans u2)
    have S2 := Lib.hid (S1.out.upd0 u2)
    have T2 := Lib.hid t2
    have DJ : Hid (Disj F G) := Lib.hid (fun k hk hk' => by have h1 := (S1.out.lt k hk).2; have h2 := (t2.lt k hk').1; omega)
    have GL : Hid (∀ k ∈ G, k < w2.heap.size) := Lib.hid (fun k hk => (t2.lt k hk).2)
    have FL : Hid (∀ k ∈ F, k < w2.heap.size) := Lib.hid (fun k hk => Nat.lt_of_lt_of_le (S1.out.lt k hk).2 u2.size)
    have W2 : Hid (w.heap.size ≤ w2.heap.size) := Lib.hid U2.out.size
    have GW : Hid (∀ k ∈ G, w.heap.size ≤ k) := Lib.hid (fun k hk => Nat.le_trans U1.out.size (t2.lt k hk).1)
    clear u2 t2
    go_wp2_with fail
    refine (m_same _ _ sb tb F G s s w2 S2.out T2.out).mono ?_; rintro e w3 ⟨b, rfl, hb, u3⟩
    obtain rfl : b = true := hb.2 rfl
    have U3 := Lib.hid (U2.out.trans u3)
    have S3 := Lib.hid (S2.out.upd0 u3)
    have T3 := Lib.hid (T2.out.upd0 u3)
    clear hb
    have Z3 : Hid (w2.heap.size ≤ w3.heap.size) := Lib.hid u3.size
    clear u3
    go_wp2_with fail
    refine (m_same _ _ tb sb G F s s w3 T3.out S3.out).mono ?_; rintro e w4 ⟨b, rfl, hb, u4⟩
    obtain rfl : b = true := hb.2 rfl
    have U4 := Lib.hid (U3.out.trans u4)
    have S4 := Lib.hid (S3.out.upd0 u4)
    have T4 := Lib.hid (T3.out.upd0 u4)
    have Z4 : Hid (w2.heap.size ≤ w4.heap.size) := Lib.hid (Nat.le_trans Z3.out u4.size)
    clear hb u4 U1 U2 U3 S1 S2 S3 T2 T3 Z3
    have W0 : Hid (WasSt w2.heap.size (.slice none 0 0) [] 0 s w4) := Lib.hid ⟨own_nil _ _ _ _, fun j v h => by cases h⟩
    go_wp2_with fail
    go_loopw [50, 9, 10, 11, 12] (fun v vw v10 v11 v12 wr => ∃ (k : Nat) (vs : List Value), v = .int .i64 k ∧ k ≤ m ∧ (∃ X y, vw = .slice X k y) ∧ Hid (WasSt w2.heap.size vw vs k s wr) ∧ Hid (Mdl _ sb F wr s) ∧ Hid (Mdl _ tb G wr s) ∧ Hid (Upd [] w wr) ∧ Hid (w2.heap.size ≤ wr.heap.size)) (fun v _ _ _ _ _ => m - (intOf v).toNat)
    case atStart => exact ⟨0, [], rfl, by omega, ⟨_, _, rfl⟩, W0, S4, T4, U4, Z4⟩
    case round =>
      obtain ⟨k, vs, rfl, hk, ⟨X, y, rfl⟩, WK, SK', TK, UK, ZK⟩ := hrel
      rename World => wr
      by_cases hkm : k < m
      · have hi : k < s.L.length := by rw [SL.out]; exact hkm
        have HI := Lib.hid hi
        have HIC : Hid (isC s k = true) := Lib.hid (isC_nat hi)
        clear hi
        go_wp2_with fail
        refine (m_list w.heap.size sb F s k wr SK'.out).mono ?_
        rintro e w5 ⟨v5, e5, rfl, ev5, o5, u5⟩
        unfold listC at o5
        simp only [HIC.out, ↓reduceIte, Int.toNat_natCast] at o5
        obtain ⟨A5, c5, rfl, _, _⟩ := own_slice o5
        obtain ⟨N5, hN5⟩ : ∃ x, (coll s k).length = x := ⟨_, rfl⟩
        rw [hN5] at o5
        simp only [hN5]
        have O5 : Hid (Ow encPr 36 w5 w2.heap.size (.slice A5 N5 c5) (coll s k)) := Lib.hid (own_base o5 ZK.out)
        have UA : Hid (Upd [] wr (w5.alloc (.cells #[.slice A5 N5 c5] 27))) := Lib.hid (u5.trans ((Upd.refl [] w5).alloc _))
        have UB : Hid (Upd [] w5 (w5.alloc (.cells #[.slice A5 N5 c5] 27))) := Lib.hid ((Upd.refl [] w5).alloc _)
        have hsz : w2.heap.size ≤ (w5.alloc (.cells #[.slice A5 N5 c5] 27)).heap.size := Nat.le_trans ZK.out UA.out.size
        have WA := Lib.hid (WK.out.upd0 UA.out)
        clear ev5 o5 u5
        clear hN5
        go_wp2_with (at_builtin; refine stopped ?_)
        refine Lib.hid ?_
        refine wpList_app _ (by rfl) (.tmp 59) (.tmp 61) _ (by rfl) elem_prs (.slice X k y) _ (by rfl) (by rfl) WA.out.own (.of_blk (Blk.new _ _ _) (m := 1) 1 rfl) (by intro u hu; simp at hu; subst hu; rfl) (by simp only [maxLen]; omega) (by omega) hsz ?_
        intro v7 w7 o7 u7 b7
        have PL := Lib.hid (WA.out.push o7 u7 (O5.out.upd0 UB.out))
        have LOW : Hid (∀ b ∈ (Value.slice X k y).ownBlock.toList, w2.heap.size ≤ b) := Lib.hid (fun b hb => (own_lt WA.out.own (by simpa using hb)).1)
        have S7 := Lib.hid ((SK'.out.upd0 UA.out).upd u7 (fun x hx hx' => by have h1 := FL.out x hx; have h2 := LOW.out x hx'; omega))
        have T7 := Lib.hid ((TK.out.upd0 UA.out).upd u7 (fun x hx hx' => by have h1 := GL.out x hx; have h2 := LOW.out x hx'; omega))
        have U7 : Hid (Upd [] w w7) := Lib.hid ((UK.out.trans UA.out).trans' u7 (fun b hb => .inr (by have := LOW.out b hb; have := W2.out; omega)))
        have Z7 : Hid (w2.heap.size ≤ w7.heap.size) := Lib.hid (Nat.le_trans hsz u7.size)
        obtain ⟨A7, c7, rfl, _, _⟩ := own_slice o7
        clear o7 u7 b7 WA UA UB hsz WK SK' TK UK ZK O5 LOW
        go_wp2_with fail
        go_roundw
        case rel => exact ⟨k + 1, _, by go_num, by omega, ⟨_, _, rfl⟩, PL, S7, T7, U7, Z7⟩
        case measure => simp [intOf]; omega
      · obtain rfl : k = m := by omega
        clear S4 T4 U4 Z4 W0
        go_wp2_with fail
        go_loopw [66, 14, 72, 83] (fun v v1 v2 v3 wr' => ∃ (j : Nat), v = .int .i64 j ∧ j ≤ n2 ∧ Hid (WasSt w2.heap.size (.slice X k y) vs k s wr') ∧ Hid (Mdl w.heap.size sb F wr' s) ∧ Hid (Mdl w1.heap.size tb G wr' ((L2.take j).foldl stepM s)) ∧ Hid (Upd [] w wr')) (fun v _ _ _ _ => n2 - (intOf v).toNat)
        case atStart => exact ⟨0, rfl, by omega, WK, SK', TK, UK⟩
        case round =>
          obtain ⟨j, rfl, hj, WJ, SJ, TJ, UJ⟩ := hrel
          rename World => wj
          clear WK SK' TK UK ZK
          by_cases hjn : j < n2
          · obtain ⟨⟨ak, ac, ax, an⟩, hx⟩ : ∃ x, L2[j]? = some x := ⟨_, List.getElem?_eq_getElem (by rw [HN2.out]; exact hjn)⟩
            have KX : Hid (kB ax) := Lib.hid (HKB2.out _ (List.mem_of_getElem? hx))
            obtain ⟨ad, rfl, hlt, e0, e1, e2, e3⟩ := act_cells (HA2.out.upd0 UJ.out) hx
            have TK := Lib.hid (take_snoc hx)
            have q1 : (0 : Int) ≤ (j : Int) := by omega
            have q2 : (j : Int) < (n2 : Int) := by omega
            clear hx
            have UA : Hid (Upd [] wj (wj.alloc (.cells #[.int .i64 ak, .int .i64 ac, .int .i64 ax, .int .i64 an] 47))) := Lib.hid ((Upd.refl [] wj).alloc _)
            by_cases a1 : ak = 1
            · subst a1
              go_wp2_with fail
              generalize (wj.alloc (.cells #[.int .i64 1, .int .i64 ac, .int .i64 ax, .int .i64 an] 47)) = w5 at *
              refine (m_put w1.heap.size tb G _ ac ax an w5 (TJ.out.upd0 UA.out) KX.out).mono ?_
              rintro e w7 ⟨e7, rfl, ev7, t7, u7⟩
              have TJ7 : Hid (Mdl w1.heap.size tb G w7 ((L2.take (j + 1)).foldl stepM s)) := Lib.hid (by
                rw [TK.out, steps_snoc]
                unfold stepM
                rw [if_pos (by simp)]
                exact t7)
              clear ev7 t7
              have WJ7 := Lib.hid ((WJ.out.upd0 UA.out).upd u7 GL.out)
              have SJ7 := Lib.hid ((SJ.out.upd0 UA.out).upd u7 DJ.out)
              have UJ7 : Hid (Upd [] w w7) := Lib.hid ((UJ.out.trans UA.out).trans' u7 (fun b hb => .inr (GW.out b hb)))
              clear u7 e0 e1 e2 e3
              go_wp2_with fail
              go_roundw
              case rel => exact ⟨j + 1, by go_num, by omega, WJ7, SJ7, TJ7, UJ7⟩
              case measure => simp [intOf]; omega
            · have d1 : (ak == 1) = false := by simpa using a1
              by_cases a2 : ak = 2
              · subst a2
                go_wp2_with fail
                generalize (wj.alloc (.cells #[.int .i64 2, .int .i64 ac, .int .i64 ax, .int .i64 an] 47)) = w5 at *
                refine (m_put w1.heap.size tb G _ ac ax an w5 (TJ.out.upd0 UA.out) KX.out).mono ?_
                rintro e w7 ⟨e7, rfl, ev7, t7, u7⟩
                have TJ7 : Hid (Mdl w1.heap.size tb G w7 ((L2.take (j + 1)).foldl stepM s)) := Lib.hid (by
                  rw [TK.out, steps_snoc]
                  unfold stepM
                  rw [if_pos (by simp)]
                  exact t7)
                clear ev7 t7
                have WJ7 := Lib.hid ((WJ.out.upd0 UA.out).upd u7 GL.out)
                have SJ7 := Lib.hid ((SJ.out.upd0 UA.out).upd u7 DJ.out)
                have UJ7 : Hid (Upd [] w w7) := Lib.hid ((UJ.out.trans UA.out).trans' u7 (fun b hb => .inr (GW.out b hb)))
                clear u7 e0 e1 e2 e3
                go_wp2_with fail
                go_roundw
                case rel => exact ⟨j + 1, by go_num, by omega, WJ7, SJ7, TJ7, UJ7⟩
                case measure => simp [intOf]; omega
              · have d2 : (ak == 2) = false := by simpa using a2
                by_cases a3 : ak = 3
                · subst a3
                  go_wp2_with fail
                  generalize (wj.alloc (.cells #[.int .i64 3, .int .i64 ac, .int .i64 ax, .int .i64 an] 47)) = w5 at *
                  refine (m_del w1.heap.size tb G _ ac ax w5 (TJ.out.upd0 UA.out)).mono ?_
                  rintro e w7 ⟨e7, rfl, ev7, t7, u7⟩
                  have TJ7 : Hid (Mdl w1.heap.size tb G w7 ((L2.take (j + 1)).foldl stepM s)) := Lib.hid (by
                    rw [TK.out, steps_snoc]
                    unfold stepM
                    rw [if_neg (by simp), if_pos rfl]
                    exact t7)
                  clear ev7 t7
                  have WJ7 := Lib.hid ((WJ.out.upd0 UA.out).upd u7 GL.out)
                  have SJ7 := Lib.hid ((SJ.out.upd0 UA.out).upd u7 DJ.out)
                  have UJ7 : Hid (Upd [] w w7) := Lib.hid ((UJ.out.trans UA.out).trans' u7 (fun b hb => .inr (GW.out b hb)))
                  clear u7 e0 e1 e2 e3
                  go_wp2_with fail
                  go_roundw
                  case rel => exact ⟨j + 1, by go_num, by omega, WJ7, SJ7, TJ7, UJ7⟩
                  case measure => simp [intOf]; omega
                · have d3 : (ak == 3) = false := by simpa using a3
                  have TJ7 : Hid (Mdl w1.heap.size tb G (wj.alloc (.cells #[.int .i64 ak, .int .i64 ac, .int .i64 ax, .int .i64 an] 47)) ((L2.take (j + 1)).foldl stepM s)) := Lib.hid (by
                    rw [TK.out, steps_snoc]
                    unfold stepM
                    rw [if_neg (by simp [a1, a2]), if_neg (by simpa using a3)]
                    exact TJ.out.upd0 UA.out)
                  have WJ7 := Lib.hid (WJ.out.upd0 UA.out)
                  have SJ7 := Lib.hid (SJ.out.upd0 UA.out)
                  have UJ7 := Lib.hid (UJ.out.trans UA.out)
                  go_wp2_with fail
                  go_roundw
                  case rel => exact ⟨j + 1, by go_num, by omega, WJ7, SJ7, TJ7, UJ7⟩
                  case measure => simp [intOf]; omega
          · obtain rfl : j = n2 := by omega
            have TK : Hid (((L2.take j).foldl stepM s).K = s.K) := Lib.hid (steps_K _ _)
            have TL : Hid (((L2.take j).foldl stepM s).L.length = k) := Lib.hid (by rw [steps_len]; exact SL.out)
            generalize (L2.take j).foldl stepM s = t at *
            have EQ : Hid ((s = t) ↔ ∀ i, i < k → coll s i = coll t i) := Lib.hid (same_dec SL.out TL.out TK.out.symm)
            have GT := Lib.hid TJ.out.1
            have GS := Lib.hid SJ.out.1
            go_wp2_with fail
            go_loopw [94, 15, 16, 17, 18, 19, 20] (fun v vb v1 v2 v3 v4 v5 wr => ∃ (i : Nat) (b : Bool), v = .int .i64 i ∧ vb = .bool b ∧ i ≤ k ∧ Hid (b = true ↔ ∀ i', i' < i → coll s i' = coll t i') ∧ Hid (Upd [] wj wr)) (fun v _ _ _ _ _ _ _ => k - (intOf v).toNat)
            case atStart => exact ⟨0, true, rfl, rfl, by omega, Lib.hid ⟨fun _ i' hi' => by omega, fun _ => rfl⟩, Lib.hid (.refl _ _)⟩
            case round =>
              obtain ⟨i, b, rfl, rfl, hi, HB, UI⟩ := hrel
              rename World => wi
              by_cases hik : i < k
              · have HIS : Hid (isC s i = true) := Lib.hid (isC_nat (by rw [SL.out]; exact hik))
                have HIT : Hid (isC t i = true) := Lib.hid (isC_nat (by rw [TL.out]; exact hik))
                have LS : Hid ((coll s i).length ≤ 1000) := Lib.hid (Nat.le_trans (GS.out.len _ (coll_mem (by rw [SL.out]; exact hik))) (by omega))
                have LT : Hid ((coll t i).length ≤ 1000) := Lib.hid (Nat.le_trans (GT.out.len _ (coll_mem (by rw [TL.out]; exact hik))) (by omega))
                go_wp2_with fail
                refine (m_list w.heap.size sb F s i wi (SJ.out.upd0 UI.out)).mono ?_
                rintro e w5 ⟨vx, e5, rfl, ev5, o5, u5⟩
                unfold listC at o5
                simp only [HIS.out, ↓reduceIte, Int.toNat_natCast] at o5
                have U5 := Lib.hid (UI.out.trans u5)
                have OX := Lib.hid o5
                clear ev5 o5 u5
                go_wp2_with fail
                refine (m_list _ tb G t i w5 (TJ.out.upd0 U5.out)).mono ?_
                rintro e w6 ⟨vy, e6, rfl, ev6, o6, u6⟩
                unfold listC at o6
                simp only [HIT.out, ↓reduceIte, Int.toNat_natCast] at o6
                have U6 := Lib.hid (U5.out.trans u6)
                have OX6 := Lib.hid (OX.out.upd0 u6)
                have OY := Lib.hid o6
                clear ev6 o6 u6 OX
                have W6 := Lib.hid (WJ.out.upd0 U6.out)
                obtain ⟨vz, hz⟩ : ∃ v, vs[i]? = some v := ⟨_, List.getElem?_eq_getElem (by rw [W6.out.len]; exact hik)⟩
                have OZ : Hid (Ow encPr 36 w6 w2.heap.size vz (coll s i)) := Lib.hid (W6.out.each i vz hz)
                obtain ⟨g, cg, cur, e1, -⟩ := own_form W6.out.own (by omega)
                injection e1 with e1 en e1'
                subst e1 e1'
                have ez : w6.cell? ⟨g, i, none⟩ = some vz := own_cell W6.out.own i _ hz
                obtain ⟨Az, cz, rfl, _, _⟩ := own_slice OZ.out
                have q1 : (0 : Int) ≤ (i : Int) := by omega
                have q2 : (i : Int) < (k : Int) := by omega
                clear hz en
                go_wp2_with fail
                refine (pairs_ok _ _ _ _ vx _ w6 OX6.out OZ.out LS.out LS.out).mono ?_
                rintro e w7 ⟨rfl, u7⟩
                rw [decide_eq_true rfl]
                have U7 := Lib.hid (U6.out.trans u7)
                have OX7 := Lib.hid (OX6.out.upd0 u7)
                have OY7 := Lib.hid (OY.out.upd0 u7)
                clear u7 ez U6 OX6 OY W6 OZ U5 UI
                cases b with
                | false =>
                  have HB2 : Hid (false = true ↔ ∀ i', i' < i + 1 → coll s i' = coll t i') := Lib.hid ⟨fun h => absurd h (by simp), fun h => HB.out.2 (fun i' hi' => h i' (by omega))⟩
                  go_wp2_with fail
                  go_roundw
                  case rel => exact ⟨i + 1, false, by go_num, rfl, by omega, HB2, U7⟩
                  case measure => simp [intOf]; omega
                | true =>
                  have HB2 : Hid (decide (coll s i = coll t i) = true ↔ ∀ i', i' < i + 1 → coll s i' = coll t i') := Lib.hid ⟨fun h i' hi' => by
                    by_cases e : i' = i
                    · subst e; exact of_decide_eq_true h
                    · exact HB.out.1 rfl i' (by omega), fun h => decide_eq_true (h i (by omega))⟩
                  go_wp2_with fail
                  refine (pairs_ok _ _ _ _ vx vy w7 OX7.out OY7.out LS.out LT.out).mono ?_
                  rintro e w8 ⟨rfl, u8⟩
                  have U8 := Lib.hid (U7.out.trans u8)
                  clear u8
                  generalize decide (coll s i = coll t i) = b at *
                  go_wp2_with fail
                  go_roundw
                  case rel => exact ⟨i + 1, b, by go_num, rfl, by omega, HB2, U8⟩
                  case measure => simp [intOf]; omega
              · obtain rfl : i = k := by omega
                have U5 := Lib.hid (UJ.out.trans UI.out)
                have S5 := Lib.hid (SJ.out.upd0 UI.out)
                have T5 := Lib.hid (TJ.out.upd0 UI.out)
                clear UJ UI SJ TJ WJ
                have d9 : (b == b) = true := by simp
                go_wp2_with fail
                refine (m_same _ _ sb tb F G s t wi S5.out T5.out).mono ?_; rintro e w5 ⟨b1, rfl, hb1, u5⟩
                obtain rfl : b1 = b := Bool.eq_iff_iff.2 (hb1.trans (EQ.out.trans HB.out.symm))
                have U6 := Lib.hid (U5.out.trans u5)
                have S6 := Lib.hid (S5.out.upd0 u5)
                have T6 := Lib.hid (T5.out.upd0 u5)
                clear hb1 u5
                go_wp2_with fail
                refine (m_same _ _ tb sb G F t s w5 T6.out S6.out).mono ?_; rintro e w6 ⟨b2, rfl, hb2, u6⟩
                obtain rfl : b2 = b1 := Bool.eq_iff_iff.2 (hb2.trans ((eq_comm).trans (EQ.out.trans HB.out.symm)))
                have U7 := Lib.hid (U6.out.trans u6)
                clear hb2 u6
                go_wp2_with fail
                refine (m_alive w6).mono ?_; rintro e w9 ⟨rfl, u9⟩
                have U9 := Lib.hid (U7.out.trans u9)
                clear u9
                go_wp2_with fail
                go_ret
                exact ⟨rfl, U9.out⟩
end Go.Proofs.YtjlpogmoebmkdaaDoor

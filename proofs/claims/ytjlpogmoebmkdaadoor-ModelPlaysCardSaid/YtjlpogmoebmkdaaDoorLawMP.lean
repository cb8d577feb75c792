/-
  ModelPlays, the walk.
-/
import Derived.Test.YtjlpogmoebmkdaaDoorMIs
import Derived.Test.YtjlpogmoebmkdaaDoorMAlive
import Derived.Test.YtjlpogmoebmkdaaDoorMdl6
set_option linter.unusedVariables false
namespace Go.Proofs.YtjlpogmoebmkdaaDoor
open Go.RowKit Assoc MP
attribute [local go_sem] litStep_value

theorem Mdl.base {B B' sb : Nat} {F : List Nat} {w : World} {s : MS} (h : Mdl B sb F w s) (hB : B' ≤ B) : Mdl B' sb F w s := by
  obtain ⟨g, vk, gc, cc, ms, rfl, h⟩ := h
  exact ⟨g, vk, gc, cc, ms, rfl, h.box, own_base h.k hB, own_base h.c hB, h.each, h.nd, Nat.le_trans hB h.bs, fun m hm => Nat.le_trans hB (h.bm m hm)⟩
set_option maxRecDepth 100000 in
set_option maxHeartbeats 8000000 in
theorem law_mplays (A' : Option Addr) (m d : Nat) (ks : List Int) (A : Option Addr) (n c : Nat) (L : List MAct) (w : World) (hK : Rd encK w (.slice A' m d) ks) (hm : ks.length = m) (hA : Rd encA w (.slice A n c) L) (hn : L.length = n) (hkb : ∀ a ∈ L, kB a.2.2.1) (hg : Typed w) :
    Calls Tryd.prog 4 #[.slice A' m d, .slice A n c] w fun e w' => e = .returned (.bool true) ∧ Upd [] w w' := by
  have HG := Lib.hid hg
  have HA := Lib.hid hA
  have HK := Lib.hid hK
  have HN := Lib.hid hn
  have HM := Lib.hid hm
  have HKB := Lib.hid hkb
  clear hg hA hn hK hm hkb
  go_enter Tryd.func4, Tryd.ntmps4
  by_cases h2 : 20 < m
  · have d2 : decide ((20 : Int) < (m : Int)) = true := by simp; omega
    go_wp2_with fail
    refine (m_alive w).mono ?_; rintro e w1 ⟨rfl, u1⟩
    have U1 := Lib.hid u1
    clear u1
    go_wp2_with fail
    go_ret
    exact ⟨rfl, U1.out⟩
  have d2 : decide ((20 : Int) < (m : Int)) = false := by simp; omega
  by_cases h6 : 60 < n
  · have d6 : decide ((60 : Int) < (n : Int)) = true := by simp; omega
    go_wp2_with fail
    refine (m_alive w).mono ?_; rintro e w1 ⟨rfl, u1⟩
    have U1 := Lib.hid u1
    clear u1
    go_wp2_with fail
    go_ret
    exact ⟨rfl, U1.out⟩
  have d6 : decide ((60 : Int) < (n : Int)) = false := by simp; omega
  go_wp2_with fail
  refine (m_new A' m d ks w HK.out HM.out (by omega)).mono ?_
  rintro e w1 ⟨u1, hcase⟩
  have U1 := Lib.hid u1
  have HC := Lib.hid hcase
  clear u1 hcase
  have RN := Lib.hid (rm_new A' m d ks w1 (HK.out.upd0 U1.out) HM.out (by omega))
  rcases HC.out with ⟨i, g, hb, rfl, hblk⟩ | ⟨hb, h8, rfl⟩ | ⟨hb, h8, sb, F, rfl, hs⟩
  · have EV : Hid (ErrV w1 (.iface 76 (.pointer (some ⟨g, 0, none⟩))) 17 ((i : Int) + 1)) := Lib.hid (.inr (.inr ⟨g, rfl, hblk, by decide, by decide⟩))
    have HBK := Lib.hid hb
    clear hb hblk HC
    go_wp2_with fail
    refine RN.out.mono ?_
    rintro e w2 ⟨u2, hcase⟩
    have EV2 := Lib.hid (EV.out.upd u2)
    have U2 := Lib.hid (U1.out.trans u2)
    clear u2
    rcases hcase with ⟨i', hb', rfl⟩ | ⟨hb', h8', rfl⟩ | ⟨hb', h8', _⟩
    · obtain rfl : i' = i := Option.some.inj (hb'.symm.trans HBK.out)
      clear hb'
      go_wp2_with fail
      refine (no_err EV2.out).mono ?_; rintro e w3 ⟨rfl, rfl⟩
      go_wp2_with fail
      refine (place_err EV2.out (HG.out.upd U2.out (by simp))).mono ?_; rintro e w3 ⟨rfl, u3⟩
      have U3 := Lib.hid (U2.out.trans u3)
      clear u3
      go_wp2_with fail
      refine (m_alive w3).mono ?_; rintro e w4 ⟨rfl, u4⟩
      have U4 := Lib.hid (U3.out.trans u4)
      clear u4
      go_wp2_with fail
      go_ret
      exact ⟨rfl, U4.out⟩
    · exact absurd (hb'.symm.trans HBK.out) (by simp)
    · exact absurd (hb'.symm.trans HBK.out) (by simp)
  · have EV : Hid (ErrV w1 (.iface 67 (.int .i64 8)) 8 0) := Lib.hid (.inr (.inl ⟨rfl, ⟨by decide, by decide⟩, rfl⟩))
    have HBK := Lib.hid hb
    clear hb HC
    go_wp2_with fail
    refine RN.out.mono ?_
    rintro e w2 ⟨u2, hcase⟩
    have EV2 := Lib.hid (EV.out.upd u2)
    have U2 := Lib.hid (U1.out.trans u2)
    clear u2
    rcases hcase with ⟨i', hb', rfl⟩ | ⟨hb', h8', rfl⟩ | ⟨hb', h8', _⟩
    · exact absurd (hb'.symm.trans HBK.out) (by simp)
    · clear hb'
      go_wp2_with fail
      refine (no_err EV2.out).mono ?_; rintro e w3 ⟨rfl, rfl⟩
      go_wp2_with fail
      refine (place_err EV2.out (HG.out.upd U2.out (by simp))).mono ?_; rintro e w3 ⟨rfl, u3⟩
      have U3 := Lib.hid (U2.out.trans u3)
      clear u3
      go_wp2_with fail
      refine (m_alive w3).mono ?_; rintro e w4 ⟨rfl, u4⟩
      have U4 := Lib.hid (U3.out.trans u4)
      clear u4
      go_wp2_with fail
      go_ret
      exact ⟨rfl, U4.out⟩
    · omega
  · have HBK := Lib.hid hb
    have S1 := Lib.hid hs
    clear hb hs HC
    go_wp2_with fail
    refine RN.out.mono ?_
    rintro e w2 ⟨u2, hcase⟩
    have U2 := Lib.hid u2
    clear u2
    rcases hcase with ⟨i', hb', rfl⟩ | ⟨hb', h8', rfl⟩ | ⟨hb', h8', rb, F', rfl, hr⟩
    · exact absurd (hb'.symm.trans HBK.out) (by simp)
    · omega
    have B2 : Hid (MBoth w.heap.size sb rb w2 (runM ks (L.take 0))) := Lib.hid ⟨F, F', S1.out.upd0 U2.out, hr.base U1.out.size, fun k hk hk' => by have h1 := (S1.out.lt k hk).2; have h2 := (hr.lt k hk').1; omega⟩
    clear hb' hr
    have U3 := Lib.hid (U1.out.trans U2.out)
    clear S1 U1 U2 h8 h8'
    go_wp2_with fail
    refine (no_nil w2).mono ?_; rintro e w3 ⟨rfl, rfl⟩
    go_wp2_with fail
    refine (place_nil w2).mono ?_; rintro e w3 ⟨rfl, u3⟩
    have B3 := Lib.hid (B2.out.upd0 u3)
    have U4 := Lib.hid (U3.out.trans u3)
    clear u3 B2 U3
    go_wp2_with fail
    refine (m_alive w3).mono ?_; rintro e w4 ⟨rfl, u4⟩
    have B4 := Lib.hid (B3.out.upd0 u4)
    have U5 := Lib.hid (U4.out.trans u4)
    clear u4 B3 U4
    go_wp2_with fail
    go_loopw [57, 5, 11] (fun v vs vx wr => ∃ (k sb : Nat), v = .int .i64 k ∧ vs = .pointer (some ⟨sb, 0, none⟩) ∧ k ≤ n ∧ Hid (MBoth w.heap.size sb rb wr (runM ks (L.take k))) ∧ Hid (Upd [] w wr)) (fun v _ _ _ => n - (intOf v).toNat)
    case atStart => exact ⟨0, sb, rfl, rfl, by omega, B4, U5⟩
    case round =>
      obtain ⟨k, sb, rfl, rfl, hk, BK, UK⟩ := hrel
      by_cases hkn : k < n
      · obtain ⟨⟨ak, ac, ax, an⟩, hx⟩ : ∃ x, L[k]? = some x := ⟨_, List.getElem?_eq_getElem (by rw [HN.out]; exact hkn)⟩
        have KX : Hid (kB ax) := Lib.hid (HKB.out _ (List.mem_of_getElem? hx))
        obtain ⟨ad, rfl, hlt, e0, e1, e2, e3⟩ := act_cells (HA.out.upd0 UK.out) hx
        have TK := Lib.hid (take_snoc hx)
        have q1 : (0 : Int) ≤ (k : Int) := by omega
        have q2 : (k : Int) < (n : Int) := by omega
        clear hx
        have UA : Hid (Upd [] wr (wr.alloc (.cells #[.int .i64 ak, .int .i64 ac, .int .i64 ax, .int .i64 an] 47))) := Lib.hid ((Upd.refl [] wr).alloc _)
        have YA : Hid (Blk (wr.alloc (.cells #[.int .i64 ak, .int .i64 ac, .int .i64 ax, .int .i64 an] 47)) wr.heap.size 47 #[.int .i64 ak, .int .i64 ac, .int .i64 ax, .int .i64 an]) := Lib.hid (Blk.new wr _ _)
        by_cases h6 : ak = 6
        · have d6 : (ak == 6) = true := by simpa using h6
          clear h6
          go_wp2_with fail
          generalize (wr.alloc (.cells #[.int .i64 ak, .int .i64 ac, .int .i64 ax, .int .i64 an] 47)) = w5 at *
          obtain ⟨F1, G1, hm1, hr1, hd1⟩ := BK.out.upd0 UA.out
          have HR1 := Lib.hid hr1
          refine (m_copy w.heap.size sb F1 _ w5 hm1).mono ?_
          rintro e w4 ⟨sb', F2, rfl, hm2, u2⟩
          have B4 : Hid (MBoth w.heap.size sb' rb w4 (runM ks (L.take k))) := Lib.hid ⟨F2, G1, hm2.base (UK.out.trans UA.out).size, HR1.out.upd0 u2, fun x hx hx' => by have h1 := (hm2.lt x hx).1; have h2 := (HR1.out.lt x hx').2; omega⟩
          have U4 := Lib.hid ((UK.out.trans UA.out).trans u2)
          have YB := Lib.hid (YA.out.upd u2 (by simp))
          have y0 : w4.cell? ⟨wr.heap.size, 0, none⟩ = some (.int .i64 ak) := YB.out.cell 0
          have y1 : w4.cell? ⟨wr.heap.size, 1, none⟩ = some (.int .i64 ac) := YB.out.cell 1
          have y2 : w4.cell? ⟨wr.heap.size, 2, none⟩ = some (.int .i64 ax) := YB.out.cell 2
          have y3 : w4.cell? ⟨wr.heap.size, 3, none⟩ = some (.int .i64 an) := YB.out.cell 3
          clear hm1 hr1 hd1 hm2 u2
          go_wp2_with fail
          refine (mdo_ok w.heap.size sb' rb (runM ks (L.take k)) ak ac ax an w w4 B4.out KX.out HG.out (Nat.le_refl _) U4.out U4.out.size).mono ?_
          rintro e w6 ⟨rfl, b6, u6, -⟩
          have B6 : Hid (MBoth w.heap.size sb' rb w6 (runM ks (L.take (k + 1)))) := Lib.hid (by rw [TK.out, runM_snoc]; exact b6)
          have U6 := Lib.hid u6
          clear b6 u6 e0 e1 e2 e3
          go_wp2_with fail
          refine (mis_ok w.heap.size sb' rb (runM ks (L.take (k + 1))) w6 B6.out).mono ?_
          rintro e w7 ⟨rfl, u7⟩
          have B7 := Lib.hid (B6.out.upd0 u7)
          have U7 := Lib.hid (U6.out.trans u7)
          clear u7
          go_wp2_with fail
          go_roundw
          case rel => exact ⟨k + 1, sb', by go_num, rfl, by omega, B7, U7⟩
          case measure => simp [intOf]; omega
        · have d6 : (ak == 6) = false := by simpa using h6
          clear h6
          go_wp2_with fail
          generalize (wr.alloc (.cells #[.int .i64 ak, .int .i64 ac, .int .i64 ax, .int .i64 an] 47)) = w5 at *
          have B5 := Lib.hid (BK.out.upd0 UA.out)
          have U5 := Lib.hid (UK.out.trans UA.out)
          refine (mdo_ok w.heap.size sb rb (runM ks (L.take k)) ak ac ax an w w5 B5.out KX.out HG.out (Nat.le_refl _) U5.out U5.out.size).mono ?_
          rintro e w6 ⟨rfl, b6, u6, -⟩
          have B6 : Hid (MBoth w.heap.size sb rb w6 (runM ks (L.take (k + 1)))) := Lib.hid (by rw [TK.out, runM_snoc]; exact b6)
          have U6 := Lib.hid u6
          clear b6 u6 e0 e1 e2 e3
          go_wp2_with fail
          refine (mis_ok w.heap.size sb rb (runM ks (L.take (k + 1))) w6 B6.out).mono ?_
          rintro e w7 ⟨rfl, u7⟩
          have B7 := Lib.hid (B6.out.upd0 u7)
          have U7 := Lib.hid (U6.out.trans u7)
          clear u7
          go_wp2_with fail
          go_roundw
          case rel => exact ⟨k + 1, sb, by go_num, rfl, by omega, B7, U7⟩
          case measure => simp [intOf]; omega
      · go_wp2_with fail
        go_ret
        exact ⟨rfl, UK.out⟩
end Go.Proofs.YtjlpogmoebmkdaaDoor

/-
  concordlaw08.Play: a state behind some calls.
-/
import Derived.Test.YtjlpogmoebmkdaaDoorMDo
import Derived.Test.YtjlpogmoebmkdaaDoorRMNew
import Derived.Test.YtjlpogmoebmkdaaDoorArg
set_option linter.unusedVariables false
namespace Go.Proofs.YtjlpogmoebmkdaaDoor
open Go.RowKit Assoc MP
attribute [local go_sem] litStep_value

def encA : Enc MAct := encI4 .i64 .i64 .i64 .i64
def runM (ks : List Int) (l : List MAct) : MS := l.foldl stepM (newS ks)
theorem runM_snoc (ks : List Int) (l : List MAct) (a : MAct) : runM ks (l ++ [a]) = stepM (runM ks l) a := by unfold runM; rw [List.foldl_append]; rfl
theorem RMdl.base {B B' rb : Nat} {F : List Nat} {w : World} {s : MS} (h : RMdl B rb F w s) (hB : B' ≤ B) : RMdl B' rb F w s := by
  obtain ⟨g, vk, vl, ms, rfl, h⟩ := h
  exact ⟨g, vk, vl, ms, rfl, h.box, own_base h.k hB, own_base h.l hB, fun i v l hv hl => own_base (h.each i v l hv hl) hB, Nat.le_trans hB h.b⟩
theorem take_snoc {α : Type} {L : List α} {k : Nat} {x : α} (h : L[k]? = some x) : L.take (k + 1) = L.take k ++ [x] := by
  obtain ⟨hk, rfl⟩ := List.getElem?_eq_some_iff.1 h
  exact List.take_succ_eq_append_getElem hk
/-- The cells of an act in a slice. -/
theorem act_cells {w : World} {A : Option Addr} {n c k : Nat} {L : List MAct} {a : MAct} (h : Rd encA w (.slice A n c) L) (hk : L[k]? = some a) : ∃ ad : Addr, A = some ad ∧ ad.block < w.heap.size ∧
    w.cell? (ad.add (k * 4)) = some (.int .i64 a.1) ∧ w.cell? ⟨(ad.add (k * 4)).block, (ad.add (k * 4)).off + 1, none⟩ = some (.int .i64 a.2.1) ∧ w.cell? ⟨(ad.add (k * 4)).block, (ad.add (k * 4)).off + 2, none⟩ = some (.int .i64 a.2.2.1) ∧ w.cell? ⟨(ad.add (k * 4)).block, (ad.add (k * 4)).off + 3, none⟩ = some (.int .i64 a.2.2.2) := by
  obtain ⟨ad, h1, h2, hc⟩ := h.at_ hk
  refine ⟨ad, h1, h2, hc 0 _ rfl, ?_, ?_, ?_⟩
  · have := hc 1 _ rfl; rwa [show k * encA.s + 1 = k * 4 + (0 + 1) from rfl, add_more] at this
  · have := hc 2 _ rfl; rwa [show k * encA.s + 2 = k * 4 + (1 + 1) from rfl, add_more] at this
  · have := hc 3 _ rfl; rwa [show k * encA.s + 3 = k * 4 + (2 + 1) from rfl, add_more] at this
def MPlayPost (ks : List Int) (L : List MAct) (w0 : World) (B : Nat) (e : Ending) (w' : World) : Prop := (e = .returned (.pointer none) ∧ Upd [] w0 w') ∨ (badK ks = none ∧ ks.length ≤ 8 ∧ ∃ sb F, e = .returned (.pointer (some ⟨sb, 0, none⟩)) ∧ Mdl B sb F w' (runM ks L) ∧ Upd [] w0 w')
set_option maxRecDepth 100000 in
set_option maxHeartbeats 8000000 in
theorem mplay_ok (A A' : Option Addr) (m d n c : Nat) (ks : List Int) (L : List MAct) (w0 w : World) (hK : Rd encK w0 (.slice A' m d) ks) (hm : ks.length = m) (hA : Rd encA w0 (.slice A n c) L) (hn : L.length = n) (hkb : ∀ a ∈ L, kB a.2.2.1) (hg : Typed w0) (hu : Upd [] w0 w) :
    Calls Tryd.prog 7 #[.slice A' m d, .slice A n c] w fun e w' => MPlayPost ks L w0 w.heap.size e w' := by
  have HG := Lib.hid hg
  have HA := Lib.hid hA
  have HK := Lib.hid hK
  have HN := Lib.hid hn
  have HM := Lib.hid hm
  have HU := Lib.hid hu
  have HKB := Lib.hid hkb
  clear hg hA hn hu hK hm hkb
  go_enter Tryd.func7, Tryd.ntmps7
  by_cases h2 : 20 < m
  · have d2 : decide ((20 : Int) < (m : Int)) = true := by simp; omega
    go_wp2_with fail
    go_ret
    exact .inl ⟨rfl, HU.out⟩
  have d2 : decide ((20 : Int) < (m : Int)) = false := by simp; omega
  by_cases h6 : 60 < n
  · have d6 : decide ((60 : Int) < (n : Int)) = true := by simp; omega
    go_wp2_with fail
    go_ret
    exact .inl ⟨rfl, HU.out⟩
  have d6 : decide ((60 : Int) < (n : Int)) = false := by simp; omega
  go_wp2_with fail
  refine (m_new A' m d ks w (HK.out.upd0 HU.out) HM.out (by omega)).mono ?_
  rintro e w1 ⟨u1, hcase⟩
  have U1 := Lib.hid u1
  have HC := Lib.hid hcase
  clear u1 hcase
  have RN := Lib.hid (rm_new A' m d ks w1 (HK.out.upd0 (HU.out.trans U1.out)) HM.out (by omega))
  rcases HC.out with ⟨i, g, hb, rfl, hblk⟩ | ⟨hb, h8, rfl⟩ | ⟨hb, h8, sb, F, rfl, hs⟩
  · have EV : Hid (ErrV w1 (.iface 76 (.pointer (some ⟨g, 0, none⟩))) 17 ((i : Int) + 1)) := Lib.hid (.inr (.inr ⟨g, rfl, hblk, by decide, by decide⟩))
    have HBK := Lib.hid hb
    clear hb hblk HC
    go_wp2_with fail
    refine RN.out.mono ?_
    rintro e w2 ⟨u2, hcase⟩
    have EV2 := Lib.hid (EV.out.upd u2)
    have U2 := Lib.hid (HU.out.trans (U1.out.trans u2))
    clear u2
    rcases hcase with ⟨i', hb', rfl⟩ | ⟨hb', _, rfl⟩ | ⟨hb', _⟩
    · clear hb'
      go_wp2_with fail
      refine (no_err EV2.out).mono ?_; rintro e w3 ⟨rfl, rfl⟩
      go_wp2_with fail
      go_ret
      exact .inl ⟨rfl, U2.out⟩
    · exact absurd (hb'.symm.trans HBK.out) (by simp)
    · exact absurd (hb'.symm.trans HBK.out) (by simp)
  · have EV : Hid (ErrV w1 (.iface 67 (.int .i64 8)) 8 0) := Lib.hid (.inr (.inl ⟨rfl, ⟨by decide, by decide⟩, rfl⟩))
    have HBK := Lib.hid hb
    clear hb HC
    go_wp2_with fail
    refine RN.out.mono ?_
    rintro e w2 ⟨u2, hcase⟩
    have EV2 := Lib.hid (EV.out.upd u2)
    have U2 := Lib.hid (HU.out.trans (U1.out.trans u2))
    clear u2
    rcases hcase with ⟨i', hb', rfl⟩ | ⟨hb', _, rfl⟩ | ⟨hb', h8', _⟩
    · exact absurd (hb'.symm.trans HBK.out) (by simp)
    · clear hb'
      go_wp2_with fail
      refine (no_err EV2.out).mono ?_; rintro e w3 ⟨rfl, rfl⟩
      go_wp2_with fail
      go_ret
      exact .inl ⟨rfl, U2.out⟩
    · omega
  · have HBK := Lib.hid hb
    have H8 := Lib.hid h8
    have S1 := Lib.hid hs
    clear hb hs HC
    go_wp2_with fail
    refine RN.out.mono ?_
    rintro e w2 ⟨u2, hcase⟩
    have U2 := Lib.hid u2
    clear u2
    rcases hcase with ⟨i', hb', rfl⟩ | ⟨hb', h8', rfl⟩ | ⟨hb', h8', rb, F', rfl, hr⟩
    · exact absurd (hb'.symm.trans HBK.out) (by simp)
    · omega
    have B2 : Hid (MBoth w.heap.size sb rb w2 (runM ks (L.take 0))) := Lib.hid ⟨F, F', S1.out.upd0 U2.out, hr.base U1.out.size, fun k hk hk' => by have h1 := (S1.out.lt k hk).2; have h2 := (hr.lt k hk').1; omega⟩
    clear hb' hr
    have U3 := Lib.hid (HU.out.trans (U1.out.trans U2.out))
    have HB : Hid (w0.heap.size ≤ w.heap.size) := Lib.hid HU.out.size
    have HBW : Hid (w.heap.size ≤ w2.heap.size) := Lib.hid (U1.out.trans U2.out).size
    clear S1 U1 U2 h8 h8'
    go_wp2_with fail
    refine (no_nil w2).mono ?_; rintro e w3 ⟨rfl, rfl⟩
    go_wp2_with fail
    go_loopw [40, 11] (fun v vx wr => ∃ k : Nat, v = .int .i64 k ∧ k ≤ n ∧ Hid (MBoth w.heap.size sb rb wr (runM ks (L.take k))) ∧ Hid (Upd [] w0 wr) ∧ Hid (w.heap.size ≤ wr.heap.size)) (fun v _ _ => n - (intOf v).toNat)
    case atStart => exact ⟨0, rfl, by omega, B2, U3, HBW⟩
    case round =>
      obtain ⟨k, rfl, hk, BK, UK, ZK⟩ := hrel
      by_cases hkn : k < n
      · obtain ⟨⟨ak, ac, ax, an⟩, hx⟩ : ∃ x, L[k]? = some x := ⟨_, List.getElem?_eq_getElem (by rw [HN.out]; exact hkn)⟩
        have KX : Hid (kB ax) := Lib.hid (HKB.out _ (List.mem_of_getElem? hx))
        obtain ⟨ad, rfl, hlt, e0, e1, e2, e3⟩ := act_cells (HA.out.upd0 UK.out) hx
        have TK := Lib.hid (take_snoc hx)
        have q1 : (0 : Int) ≤ (k : Int) := by omega
        have q2 : (k : Int) < (n : Int) := by omega
        clear hx
        go_wp2_with fail
        have UA : Hid (Upd [] wr (wr.alloc (.cells #[.int .i64 ak, .int .i64 ac, .int .i64 ax, .int .i64 an] 47))) := Lib.hid ((Upd.refl [] wr).alloc _)
        generalize (wr.alloc (.cells #[.int .i64 ak, .int .i64 ac, .int .i64 ax, .int .i64 an] 47)) = w5 at *
        refine (mdo_ok w.heap.size sb rb (runM ks (L.take k)) ak ac ax an w0 w5 (BK.out.upd0 UA.out) KX.out HG.out HB.out (UK.out.trans UA.out) (Nat.le_trans ZK.out UA.out.size)).mono ?_
        rintro e w6 ⟨rfl, b6, u6, -⟩
        have B6 : Hid (MBoth w.heap.size sb rb w6 (runM ks (L.take (k + 1)))) := Lib.hid (by rw [TK.out, runM_snoc]; exact b6)
        have U6 := Lib.hid u6
        have Z6 : Hid (w.heap.size ≤ w6.heap.size) := Lib.hid (by
          obtain ⟨F', G', h1, _⟩ := b6
          obtain ⟨_, vk, gc, cc, ms, rfl, h1⟩ := h1
          have := h1.lt sb (by simp [fpM])
          omega)
        clear b6 u6 e0 e1 e2 e3
        go_wp2_with fail
        go_roundw
        case rel => exact ⟨k + 1, by go_num, by omega, B6, U6, Z6⟩
        case measure => simp [intOf]; omega
      · obtain rfl : k = n := by omega
        go_wp2_with fail
        go_ret
        obtain ⟨F', G', h1, _⟩ := BK.out
        rw [List.take_of_length_le (by rw [HN.out]; exact Nat.le_refl _)] at h1
        exact .inr ⟨HBK.out, H8.out, _, _, rfl, h1, UK.out⟩
end Go.Proofs.YtjlpogmoebmkdaaDoor

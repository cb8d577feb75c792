/-
  concordlaw07.play: sets behind some calls.
-/
import Derived.Test.YtbpmkbcpnnpdjaaDoorSDo
import Derived.Test.YtbpmkbcpnnpdjaaDoorSetsN
import Derived.Test.YtbpmkbcpnnpdjaaDoorArg
set_option linter.unusedVariables false
namespace Go.Proofs.YtbpmkbcpnnpdjaaDoor
open Go.RowKit Assoc SP
attribute [local go_sem] litStep_value

def encA : Enc SAct := encI4 .i64 .u64 .u64 .i64
/-- The program's sets behind some calls. -/
def runS (l : List SAct) : SS := l.foldl stepS ⟨[], [], [], []⟩
def runD (l : List SAct) : DS := l.foldl stepD ⟨[], [], []⟩
theorem runS_snoc (l : List SAct) (a : SAct) : runS (l ++ [a]) = stepS (runS l) a := by unfold runS; rw [List.foldl_append]; rfl
theorem runD_snoc (l : List SAct) (a : SAct) : runD (l ++ [a]) = stepD (runD l) a := by unfold runD; rw [List.foldl_append]; rfl
theorem good_fold (l : List SAct) {s : SS} (h : SP.Good s) : SP.Good (l.foldl stepS s) := by
  induction l generalizing s with
  | nil => exact h
  | cons a l ih => exact ih (good_step h a)
theorem log_fold (l : List SAct) (s : SS) : (l.foldl stepS s).log.length ≤ s.log.length + l.length := by
  induction l generalizing s with
  | nil => simp
  | cons a l ih =>
    have h1 := ih (stepS s a)
    have h2 := log_step s a
    simp only [List.foldl_cons, List.length_cons]
    omega
theorem good_run (l : List SAct) : SP.Good (runS l) := good_fold l good_new
theorem log_run (l : List SAct) : (runS l).log.length ≤ l.length := by have := log_fold l ⟨[], [], [], []⟩; simpa [runS] using this
theorem of_run (l : List SAct) : ofSS (runS l) = runD l := by
  suffices h : ∀ (l : List SAct) (s : SS), SP.Good s → ofSS (l.foldl stepS s) = l.foldl stepD (ofSS s) from h l _ good_new
  intro l
  induction l with
  | nil => intro s _; rfl
  | cons a l ih =>
    intro s hs
    simp only [List.foldl_cons]
    rw [ih _ (good_step hs a), of_step hs]
theorem take_snoc {α : Type} {L : List α} {k : Nat} {x : α} (h : L[k]? = some x) : L.take (k + 1) = L.take k ++ [x] := by
  obtain ⟨hk, rfl⟩ := List.getElem?_eq_some_iff.1 h
  exact List.take_succ_eq_append_getElem hk
/-- New document's sets. -/
theorem refS_new (w : World) (B : Nat) (hB : B ≤ w.heap.size) : RefS B w.heap.size [w.heap.size] (w.alloc (.cells #[.slice none 0 0, .slice none 0 0, .slice none 0 0] 37)) ⟨[], [], []⟩ :=
  ⟨goodD_new, _, _, _, [], by simp [fpD, Value.ownBlock, ownsOf], ⟨Blk.new w _ _, Ow.nil _ _ _ _, Ow.nil _ _ _ _, own_nil _ _ _ _, by simp, hB⟩⟩
/-- The cells of an act in a slice. -/
theorem act_cells {w : World} {A : Option Addr} {n c k : Nat} {L : List SAct} {a : SAct} (h : Rd encA w (.slice A n c) L) (hk : L[k]? = some a) : ∃ ad : Addr, A = some ad ∧ ad.block < w.heap.size ∧
    w.cell? (ad.add (k * 4)) = some (.int .i64 a.1) ∧ w.cell? ⟨(ad.add (k * 4)).block, (ad.add (k * 4)).off + 1, none⟩ = some (.int .u64 a.2.1) ∧ w.cell? ⟨(ad.add (k * 4)).block, (ad.add (k * 4)).off + 2, none⟩ = some (.int .u64 a.2.2.1) ∧ w.cell? ⟨(ad.add (k * 4)).block, (ad.add (k * 4)).off + 3, none⟩ = some (.int .i64 a.2.2.2) := by
  obtain ⟨ad, h1, h2, hc⟩ := h.at_ hk
  refine ⟨ad, h1, h2, hc 0 _ rfl, ?_, ?_, ?_⟩
  · have := hc 1 _ rfl; rwa [show k * encA.s + 1 = k * 4 + (0 + 1) from rfl, add_more] at this
  · have := hc 2 _ rfl; rwa [show k * encA.s + 2 = k * 4 + (1 + 1) from rfl, add_more] at this
  · have := hc 3 _ rfl; rwa [show k * encA.s + 3 = k * 4 + (2 + 1) from rfl, add_more] at this

def PlayPost (L : List SAct) (w0 : World) (B : Nat) (e : Ending) (w' : World) : Prop := (e = .returned (.pointer none) ∧ 80 < L.length ∧ Upd [] w0 w') ∨ (L.length ≤ 80 ∧ ∃ sb am wm F, e = .returned (.pointer (some ⟨sb, 0, none⟩)) ∧ Sets B sb am wm F w' (runS L) ∧ Upd [] w0 w')
set_option maxRecDepth 100000 in
set_option maxHeartbeats 8000000 in
theorem play_ok (A : Option Addr) (n c : Nat) (L : List SAct) (w0 w : World) (hA : Rd encA w0 (.slice A n c) L) (hn : L.length = n) (hg : Typed w0) (hu : Upd [] w0 w) :
    Calls Tryd.prog 6 #[.slice A n c] w fun e w' => PlayPost L w0 w.heap.size e w' := by
  have HG := Lib.hid hg
  have HA := Lib.hid hA
  have HN := Lib.hid hn
  have HU := Lib.hid hu
  clear hg hA hn hu
  go_enter Tryd.func6, Tryd.ntmps6
  go_wp2_with fail
  refine (s_new w).mono ?_; rintro e w1 ⟨sb, am, wm, F, rfl, s1, u1⟩
  have S1 := Lib.hid s1
  have U1 := Lib.hid u1
  clear s1 u1
  by_cases h8 : 80 < n
  · have d : decide ((80 : Int) < (n : Int)) = true := by simp; omega
    go_wp2_with fail
    go_ret
    unfold PlayPost
    exact .inl ⟨rfl, by rw [HN.out]; exact h8, HU.out.trans U1.out⟩
  · have d : decide ((80 : Int) < (n : Int)) = false := by simp; omega
    go_wp2_with fail
    have U2 : Hid (Upd [] w1 (w1.alloc (.cells #[.slice none 0 0, .slice none 0 0, .slice none 0 0] 37))) := Lib.hid ((Upd.refl [] w1).alloc _)
    have R2 := Lib.hid (refS_new w1 w.heap.size U1.out.size)
    have LT := Lib.hid S1.out.lt
    obtain ⟨rb, hrb⟩ : ∃ rb, w1.heap.size = rb := ⟨_, rfl⟩
    rw [hrb] at R2 LT ⊢
    clear hrb
    generalize (w1.alloc (.cells #[.slice none 0 0, .slice none 0 0, .slice none 0 0] 37)) = w2 at *
    have B2 : Hid (Both w.heap.size sb am wm rb w2 (runS (L.take 0)) (runD (L.take 0))) := Lib.hid ⟨F, [rb], S1.out.upd0 U2.out, R2.out, fun k hk => by have := (LT.out k hk).2; simp; omega⟩
    have U3 := Lib.hid (HU.out.trans (U1.out.trans U2.out))
    have HB : Hid (w0.heap.size ≤ w.heap.size) := Lib.hid HU.out.size
    have HBW : Hid (w.heap.size ≤ w2.heap.size) := Lib.hid (U1.out.trans U2.out).size
    clear S1 U1 U2 R2 LT
    go_loopw [19] (fun v wr => ∃ k : Nat, v = .int .i64 k ∧ k ≤ n ∧ Hid (Both w.heap.size sb am wm rb wr (runS (L.take k)) (runD (L.take k))) ∧ Hid (Upd [] w0 wr) ∧ Hid (w.heap.size ≤ wr.heap.size)) (fun v _ => n - (intOf v).toNat)
    case atStart => exact ⟨0, rfl, by omega, B2, U3, HBW⟩
    case round =>
      obtain ⟨k, rfl, hk, BK, UK, ZK⟩ := hrel
      by_cases hkn : k < n
      · obtain ⟨⟨ak, ac, ax, an⟩, hx⟩ : ∃ x, L[k]? = some x := ⟨_, List.getElem?_eq_getElem (by rw [HN.out]; exact hkn)⟩
        obtain ⟨ad, rfl, hlt, e0, e1, e2, e3⟩ := act_cells (HA.out.upd0 UK.out) hx
        have TK := Lib.hid (take_snoc hx)
        have q1 : (0 : Int) ≤ (k : Int) := by omega
        have q2 : (k : Int) < (n : Int) := by omega
        clear hx
        go_wp2_with fail
        have UA : Hid (Upd [] wr (wr.alloc (.cells #[.int .i64 ak, .int .u64 ac, .int .u64 ax, .int .i64 an] 40))) := Lib.hid ((Upd.refl [] wr).alloc _)
        generalize (wr.alloc (.cells #[.int .i64 ak, .int .u64 ac, .int .u64 ax, .int .i64 an] 40)) = w5 at *
        refine (do_ok w.heap.size sb am wm rb (runS (L.take k)) (runD (L.take k)) ak ac ax an w0 w5 (BK.out.upd0 UA.out) ?_ HG.out HB.out (UK.out.trans UA.out) (Nat.le_trans ZK.out UA.out.size)).mono ?_
        · have := log_run (L.take k); rw [List.length_take] at this; omega
        rintro e w6 ⟨b, rfl, -, b6, u6, -⟩
        have B6 : Hid (Both w.heap.size sb am wm rb w6 (runS (L.take (k + 1))) (runD (L.take (k + 1)))) := Lib.hid (by rw [TK.out, runS_snoc, runD_snoc]; exact b6)
        have U6 := Lib.hid u6
        have Z6 : Hid (w.heap.size ≤ w6.heap.size) := Lib.hid (by
          obtain ⟨F', G', h1, _⟩ := b6
          obtain ⟨_, _, _, _, _, h1⟩ := h1
          have := h1.bs
          have := h1.box.lt
          omega)
        clear b6 u6 e0 e1 e2 e3
        go_wp2_with fail
        go_roundw
        case rel => exact ⟨k + 1, by go_num, by omega, B6, U6, Z6⟩
        case measure => simp [intOf]; omega
      · have hkk : k = n := by omega
        subst hkk
        go_wp2_with fail
        go_ret
        unfold PlayPost
        obtain ⟨F', G', h1, _⟩ := BK.out
        rw [List.take_of_length_le (by rw [HN.out]; exact Nat.le_refl _)] at h1
        exact .inr ⟨by rw [HN.out]; omega, _, _, _, _, rfl, h1, UK.out⟩
end Go.Proofs.YtbpmkbcpnnpdjaaDoor

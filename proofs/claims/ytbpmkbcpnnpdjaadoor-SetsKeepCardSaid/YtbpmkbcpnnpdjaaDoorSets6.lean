/-
  sets.Sets: Reads, Writes.
-/
import Derived.Test.YtbpmkbcpnnpdjaaDoorSets5
import Derived.Test.YtbpmkbcpnnpdjaaDoorSortW
import Derived.Test.YtbpmkbcpnnpdjaaDoorIRange
import Derived.OwnWalk
set_option linter.unusedVariables false
namespace Go.Proofs.YtbpmkbcpnnpdjaaDoor
open Go.RowKit Assoc SP
attribute [local go_sem] litStep_value

def RowsPost {α : Type} (E : Enc α) (t : TypeId) (L : List α) (w : World) (e : Ending) (w' : World) : Prop := ∃ v, e = .returned v ∧ Ow E t w' w.heap.size v L ∧ Upd [] w w'
set_option maxRecDepth 100000 in
set_option maxHeartbeats 1000000 in
theorem clone_seen (B : Nat) (A : Option Addr) (n c : Nat) (L : List (Int × Int)) (w : World) (h : Ow encR 47 w B (.slice A n c) L) (hn : L.length = n) (hl : n ≤ 1000) :
    Calls Tryd.prog 32 #[.slice A n c] w fun e w' => RowsPost encR 47 L w e w' := by
  have eq0 := @Lib.run_eql_slice_nil Tryd.prog
  have H := Lib.hid h
  have HN := Lib.hid hn
  cases A with
  | none =>
    have h0 : n = 0 ∧ c = 0 := by
      rcases h.2 with ⟨e1, e2⟩ | ⟨g, cap, cur, e1, _⟩
      · injection e1 with _ a2 a3
        exact ⟨a2, a3⟩
      · cases e1
    obtain ⟨rfl, rfl⟩ := h0
    have HL : Hid (L = []) := Lib.hid (List.eq_nil_of_length_eq_zero hn)
    clear h hn
    go_enter Tryd.func32, Tryd.ntmps32
    go_wp2_with fail
    go_ret
    unfold RowsPost
    rw [HL.out]
    exact ⟨_, rfl, Ow.nil _ _ _ _, .refl _ _⟩
  | some a =>
    have HSR : Hid (Src w 2 (.slice (some a) n c) n (flat encR L)) := Lib.hid (by have := h.rd; unfold Rd at this; rw [hn] at this; exact this)
    clear h hn
    go_enter Tryd.func32, Tryd.ntmps32
    go_wp2_with (at_builtin; refine stopped ?_)
    refine Lib.hid ?_
    refine wpList_app _ (by rfl) (.tmp 5) (.tmp 6) _ (by rfl) elem_seen _ _ (by rfl) (by rfl) (own_made (B := w.heap.size) 2 (Blk.new w 47 #[]) (Nat.le_refl _)) (HSR.out.upd0 ((Upd.refl [] w).alloc _)) flat_cells (by unfold maxLen; omega) (by omega) (by simp) ?_
    intro v2 w2 o2 u2 b2
    have U2 : Hid (Upd [] w w2) := Lib.hid (((Upd.refl [] w).alloc _).trans' u2 (by intro x hx; simp [Value.ownBlock] at hx; subst hx; exact .inr (Nat.le_refl _)))
    have O2 : Hid (Ow encR 47 w2 w.heap.size v2 L) := Lib.hid (by unfold Ow; rw [HN.out]; rw [Nat.zero_add, List.nil_append] at o2; exact o2)
    clear o2 u2 b2
    go_wp2_with fail
    go_ret
    exact ⟨_, rfl, O2.out, U2.out⟩
theorem s_reads (B sb am wm : Nat) (F : List Nat) (s : SS) (w : World) (h : Sets B sb am wm F w s) :
    Calls Tryd.prog 12 #[.pointer (some ⟨sb, 0, none⟩)] w fun e w' => RowsPost encR 47 s.R w e w' := by
  have H := Lib.hid h
  obtain ⟨g, vr, vl, vk, hF, h⟩ := h
  have HS := Lib.hid h
  obtain ⟨A, cr, rfl, hnc, hcm⟩ := own_slice h.r
  have hN5 := Lib.hid g.rl
  have c0 : w.cell? ⟨sb, 0, none⟩ = some (.slice A s.R.length cr) := h.box.cell 0
  clear h g hF
  go_enter Tryd.func12, Tryd.ntmps12
  go_wp2_with fail
  refine (s_made B sb am wm F s w H.out).mono ?_; rintro e w2 ⟨rfl, rfl⟩
  go_wp2_with fail
  refine (clone_seen B A s.R.length cr s.R w HS.out.r rfl (by have := hN5.out; omega)).mono ?_; rintro e w2 ⟨v, rfl, o2, u2⟩
  have O2 := Lib.hid o2
  have U2 := Lib.hid u2
  clear o2 u2
  go_wp2_with fail
  go_ret
  exact ⟨_, rfl, O2.out, U2.out⟩

/-- The entries as pairs. -/
def alOf (W : AL) (L : List IEnt) : AL := L.map fun e => (e.1, (get W e.1).getD 0)
theorem alOf_keys (W : AL) (L : List IEnt) : (alOf W L).map (·.1) = L.map (·.1) := by unfold alOf; rw [List.map_map]; rfl
theorem ent_val {W : AL} {L : List IEnt} (hf : ∀ k, mapW W k = findI L k) (hn : (L.map (·.1)).Nodup) {x : IEnt} (hx : x ∈ L) : x.2.1 = .int .u64 ((get W x.1).getD 0) := by
  have h1 := hf x.1
  rw [findI_mem hn hx] at h1
  unfold mapW at h1
  cases hg : get W x.1 with
  | none => rw [hg] at h1; cases h1
  | some y => rw [hg] at h1; exact (Option.some.inj h1).symm
theorem get_perm {L M : AL} (hn : (L.map (·.1)).Nodup) (h : L.Perm M) (k : Int) : get L k = get M k := by
  have hm : (M.map (·.1)).Nodup := (h.map _).nodup_iff.1 hn
  cases hg : get L k with
  | none =>
    symm
    rw [get_none] at hg ⊢
    exact fun p hp => hg p (h.mem_iff.2 hp)
  | some v =>
    have := mem_of_get hg
    exact (get_nodup hm (h.mem_iff.1 this)).symm
theorem alOf_sort {W : AL} {L : List IEnt} {M : AL} (hW : Srt W) (hf : ∀ k, mapW W k = findI L k) (hn : (L.map (·.1)).Nodup) (hp : M.Perm (alOf W L)) : (M.map (·.1)).Nodup ∧ sortW M = W := by
  have hk : ((alOf W L).map (·.1)).Nodup := by rw [alOf_keys]; exact hn
  have hm : (M.map (·.1)).Nodup := (hp.map _).nodup_iff.2 hk
  refine ⟨hm, ext (sortW_srt hm) hW fun k => ?_⟩
  rw [get_perm (((sortW_perm hm).map _).nodup_iff.2 hm) (sortW_perm hm), get_perm hm hp]
  have h1 := hf k
  unfold mapW at h1
  cases hg : get W k with
  | none =>
    rw [hg] at h1
    rw [get_none]
    intro p hp e
    obtain ⟨x, hx, rfl⟩ := List.mem_map.1 hp
    have h2 := findI_mem hn hx
    rw [show x.1 = k from e, ← h1] at h2
    cases h2
  | some y =>
    rw [hg] at h1
    have h2 : ∃ x ∈ L, x.1 = k := by
      refine Decidable.byContradiction fun hc => ?_
      have := findI_none (L := L) (k := k) (fun p hp e => hc ⟨p, hp, e⟩)
      rw [this] at h1
      cases h1
    obtain ⟨x, hx, rfl⟩ := h2
    have := get_nodup hk (List.mem_map.2 ⟨x, hx, rfl⟩)
    rw [this, hg]
    rfl
def slLen : Value → Nat | .slice _ n _ => n | _ => 0
theorem own_slLen {w : World} {B : Nat} {e : TypeId} {s : Nat} {v : Value} {n : Nat} {xs : List Value} (h : w.ownsRow B e s v n xs) : slLen v = n := by
  obtain ⟨A, c, rfl, _⟩ := own_slice h
  rfl
structure WrSt (W : AL) (wm rb B0 : Nat) (L rest : List IEnt) (acc : AL) (v : Value) (w wr : World) : Prop where
  it : IIter wr .u64 wm rb L rest
  own : Ow encW 55 wr B0 v acc
  perm : (acc ++ alOf W rest).Perm (alOf W L)
  u : Upd [] w wr
  off : v.ownBlock ≠ some rb
  sub : ∀ x ∈ rest, x ∈ L
set_option maxRecDepth 100000 in
set_option maxHeartbeats 4000000 in
theorem s_writes (B sb am wm : Nat) (F : List Nat) (s : SS) (w : World) (h : Sets B sb am wm F w s) :
    Calls Tryd.prog 8 #[.pointer (some ⟨sb, 0, none⟩)] w fun e w' => RowsPost encW 55 s.W w e w' := by
  have H := Lib.hid h
  obtain ⟨g, vr, vl, vk, hF, h⟩ := h
  have HS := Lib.hid h
  have HG := Lib.hid g
  have c2 : w.cell? ⟨sb, 2, none⟩ = some (.map (some wm)) := h.box.cell 2
  obtain ⟨NW, hNW⟩ : ∃ NW, s.W.length = NW := ⟨_, rfl⟩
  have HNW := Lib.hid hNW
  have hW5 : NW ≤ 500 := hNW ▸ g.wl
  obtain ⟨L, w1, r1, it, hf, hk, hl, u1, hsz⟩ := run_range_int (P := Tryd.prog) (mt := 58) Tryd.underlying58 h.m
  have HIT := Lib.hid it
  have HFI := Lib.hid hf
  have HKE := Lib.hid hk
  have HLL : Hid (L.length = NW) := Lib.hid (hl.trans hNW)
  have U1 := Lib.hid u1
  have SZ := Lib.hid hsz
  clear g hF h hNW it hf hk hl u1 hsz
  go_enter Tryd.func8, Tryd.ntmps8
  go_wp2_with fail
  refine (s_made B sb am wm F s w H.out).mono ?_; rintro e w2 ⟨rfl, rfl⟩
  go_wp2_with fail
  clear r1 c2
  go_loopw [3] (fun v wr => Hid (∃ rest acc, WrSt s.W wm w.heap.size w.heap.size L rest acc v w wr)) (fun v _ => NW - slLen v)
  case atStart => exact Lib.hid ⟨L, [], HIT.out, Ow.nil _ _ _ _, .refl _, U1.out, by simp [Value.ownBlock], fun x h => h⟩
  case round =>
    obtain ⟨rest, acc, hst⟩ := hrel.out
    have ST := Lib.hid hst
    clear hrel
    rename World => wi
    obtain ⟨Av, cv, rfl, _, _⟩ := own_slice hst.own
    obtain ⟨q, hq⟩ : ∃ q, acc.length = q := ⟨_, rfl⟩
    have HQ := Lib.hid hq
    have hqr : q + rest.length = NW := by
      have h1 := hst.perm.length_eq
      rw [List.length_append] at h1
      unfold alOf at h1
      simp only [List.length_map] at h1
      rw [HLL.out] at h1
      omega
    rw [hq] at ST ⊢
    rcases run_next_int (P := Tryd.prog) hst.it 0 with ⟨h0, r2⟩ | ⟨x, rest', w2, hp, r2, it2, u2, r3⟩
    · subst h0
      have hqN : q = NW := by simpa using hqr
      have PM : Hid (acc.Perm (alOf s.W L)) := Lib.hid (by have := hst.perm; simpa [alOf] using this)
      have AS := Lib.hid (alOf_sort HG.out.srt HFI.out HKE.out PM.out)
      clear hst hqr
      by_cases hq0 : q = 0
      · have HWN : Hid (s.W = []) := Lib.hid (List.eq_nil_of_length_eq_zero (by rw [HNW.out]; omega))
        subst hq0
        clear hq hqN
        go_wp2_with fail
        refine (sortFuncW_none Av cv wi).mono ?_; rintro e w2 ⟨rfl, rfl⟩
        go_wp2_with fail
        go_ret
        unfold RowsPost
        rw [HWN.out]
        have hac : acc = [] := List.eq_nil_of_length_eq_zero HQ.out
        have ho := ST.out.own
        rw [hac] at ho
        exact ⟨_, rfl, ho, ST.out.u⟩
      · obtain ⟨gv, cg, cur, e1, hBg, _⟩ := own_form ST.out.own (by rw [HQ.out]; omega)
        injection e1 with e1 eL e1'
        subst e1 e1'
        have hq6 : q ≤ 1000 := by omega
        clear hq hqN eL
        go_wp2_with fail
        refine (sortFuncW w.heap.size gv q cv acc wi ST.out.own HQ.out hq6 AS.out.1).mono ?_; rintro e w2 ⟨rfl, o2, u2⟩
        have O2 := Lib.hid o2
        have U2 : Hid (Upd [] w w2) := Lib.hid (ST.out.u.trans' u2 (by intro x hx; simp at hx; subst hx; exact .inr hBg))
        clear o2 u2
        go_wp2_with fail
        go_ret
        unfold RowsPost
        have ho := O2.out
        rw [AS.out.2] at ho
        exact ⟨_, rfl, ho, U2.out⟩
    · obtain ⟨xk, xv, xs⟩ := x
      have hxL : (xk, xv, xs) ∈ L := hst.sub _ (hp.mem_iff.1 (by simp))
      obtain ⟨y, hy⟩ : ∃ y, (get s.W xk).getD 0 = y := ⟨_, rfl⟩
      have hv := ent_val HFI.out HKE.out hxL
      change xv = .int .u64 ((get s.W xk).getD 0) at hv
      rw [hy] at hv
      subst hv
      have hqN : q < NW := by
        have := hp.length_eq
        rw [List.length_cons] at this
        omega
      have O2 : Hid (w2.ownsRow w.heap.size 55 2 (.slice Av q cv) q (flat encW acc)) := Lib.hid (by
        have := hst.own.upd u2 (by intro b hb; simp; rintro rfl; exact hst.off hb)
        unfold Ow at this
        rw [hq] at this
        exact this)
      have IT2 := Lib.hid it2
      have HP := Lib.hid hp
      have HY := Lib.hid hy
      have UW : Hid (Upd [] w w2) := Lib.hid (hst.u.trans' u2 (by intro x hx; simp at hx; subst hx; exact .inr (Nat.le_refl _)))
      have RL : Hid (w.heap.size < w2.heap.size) := Lib.hid it2.lt
      clear hst hq hp hy it2 u2
      go_wp2_with (at_builtin; refine stopped ?_)
      refine Lib.hid ?_
      refine wpList_app _ (by rfl) (.tmp 19) (.tmp 23) _ (by rfl) elem_wrote (.slice Av q cv) _ (by rfl) (by rfl) (own_upd0 O2.out ((Upd.refl [] w2).alloc _)) (.of_blk (Blk.new _ _ _) (m := 1) 1 rfl) (by intro u hu; simp at hu; rcases hu with rfl | rfl <;> rfl) (by simp only [maxLen]; omega) (by omega) (Nat.le_trans UW.out.size (by simp)) ?_
      intro v4 w4 o4 u4 b4
      have S4 : Hid (slLen v4 = q + 1) := Lib.hid (own_slLen o4)
      have U4 : Upd (Value.slice Av q cv).ownBlock.toList w2 w4 := ((Upd.refl _ w2).alloc _).trans u4
      have ST4 : Hid (WrSt s.W wm w.heap.size w.heap.size L rest' (acc ++ [(xk, y)]) v4 w w4) := Lib.hid (by
        refine ⟨IT2.out.upd U4 (by intro hm; exact own_map O2.out IT2.out.map (by simpa using hm)) (by intro hm; exact ST.out.off (by simpa using hm)), ?_, ?_, ?_, ?_, fun z hz => ST.out.sub z (HP.out.mem_iff.1 (by simp [hz]))⟩
        · unfold Ow
          have e1 : flat encW acc ++ #[Value.int .u64 xk, Value.int .u64 y].toList = flat encW (acc ++ [(xk, y)]) := by rw [flat_append]; rfl
          rw [e1] at o4
          rw [List.length_append, HQ.out]
          exact o4
        · refine List.Perm.trans ?_ ST.out.perm
          have h1 : (alOf s.W ((xk, .int .u64 y, xs) :: rest')).Perm (alOf s.W rest) := HP.out.map _
          have h2 : alOf s.W ((xk, .int .u64 y, xs) :: rest') = (xk, y) :: alOf s.W rest' := by
            show (xk, (get s.W xk).getD 0) :: alOf s.W rest' = _
            rw [HY.out]
          rw [h2] at h1
          rw [List.append_assoc]
          exact h1.append_left acc
        · exact UW.out.trans' U4 (fun k hk => .inr (own_lt O2.out (by simpa using hk)).1)
        · rcases b4 with b4 | b4
          · rw [b4]; exact ST.out.off
          · rw [b4]
            intro e
            injection e with e
            have := RL.out
            simp at e
            omega)
      clear o4 u4 b4 U4
      go_wp2_with fail
      go_roundw
      case rel => exact Lib.hid ⟨_, _, ST4.out⟩
      case measure => rw [S4.out]; simp [slLen]; omega
end Go.Proofs.YtbpmkbcpnnpdjaaDoor

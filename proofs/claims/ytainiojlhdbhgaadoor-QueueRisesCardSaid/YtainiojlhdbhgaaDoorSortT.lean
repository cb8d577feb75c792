/-
  slices.SortFunc by queue.order; slices.SortedFunc; queue.Queue: All.
-/
import Derived.Test.YtainiojlhdbhgaaDoorLayT
import Derived.Test.YtainiojlhdbhgaaDoorOrdG
import Derived.Test.YtainiojlhdbhgaaDoorQPlain
import Derived.Test.YtainiojlhdbhgaaDoorValT
import Derived.Test.YtainiojlhdbhgaaDoorSortG
set_option linter.unusedVariables false
namespace Go.Proofs.YtainiojlhdbhgaaDoor
open Go.RowKit Go.Sort HeapPlain

def encT : Enc Tm := ⟨fun t => [.int .i64 t.wn, .int .i64 t.id], 2, fun _ => rfl, by intro a u hu; simp at hu; rcases hu with rfl | rfl <;> rfl, by omega⟩
theorem flat_T (L : List Tm) : flat encT L = flatT L := rfl
def cfT (a b : Tm) : Int := orL [cmpI a.wn b.wn, cmpI a.id b.id]
theorem ltOf_T (a b : Tm) : ltOf cfT a b = ltT a b := ltT_or a b
theorem swoT : SWO (ltOf cfT) where
  irrefl x := by rw [ltOf_T]; exact ltT_irr x
  trans x y z h1 h2 := by rw [ltOf_T] at *; exact ltT_tot.trans x y z h1 h2
  ntrans x y z h1 h2 := by rw [ltOf_T] at *; exact ltT_ord.tran z y x h2 h1
def sortL (L : List Tm) : List Tm := L.mergeSort (fun x y => !ltT y x)
theorem sortL_perm (L : List Tm) : (sortL L).Perm L := List.mergeSort_perm L _
theorem sortL_srt {L : List Tm} (h : (idsT L).Nodup) : SrtT (sortL L) := by
  have h1 : (sortL L).Pairwise (fun a b => (!ltT b a) = true) := List.pairwise_mergeSort (fun a b c h1 h2 => by
    simp only [Bool.not_eq_true'] at h1 h2 ⊢
    exact ltT_ord.tran a b c h1 h2) (fun a b => by
    cases hb : ltT b a with
    | false => rfl
    | true => rw [ltT_tot.asym b a hb]; rfl) L
  exact strict_of (((sortL_perm L).map (·.id)).nodup_iff.2 h) (h1.imp (fun h => by simpa using h))

theorem sortFuncT (B g n c : Nat) (L : List Tm) (w : World) (h : w.ownsRow B 29 2 (.slice (some ⟨g, 0, none⟩) n c) n (flatT L)) (hn : L.length = n) (hl : n ≤ 1000) :
    Calls Tryd.prog 44 #[.slice (some ⟨g, 0, none⟩) n c, .func (.func 32) #[] #[]] w fun e w' => e = .returned (.tuple #[]) ∧ w'.ownsRow B 29 2 (.slice (some ⟨g, 0, none⟩) n c) n (flatT (sortL L)) ∧ Upd [g] w w' := by
  subst hn
  have ho : Ow encT 29 w B (.slice (some ⟨g, 0, none⟩) L.length c) L := h
  have hg : g < w.heap.size := by
    obtain ⟨cur, _, hb, _⟩ := own_open h
    exact hb.lt
  have hc := AnyQ.slices_SortFunc_total sortT_lay 2 (fun w => by kernel_rfl) (fun w => by kernel_rfl) encT.c encT.len encT.one cfT swoT 32 #[] g 0 c L.toArray w (enters_of Tryd.func32 (by kernel_rfl) rfl)
    (fun m os dk _ x y => (order_grown x y _).mono fun e w' ⟨he, hw⟩ => ⟨he, hw⟩) (holdsK_own ho) hg (by simp; omega) (fun x y h1 h2 => by
      rw [ltOf_T] at h1 h2
      rcases Decidable.em (x = y) with e | e
      · exact e
      · rcases ltT_tot.tri x y e with h | h
        · rw [h] at h1; cases h1
        · rw [h] at h2; cases h2)
  refine (show Calls Tryd.prog 44 #[.slice (some ⟨g, 0, none⟩) L.length c, .func (.func 32) #[] #[]] w _ from hc).mono ?_
  rintro e w' ⟨rfl, m, os, rfl⟩
  have hd : (L.toArray.toList.mergeSort fun x y => !(ltOf cfT) y x) = sortL L := by
    unfold sortL
    simp only [ltOf_T]
  have hk := own_sorted (m := m) (os := os) (d := (sortL L).toArray) ho (by simpa using (sortL_perm L).length_eq)
  have hd2 : (L.toArray.toList.mergeSort fun x y => !(ltOf cfT) y x).toArray = (sortL L).toArray := by rw [hd]
  rw [hd2]
  refine ⟨rfl, ?_, hk.2⟩
  have h1 := hk.1
  unfold Ow at h1
  rw [show (sortL L).toArray.toList = sortL L by simp, (sortL_perm L).length_eq] at h1
  exact h1
theorem sortFuncT_none (p : Option Addr) (c : Nat) (w : World) :
    Calls Tryd.prog 44 #[.slice p 0 c, .func (.func 32) #[] #[]] w fun e w' => e = .returned (.tuple #[]) ∧ w = w' :=
  (show Calls Tryd.prog 44 #[.slice p 0 c, .func (.func 32) #[] #[]] w _ from AnyF.slices_SortFunc_none sortT_lay p c _ w).mono fun _ _ ⟨h1, h2⟩ => ⟨h1, h2.symm⟩

theorem valuesT (A : Option Addr) (n c : Nat) (w : World) : Calls Tryd.prog 31 #[.slice A n c] w fun e w' => e = .returned (.func (.func 45) #[] #[.pointer (some ⟨w.heap.size, 0, none⟩)]) ∧ w.alloc (.cells #[.slice A n c] 36) = w' := by
  go_enter Tryd.func31, Tryd.ntmps31
  go_wp2_with fail
  go_ret
  exact ⟨rfl, rfl⟩
/-- Values of a slice, collected. -/
theorem collectT (Bs B : Nat) (sv : Value) (L : List Tm) (hlen : L.length ≤ 1000) (w : World) (hb : Blk w Bs 36 #[sv]) (hI : w.ownsRow B 29 2 sv L.length (flatT L)) :
    Calls Tryd.prog 43 #[.func (.func 45) #[] #[.pointer (some ⟨Bs, 0, none⟩)]] w fun e w' => ∃ v, e = .returned v ∧ w'.ownsRow w.heap.size 29 2 v L.length (flatT L) ∧ Upd [] w w' := by
  have hs := valT_stops Fence.wide 5 trivial rfl (by omega) Bs w.heap.size B sv L hlen w hb.lt (Nat.le_refl _) (hb.cell 0) hI (fun b h => (own_lt hI h).2)
  have ha := Lib.hid ((callsIn_wide (n := 6)).1 (appendSeqT_in Fence.wide 6 trivial trivial rfl (by omega) Bs L hlen w hs))
  clear hs hI hb
  go_enter Tryd.func43, Tryd.ntmps43
  go_wp2_with fail
  refine ha.out.mono ?_; rintro e w1 ⟨v, rfl, o1, b1⟩
  have O1 := Lib.hid o1
  have U1 := Lib.hid (Upd.of_below (S := []) b1 (Nat.le_refl _))
  clear o1 b1
  go_wp2_with fail
  go_ret
  exact ⟨v, rfl, O1.out, U1.out⟩
def SortedPost (L : List Tm) (w : World) (e : Ending) (w' : World) : Prop := ∃ v, e = .returned v ∧ w'.ownsRow w.heap.size 29 2 v L.length (flatT (sortL L)) ∧ Upd [] w w'
theorem sortedT (Bs B : Nat) (sv : Value) (L : List Tm) (hlen : L.length ≤ 1000) (w : World) (hb : Blk w Bs 36 #[sv]) (hI : w.ownsRow B 29 2 sv L.length (flatT L)) :
    Calls Tryd.prog 30 #[.func (.func 45) #[] #[.pointer (some ⟨Bs, 0, none⟩)], .func (.func 32) #[] #[]] w fun e w' => SortedPost L w e w' := by
  have hc := Lib.hid (collectT Bs B sv L hlen w hb hI)
  obtain ⟨n, hn⟩ : ∃ n, L.length = n := ⟨_, rfl⟩
  have HN := Lib.hid hn
  rw [hn] at hlen
  clear hI hb hn
  go_enter Tryd.func30, Tryd.ntmps30
  go_wp2_with fail
  refine hc.out.mono ?_; rintro e w1 ⟨v, rfl, o1, u1⟩
  rw [HN.out] at o1
  have O1 := Lib.hid o1
  have U1 := Lib.hid u1
  clear u1
  rcases o1.2 with ⟨rfl, hz⟩ | ⟨g, cap, cur, rfl, hBg, _⟩
  · have hn0 : n = 0 := by exact hz
    subst hn0
    have hL : L = [] := List.eq_nil_of_length_eq_zero HN.out
    subst hL
    clear o1 hz
    go_wp2_with fail
    refine (sortFuncT_none none 0 w1).mono ?_; rintro e w2 ⟨rfl, rfl⟩
    go_wp2_with fail
    go_ret
    exact ⟨_, rfl, by rw [show sortL [] = [] by simp [sortL]]; exact own_nil _ _ _ _, U1.out⟩
  · have HB := Lib.hid hBg
    clear o1 hBg
    go_wp2_with fail
    refine (sortFuncT w.heap.size g n cap L w1 O1.out HN.out hlen).mono ?_; rintro e w2 ⟨rfl, o2, u2⟩
    have O2 := Lib.hid o2
    have U2 : Hid (Upd [] w w2) := Lib.hid (U1.out.trans' u2 (by intro x hx; simp at hx; subst hx; exact .inr HB.out))
    clear o2 u2
    go_wp2_with fail
    go_ret
    exact ⟨_, rfl, by rw [HN.out]; exact O2.out, U2.out⟩

def AllPost (ts : List Tm) (w : World) (e : Ending) (w' : World) : Prop := ∃ v, e = .returned v ∧ w'.ownsRow w.heap.size 29 2 v ts.length (flatT (sortL ts)) ∧ Upd [] w w'
theorem q_all (B qb p mb : Nat) (ts : List Tm) (w : World) (h : QSt B qb p mb w ts) :
    Calls Tryd.prog 18 #[.pointer (some ⟨qb, 0, none⟩)] w fun e w' => AllPost ts w e w' := by
  have H := Lib.hid h
  have hsm := Lib.hid h.tim.small
  obtain ⟨v, hbo, hown⟩ := h.tim.obj
  obtain ⟨A, c, rfl, _, _⟩ := own_slice hown
  have HO := Lib.hid hown
  have c0 : w.cell? ⟨qb, 0, none⟩ = some (.pointer (some ⟨p, 0, none⟩)) := h.box.cell 0
  have c1 : w.cell? ⟨p, 0, none⟩ = some (.slice A ts.length c) := hbo.cell 0
  clear h hbo hown
  go_enter Tryd.func18, Tryd.ntmps18
  go_wp2_with fail
  refine (q_made B qb p mb ts w H.out).mono ?_; rintro e w2 ⟨rfl, rfl⟩
  go_wp2_with fail
  refine (valuesT A ts.length c w).mono ?_; rintro e w1 ⟨rfl, rfl⟩
  have U1 : Hid (Upd [] w (w.alloc (.cells #[.slice A ts.length c] 36))) := Lib.hid ((Upd.refl [] w).alloc _)
  have Y1 : Hid (Blk (w.alloc (.cells #[.slice A ts.length c] 36)) w.heap.size 36 #[.slice A ts.length c]) := Lib.hid (Blk.new w _ _)
  clear c0 c1
  go_wp2_with fail
  generalize (w.alloc (.cells #[.slice A ts.length c] 36)) = w1 at *
  refine (sortedT w.heap.size B (.slice A ts.length c) ts hsm.out w1 Y1.out (own_upd0 HO.out U1.out)).mono ?_
  rintro e w3 ⟨v, rfl, o3, u3⟩
  have O3 := Lib.hid (own_base o3 U1.out.size)
  have U3 := Lib.hid (U1.out.trans u3)
  clear o3 u3
  go_wp2_with fail
  go_ret
  exact ⟨v, rfl, O3.out, U3.out⟩
end Go.Proofs.YtainiojlhdbhgaaDoor

/-
  A slice of ints that lies anywhere in a row of the call's own (a queue: head taken off, appended to). No program in sight.
  trace.way.
  A ring from one transaction, step by step: no Go in sight.
  tracer.around.
  trace.Ring.
  concordref28.Same, of two slices that hold the same edges.
  concordref08.Ints.
  concordlaw28.example, alive.
  trace.Graph, Serial, Ring: what they answer, in one form.
  concordref28: in, Leads.
  concordref28: Txns.
-/
import Derived.Test.YteddiknlcdbhjaaGreatTsB0
import Derived.Test.YteddiknlcdbhjaaGreatTsB2
import Derived.ArgAppend
import Derived.Lib.AppendZerosOnto
import Derived.Test.YteddiknlcdbhjaaGreatTsB13
import Derived.Test.YteddiknlcdbhjaaGreatTsB12
import Derived.Test.YteddiknlcdbhjaaGreatTsB4
import Derived.Test.YteddiknlcdbhjaaGreatProg
import Derived.Test.YteddiknlcdbhjaaGreatTsB10
import Derived.Test.YteddiknlcdbhjaaGreatTsB1
import Derived.BigQuiet
import Derived.Deep.QuietTactic
set_option linter.unusedVariables false
namespace Go.Proofs.YteddiknlcdbhjaaGreat
open Go Go.RowKit

/-- An operation 'append' whose run is known. -/
theorem wpList_appr {P : Program} {ops : Array Oper} {rest : List Oper} {o : Oper} {a : Act} {Q : Exit → Act → World → Prop} (w : World) (hgd : o.guard = none) (s' x' : Operand) (t tn : TypeId) (ho : o.op = .call { callee := .builtin .append, args := #[s', x'], argTypes := #[t, tn] })
    (v x : Value) (hs : a.eval s' = v) (hx : a.eval x' = x) {v' : Value} {w' : World} (hr : (Builtin.append_ #[t, tn] o.type #[v, x]).run P w = .ok v' w') (h : wpList P ops Q rest (a.put o.dst v') w') : wpList P ops Q (o :: rest) a w :=
  wpList_plain hgd fun _ hK => Lib.wp_append_run w s' x' t tn ho v x hs hx v' w' hr (hK _ _ h)
def SlAt (e : TypeId) (B : Nat) (w : World) (v : Value) (xs : List Int) : Prop := ∃ (g o c : Nat) (cur : Array Value), v = .slice (some ⟨g, o, none⟩) xs.length c ∧ xs.length ≤ c ∧ c ≤ maxLen ∧ B ≤ g ∧ Blk w g e cur ∧ o + c ≤ cur.size ∧ ∀ (j : Nat) x, xs[j]? = some x → cur[o + j]? = some (.int .i64 x)
section
variable {e : TypeId} {B g : Nat} {w w' : World} {v : Value} {xs : List Int}
theorem SlAt.start {x : Int} (h : Blk w g e #[.int .i64 x]) (hB : B ≤ g) : SlAt e B w (.slice (some ⟨g, 0, none⟩) 1 1) [x] :=
  ⟨g, 0, 1, _, rfl, by simp, by simp [maxLen], hB, h, by simp, fun j y hj => by
    cases j with
    | zero => simp at hj; subst hj; rfl
    | succ j => simp at hj⟩
theorem SlAt.upd {S : List Nat} (h : SlAt e B w v xs) (hu : Upd S w w') (hS : ∀ b, v.ownBlock = some b → b ∉ S) : SlAt e B w' v xs := by
  obtain ⟨g, o, c, cur, rfl, h1, h2, h3, h4, h5, h6⟩ := h
  exact ⟨g, o, c, cur, rfl, h1, h2, h3, h4.upd hu (hS g rfl), h5, h6⟩
theorem SlAt.upd0 (h : SlAt e B w v xs) (hu : Upd [] w w') : SlAt e B w' v xs := h.upd hu (by simp)
theorem SlAt.form (h : SlAt e B w v xs) : ∃ (g o c : Nat), v = .slice (some ⟨g, o, none⟩) xs.length c ∧ xs.length ≤ c ∧ c ≤ maxLen ∧ B ≤ g ∧ g < w.heap.size := by
  obtain ⟨g, o, c, cur, rfl, h1, h2, h3, h4, h5, h6⟩ := h
  exact ⟨g, o, c, rfl, h1, h2, h3, h4.lt⟩
theorem SlAt.head {o n c : Nat} {x : Int} (h : SlAt e B w (.slice (some ⟨g, o, none⟩) n c) (x :: xs)) : w.cell? ⟨g, o, none⟩ = some (.int .i64 x) := by
  obtain ⟨g', o', c', cur, hv, h1, h2, h3, h4, h5, h6⟩ := h
  injection hv with hv _ _
  injection hv with hv
  injection hv with e1 e2 _
  subst e1 e2
  rw [h4.cell]
  exact h6 0 x rfl
theorem SlAt.tail {o n c : Nat} {x : Int} (h : SlAt e B w (.slice (some ⟨g, o, none⟩) n c) (x :: xs)) : SlAt e B w (.slice (if c = 1 then some ⟨g, o, none⟩ else some ⟨g, o + 1, none⟩) (n - 1) (c - 1)) xs := by
  obtain ⟨g', o', c', cur, hv, h1, h2, h3, h4, h5, h6⟩ := h
  injection hv with hv e3 e4
  injection hv with hv
  injection hv with e1 e2 _
  subst e1 e2 e3 e4
  rw [List.length_cons] at h1
  by_cases hc : c = 1
  · rw [if_pos hc]
    have : xs = [] := List.eq_nil_of_length_eq_zero (by omega)
    subst this
    exact ⟨g, o, c - 1, cur, rfl, by simp, by omega, h3, h4, by omega, by simp⟩
  · rw [if_neg hc]
    exact ⟨g, o + 1, c - 1, cur, rfl, by omega, by omega, h3, h4, by omega, fun j y hj => by
      rw [show o + 1 + j = o + (j + 1) by omega]
      exact h6 (j + 1) y hj⟩
end
section
variable {P : Program} {e t : TypeId} {B : Nat} {w : World} {v : Value} {xs : List Int}
/-- One more. -/
theorem SlAt.app (ET : Elem P t e 1 8) (h : SlAt e B w v xs) (hl : xs.length < 1000) (hB : B ≤ w.heap.size) {q : Nat} {x : Int} (hq : Blk w q e #[.int .i64 x]) (ty : TypeId) :
    ∃ v' w', (Builtin.append_ #[t, t] ty #[v, .slice (some ⟨q, 0, none⟩) 1 1]).run P w = .ok v' w' ∧ SlAt e B w' v' (xs ++ [x]) ∧ Upd v.ownBlock.toList w w' ∧ (v'.ownBlock = v.ownBlock ∨ ∃ b, v'.ownBlock = some b ∧ w.heap.size ≤ b) := by
  obtain ⟨g, o, c, cur, rfl, h1, h2, h3, h4, h5, h6⟩ := h
  obtain ⟨i, z, hi, hz, hsz, hby, hzs⟩ := ET.info
  have hnews : ∀ (j : Nat) u, [Value.int .i64 x][j]? = some u → w.cell? ((⟨q, 0, none⟩ : Addr).add j) = some u := fun j u hj => by
    cases j with
    | zero => simp at hj; subst hj; exact hq.cell 0
    | succ j => simp at hj
  by_cases hr : xs.length + 1 ≤ c
  · have hlt : o + xs.length < cur.size := by omega
    have hrun := run_append_room_cells (P := P) w t ty e i ET.und hi g o xs.length c ⟨q, 0, none⟩ 1 1 [.int .i64 x] (by simp [hsz]) hnews (by intro u hu; simp at hu; subst hu; rfl) hr (by
      intro j hj
      simp at hj
      subst hj
      rw [hsz, Nat.mul_one, Nat.add_zero, h4.cell, Array.getElem?_eq_getElem hlt]
      rfl) (fun j _ => h4.frozen _)
    rw [hsz, Nat.mul_one] at hrun
    have hset : w.setCells g (o + xs.length) [.int .i64 x] = w.setCell ⟨g, o + xs.length, none⟩ (.int .i64 x) := rfl
    rw [hset] at hrun
    refine ⟨_, _, hrun, ⟨g, o, c, _, by rw [List.length_append]; rfl, by rw [List.length_append]; exact hr, h2, h3, h4.set_eq rfl, by simp; omega, fun j y hj => ?_⟩, (Upd.refl _ w).setCell (.inl (by simp [Value.ownBlock])) _, .inl rfl⟩
    rcases Nat.lt_or_ge j xs.length with hjl | hjl
    · rw [List.getElem?_append_left hjl] at hj
      have := h6 j y hj
      simp [Array.getElem?_setIfInBounds, show o + xs.length ≠ o + j by omega, show xs.length ≠ j by omega, this]
    · rw [List.getElem?_append_right hjl] at hj
      have hj0 := (List.getElem?_eq_some_iff.1 hj).1
      simp at hj0
      have e0 : j = xs.length := by omega
      subst e0
      simp at hj
      subst hj
      simp [Array.getElem?_setIfInBounds, hlt]
  · obtain ⟨v', w', hrun, ho, hg⟩ := run_append_arg_grows (P := P) w t ty e i z 1 8 ET.und hi hz hsz hby hzs (by omega) ⟨g, o, none⟩ xs.length c (xs.map (.int .i64)) (by simp) (fun j u hj => by
      rw [List.getElem?_map] at hj
      cases hx : xs[j]? with
      | none => rw [hx] at hj; cases hj
      | some y =>
        rw [hx] at hj
        cases hj
        rw [Addr.add_lit, h4.cell]
        exact h6 j y hx) ⟨q, 0, none⟩ 1 1 [.int .i64 x] (by simp) hnews (by omega) (by simp only [maxLen]; omega) (by omega)
    obtain ⟨g', c', cur', rfl, k1, k2, k3, k4, k5, k6⟩ := own_form ho (by omega)
    have hu : Upd [] w w' := own_upd_of_grown (v := .slice none 0 0) hg
    refine ⟨_, _, hrun, ⟨g', 0, c', cur', by rw [List.length_append]; rfl, by rw [List.length_append]; exact k3, k4, Nat.le_trans hB k1, k2, by omega, fun j y hj => ?_⟩, hu.mono (by simp), ?_⟩
    · have hc := own_cell ho j (.int .i64 y) (by
        have : ((xs ++ [x]).map (Value.int .i64))[j]? = some (.int .i64 y) := by rw [List.getElem?_map, hj]; rfl
        rw [List.map_append] at this
        exact this)
      rw [k2.cell] at hc
      rw [Nat.zero_add]
      exact hc
    · exact .inr ⟨g', rfl, k1⟩
end
end Go.Proofs.YteddiknlcdbhjaaGreat

namespace Go.Proofs.YteddiknlcdbhjaaGreat
open Go Go.RowKit TrP
attribute [local go_sem] litStep_value

namespace TrP
/-- Ways grow by one. -/
theorem From.len {g : List Ed} {all : List Int} {n : Int} {fr : Int → Option Int} {met : List Int} {ways : List (List Int)} (h : From g all n fr met ways) : ∀ (i : Nat) w, ways[i]? = some w → 1 ≤ w.length ∧ w.length ≤ i + 1 := by
  intro i
  induction i using Nat.strongRecOn with
  | _ i ih =>
    intro w hw
    rcases h.back hw with ⟨rfl, rfl⟩ | ⟨_, j, w', hj, h2, h3, _⟩
    · simp
    · have := ih j hj w' h2
      rw [h3, List.length_append, List.length_singleton]
      omega
end TrP
def WayPost (wy : List Int) (w : World) (e : Ending) (w' : World) : Prop := ∃ v, e = .returned v ∧ Ow encK 3 w' w.heap.size v wy ∧ Upd [] w w'
set_option maxRecDepth 100000 in
set_option maxHeartbeats 2000000 in
theorem t_way (g : List Ed) (all : List Int) (n : Int) (fr : Int → Option Int) (met : List Int) (ways : List (List Int)) (i : Nat) (wy : List Int) (fb cnt : Nat) (w : World) (h : From g all n fr met ways) (hw : ways[i]? = some wy) (hl : ways.length ≤ 100) (im : IMap w .i64 fb (fun k => (fr k).map (.int .i64)) cnt) :
    Calls Tryz.prog 41 #[.map (some fb), .int .i64 n, .int .i64 (wy.getLastD 0)] w fun e w' => WayPost wy w e w' := by
  have H := Lib.hid h
  have IM := Lib.hid im
  have hlen : wy.length ≤ 100 := by
    have h1 := (h.len i wy hw).2
    have h2 := (List.getElem?_eq_some_iff.1 hw).1
    omega
  have HW := Lib.hid hw
  obtain ⟨t0, ht0⟩ : ∃ t0, wy.getLastD 0 = t0 := ⟨_, rfl⟩
  have HT0 := Lib.hid ht0
  rw [ht0]
  clear h im hw hl ht0
  go_enter Tryz.func41, Tryz.ntmps41
  go_wp2_with fail
  have O1 : Hid ((w.alloc (.cells #[.int .i64 t0] 3)).ownsRow w.heap.size 3 1 (.slice (some ⟨w.heap.size, 0, none⟩) 1 1) 1 [.int .i64 t0]) := Lib.hid ⟨by simp, .inr ⟨w.heap.size, 1, _, rfl, Nat.le_refl _, Blk.new w _ _, by omega, by simp [maxLen], by simp, by simp⟩⟩
  have U1 : Hid (Upd [] w (w.alloc (.cells #[.int .i64 t0] 3))) := Lib.hid ((Upd.refl [] w).alloc _)
  generalize w.alloc (.cells #[.int .i64 t0] 3) = w1 at *
  go_loopw [2, 7] (fun u v wq => ∃ (i' : Nat) (w' s : List Int) (A : Option Addr) (c : Nat), u = .int .i64 (w'.getLastD 0) ∧ v = .slice A (s.length + 1) c ∧ s.length + 1 ≤ 100 ∧ wy = w' ++ s ∧ Hid (ways[i']? = some w') ∧ Hid (wq.ownsRow w.heap.size 3 1 v (s.length + 1) ((s.reverse ++ [w'.getLastD 0]).map (.int .i64)) ∧ Upd [] w wq)) (fun _ v _ => 101 - lenOfS v)
  case atStart => exact ⟨i, wy, [], _, _, by rw [HT0.out], rfl, by simp, by simp, HW, Lib.hid ⟨by rw [HT0.out]; exact O1.out, U1.out⟩⟩
  case round =>
    obtain ⟨i', w', s, A, c, rfl, rfl, hsl, hws, HW', HREL⟩ := hrel
    rename World => wq
    obtain ⟨ho, hu⟩ := HREL.out
    have HO := Lib.hid ho
    have HU := Lib.hid hu
    have HWS := Lib.hid hws
    have hwl := congrArg List.length hws
    rw [List.length_append] at hwl
    rcases H.out.back HW'.out with ⟨he, h0⟩ | ⟨hne, j, w2, hj, h2, h3, h4⟩
    · clear ho hu HREL hws
      have e : w'.getLastD 0 = n := by rw [he]; rfl
      rw [e] at HO ⊢
      have HE := Lib.hid he
      obtain ⟨ns, hns⟩ : ∃ ns, s.length + 1 = ns := ⟨_, rfl⟩
      rw [hns] at HO hsl ⊢
      obtain ⟨q, c2, cur, e2, hq, hbq, _, _, _, _⟩ := own_form HO.out (by omega)
      injection e2 with e3 e4 e5
      subst e3 e5
      have HNS := Lib.hid hns
      have HQ := Lib.hid hq
      clear e he hbq e4 hwl h0 hns hq
      go_wp2_with fail
      refine (reverse_ok w.heap.size q ns c (s.reverse ++ [n]) wq HO.out (by rw [← HNS.out]; simp) (by omega)).mono ?_; rintro e w3 ⟨rfl, o3, u3⟩
      have U3 : Hid (Upd [] w w3) := Lib.hid (HU.out.trans' u3 (by intro x hx; simp at hx; subst hx; exact .inr HQ.out))
      have O3 : Hid (Ow encK 3 w3 w.heap.size (.slice (some ⟨q, 0, none⟩) ns c) wy) := Lib.hid (by
        unfold Ow
        rw [Vk.flat_intK, HWS.out, HE.out]
        have e1 : (s.reverse ++ [n]).reverse = [n] ++ s := by simp
        rw [e1] at o3
        rw [show ([n] ++ s).length = ns from by rw [← HNS.out]; simp]
        exact o3)
      clear o3 u3
      go_wp2_with fail
      go_ret
      unfold WayPost
      exact ⟨_, rfl, O3.out, U3.out⟩
    · clear ho hu HREL hws
      obtain ⟨tn, hto⟩ : ∃ tn, w'.getLastD 0 = tn := ⟨_, rfl⟩
      obtain ⟨t2, ht2⟩ : ∃ t2, w2.getLastD 0 = t2 := ⟨_, rfl⟩
      rw [hto] at hne h3 h4 HO ⊢
      rw [ht2] at h4
      have lk : (Instr.lookup 59 (.map (some fb)) (.int .i64 tn) false).run Tryz.prog wq = .ok (.int .i64 t2) wq := by
        rw [run_lookup_int' Tryz.underlying59 Tryz.underlying3 (Tryz.zeroValue3 wq) (IM.out.upd HU.out (by simp)) tn, h4]
        rfl
      have d : (tn != n) = true := by simpa using hne
      have hl2 : (w2.length : Int) + 1 = w'.length := by rw [h3]; simp
      have hl3 := (H.out.len j w2 h2).1
      have hs2 : s.length + 1 + 1 ≤ 100 := by omega
      have HSZ : Hid (w.heap.size ≤ wq.heap.size) := Lib.hid HU.out.size
      have H2 := Lib.hid h2
      have H3 := Lib.hid h3
      have HT2 := Lib.hid ht2
      obtain ⟨ns, hns⟩ : ∃ ns, s.length + 1 = ns := ⟨_, rfl⟩
      rw [hns] at HO hs2 hsl ⊢
      have HNS := Lib.hid hns
      clear h2 h3 h4 hne hto ht2 hl2 hl3 hwl hns
      go_wp2_with (at_builtin; refine stoppedR ?_)
      refine Lib.hid ?_
      refine wpList_app _ (by rfl) (.tmp 16) (.tmp 18) _ (by rfl) int_elem (.slice A ns c) _ (by rfl) (by rfl) (own_upd0 HO.out ((Upd.refl [] wq).alloc _)) (.of_blk (Blk.new wq 3 #[.int .i64 t2]) (m := 1) 1 rfl) (by intro u hu; simp at hu; subst hu; rfl) (by simp only [maxLen]; omega) (by omega) (Nat.le_trans HSZ.out (by simp)) ?_
      intro v5 W5 o5 u5 b5
      have HREL : Hid (W5.ownsRow w.heap.size 3 1 v5 (ns + 1) (((tn :: s).reverse ++ [t2]).map (.int .i64)) ∧ Upd [] w W5) := Lib.hid ⟨by
        have e : ((tn :: s).reverse ++ [t2]).map (Value.int .i64) = (s.reverse ++ [tn]).map (.int .i64) ++ [.int .i64 t2] := by simp
        rw [e]; exact o5, (HU.out.trans ((Upd.refl [] wq).alloc _)).trans' u5 (by
          intro x hx
          exact .inr (own_lt HO.out (by simpa using hx)).1)⟩
      obtain ⟨A5, c5, rfl, _, _⟩ := own_slice o5
      clear o5 u5 b5
      go_wp2_with fail
      go_roundw
      case rel => exact ⟨j, w2, tn :: s, A5, c5, by rw [HT2.out], by rw [List.length_cons, HNS.out], by rw [List.length_cons, HNS.out]; exact hs2, by rw [HWS.out, H3.out]; simp, H2, Lib.hid (by rw [List.length_cons, HNS.out, HT2.out]; exact HREL.out)⟩
      case measure => simp [lenOfS]; omega
end Go.Proofs.YteddiknlcdbhjaaGreat

namespace Go.Proofs.YteddiknlcdbhjaaGreat.TrP

/-- Those that still have to be looked at. -/
def todoL (ways : List (List Int)) (m : Nat) : List Int := (ways.drop m).map (fun w => w.getLastD 0)
section
variable {g : List Ed} {all : List Int} {n : Int} {fr : Int → Option Int} {met : List Int} {ways : List (List Int)} {w : List Int}
theorem todoL_len (m : Nat) : (todoL ways m).length = ways.length - m := by simp [todoL]
theorem todoL_cons {m : Nat} (hw : ways[m]? = some w) : todoL ways m = w.getLastD 0 :: todoL ways (m + 1) := by
  obtain ⟨hm, rfl⟩ := List.getElem?_eq_some_iff.1 hw
  unfold todoL
  rw [List.drop_eq_getElem_cons hm]
  rfl
theorem todoL_push {m : Nat} (hm : m ≤ ways.length) (v : List Int) (k : Int) : todoL (ways ++ [v ++ [k]]) m = todoL ways m ++ [k] := by
  unfold todoL
  rw [List.drop_append_of_le_length hm, List.map_append]
  simp [List.getLastD_eq_getLast?]
theorem Bfs.small (h : Bfs g all n met ways) : met.length ≤ all.length := len_sub h.nodup h.sub
/-- Nothing is left to look at. -/
theorem bfs_none {f m : Nat} (h : ways[m]? = none) : bfsR g all n f m met ways = [] := by
  cases f with
  | zero => rfl
  | succ f => unfold bfsR; rw [h]
theorem scan_succ {x : Int} : scanR g n x w all met ways = scanR g n x w (succL g all x) met ways := scanR_skip all met ways
theorem scan_drop {x k : Int} {j : Nat} (h : (succL g all x)[j]? = some k) : scanR g n x w ((succL g all x).drop j) met ways = if k = n then none else if k ∈ met then scanR g n x w ((succL g all x).drop (j + 1)) met ways else scanR g n x w ((succL g all x).drop (j + 1)) (met ++ [k]) (ways ++ [w ++ [k]]) := by
  rw [drop_cons h]
  conv => lhs; unfold scanR
  rw [if_pos (mem_succL.1 (List.mem_of_getElem? h)).2]
theorem bfs_hit {f m : Nat} (hw : ways[m]? = some w) (hs : scanR g n (w.getLastD 0) w (succL g all (w.getLastD 0)) met ways = none) : bfsR g all n (f + 1) m met ways = w := by
  conv => lhs; unfold bfsR
  rw [hw]
  simp only
  rw [scan_succ, hs]
theorem bfs_on {f m : Nat} {met' : List Int} {ways' : List (List Int)} (hw : ways[m]? = some w) (hs : scanR g n (w.getLastD 0) w (succL g all (w.getLastD 0)) met ways = some (met', ways')) : bfsR g all n (f + 1) m met ways = bfsR g all n f (m + 1) met' ways' := by
  conv => lhs; unfold bfsR
  rw [hw]
  simp only
  rw [scan_succ, hs]
end
end Go.Proofs.YteddiknlcdbhjaaGreat.TrP

namespace Go.Proofs.YteddiknlcdbhjaaGreat
open Go Go.RowKit TrP
open Vk (rows_at)
attribute [local go_sem] litStep_value run_makeMap_plain

def mapLen (b : Nat) (w : World) : Nat := match w.heap[b]? with
  | some (.map es _) => es.size
  | _ => 0
theorem IMap.mapLen {w : World} {q : IntKind} {b n : Nat} {f : Int → Option Value} (h : IMap w q b f n) : mapLen b w = n := by
  obtain ⟨L, c, hr, _, hn⟩ := h
  unfold Go.Proofs.YteddiknlcdbhjaaGreat.mapLen
  rw [hr.blk]
  simp [hn]
def ArPost (g : List Ed) (all : List Int) (n : Int) (w : World) (e : Ending) (w' : World) : Prop := ∃ v, e = .returned v ∧ Upd [] w w' ∧ (aroundR g all n = [] → v = .slice none 0 0) ∧ (aroundR g all n ≠ [] → Ow encK 3 w' w.heap.size v (aroundR g all n))
structure ArSt (g : List Ed) (all : List Int) (n : Int) (fb : Nat) (w : World) (wq : World) (v : Value) (m : Nat) (fr : Int → Option Int) (met : List Int) (ways : List (List Int)) : Prop where
  fro : From g all n fr met ways
  im : IMap wq .i64 fb (fun k => (fr k).map (.int .i64)) met.length
  td : SlAt 3 w.heap.size wq v (todoL ways m)
  up : Upd [] w wq
theorem ArSt.upd0 {g : List Ed} {all : List Int} {n : Int} {fb : Nat} {w wq w' : World} {v : Value} {m : Nat} {fr : Int → Option Int} {met : List Int} {ways : List (List Int)} (h : ArSt g all n fb w wq v m fr met ways) (hu : Upd [] wq w') : ArSt g all n fb w w' v m fr met ways := ⟨h.fro, h.im.upd hu (by simp), h.td.upd0 hu, h.up.trans hu⟩
set_option maxRecDepth 100000 in
set_option maxHeartbeats 8000000 in
theorem t_around (ρ : Rho) (B tb : Nat) (b : TB) (fv sv : Value) (T : TC) (g : List Ed) (all : List Int) (n : Int) (w : World) (h : TrSt w ρ B tb b fv sv { T with ld := succL g all }) (hg : GOk g all) (hl : all.length ≤ 60) :
    Calls Tryz.prog 28 #[.pointer (some ⟨tb, 0, none⟩), .int .i64 n] w fun e w' => ArPost g all n w e w' := by
  have ST := Lib.hid h
  have HG := Lib.hid hg
  clear h hg
  go_enter Tryz.func28, Tryz.ntmps28
  go_wp2_with fail
  have A1 : Hid (ArSt g all n w.heap.size w ((w.alloc (.map #[] 0)).alloc (.cells #[.int .i64 n] 3)) (.slice (some ⟨w.heap.size + 1, 0, none⟩) 1 1) 0 (fun _ => none) [] [[n]]) := Lib.hid {
    fro := From.start n
    im := ((IMap.new w .i64).upd ((Upd.refl [] _).alloc _) (by simp)).congr (fun _ => rfl)
    td := SlAt.start (Blk.newAt _ _ (by simp)) (by omega)
    up := ((Upd.refl [] w).alloc _).alloc _ }
  obtain ⟨fb, hfb⟩ : ∃ fb, w.heap.size = fb := ⟨_, rfl⟩
  have HFB := Lib.hid hfb
  rw [hfb] at A1 ⊢
  generalize ((w.alloc (.map #[] 0)).alloc (.cells #[.int .i64 n] 3)) = w1 at *
  clear hfb
  go_loopw [6] (fun v wq => Hid (∃ m fr met ways, ArSt g all n fb w wq v m fr met ways ∧ m ≤ ways.length ∧ aroundR g all n = bfsR g all n (all.length + 1 - m) m met ways)) (fun v wq => 2 * (100 - mapLen fb wq) + lenOfS v)
  case atStart => exact Lib.hid ⟨0, _, _, _, A1.out, by simp, rfl⟩
  case round =>
    obtain ⟨m, fr, met, ways, ar, hm, hv⟩ := hrel.out
    rename World => wq
    have AR := Lib.hid ar
    have HV := Lib.hid hv
    have hml : met.length ≤ 60 := Nat.le_trans ar.fro.bfs.small hl
    have hwl := ar.fro.bfs.len
    have HMAP := Lib.hid ar.im.mapLen
    obtain ⟨qg, qo, qc, rfl, hq1, hq2, _, _⟩ := ar.td.form
    rw [todoL_len] at hq1 ⊢
    have HTD : Hid (SlAt 3 w.heap.size wq (.slice (some ⟨qg, qo, none⟩) (ways.length - m) qc) (todoL ways m)) := Lib.hid (by have := ar.td; rw [todoL_len] at this; exact this)
    obtain ⟨nt, hnt⟩ : ∃ nt, ways.length - m = nt := ⟨_, rfl⟩
    rw [hnt] at hq1 HTD ⊢
    have HNT := Lib.hid hnt
    clear hrel ar hv
    by_cases h0 : nt = 0
    · have HU := Lib.hid AR.out.up
      have HZ : Hid (aroundR g all n = []) := Lib.hid (by rw [HV.out]; exact bfs_none (List.getElem?_eq_none (by omega)))
      subst h0
      clear hnt hwl
      go_wp2_with fail
      go_ret
      unfold ArPost
      exact ⟨_, rfl, HU.out, fun _ => rfl, fun h => absurd HZ.out h⟩
    · obtain ⟨wv, hwv⟩ : ∃ wv, ways[m]? = some wv := ⟨_, List.getElem?_eq_getElem (by omega)⟩
      obtain ⟨x, hx⟩ : ∃ x, wv.getLastD 0 = x := ⟨_, rfl⟩
      have htc := todoL_cons hwv
      rw [hx] at htc
      have htd := HTD.out
      rw [htc] at htd
      have k0 := htd.head
      have HTL := Lib.hid htd.tail
      have HWV := Lib.hid hwv
      have HX := Lib.hid hx
      have q1 : (0 : Int) < (nt : Int) := by omega
      have q2 : (1 : Int) ≤ (nt : Int) := by omega
      have q3 : (nt : Int) ≤ (qc : Int) := by omega
      obtain ⟨lg, lm, vv, ig, hvv, hown, hro, _⟩ := rows_at ST.out.ld.2 x
      have ho2 : w.ownsRow B 3 1 vv (succL g all x).length ((succL g all x).map (.int .i64)) := hown
      obtain ⟨ls, hls⟩ : ∃ ls, succL g all x = ls := ⟨_, rfl⟩
      rw [hls] at ho2
      have HLS := Lib.hid hls
      obtain ⟨A1', c1, rfl, hnc1, hcm1⟩ := own_slice ho2
      obtain ⟨n1, hn1⟩ : ∃ n1, ls.length = n1 := ⟨_, rfl⟩
      have hn160 : n1 ≤ 60 := by
        have : (succL g all x).length ≤ all.length := List.length_filter_le _ _
        rw [hls] at this
        omega
      rw [hn1] at ho2 hnc1 hvv hro
      have HN1 := Lib.hid hn1
      have OW0 := Lib.hid ho2
      have k4 : wq.cell? ⟨tb, 4, none⟩ = some (.map (some b.bl)) := (ST.out.tr.upd AR.out.up (by simp)).cell 4
      have r4 : (Instr.lookup 63 (.map (some b.bl)) (.int .i64 x) false).run Tryz.prog wq = .ok (.slice A1' n1 c1) wq := by
        rw [run_lookup_int' Tryz.underlying63 Tryz.underlying3 (Tryz.zeroValue26 wq) (ig.upd AR.out.up (by simp)) x, hvv]
      clear hown hro hls hn1 ho2 ig hvv hnc1 hcm1 hwv hx htc htd hnt
      by_cases hc1 : qc = 1
      · rw [if_pos hc1] at HTL
        subst hc1
        obtain rfl : nt = 1 := by omega
        go_wp2_with fail
        clear k0 k4 r4
        go_loopw [6, 30] (fun v u wx => ∃ j : Nat, u = .int .i64 j ∧ j ≤ n1 ∧ Hid (∃ fr' met' ways', ArSt g all n fb w wx v (m + 1) fr' met' ways' ∧ ways'[m]? = some wv ∧ met.length ≤ met'.length ∧ scanR g n x wv ls met ways = scanR g n x wv (ls.drop j) met' ways')) (fun _ u _ => n1 - (intOf u).toNat)
        case atStart => exact ⟨0, rfl, by omega, Lib.hid ⟨fr, met, ways, ⟨AR.out.fro, AR.out.im, HTL.out, AR.out.up⟩, HWV.out, Nat.le_refl _, rfl⟩⟩
        case round =>
          obtain ⟨j, rfl, hj, HRELJ⟩ := hrel
          rename World => wx
          obtain ⟨fr', met', ways', ar', hw', hmm, hsc⟩ := HRELJ.out
          have AX := Lib.hid ar'
          have HW' := Lib.hid hw'
          have HMM := Lib.hid hmm
          have HSC := Lib.hid hsc
          have hml' : met'.length ≤ 60 := Nat.le_trans ar'.fro.bfs.small hl
          have hwl' := ar'.fro.bfs.len
          have hmw := (List.getElem?_eq_some_iff.1 hw').1
          obtain ⟨vg, vo, vc, rfl, hv1, hv2, _, _⟩ := ar'.td.form
          rw [todoL_len] at hv1 ⊢
          obtain ⟨nv, hnv⟩ : ∃ nv, ways'.length - (m + 1) = nv := ⟨_, rfl⟩
          rw [hnv] at hv1 ⊢
          have HNV := Lib.hid hnv
          have AX' : Hid (ArSt g all n fb w wx (.slice (some ⟨vg, vo, none⟩) nv vc) (m + 1) fr' met' ways') := Lib.hid (by have := ar'; rw [todoL_len, hnv] at this; exact this)
          clear ar' hw' hmm hsc hnv HRELJ AX
          by_cases hjn : j < n1
          · obtain ⟨y, hy⟩ : ∃ y, ls[j]? = some y := ⟨_, List.getElem?_eq_getElem (by rw [HN1.out]; exact hjn)⟩
            have HY : Hid ((succL g all x)[j]? = some y) := Lib.hid (by rw [HLS.out]; exact hy)
            have ow : wx.ownsRow B 3 1 (.slice A1' n1 c1) n1 (ls.map (.int .i64)) := own_upd0 OW0.out AX'.out.up
            obtain ⟨lb, lc, lcur, e, _, _, _, _, _, _⟩ := own_form ow (by omega)
            injection e with e1 e2 e3
            subst e1 e3
            clear e2
            have f0 : wx.cell? ⟨lb, j, none⟩ = some (.int .i64 y) := own_cell ow j _ (by rw [List.getElem?_map, hy]; rfl)
            have q3 : (0 : Int) ≤ (j : Int) := by omega
            have q4 : (j : Int) < (n1 : Int) := by omega
            have HSD : Hid (scanR g n x wv (ls.drop j) met' ways' = if y = n then none else if y ∈ met' then scanR g n x wv (ls.drop (j + 1)) met' ways' else scanR g n x wv (ls.drop (j + 1)) (met' ++ [y]) (ways' ++ [wv ++ [y]])) := Lib.hid (by rw [← HLS.out]; exact scan_drop HY.out)
            clear ow hy
            by_cases hyn : y = n
            · have HAR : Hid (aroundR g all n = wv) := Lib.hid (by
                rw [HV.out, show all.length + 1 - m = (all.length - m) + 1 by have := AX'.out.fro.bfs.small; have := HMM.out; have := AR.out.fro.bfs.small; omega]
                refine bfs_hit HWV.out ?_
                rw [HX.out, HLS.out, HSC.out, HSD.out, if_pos hyn])
              have hway := t_way g all n fr' met' ways' m wv fb met'.length wx AX'.out.fro HW'.out (by omega) AX'.out.im
              rw [HX.out] at hway
              have HWAY := Lib.hid hway
              have hd : (y == n) = true := by simp [hyn]
              have hwne := (AX'.out.fro.len m wv HW'.out).1
              have HNE : Hid (wv ≠ []) := Lib.hid (fun e => by rw [e] at hwne; simp at hwne)
              clear hway hwne
              subst hyn
              go_wp2_with fail
              refine HWAY.out.mono ?_; rintro e w9 ⟨v9, rfl, o9, u9⟩
              have O9 := Lib.hid o9
              have U9 := Lib.hid (AX'.out.up.trans u9)
              clear o9 u9
              go_wp2_with fail
              go_ret
              unfold ArPost
              refine ⟨_, rfl, U9.out, fun h => absurd (HAR.out.symm.trans h) HNE.out, fun _ => ?_⟩
              rw [HAR.out]
              exact own_base O9.out AX'.out.up.size
            · have hd : (y == n) = false := by simpa using hyn
              by_cases hym : y ∈ met'
              · obtain ⟨p, hp⟩ : ∃ p, fr' y = some p := Option.isSome_iff_exists.1 ((AX'.out.fro.dom y).2 hym)
                have lk : (Instr.lookup 59 (.map (some fb)) (.int .i64 y) true).run Tryz.prog wx = .ok (.tuple #[.int .i64 p, .bool true]) wx := by
                  rw [run_lookup_int Tryz.underlying59 Tryz.underlying3 (Tryz.zeroValue3 wx) AX'.out.im y, hp]
                  rfl
                have HS2 : Hid (scanR g n x wv ls met ways = scanR g n x wv (ls.drop (j + 1)) met' ways') := Lib.hid (by rw [HSC.out, HSD.out, if_neg hyn, if_pos hym])
                clear hp hym hyn
                go_wp2_with fail
                go_roundw
                case rel => exact ⟨j + 1, by go_num, by omega, Lib.hid ⟨fr', met', ways', AX'.out, HW'.out, HMM.out, HS2.out⟩⟩
                case measure => simp [intOf]; omega
              · have hp : fr' y = none := by
                  cases e : fr' y with
                  | none => rfl
                  | some p => exact absurd ((AX'.out.fro.dom y).1 (by rw [e]; rfl)) hym
                have lk : (Instr.lookup 59 (.map (some fb)) (.int .i64 y) true).run Tryz.prog wx = .ok (.tuple #[.int .i64 0, .bool false]) wx := by
                  rw [run_lookup_int Tryz.underlying59 Tryz.underlying3 (Tryz.zeroValue3 wx) AX'.out.im y, hp]
                  rfl
                have HS2 : Hid (scanR g n x wv ls met ways = scanR g n x wv (ls.drop (j + 1)) (met' ++ [y]) (ways' ++ [wv ++ [y]])) := Lib.hid (by rw [HSC.out, HSD.out, if_neg hyn, if_neg hym])
                have hya : y ∈ all := (mem_succL.1 (List.mem_of_getElem? HY.out)).1
                have hyl : leadsB g x y = true := (mem_succL.1 (List.mem_of_getElem? HY.out)).2
                have FP : Hid (From g all n (fun z => if z = y then some x else fr' z) (met' ++ [y]) (ways' ++ [wv ++ [y]])) := Lib.hid (by
                  have h1 := AX'.out.fro.push HW'.out (k := y) (by rw [HX.out]; exact hyl) hyn hym hya
                  rw [HX.out] at h1
                  exact h1)
                obtain ⟨w8, f3, im, hu8⟩ := run_mapUpdate_int (P := Tryz.prog) Tryz.underlying59 Tryz.underlying3 AX'.out.im y (.int .i64 x)
                have im2 : Hid (IMap w8 .i64 fb (fun k => ((fun z => if z = y then some x else fr' z) k).map (.int .i64)) (met' ++ [y]).length) := Lib.hid (by
                  rw [hp] at im
                  rw [List.length_append]
                  exact im.congr (fun k => by
                    unfold putI
                    by_cases e : k = y
                    · simp [e]
                    · simp [e]))
                have hfbv : fb ≠ vg := fun e => by
                  obtain ⟨g', o', c', cur', e1, _, _, _, hb, _⟩ := AX'.out.td
                  injection e1 with e1 _ _
                  injection e1 with e1
                  injection e1 with e1 _ _
                  subst e1
                  exact blk_map hb AX'.out.im e.symm
                have U8 : Hid (Upd [] w w8) := Lib.hid (AX'.out.up.trans' hu8 (by intro q hq; simp at hq; subst hq; exact .inr (by have := HFB.out; omega)))
                have T8 : Hid (SlAt 3 w.heap.size (w8.alloc (.cells #[.int .i64 y] 3)) (.slice (some ⟨vg, vo, none⟩) nv vc) (todoL ways' (m + 1))) := Lib.hid ((AX'.out.td.upd hu8 (by intro q hq; simp [Value.ownBlock] at hq; subst hq; simp; exact fun e => hfbv e.symm)).upd0 ((Upd.refl [] w8).alloc _))
                obtain ⟨v9, w9, hr9, t9, u9, b9⟩ := T8.out.app (P := Tryz.prog) int_elem (by rw [todoL_len]; omega) (Nat.le_trans U8.out.size (by simp)) (Blk.new w8 3 #[.int .i64 y]) 26
                have A9 : Hid (ArSt g all n fb w w9 v9 (m + 1) (fun z => if z = y then some x else fr' z) (met' ++ [y]) (ways' ++ [wv ++ [y]])) := Lib.hid {
                  fro := FP.out
                  im := (im2.out.upd ((Upd.refl [] w8).alloc _) (by simp)).upd u9 (by simp [Value.ownBlock]; exact hfbv)
                  td := by rw [todoL_push (by omega)]; exact t9
                  up := (U8.out.trans ((Upd.refl [] w8).alloc _)).trans' u9 (by intro q hq; simp [Value.ownBlock] at hq; subst hq; obtain ⟨_, _, _, e1, _, _, h5, _⟩ := AX'.out.td.form; injection e1 with e1 _ _; injection e1 with e1; injection e1 with e1 _ _; subst e1; exact .inr h5) }
                have HW9 : Hid ((ways' ++ [wv ++ [y]])[m]? = some wv) := Lib.hid (by rw [List.getElem?_append_left hmw]; exact HW'.out)
                clear hp hym hyn hya hyl im hu8 hfbv t9 u9 b9
                obtain ⟨_, _, _, hv9, _⟩ := A9.out.td.form
                go_wp2_with (at_builtin; refine stoppedR ?_)
                refine Lib.hid ?_
                refine wpList_appr (w8.alloc (.cells #[.int .i64 y] 3)) (by rfl) (.tmp 52) (.tmp 54) _ _ (by rfl) _ _ (by rfl) (by rfl) hr9 ?_
                subst hv9
                clear hr9 lk f3 f0
                go_wp2_with fail
                go_roundw
                case rel => exact ⟨j + 1, by go_num, by omega, Lib.hid ⟨_, _, _, A9.out, HW9.out, by rw [List.length_append]; have := HMM.out; omega, HS2.out⟩⟩
                case measure => simp [intOf]; omega
          · have : j = n1 := by omega
            subst this
            have HAR : Hid (aroundR g all n = bfsR g all n (all.length + 1 - (m + 1)) (m + 1) met' ways') := Lib.hid (by
              rw [HV.out, show all.length + 1 - m = (all.length + 1 - (m + 1)) + 1 by have := AX'.out.fro.bfs.small; have := AR.out.fro.bfs.small; omega]
              refine bfs_on HWV.out ?_
              rw [HX.out, HLS.out, HSC.out, List.drop_eq_nil_of_le (by rw [HN1.out]; exact Nat.le_refl _)]
              rfl)
            have HREL : Hid (∃ m fr met ways, ArSt g all n fb w wx (.slice (some ⟨vg, vo, none⟩) nv vc) m fr met ways ∧ m ≤ ways.length ∧ aroundR g all n = bfsR g all n (all.length + 1 - m) m met ways) := Lib.hid ⟨m + 1, fr', met', ways', AX'.out, hmw, HAR.out⟩
            have HMS : Hid (2 * (100 - mapLen fb wx) + nv < 2 * (100 - mapLen fb wq) + 1) := Lib.hid (by
              rw [HMAP.out, AX'.out.im.mapLen]
              have h1 := HNT.out
              have h2 := HNV.out
              have h3 := HMM.out
              omega)
            go_wp2_with fail
            go_roundw
            case rel => exact HREL
            case measure => exact HMS.out
      · rw [if_neg hc1] at HTL
        have q5 : ¬ (qc = 1) := hc1
        have q6 : ¬ ((qc : Int) - 1 = 0) := by omega
        go_wp2_with fail
        clear k0 k4 r4
        go_loopw [6, 30] (fun v u wx => ∃ j : Nat, u = .int .i64 j ∧ j ≤ n1 ∧ Hid (∃ fr' met' ways', ArSt g all n fb w wx v (m + 1) fr' met' ways' ∧ ways'[m]? = some wv ∧ met.length ≤ met'.length ∧ scanR g n x wv ls met ways = scanR g n x wv (ls.drop j) met' ways')) (fun _ u _ => n1 - (intOf u).toNat)
        case atStart => exact ⟨0, rfl, by omega, Lib.hid ⟨fr, met, ways, ⟨AR.out.fro, AR.out.im, HTL.out, AR.out.up⟩, HWV.out, Nat.le_refl _, rfl⟩⟩
        case round =>
          obtain ⟨j, rfl, hj, HRELJ⟩ := hrel
          rename World => wx
          obtain ⟨fr', met', ways', ar', hw', hmm, hsc⟩ := HRELJ.out
          have AX := Lib.hid ar'
          have HW' := Lib.hid hw'
          have HMM := Lib.hid hmm
          have HSC := Lib.hid hsc
          have hml' : met'.length ≤ 60 := Nat.le_trans ar'.fro.bfs.small hl
          have hwl' := ar'.fro.bfs.len
          have hmw := (List.getElem?_eq_some_iff.1 hw').1
          obtain ⟨vg, vo, vc, rfl, hv1, hv2, _, _⟩ := ar'.td.form
          rw [todoL_len] at hv1 ⊢
          obtain ⟨nv, hnv⟩ : ∃ nv, ways'.length - (m + 1) = nv := ⟨_, rfl⟩
          rw [hnv] at hv1 ⊢
          have HNV := Lib.hid hnv
          have AX' : Hid (ArSt g all n fb w wx (.slice (some ⟨vg, vo, none⟩) nv vc) (m + 1) fr' met' ways') := Lib.hid (by have := ar'; rw [todoL_len, hnv] at this; exact this)
          clear ar' hw' hmm hsc hnv HRELJ AX
          by_cases hjn : j < n1
          · obtain ⟨y, hy⟩ : ∃ y, ls[j]? = some y := ⟨_, List.getElem?_eq_getElem (by rw [HN1.out]; exact hjn)⟩
            have HY : Hid ((succL g all x)[j]? = some y) := Lib.hid (by rw [HLS.out]; exact hy)
            have ow : wx.ownsRow B 3 1 (.slice A1' n1 c1) n1 (ls.map (.int .i64)) := own_upd0 OW0.out AX'.out.up
            obtain ⟨lb, lc, lcur, e, _, _, _, _, _, _⟩ := own_form ow (by omega)
            injection e with e1 e2 e3
            subst e1 e3
            clear e2
            have f0 : wx.cell? ⟨lb, j, none⟩ = some (.int .i64 y) := own_cell ow j _ (by rw [List.getElem?_map, hy]; rfl)
            have q3 : (0 : Int) ≤ (j : Int) := by omega
            have q4 : (j : Int) < (n1 : Int) := by omega
            have HSD : Hid (scanR g n x wv (ls.drop j) met' ways' = if y = n then none else if y ∈ met' then scanR g n x wv (ls.drop (j + 1)) met' ways' else scanR g n x wv (ls.drop (j + 1)) (met' ++ [y]) (ways' ++ [wv ++ [y]])) := Lib.hid (by rw [← HLS.out]; exact scan_drop HY.out)
            clear ow hy
            by_cases hyn : y = n
            · have HAR : Hid (aroundR g all n = wv) := Lib.hid (by
                rw [HV.out, show all.length + 1 - m = (all.length - m) + 1 by have := AX'.out.fro.bfs.small; have := HMM.out; have := AR.out.fro.bfs.small; omega]
                refine bfs_hit HWV.out ?_
                rw [HX.out, HLS.out, HSC.out, HSD.out, if_pos hyn])
              have hway := t_way g all n fr' met' ways' m wv fb met'.length wx AX'.out.fro HW'.out (by omega) AX'.out.im
              rw [HX.out] at hway
              have HWAY := Lib.hid hway
              have hd : (y == n) = true := by simp [hyn]
              have hwne := (AX'.out.fro.len m wv HW'.out).1
              have HNE : Hid (wv ≠ []) := Lib.hid (fun e => by rw [e] at hwne; simp at hwne)
              clear hway hwne
              subst hyn
              go_wp2_with fail
              refine HWAY.out.mono ?_; rintro e w9 ⟨v9, rfl, o9, u9⟩
              have O9 := Lib.hid o9
              have U9 := Lib.hid (AX'.out.up.trans u9)
              clear o9 u9
              go_wp2_with fail
              go_ret
              unfold ArPost
              refine ⟨_, rfl, U9.out, fun h => absurd (HAR.out.symm.trans h) HNE.out, fun _ => ?_⟩
              rw [HAR.out]
              exact own_base O9.out AX'.out.up.size
            · have hd : (y == n) = false := by simpa using hyn
              by_cases hym : y ∈ met'
              · obtain ⟨p, hp⟩ : ∃ p, fr' y = some p := Option.isSome_iff_exists.1 ((AX'.out.fro.dom y).2 hym)
                have lk : (Instr.lookup 59 (.map (some fb)) (.int .i64 y) true).run Tryz.prog wx = .ok (.tuple #[.int .i64 p, .bool true]) wx := by
                  rw [run_lookup_int Tryz.underlying59 Tryz.underlying3 (Tryz.zeroValue3 wx) AX'.out.im y, hp]
                  rfl
                have HS2 : Hid (scanR g n x wv ls met ways = scanR g n x wv (ls.drop (j + 1)) met' ways') := Lib.hid (by rw [HSC.out, HSD.out, if_neg hyn, if_pos hym])
                clear hp hym hyn
                go_wp2_with fail
                go_roundw
                case rel => exact ⟨j + 1, by go_num, by omega, Lib.hid ⟨fr', met', ways', AX'.out, HW'.out, HMM.out, HS2.out⟩⟩
                case measure => simp [intOf]; omega
              · have hp : fr' y = none := by
                  cases e : fr' y with
                  | none => rfl
                  | some p => exact absurd ((AX'.out.fro.dom y).1 (by rw [e]; rfl)) hym
                have lk : (Instr.lookup 59 (.map (some fb)) (.int .i64 y) true).run Tryz.prog wx = .ok (.tuple #[.int .i64 0, .bool false]) wx := by
                  rw [run_lookup_int Tryz.underlying59 Tryz.underlying3 (Tryz.zeroValue3 wx) AX'.out.im y, hp]
                  rfl
                have HS2 : Hid (scanR g n x wv ls met ways = scanR g n x wv (ls.drop (j + 1)) (met' ++ [y]) (ways' ++ [wv ++ [y]])) := Lib.hid (by rw [HSC.out, HSD.out, if_neg hyn, if_neg hym])
                have hya : y ∈ all := (mem_succL.1 (List.mem_of_getElem? HY.out)).1
                have hyl : leadsB g x y = true := (mem_succL.1 (List.mem_of_getElem? HY.out)).2
                have FP : Hid (From g all n (fun z => if z = y then some x else fr' z) (met' ++ [y]) (ways' ++ [wv ++ [y]])) := Lib.hid (by
                  have h1 := AX'.out.fro.push HW'.out (k := y) (by rw [HX.out]; exact hyl) hyn hym hya
                  rw [HX.out] at h1
                  exact h1)
                obtain ⟨w8, f3, im, hu8⟩ := run_mapUpdate_int (P := Tryz.prog) Tryz.underlying59 Tryz.underlying3 AX'.out.im y (.int .i64 x)
                have im2 : Hid (IMap w8 .i64 fb (fun k => ((fun z => if z = y then some x else fr' z) k).map (.int .i64)) (met' ++ [y]).length) := Lib.hid (by
                  rw [hp] at im
                  rw [List.length_append]
                  exact im.congr (fun k => by
                    unfold putI
                    by_cases e : k = y
                    · simp [e]
                    · simp [e]))
                have hfbv : fb ≠ vg := fun e => by
                  obtain ⟨g', o', c', cur', e1, _, _, _, hb, _⟩ := AX'.out.td
                  injection e1 with e1 _ _
                  injection e1 with e1
                  injection e1 with e1 _ _
                  subst e1
                  exact blk_map hb AX'.out.im e.symm
                have U8 : Hid (Upd [] w w8) := Lib.hid (AX'.out.up.trans' hu8 (by intro q hq; simp at hq; subst hq; exact .inr (by have := HFB.out; omega)))
                have T8 : Hid (SlAt 3 w.heap.size (w8.alloc (.cells #[.int .i64 y] 3)) (.slice (some ⟨vg, vo, none⟩) nv vc) (todoL ways' (m + 1))) := Lib.hid ((AX'.out.td.upd hu8 (by intro q hq; simp [Value.ownBlock] at hq; subst hq; simp; exact fun e => hfbv e.symm)).upd0 ((Upd.refl [] w8).alloc _))
                obtain ⟨v9, w9, hr9, t9, u9, b9⟩ := T8.out.app (P := Tryz.prog) int_elem (by rw [todoL_len]; omega) (Nat.le_trans U8.out.size (by simp)) (Blk.new w8 3 #[.int .i64 y]) 26
                have A9 : Hid (ArSt g all n fb w w9 v9 (m + 1) (fun z => if z = y then some x else fr' z) (met' ++ [y]) (ways' ++ [wv ++ [y]])) := Lib.hid {
                  fro := FP.out
                  im := (im2.out.upd ((Upd.refl [] w8).alloc _) (by simp)).upd u9 (by simp [Value.ownBlock]; exact hfbv)
                  td := by rw [todoL_push (by omega)]; exact t9
                  up := (U8.out.trans ((Upd.refl [] w8).alloc _)).trans' u9 (by intro q hq; simp [Value.ownBlock] at hq; subst hq; obtain ⟨_, _, _, e1, _, _, h5, _⟩ := AX'.out.td.form; injection e1 with e1 _ _; injection e1 with e1; injection e1 with e1 _ _; subst e1; exact .inr h5) }
                have HW9 : Hid ((ways' ++ [wv ++ [y]])[m]? = some wv) := Lib.hid (by rw [List.getElem?_append_left hmw]; exact HW'.out)
                clear hp hym hyn hya hyl im hu8 hfbv t9 u9 b9
                obtain ⟨_, _, _, hv9, _⟩ := A9.out.td.form
                go_wp2_with (at_builtin; refine stoppedR ?_)
                refine Lib.hid ?_
                refine wpList_appr (w8.alloc (.cells #[.int .i64 y] 3)) (by rfl) (.tmp 52) (.tmp 54) _ _ (by rfl) _ _ (by rfl) (by rfl) hr9 ?_
                subst hv9
                clear hr9 lk f3 f0
                go_wp2_with fail
                go_roundw
                case rel => exact ⟨j + 1, by go_num, by omega, Lib.hid ⟨_, _, _, A9.out, HW9.out, by rw [List.length_append]; have := HMM.out; omega, HS2.out⟩⟩
                case measure => simp [intOf]; omega
          · have : j = n1 := by omega
            subst this
            have HAR : Hid (aroundR g all n = bfsR g all n (all.length + 1 - (m + 1)) (m + 1) met' ways') := Lib.hid (by
              rw [HV.out, show all.length + 1 - m = (all.length + 1 - (m + 1)) + 1 by have := AX'.out.fro.bfs.small; have := AR.out.fro.bfs.small; omega]
              refine bfs_on HWV.out ?_
              rw [HX.out, HLS.out, HSC.out, List.drop_eq_nil_of_le (by rw [HN1.out]; exact Nat.le_refl _)]
              rfl)
            have HREL : Hid (∃ m fr met ways, ArSt g all n fb w wx (.slice (some ⟨vg, vo, none⟩) nv vc) m fr met ways ∧ m ≤ ways.length ∧ aroundR g all n = bfsR g all n (all.length + 1 - m) m met ways) := Lib.hid ⟨m + 1, fr', met', ways', AX'.out, hmw, HAR.out⟩
            have HMS : Hid (2 * (100 - mapLen fb wx) + nv < 2 * (100 - mapLen fb wq) + nt) := Lib.hid (by
              rw [HMAP.out, AX'.out.im.mapLen]
              have h1 := HNT.out
              have h2 := HNV.out
              have h3 := HMM.out
              omega)
            go_wp2_with fail
            go_roundw
            case rel => exact HREL
            case measure => exact HMS.out
end Go.Proofs.YteddiknlcdbhjaaGreat

namespace Go.Proofs.YteddiknlcdbhjaaGreat
open Go Go.RowKit TrP Assoc
open Vk (cntOf cntQ)
attribute [local go_sem] litStep_value

def RingT (l : List Ev) (w : World) (e : Ending) (w' : World) : Prop := ∃ s v, e = .returned (.tuple #[s, v]) ∧ Upd [] w w' ∧
  ((wrongE l).1 ≠ 0 → s = .slice none 0 0 ∧ ErrV w' v (wrongE l).1 (wrongE l).2) ∧
  ((wrongE l).1 = 0 → v = .nilIface ∧ (ringL (graphR l) (txnsR l) = [] → s = .slice none 0 0) ∧ (ringL (graphR l) (txnsR l) ≠ [] → Ow encK 3 w' w.heap.size s (ringL (graphR l) (txnsR l))))
theorem keys_all {w : World} {b cn : Nat} {g : List Ed} {all out : List Int} (hr : RiseI all) (h : IMap w .i64 b (fun k => (cntR g all out k).map (.int .i64)) cn) : ∃ al : AL, Srt al ∧ al.length = cn ∧ al.map (·.1) = all ∧ IMap w .i64 b (mapI al) al.length := by
  obtain ⟨al, h1, h2, h3, h4⟩ := al_of h
  refine ⟨al, h1, h2, ?_, by rw [h2]; exact h.congr (fun k => (h3 k).symm)⟩
  refine riseI_uniq (List.pairwise_map.2 h1) hr (fun k => ?_)
  rw [get_keys h1, h4]
  unfold cntR
  by_cases e : k ∈ all <;> simp [e]
theorem ring_drop {g : List Ed} {all : List Int} {j : Nat} {x : Int} (h : all[j]? = some x) : ringGo g all (all.drop j) = if aroundR g all x = [] then ringGo g all (all.drop (j + 1)) else aroundR g all x := by
  obtain ⟨hj, rfl⟩ := List.getElem?_eq_some_iff.1 h
  rw [List.drop_eq_getElem_cons hj]
  rfl
set_option maxRecDepth 100000 in
set_option maxHeartbeats 8000000 in
theorem t_ring (A : Option Addr) (n k : Nat) (l : List Ev) (w : World) (h : Rd encEv w (.slice A n k) l) (hn : l.length = n) (hl : n ≤ 60) (hev : ∀ x ∈ l, EvIn x) :
    Calls Tryz.prog 10 #[.slice A n k] w fun e w' => RingT l w e w' := by
  have HT := Lib.hid (t_trace A n k l w h hn hl hev)
  have hl60 : l.length ≤ 60 := by omega
  have HEV := Lib.hid hev
  clear h hn hev
  go_enter Tryz.func10, Tryz.ntmps10
  go_wp2_with fail
  refine HT.out.mono ?_; rintro e w1 ⟨t, v, rfl, he, u1, hbad, hok⟩
  have HE := Lib.hid he
  have U1 := Lib.hid u1
  have HOK := Lib.hid hok
  have HBAD := Lib.hid hbad
  clear u1 hok hbad
  rcases he with ⟨rfl, h0, _⟩ | ⟨rfl, ⟨h1, h2⟩, _⟩ | ⟨g, rfl, hb, h1, h2⟩
  · obtain ⟨_, ρ0, tb, b0, S0, cn0, ht, hcn0, hst0, hS0⟩ := HOK.out h0
    subst ht
    have H0 := Lib.hid h0
    have HPA := Lib.hid (t_paired hst0 hS0 h0 hl60 hcn0)
    have HB1 : Hid (w.heap.size ≤ w1.heap.size) := Lib.hid U1.out.size
    clear h0 hst0 hS0 hcn0
    go_wp2_with fail
    refine HPA.out.mono ?_; rintro e w2 ⟨rfl, ⟨ρ1, b, cn, S, hst, hcn⟩, hup⟩
    have U2 := Lib.hid (hup HB1.out w rfl U1.out)
    have HTX : Hid (∀ x ∈ txnsR l, (Lit.int .i64 x).wf = true) := Lib.hid (fun x hx => by
      obtain ⟨y, hy, e⟩ := (txnsR_rise l).2 x |>.1 hx
      rw [← e]; exact (HEV.out y hy).txn)
    obtain ⟨g, hg⟩ : ∃ g, graphR l = g := ⟨_, rfl⟩
    obtain ⟨all, hall⟩ : ∃ all, txnsR l = all := ⟨_, rfl⟩
    have hgk := gok (wrongE_iff.1.1 H0.out)
    rw [hg, hall] at hst hgk
    rw [hall] at HTX
    have HG := Lib.hid hgk
    have HGG := Lib.hid hg
    have HALL := Lib.hid hall
    have hcl := imap_len hgk.rise hst.tx.2
    subst hcl
    have ST := Lib.hid hst
    obtain ⟨al, a1, a2, a3, a4⟩ := keys_all hgk.rise hst.tx.2
    have HA1 := Lib.hid a1
    have HA3 := Lib.hid a3
    have HA4 := Lib.hid a4
    have hal : al.length ≤ 100 := by
      have a2' : al.length = all.length := a2
      omega
    have hkw : Hid (kwf al) := Lib.hid (fun p hp => HTX.out p.1 (by rw [← a3]; exact List.mem_map.2 ⟨p, hp, rfl⟩))
    have k1 : w2.cell? ⟨tb, 0, none⟩ = some (.map (some b.bt)) := hst.tr.cell 0
    clear hup hst HPA HOK HBAD HE HT hg hall hgk a1 a2 a3 a4
    go_wp2_with fail
    refine (keysM (some b.bt) w2).mono ?_; rintro e w3 ⟨rfl, hw3⟩
    have Y3 : Hid (Blk w3 w2.heap.size 59 #[.map (some b.bt)]) := Lib.hid (by rw [← hw3]; exact Blk.new w2 _ _)
    have U3 : Hid (Upd [] w2 w3) := Lib.hid (by rw [← hw3]; exact (Upd.refl [] w2).alloc _)
    clear hw3 k1
    go_wp2_with fail
    refine (sortedKeys w2.heap.size b.bt al w3 Y3.out (HA4.out.upd U3.out (by simp)) HA1.out hkw.out hal).mono ?_; rintro e w4 ⟨vv, rfl, ov, u4⟩
    rw [HA3.out] at ov
    have U4 := Lib.hid (U3.out.trans u4)
    obtain ⟨A1, cv, rfl, hnc, hcm⟩ := own_slice ov
    obtain ⟨nv, hnv⟩ : ∃ nv, all.length = nv := ⟨_, rfl⟩
    have OV : Hid (w4.ownsRow w3.heap.size 3 1 (.slice A1 nv cv) nv (all.map (.int .i64))) := Lib.hid (by have := ov; unfold Ow at this; rw [hnv, Vk.flat_intK] at this; exact this)
    have HNV := Lib.hid hnv
    have hnv60 : nv ≤ 60 := by omega
    rw [hnv] at ⊢
    have ST4 := Lib.hid (ST.out.upd0 U4.out)
    clear ov u4 hnc hcm hnv
    go_wp2_with fail
    go_loopw [26] (fun u wq => ∃ j : Nat, u = .int .i64 j ∧ j ≤ nv ∧ Hid (Upd [] w4 wq ∧ ringL g all = ringGo g all (all.drop j))) (fun u _ => nv - (intOf u).toNat)
    case atStart => exact ⟨0, rfl, by omega, Lib.hid ⟨.refl _ _, rfl⟩⟩
    case round =>
      obtain ⟨j, rfl, hj, HREL⟩ := hrel
      rename World => wq
      obtain ⟨uq, hrg⟩ := HREL.out
      have UQ := Lib.hid uq
      have HRG := Lib.hid hrg
      clear uq hrg HREL
      by_cases hjn : j < nv
      · obtain ⟨x, hx⟩ : ∃ x, all[j]? = some x := ⟨_, List.getElem?_eq_getElem (by rw [HNV.out]; exact hjn)⟩
        have HX := Lib.hid hx
        have ow := own_upd0 OV.out UQ.out
        obtain ⟨lb, lc, lcur, e, _, _, _, _, _, _⟩ := own_form ow (by omega)
        injection e with e1 e2 e3
        subst e1 e3
        clear e2
        have f0 : wq.cell? ⟨lb, j, none⟩ = some (.int .i64 x) := own_cell ow j _ (by rw [List.getElem?_map, hx]; rfl)
        have q3 : (0 : Int) ≤ (j : Int) := by omega
        have q4 : (j : Int) < (nv : Int) := by omega
        clear ow hx
        go_wp2_with fail
        clear f0 q3 q4
        refine (t_around ρ1 w.heap.size tb b _ _ (tcOf (cntR g all []) all.length l S (succL g all)) g all x wq (ST4.out.upd0 UQ.out) HG.out (by rw [HNV.out]; exact hnv60)).mono ?_; rintro e w5 ⟨v5, rfl, u5, hz, hnz⟩
        have U5 := Lib.hid (UQ.out.trans u5)
        have HUW : Hid (Upd [] w wq) := Lib.hid ((U2.out.trans U4.out).trans UQ.out)
        have HU5 := Lib.hid u5
        by_cases har : aroundR g all x = []
        · have hv5 := hz har
          subst hv5
          have HR2 : Hid (ringL g all = ringGo g all (all.drop (j + 1))) := Lib.hid (by rw [HRG.out, ring_drop HX.out, if_pos har])
          clear hz hnz har u5
          go_wp2_with fail
          go_roundw
          case rel => exact ⟨j + 1, by go_num, by omega, Lib.hid ⟨U5.out, HR2.out⟩⟩
          case measure => simp [intOf]; omega
        · have ho := hnz har
          have HR2 : Hid (ringL g all = aroundR g all x) := Lib.hid (by rw [HRG.out, ring_drop HX.out, if_neg har])
          have HAR := Lib.hid har
          have HO := Lib.hid ho
          have hpos : 0 < (aroundR g all x).length := List.length_pos_iff.2 har
          obtain ⟨rg, rc, rcur, e5, _, _, _, _, _, _⟩ := own_form ho hpos
          obtain ⟨rn, hrn⟩ : ∃ rn, (aroundR g all x).length = rn := ⟨_, rfl⟩
          rw [hrn] at e5
          subst e5
          clear hz hnz har ho hpos hrn u5
          go_wp2_with fail
          go_ret2
          unfold RingT
          rw [HGG.out, HALL.out, HR2.out]
          exact ⟨_, _, rfl, HUW.out.trans HU5.out, fun h => absurd H0.out h, fun _ => ⟨rfl, fun h => absurd h HAR.out, fun _ => own_base HO.out HUW.out.size⟩⟩
      · have : j = nv := by omega
        subst this
        have HZ : Hid (ringL g all = []) := Lib.hid (by rw [HRG.out, List.drop_eq_nil_of_le (by rw [HNV.out]; exact Nat.le_refl _)]; rfl)
        have HUW : Hid (Upd [] w wq) := Lib.hid ((U2.out.trans U4.out).trans UQ.out)
        go_wp2_with fail
        go_ret2
        unfold RingT
        rw [HGG.out, HALL.out, HZ.out]
        exact ⟨_, _, rfl, HUW.out, fun h => absurd H0.out h, fun _ => ⟨rfl, fun _ => rfl, fun h => absurd rfl h⟩⟩
  · have H1 : Hid ((wrongE l).1 ≠ 0) := Lib.hid (by omega)
    have ht := HBAD.out H1.out
    subst ht
    clear h1 h2
    go_wp2_with fail
    go_ret2
    unfold RingT
    exact ⟨_, _, rfl, U1.out, fun _ => ⟨rfl, HE.out⟩, fun h => absurd h H1.out⟩
  · have H1 : Hid ((wrongE l).1 ≠ 0) := Lib.hid (by omega)
    have ht := HBAD.out H1.out
    subst ht
    clear h1 h2 hb
    go_wp2_with fail
    go_ret2
    unfold RingT
    exact ⟨_, _, rfl, U1.out, fun _ => ⟨rfl, HE.out⟩, fun h => absurd h H1.out⟩
end Go.Proofs.YteddiknlcdbhjaaGreat

namespace Go.Proofs.YteddiknlcdbhjaaGreat
open Go Go.RowKit TrP
attribute [local go_sem] litStep_value

set_option maxRecDepth 100000 in
set_option maxHeartbeats 1000000 in
theorem same_edges (B B' : Nat) (L : List Ed) (v u : Value) (w : World) (hv : Ow encE 49 w B v L) (hu : Ow encE 49 w B' u L) (hL : L.length ≤ 1000) :
    Calls Tryz.prog 18 #[v, u] w fun e w' => e = .returned (.bool true) ∧ Upd [] w w' := by
  obtain ⟨A, c, rfl, hnc, hcm⟩ := own_slice hv
  obtain ⟨A', c', rfl, hnc', hcm'⟩ := own_slice hu
  obtain ⟨n, hn⟩ : ∃ n, L.length = n := ⟨_, rfl⟩
  have HV := Lib.hid hv
  have HU := Lib.hid hu
  have HN := Lib.hid hn
  rw [hn] at hL hnc hnc' ⊢
  clear hv hu hn
  go_enter Tryz.func18, Tryz.ntmps18
  go_wp2_with fail
  go_loopw [5] (fun v wr => ∃ k : Nat, v = .int .i64 k ∧ k ≤ n ∧ Hid (Upd [] w wr)) (fun v _ => n - (intOf v).toNat)
  case atStart => exact ⟨0, rfl, by omega, Lib.hid (.refl _ _)⟩
  case round =>
    obtain ⟨k, rfl, hk, U1⟩ := hrel
    by_cases hkn : k < n
    · obtain ⟨⟨xa, xb, xc⟩, hx⟩ : ∃ x, L[k]? = some x := ⟨_, List.getElem?_eq_getElem (by rw [HN.out]; omega)⟩
      have HX := Lib.hid hx
      obtain ⟨g, cg, cur, e1, _⟩ := own_form HV.out (by rw [HN.out]; omega)
      obtain ⟨g', cg', cur', e2, _⟩ := own_form HU.out (by rw [HN.out]; omega)
      injection e1 with e1 _ e1'
      injection e2 with e2 _ e2'
      subst e1 e2 e1' e2'
      have CS : Hid (∀ W, Upd [] wr.drew W → W.cell? ⟨g, k * 3, none⟩ = some (.int .i64 xa) ∧ W.cell? ⟨g, k * 3 + 1, none⟩ = some (.int .i64 xb) ∧ W.cell? ⟨g, k * 3 + 2, none⟩ = some (.int .i64 xc) ∧ W.cell? ⟨g', k * 3, none⟩ = some (.int .i64 xa) ∧ W.cell? ⟨g', k * 3 + 1, none⟩ = some (.int .i64 xb) ∧ W.cell? ⟨g', k * 3 + 2, none⟩ = some (.int .i64 xc)) := Lib.hid (fun W hW => by
        have hu : Upd [] w W := U1.out.drew.trans hW
        have ho := own_upd0 HV.out hu
        have ho' := own_upd0 HU.out hu
        exact ⟨own_cell ho _ _ ((flat_get (E := encE) HX.out (j := 0) (by decide)).trans rfl), own_cell ho _ _ ((flat_get (E := encE) HX.out (j := 1) (by decide)).trans rfl), own_cell ho _ _ ((flat_get (E := encE) HX.out (j := 2) (by decide)).trans rfl), own_cell ho' _ _ ((flat_get (E := encE) HX.out (j := 0) (by decide)).trans rfl), own_cell ho' _ _ ((flat_get (E := encE) HX.out (j := 1) (by decide)).trans rfl), own_cell ho' _ _ ((flat_get (E := encE) HX.out (j := 2) (by decide)).trans rfl)⟩)
      have q1 : (0 : Int) ≤ (k : Int) := by omega
      have q2 : (k : Int) < (n : Int) := by omega
      clear hx
      go_wp2_with fail
      refine wp_invN [] [] (by kernel_rfl) (by kernel_rfl) (by kernel_rfl) trivial ?_
      with_reducible apply wpV_light
      · simp only [lightOp]
      · intro W hU hF
        have f0 := CS.out W hU
        clear hU hF
        go_simp
        exact rfl
      simp only [Act.put, List.setIfInBounds_toArray, List.set_cons_zero, List.set_cons_succ]
      with_reducible apply wpV_light
      · simp only [lightOp]
      · intro W hU hF
        have f0 := CS.out W hU
        clear hU hF
        go_simp
        exact rfl
      simp only [Act.put, List.setIfInBounds_toArray, List.set_cons_zero, List.set_cons_succ]
      with_reducible apply wpV_light
      · simp only [lightOp]
      · intro W hU hF
        have f0 := CS.out W hU
        clear hU hF
        go_simp
        exact rfl
      simp only [Act.put, List.setIfInBounds_toArray, List.set_cons_zero, List.set_cons_succ]
      with_reducible apply wpV_light
      · simp only [lightOp]
      · intro W hU hF
        have f0 := CS.out W hU
        clear hU hF
        go_simp
        exact rfl
      simp only [Act.put, List.setIfInBounds_toArray, List.set_cons_zero, List.set_cons_succ]
      with_reducible apply wpV_light
      · simp only [lightOp]
      · intro W hU hF
        have f0 := CS.out W hU
        clear hU hF
        go_simp
        exact rfl
      simp only [Act.put, List.setIfInBounds_toArray, List.set_cons_zero, List.set_cons_succ]
      with_reducible apply wpV_light
      · simp only [lightOp]
      · intro W hU hF
        have f0 := CS.out W hU
        clear hU hF
        go_simp
        exact rfl
      simp only [Act.put, List.setIfInBounds_toArray, List.set_cons_zero, List.set_cons_succ]
      with_reducible apply wpV_light
      · simp only [lightOp]
      · intro W hU hF
        have f0 := CS.out W hU
        clear hU hF
        go_simp
        exact rfl
      simp only [Act.put, List.setIfInBounds_toArray, List.set_cons_zero, List.set_cons_succ]
      with_reducible apply wpV_light
      · simp only [lightOp]
      · intro W hU hF
        have f0 := CS.out W hU
        clear hU hF
        go_simp
        exact rfl
      simp only [Act.put, List.setIfInBounds_toArray, List.set_cons_zero, List.set_cons_succ]
      with_reducible apply wpV_light
      · simp only [lightOp]
      · intro W hU hF
        have f0 := CS.out W hU
        clear hU hF
        go_simp
        exact rfl
      simp only [Act.put, List.setIfInBounds_toArray, List.set_cons_zero, List.set_cons_succ]
      refine wpV_end (fun W hU _ _ => ?_)
      have U2 : Hid (Upd [] w W) := Lib.hid (U1.out.drew.trans hU)
      clear hU
      refine wpT_end ?_
      go_wp2_with fail
      go_roundw
      case rel => exact ⟨k + 1, rfl, by omega, U2⟩
      case measure => simp [intOf]; omega
    · go_wp2_with fail
      go_ret
      exact ⟨rfl, U1.out⟩
end Go.Proofs.YteddiknlcdbhjaaGreat

namespace Go.Proofs.YteddiknlcdbhjaaGreat
open Go.RowKit
attribute [local go_sem] litStep_value

def sameToK (L M : List Int) (k : Nat) : Prop := ∀ j, j < k → L.getD j 0 = M.getD j 0
theorem sameK_all {L M : List Int} {n : Nat} (hl : L.length = n) (hm : M.length = n) (h : sameToK L M n) : L = M := by
  apply List.ext_getElem (by rw [hl, hm])
  intro i h1 h2
  have := h i (by omega)
  rwa [List.getD_eq_getElem?_getD, List.getD_eq_getElem?_getD, List.getElem?_eq_getElem h1, List.getElem?_eq_getElem h2] at this
set_option maxRecDepth 100000 in
set_option maxHeartbeats 2000000 in
theorem ints_ok (B B' : Nat) (L M : List Int) (v u : Value) (w : World) (hv : Ow encK 3 w B v L) (hu : Ow encK 3 w B' u M) (hL : L.length ≤ 1000000) (hM : M.length ≤ 1000000) :
    Calls Tryz.prog 13 #[v, u] w fun e w' => e = .returned (.bool (decide (L = M))) ∧ Upd [] w w' := by
  obtain ⟨A, c, rfl, hnc, hcm⟩ := own_slice hv
  obtain ⟨A', c', rfl, hnc', hcm'⟩ := own_slice hu
  obtain ⟨n, hn⟩ : ∃ n, L.length = n := ⟨_, rfl⟩
  obtain ⟨m, hm⟩ : ∃ m, M.length = m := ⟨_, rfl⟩
  have HV : Hid (w.ownsRow B 3 1 (.slice A n c) n (flat encK L)) := Lib.hid (by have := hv; unfold Ow at this; rw [hn] at this; exact this)
  have HU : Hid (w.ownsRow B' 3 1 (.slice A' m c') m (flat encK M)) := Lib.hid (by have := hu; unfold Ow at this; rw [hm] at this; exact this)
  have HN := Lib.hid hn
  have HM := Lib.hid hm
  rw [hn] at hL hnc ⊢
  rw [hm] at hM hnc' ⊢
  clear hv hu hn hm
  obtain ⟨r, hr⟩ : ∃ r, decide (L = M) = r := ⟨_, rfl⟩
  have HR := Lib.hid hr
  rw [hr]
  clear hr
  go_enter Tryz.func13, Tryz.ntmps13
  by_cases hnm : n = m
  · subst hnm
    have d : ((n : Int) != (n : Int)) = false := by simp
    go_wp2_with fail
    go_loopw [5] (fun v wr => ∃ k : Nat, v = .int .i64 k ∧ k ≤ n ∧ Hid (sameToK L M k) ∧ Hid (Upd [] w wr)) (fun v _ => n - (intOf v).toNat)
    case atStart => exact ⟨0, rfl, by omega, Lib.hid (fun j hj => by omega), Lib.hid (.refl _ _)⟩
    case round =>
      obtain ⟨k, rfl, hk, HS, U1⟩ := hrel
      by_cases hkn : k < n
      · obtain ⟨x, hx⟩ : ∃ x, L[k]? = some x := ⟨_, List.getElem?_eq_getElem (by rw [HN.out]; omega)⟩
        obtain ⟨y, hy⟩ : ∃ y, M[k]? = some y := ⟨_, List.getElem?_eq_getElem (by rw [HM.out]; omega)⟩
        have HX := Lib.hid hx
        have HY := Lib.hid hy
        obtain ⟨g, cg, cur, e1, _⟩ := own_form HV.out (by omega)
        obtain ⟨g', cg', cur', e2, _⟩ := own_form HU.out (by omega)
        injection e1 with e1 _ e1'
        injection e2 with e2 _ e2'
        subst e1 e2 e1' e2'
        have CS : Hid (∀ W, Upd [] wr.drew W → W.cell? ⟨g, k, none⟩ = some (.int .i64 x) ∧ W.cell? ⟨g', k, none⟩ = some (.int .i64 y)) := Lib.hid (fun W hW => by
          have hu : Upd [] w W := U1.out.drew.trans hW
          have h1 := own_cell (own_upd0 HV.out hu) _ _ ((flat_get (E := encK) hx (j := 0) (by decide)).trans rfl)
          have h2 := own_cell (own_upd0 HU.out hu) _ _ ((flat_get (E := encK) hy (j := 0) (by decide)).trans rfl)
          rw [show k * encK.s + 0 = k by simp [encI]] at h1 h2
          exact ⟨h1, h2⟩)
        have q1 : (0 : Int) ≤ (k : Int) := by omega
        have q2 : (k : Int) < (n : Int) := by omega
        clear hx hy
        go_wp2_with fail
        refine wp_invN [] [] (by kernel_rfl) (by kernel_rfl) (by kernel_rfl) trivial ?_
        with_reducible apply wpV_light
        · simp only [lightOp]
        · intro W hU hF
          have f0 := CS.out W hU
          clear hU hF
          go_simp
          exact rfl
        simp only [Act.put, List.setIfInBounds_toArray, List.set_cons_zero, List.set_cons_succ]
        with_reducible apply wpV_light
        · simp only [lightOp]
        · intro W hU hF
          have f0 := CS.out W hU
          clear hU hF
          go_simp
          exact rfl
        simp only [Act.put, List.setIfInBounds_toArray, List.set_cons_zero, List.set_cons_succ]
        with_reducible apply wpV_light
        · simp only [lightOp]
        · intro W hU hF
          have f0 := CS.out W hU
          clear hU hF
          go_simp
          exact rfl
        simp only [Act.put, List.setIfInBounds_toArray, List.set_cons_zero, List.set_cons_succ]
        with_reducible apply wpV_light
        · simp only [lightOp]
        · intro W hU hF
          have f0 := CS.out W hU
          clear hU hF
          go_simp
          exact rfl
        simp only [Act.put, List.setIfInBounds_toArray, List.set_cons_zero, List.set_cons_succ]
        with_reducible apply wpV_light
        · simp only [lightOp]
        · intro W hU hF
          have f0 := CS.out W hU
          clear hU hF
          go_simp
          exact rfl
        simp only [Act.put, List.setIfInBounds_toArray, List.set_cons_zero, List.set_cons_succ]
        with_reducible apply wpV_light
        · simp only [lightOp]
        · intro W hU hF
          have f0 := CS.out W hU
          clear hU hF
          go_simp
          exact rfl
        simp only [Act.put, List.setIfInBounds_toArray, List.set_cons_zero, List.set_cons_succ]
        with_reducible apply wpV_light
        · simp only [lightOp]
        · intro W hU hF
          have f0 := CS.out W hU
          clear hU hF
          go_simp
          exact rfl
        simp only [Act.put, List.setIfInBounds_toArray, List.set_cons_zero, List.set_cons_succ]
        with_reducible apply wpV_light
        · simp only [lightOp]
        · intro W hU hF
          have f0 := CS.out W hU
          clear hU hF
          go_simp
          exact rfl
        simp only [Act.put, List.setIfInBounds_toArray, List.set_cons_zero, List.set_cons_succ]
        with_reducible apply wpV_light
        · simp only [lightOp]
        · intro W hU hF
          have f0 := CS.out W hU
          clear hU hF
          go_simp
          exact rfl
        simp only [Act.put, List.setIfInBounds_toArray, List.set_cons_zero, List.set_cons_succ]
        refine wpV_end (fun W hU _ _ => ?_)
        have U2 : Hid (Upd [] w W) := Lib.hid (U1.out.drew.trans hU)
        clear hU
        refine wpT_end ?_
        by_cases hxy : x = y
        · have dd : (x != y) = false := by simpa using hxy
          have HS2 : Hid (sameToK L M (k + 1)) := Lib.hid (fun j hj => by
            rcases Nat.lt_or_ge j k with h1 | h1
            · exact HS.out j h1
            · obtain rfl : j = k := by omega
              rw [List.getD_eq_getElem?_getD, List.getD_eq_getElem?_getD, HX.out, HY.out, hxy])
          clear hxy
          go_wp2_with fail
          go_roundw
          case rel => exact ⟨k + 1, by go_num, by omega, HS2, U2⟩
          case measure => simp [intOf]; omega
        · have dd : (x != y) = true := by simpa using hxy
          have HZ : Hid (r = false) := Lib.hid (by
            rw [← HR.out, decide_eq_false_iff_not]
            intro e
            have h1 := HX.out
            rw [e, HY.out] at h1
            injection h1 with h1
            exact hxy h1.symm)
          clear hxy
          go_wp2_with fail
          go_ret
          exact ⟨by rw [HZ.out]; rfl, U2.out⟩
      · obtain rfl : k = n := by omega
        have HZ : Hid (r = true) := Lib.hid (by rw [← HR.out, decide_eq_true_iff]; exact sameK_all HN.out HM.out HS.out)
        go_wp2_with fail
        go_ret
        exact ⟨by rw [HZ.out]; rfl, U1.out⟩
  · have d : ((n : Int) != (m : Int)) = true := by simp; omega
    have HZ : Hid (r = false) := Lib.hid (by rw [← HR.out, decide_eq_false_iff_not]; intro e; exact hnm (by rw [← HN.out, ← HM.out, e]))
    go_wp2_with fail
    go_ret
    exact ⟨by rw [HZ.out]; rfl, .refl _ _⟩

end Go.Proofs.YteddiknlcdbhjaaGreat

namespace Go.Proofs.YteddiknlcdbhjaaGreat
open Go Go.RowKit TrP
attribute [local go_sem] litStep_value

def exL : List Ev := [⟨1, 1, 0, false⟩, ⟨2, 1, 1, true⟩, ⟨2, 2, 0, false⟩, ⟨1, 2, 1, true⟩]
def exC : Array Value := #[.int .i64 1, .int .u64 1, .int .i64 0, .bool false, .int .i64 2, .int .u64 1, .int .i64 1, .bool true, .int .i64 2, .int .u64 2, .int .i64 0, .bool false, .int .i64 1, .int .u64 2, .int .i64 1, .bool true]
theorem ex_ok (w : World) : Calls Tryz.prog 19 #[] w fun e w' => ∃ g, e = .returned (.slice (some ⟨g, 0, none⟩) 4 4) ∧ Blk w' g 47 exC ∧ Upd [] w w' := by
  go_enter Tryz.func19, Tryz.ntmps19
  go_wp2_with fail
  go_ret
  exact ⟨_, rfl, Blk.new w _ _, (Upd.refl [] w).alloc _⟩
theorem ErrV.nils {w : World} {v : Value} {a : Int} (h : ErrV w v 0 a) : v = .nilIface := by
  rcases h with h | h | ⟨g, _, _, h, _⟩
  · exact h.1
  · obtain ⟨_, ⟨h, _⟩, _⟩ := h; omega
  · omega
theorem own_lit {w : World} {g n s : Nat} {e : TypeId} {cs : Array Value} (h : Blk w g e cs) (hs : cs.size = n * s) (hn : n ≤ 1000) : w.ownsRow g e s (.slice (some ⟨g, 0, none⟩) n n) n cs.toList :=
  ⟨by rw [Array.length_toList, hs], .inr ⟨g, n, cs, rfl, Nat.le_refl _, h, Nat.le_refl _, by simp only [maxLen]; omega, hs, by rw [← hs, ← Array.length_toList, List.take_length]⟩⟩
theorem ex_wrong : wrongE exL = (0, 0) := by decide
theorem ex_wrong2 : wrongE (exL.take 2) = (0, 0) := by decide
theorem ex_graph : graphR exL = [(1, 2, 3), (2, 1, 3)] := by decide
theorem ex_txns : txnsR exL = [1, 2] := by decide
theorem ex_serial : serialL [(1, 2, 3), (2, 1, 3)] [1, 2] = none := by decide
theorem ex_ring : ringL [(1, 2, 3), (2, 1, 3)] [1, 2] = [1, 2] := by decide
theorem ex_serial2 : serialL (graphR (exL.take 2)) (txnsR (exL.take 2)) = some [1, 2] := by decide
theorem ex_evin : ∀ x ∈ exL, EvIn x := by
  intro x hx
  simp [exL] at hx
  rcases hx with rfl | rfl | rfl | rfl <;> exact ⟨by decide, by decide, by decide⟩
set_option maxRecDepth 100000 in
set_option maxHeartbeats 4000000 in
theorem t_alive (w : World) : Calls Tryz.prog 7 #[] w fun e w' => e = .returned (.bool true) ∧ Upd [] w w' := by
  go_enter Tryz.func7, Tryz.ntmps7
  go_wp2_with fail
  refine (ex_ok w).mono ?_; rintro e w1 ⟨g, rfl, hb, u1⟩
  have HB := Lib.hid hb
  have U1 := Lib.hid u1
  have R1 : Hid (∀ W, Upd [] w1 W → Rd encEv W (.slice (some ⟨g, 0, none⟩) 4 4) exL) := Lib.hid (fun W hW => (show Src w1 4 (.slice (some ⟨g, 0, none⟩) 4 4) 4 exC.toList from Src.of_blk hb 4 rfl).upd0 hW)
  clear hb u1
  go_wp2_with fail
  refine (t_graph _ 4 4 exL w1 (R1.out _ (.refl _ _)) rfl (by omega) ex_evin).mono ?_; rintro e w2 ⟨gv, v1, rfl, ev1, u2, _, hok⟩
  obtain ⟨rfl, og⟩ := hok (by rw [ex_wrong])
  rw [ex_graph] at og
  have OG := Lib.hid og
  have U2 := Lib.hid u2
  clear og u2 hok ev1
  go_wp2_with fail
  refine (t_serial _ 4 4 exL w2 (R1.out _ U2.out) rfl (by omega) ex_evin).mono ?_; rintro e w3 ⟨sv, v2, rfl, u3, _, hok⟩
  have hok := (hok (by rw [ex_wrong])).2
  rw [ex_graph, ex_txns] at hok
  obtain ⟨rfl, rfl⟩ := hok ex_serial
  have U3 := Lib.hid (U2.out.trans u3)
  have OG3 := Lib.hid (OG.out.upd0 u3)
  clear u3 hok OG
  go_wp2_with fail
  refine (t_ring _ 4 4 exL w3 (R1.out _ U3.out) rfl (by omega) ex_evin).mono ?_; rintro e w4 ⟨rv, v3, rfl, u4, _, hok⟩
  obtain ⟨rfl, _, hok⟩ := hok (by rw [ex_wrong])
  rw [ex_graph, ex_txns, ex_ring] at hok
  have OR4 := Lib.hid (hok (by simp))
  have U4 := Lib.hid (U3.out.trans u4)
  have OG4 := Lib.hid (OG3.out.upd0 u4)
  clear u4 hok OG3
  go_wp2_with fail
  have R2 : Hid (Rd encEv w4 (.slice (some ⟨g, 0, none⟩) 2 4) (exL.take 2)) := Lib.hid ((R1.out _ U4.out).take 2 (by decide) 4)
  refine (t_serial _ 2 4 (exL.take 2) w4 R2.out rfl (by omega) (fun x hx => ex_evin x (List.mem_of_mem_take hx))).mono ?_; rintro e w5 ⟨s2, v4, rfl, u5, _, hok⟩
  have hok := (hok (by rw [ex_wrong2])).1
  obtain ⟨os, rfl⟩ := hok _ ex_serial2
  have OS5 := Lib.hid os
  have U5 := Lib.hid (U4.out.trans u5)
  have OG5 := Lib.hid (OG4.out.upd0 u5)
  have OR5 := Lib.hid (OR4.out.upd0 u5)
  clear u5 hok os OG4 OR4
  obtain ⟨Ag, cg, rfl, _, _⟩ := OG5.out.form
  obtain ⟨Ar, cr, rfl, _, _⟩ := OR5.out.form
  obtain ⟨As, cs, rfl, _, _⟩ := OS5.out.form
  simp only [List.length_cons, List.length_nil, Nat.zero_add, Nat.reduceAdd] at OG5 OR5 OS5 ⊢
  go_wp2_with fail
  refine (no_nil _).mono ?_; rintro e w' ⟨rfl, rfl⟩
  go_wp2_with fail
  refine (no_nil _).mono ?_; rintro e w' ⟨rfl, rfl⟩
  go_wp2_with fail
  refine (no_nil _).mono ?_; rintro e w' ⟨rfl, rfl⟩
  go_wp2_with fail
  refine (no_err (ErrV.errno _ 12 (by omega) (by omega))).mono ?_; rintro e w' ⟨rfl, rfl⟩
  go_wp2_with fail
  have V6 : Hid (Upd [] w5 (w5.alloc (.cells #[.int .i64 1, .int .i64 2, .int .i64 3, .int .i64 2, .int .i64 1, .int .i64 3] 49))) := Lib.hid ((Upd.refl [] w5).alloc _)
  have L6 : Hid (Ow encE 49 (w5.alloc (.cells #[.int .i64 1, .int .i64 2, .int .i64 3, .int .i64 2, .int .i64 1, .int .i64 3] 49)) w5.heap.size (.slice (some ⟨w5.heap.size, 0, none⟩) 2 2) [(1, 2, 3), (2, 1, 3)]) := Lib.hid (own_lit (n := 2) (s := 3) (Blk.new w5 49 #[.int .i64 1, .int .i64 2, .int .i64 3, .int .i64 2, .int .i64 1, .int .i64 3]) rfl (by omega))
  refine (same_edges _ _ [(1, 2, 3), (2, 1, 3)] _ _ _ (OG5.out.upd0 V6.out) L6.out (by simp)).mono ?_; rintro e w7 ⟨rfl, u7⟩
  have U7 := Lib.hid (V6.out.trans u7)
  clear u7 V6 L6
  go_wp2_with fail
  have V8 : Hid (Upd [] w7 (w7.alloc (.cells #[.int .i64 1, .int .i64 2] 3))) := Lib.hid ((Upd.refl [] w7).alloc _)
  have L8 : Hid (Ow encK 3 (w7.alloc (.cells #[.int .i64 1, .int .i64 2] 3)) w7.heap.size (.slice (some ⟨w7.heap.size, 0, none⟩) 2 2) [1, 2]) := Lib.hid (own_lit (n := 2) (s := 1) (Blk.new w7 3 #[.int .i64 1, .int .i64 2]) rfl (by omega))
  refine (ints_ok _ _ [1, 2] [1, 2] _ _ _ (OR5.out.upd0 (U7.out.trans V8.out)) L8.out (by simp) (by simp)).mono ?_; rintro e w8 ⟨rfl, u8⟩
  have U8 := Lib.hid (U7.out.trans (V8.out.trans u8))
  clear u8 V8 L8
  simp only [decide_true]
  go_wp2_with fail
  have V8 : Hid (Upd [] w8 (w8.alloc (.cells #[.int .i64 1, .int .i64 2] 3))) := Lib.hid ((Upd.refl [] w8).alloc _)
  have L8 : Hid (Ow encK 3 (w8.alloc (.cells #[.int .i64 1, .int .i64 2] 3)) w8.heap.size (.slice (some ⟨w8.heap.size, 0, none⟩) 2 2) [1, 2]) := Lib.hid (own_lit (n := 2) (s := 1) (Blk.new w8 3 #[.int .i64 1, .int .i64 2]) rfl (by omega))
  refine (ints_ok _ _ [1, 2] [1, 2] _ _ _ (OS5.out.upd0 (U8.out.trans V8.out)) L8.out (by simp) (by simp)).mono ?_; rintro e w9 ⟨rfl, u8⟩
  have U9 := Lib.hid (U8.out.trans (V8.out.trans u8))
  clear u8 V8 L8
  simp only [decide_true]
  go_wp2_with fail
  go_ret
  exact ⟨rfl, (U1.out.trans U5.out).trans U9.out⟩
end Go.Proofs.YteddiknlcdbhjaaGreat

namespace Go.Proofs.YteddiknlcdbhjaaGreat
open Go Go.RowKit TrP

def grO (l : List Ev) : List Ed := if (wrongE l).1 = 0 then graphR l else []
def seO (l : List Ev) : List Int := if (wrongE l).1 = 0 then (serialL (graphR l) (txnsR l)).getD [] else []
def seE (l : List Ev) : Int := if (wrongE l).1 = 0 then (if (serialL (graphR l) (txnsR l)).isSome = true then 0 else 12) else (wrongE l).1
def riO (l : List Ev) : List Int := if (wrongE l).1 = 0 then ringL (graphR l) (txnsR l) else []
def GrT (l : List Ev) (w : World) (e : Ending) (w' : World) : Prop := ∃ g v a, e = .returned (.tuple #[g, v]) ∧ Upd [] w w' ∧ Ow encE 49 w' w.heap.size g (grO l) ∧ ErrV w' v (wrongE l).1 a
def SeT (l : List Ev) (w : World) (e : Ending) (w' : World) : Prop := ∃ s v a, e = .returned (.tuple #[s, v]) ∧ Upd [] w w' ∧ Ow encK 3 w' w.heap.size s (seO l) ∧ ErrV w' v (seE l) a
def RiT (l : List Ev) (w : World) (e : Ending) (w' : World) : Prop := ∃ s v a, e = .returned (.tuple #[s, v]) ∧ Upd [] w w' ∧ Ow encK 3 w' w.heap.size s (riO l) ∧ ErrV w' v (wrongE l).1 a
section
variable {A : Option Addr} {n k : Nat} {l : List Ev} {w : World} (h : Rd encEv w (.slice A n k) l) (hn : l.length = n) (hl : n ≤ 60) (hev : ∀ x ∈ l, EvIn x)
include h hn hl hev
theorem u_graph : Calls Tryz.prog 15 #[.slice A n k] w fun e w' => GrT l w e w' := by
  refine (t_graph A n k l w h hn hl hev).mono ?_
  rintro e w' ⟨g, v, rfl, he, hu, h1, h2⟩
  refine ⟨g, v, _, rfl, hu, ?_, he⟩
  unfold grO
  by_cases h0 : (wrongE l).1 = 0
  · rw [if_pos h0]; exact (h2 h0).2
  · rw [if_neg h0, h1 h0]; exact Ow.nil _ _ _ _
theorem u_serial : Calls Tryz.prog 9 #[.slice A n k] w fun e w' => SeT l w e w' := by
  refine (t_serial A n k l w h hn hl hev).mono ?_
  rintro e w' ⟨s, v, rfl, hu, h1, h2⟩
  by_cases h0 : (wrongE l).1 = 0
  · obtain ⟨h3, h4⟩ := h2 h0
    cases hs : serialL (graphR l) (txnsR l) with
    | none =>
      obtain ⟨rfl, rfl⟩ := h4 hs
      refine ⟨_, _, 0, rfl, hu, ?_, ?_⟩
      · unfold seO; rw [if_pos h0, hs]; exact Ow.nil _ _ _ _
      · unfold seE; rw [if_pos h0, hs]; exact ErrV.errno _ 12 (by omega) (by omega)
    | some o =>
      obtain ⟨h5, rfl⟩ := h3 o hs
      refine ⟨_, _, 0, rfl, hu, ?_, ?_⟩
      · unfold seO; rw [if_pos h0, hs]; exact h5
      · unfold seE; rw [if_pos h0, hs]; exact ErrV.nil _
  · obtain ⟨rfl, h3⟩ := h1 h0
    refine ⟨_, _, (wrongE l).2, rfl, hu, ?_, ?_⟩
    · unfold seO; rw [if_neg h0]; exact Ow.nil _ _ _ _
    · unfold seE; rw [if_neg h0]; exact h3
theorem u_ring : Calls Tryz.prog 10 #[.slice A n k] w fun e w' => RiT l w e w' := by
  refine (t_ring A n k l w h hn hl hev).mono ?_
  rintro e w' ⟨s, v, rfl, hu, h1, h2⟩
  by_cases h0 : (wrongE l).1 = 0
  · obtain ⟨rfl, h3, h4⟩ := h2 h0
    refine ⟨_, _, 0, rfl, hu, ?_, by rw [h0]; exact ErrV.nil _⟩
    unfold riO
    rw [if_pos h0]
    by_cases hr : ringL (graphR l) (txnsR l) = []
    · rw [h3 hr, hr]; exact Ow.nil _ _ _ _
    · exact h4 hr
  · obtain ⟨rfl, h3⟩ := h1 h0
    refine ⟨_, _, (wrongE l).2, rfl, hu, ?_, h3⟩
    unfold riO; rw [if_neg h0]; exact Ow.nil _ _ _ _
end
theorem txnsR_short (l : List Ev) (h : l.length ≤ 60) : (txnsR l).length ≤ 60 := by
  have key : ∀ (r : List Ev) (out : List Int), (r.foldl (fun out x => putI' out x.txn) out).length ≤ out.length + r.length := by
    intro r
    induction r with
    | nil => intro out; simp
    | cons x r ih =>
      intro out
      rw [List.foldl_cons]
      have h1 := ih (putI' out x.txn)
      have h2 : (putI' out x.txn).length ≤ out.length + 1 := by
        unfold putI' insG
        split
        · omega
        · simp; omega
      simp only [List.length_cons]
      omega
  have := key l []
  unfold txnsR
  simp at this
  omega
theorem seO_len (l : List Ev) (h : l.length ≤ 60) : (seO l).length ≤ 60 := by
  unfold seO
  split
  · rename_i h0
    cases hs : serialL (graphR l) (txnsR l) with
    | none => simp
    | some o =>
      have h1 := (serialL_some hs).2
      have h2 := txnsR_short l h
      show o.length ≤ 60
      omega
  · simp
theorem aroundR_len {g : List Ed} {all : List Int} (n : Int) : (aroundR g all n).length ≤ all.length + 1 := by
  have key : ∀ (f m : Nat) (met : List Int) (ways : List (List Int)) (fr : Int → Option Int), From g all n fr met ways → (bfsR g all n f m met ways).length ≤ all.length + 1 := by
    intro f
    induction f with
    | zero => intro m met ways fr h; unfold bfsR; simp
    | succ f ih =>
      intro m met ways fr h
      unfold bfsR
      cases hw : ways[m]? with
      | none => simp
      | some w =>
        simp only
        have hlen := (h.len m w hw).2
        have hm := (List.getElem?_eq_some_iff.1 hw).1
        have h2 := h.bfs.len
        have h3 := h.bfs.small
        cases hs : scanR g n (w.getLastD 0) w all met ways with
        | none => simp only; omega
        | some p =>
          obtain ⟨met', ways'⟩ := p
          simp only
          obtain ⟨fr', h'⟩ : ∃ fr', From g all n fr' met' ways' := by
            have scan : ∀ (ks : List Int) (met : List Int) (ways : List (List Int)) (fr : Int → Option Int), From g all n fr met ways → ways[m]? = some w → (∀ x ∈ ks, x ∈ all) → scanR g n (w.getLastD 0) w ks met ways = some (met', ways') → ∃ fr', From g all n fr' met' ways' := by
              intro ks
              induction ks with
              | nil => intro met ways fr h hw _ hs; unfold scanR at hs; cases hs; exact ⟨fr, h⟩
              | cons x ks ih2 =>
                intro met ways fr h hw hk hs
                unfold scanR at hs
                split at hs
                · rename_i hl
                  split at hs
                  · cases hs
                  · rename_i hn
                    split at hs
                    · exact ih2 met ways fr h hw (fun y hy => hk y (by simp [hy])) hs
                    · rename_i hm2
                      exact ih2 _ _ _ (h.push hw hl hn hm2 (hk x (by simp))) (by rw [List.getElem?_append_left (List.getElem?_eq_some_iff.1 hw).1]; exact hw) (fun y hy => hk y (by simp [hy])) hs
                · exact ih2 met ways fr h hw (fun y hy => hk y (by simp [hy])) hs
            exact scan all met ways fr h hw (fun x hx => hx) hs
          exact ih (m + 1) met' ways' fr' h'
  exact key _ _ _ _ _ (From.start n)
theorem ringL_len (g : List Ed) (all : List Int) : (ringL g all).length ≤ all.length + 1 := by
  have key : ∀ ks : List Int, (ringGo g all ks).length ≤ all.length + 1 := by
    intro ks
    induction ks with
    | nil => simp [ringGo]
    | cons x ks ih =>
      unfold ringGo
      split
      · exact ih
      · exact aroundR_len x
  exact key all
theorem riO_len (l : List Ev) (h : l.length ≤ 60) : (riO l).length ≤ 61 := by
  unfold riO
  split
  · have h1 := ringL_len (graphR l) (txnsR l)
    have h2 := txnsR_short l h
    omega
  · simp
theorem grO_len (l : List Ev) (h : l.length ≤ 60) : (grO l).length ≤ 120 := by
  unfold grO
  split
  · exact graphR_short l h
  · simp
end Go.Proofs.YteddiknlcdbhjaaGreat

namespace Go.Proofs.YteddiknlcdbhjaaGreat
open Go.RowKit TrP
attribute [local go_sem] litStep_value

set_option maxRecDepth 100000 in
theorem r_in (A : Option Addr) (n k : Nat) (L : List Int) (x : Int) (w : World) (h : Rd encK w (.slice A n k) L) (hn : L.length = n) (hl : n ≤ 1000) :
    Calls Tryz.prog 31 #[.slice A n k, .int .i64 x] w fun e w' => e = .returned (.bool (decide (x ∈ L))) ∧ w = w' := by
  have H := Lib.hid h
  have HN := Lib.hid hn
  obtain ⟨r, hr⟩ : ∃ r, decide (x ∈ L) = r := ⟨_, rfl⟩
  have HR := Lib.hid hr
  rw [hr]
  clear h hn hr
  go_enter Tryz.func31, Tryz.ntmps31
  go_wp2_with fail
  go_loop [5] (fun u => ∃ j : Nat, u = .int .i64 j ∧ j ≤ n ∧ Hid (∀ y ∈ L.take j, y ≠ x)) (fun u => n - (intOf u).toNat)
  case atStart => exact ⟨0, rfl, by omega, Lib.hid (by simp)⟩
  case round =>
    obtain ⟨j, rfl, hj, HA⟩ := hrel
    by_cases hjn : j < n
    · obtain ⟨y, hy⟩ : ∃ y, L[j]? = some y := ⟨_, List.getElem?_eq_getElem (by rw [HN.out]; omega)⟩
      obtain ⟨ad, rfl, hb, hc⟩ := H.out.at_ hy
      have f0 : w.cell? (ad.add (j * 1)) = some (.int .i64 y) := hc 0 _ rfl
      rw [Nat.mul_one] at f0
      have HY := Lib.hid hy
      have q3 : (0 : Int) ≤ (j : Int) := by omega
      have q4 : (j : Int) < (n : Int) := by omega
      clear hy hc
      by_cases hxy : y = x
      · have d : (y == x) = true := by simp [hxy]
        have HT : Hid (r = true) := Lib.hid (by rw [← HR.out]; simp; rw [← hxy]; exact List.mem_of_getElem? HY.out)
        clear hxy
        go_wp2_with fail
        go_ret
        exact ⟨by rw [HT.out]; rfl, rfl⟩
      · have d : (y == x) = false := by simpa using hxy
        have HZ : Hid (∀ z ∈ L.take (j + 1), z ≠ x) := Lib.hid (fun z hz => by
          rw [List.take_add_one, HY.out] at hz
          rcases List.mem_append.1 hz with hz | hz
          · exact HA.out z hz
          · simp at hz; subst hz; exact fun e => hxy e)
        clear hxy
        go_wp2_with fail
        go_round
        case rel => exact ⟨j + 1, by go_num, by omega, HZ⟩
        case measure => simp [intOf]; omega
    · have : j = n := by omega
      subst this
      have HT : Hid (r = false) := Lib.hid (by
        rw [← HR.out]
        have h1 := HA.out
        rw [List.take_of_length_le (by rw [HN.out]; exact Nat.le_refl _)] at h1
        simp
        exact fun hm => h1 x hm rfl)
      go_wp2_with fail
      go_ret
      exact ⟨by rw [HT.out]; rfl, rfl⟩
set_option maxRecDepth 100000 in
set_option maxHeartbeats 1000000 in
theorem r_leads (A : Option Addr) (n k : Nat) (g : List Ed) (a b : Int) (w : World) (h : Rd encE w (.slice A n k) g) (hn : g.length = n) (hl : n ≤ 1000) :
    Calls Tryz.prog 16 #[.slice A n k, .int .i64 a, .int .i64 b] w fun e w' => e = .returned (.bool (leadsB g a b)) ∧ w = w' := by
  have H := Lib.hid h
  have HN := Lib.hid hn
  obtain ⟨r, hr⟩ : ∃ r, leadsB g a b = r := ⟨_, rfl⟩
  have HR := Lib.hid hr
  rw [hr]
  clear h hn hr
  go_enter Tryz.func16, Tryz.ntmps16
  go_wp2_with fail
  go_loop [7] (fun u => ∃ j : Nat, u = .int .i64 j ∧ j ≤ n ∧ Hid (∀ y ∈ g.take j, ¬ (y.1 = a ∧ y.2.1 = b))) (fun u => n - (intOf u).toNat)
  case atStart => exact ⟨0, rfl, by omega, Lib.hid (by simp)⟩
  case round =>
    obtain ⟨j, rfl, hj, HA⟩ := hrel
    by_cases hjn : j < n
    · obtain ⟨⟨x0, x1, x2⟩, hy⟩ : ∃ y, g[j]? = some y := ⟨_, List.getElem?_eq_getElem (by rw [HN.out]; omega)⟩
      obtain ⟨ad, rfl, hb, hc⟩ := H.out.at_ hy
      have f0 : w.cell? (ad.add (j * 3)) = some (.int .i64 x0) := hc 0 _ rfl
      have f1 : w.cell? ⟨(ad.add (j * 3)).block, (ad.add (j * 3)).off + 1, none⟩ = some (.int .i64 x1) := by rw [← add_more]; exact hc 1 _ rfl
      have HY := Lib.hid hy
      have q3 : (0 : Int) ≤ (j : Int) := by omega
      have q4 : (j : Int) < (n : Int) := by omega
      clear hy hc
      by_cases hxa : x0 = a
      · have d : (x0 == a) = true := by simp [hxa]
        by_cases hxb : x1 = b
        · have d2 : (x1 == b) = true := by simp [hxb]
          have HT : Hid (r = true) := Lib.hid (by rw [← HR.out, leadsB_iff]; exact ⟨_, List.mem_of_getElem? HY.out, hxa, hxb⟩)
          go_wp2_with fail
          go_ret
          exact ⟨by rw [HT.out]; rfl, rfl⟩
        · have d2 : (x1 == b) = false := by simpa using hxb
          have HZ : Hid (∀ z ∈ g.take (j + 1), ¬ (z.1 = a ∧ z.2.1 = b)) := Lib.hid (fun z hz => by
            rw [List.take_add_one, HY.out] at hz
            rcases List.mem_append.1 hz with hz | hz
            · exact HA.out z hz
            · simp at hz; subst hz; exact fun e => hxb e.2)
          go_wp2_with fail
          go_round
          case rel => exact ⟨j + 1, by go_num, by omega, HZ⟩
          case measure => simp [intOf]; omega
      · have d : (x0 == a) = false := by simpa using hxa
        have HZ : Hid (∀ z ∈ g.take (j + 1), ¬ (z.1 = a ∧ z.2.1 = b)) := Lib.hid (fun z hz => by
          rw [List.take_add_one, HY.out] at hz
          rcases List.mem_append.1 hz with hz | hz
          · exact HA.out z hz
          · simp at hz; subst hz; exact fun e => hxa e.1)
        go_wp2_with fail
        go_round
        case rel => exact ⟨j + 1, by go_num, by omega, HZ⟩
        case measure => simp [intOf]; omega
    · have : j = n := by omega
      subst this
      have HT : Hid (r = false) := Lib.hid (by
        rw [← HR.out]
        have h1 := HA.out
        rw [List.take_of_length_le (by rw [HN.out]; exact Nat.le_refl _)] at h1
        cases hh : leadsB g a b with
        | false => rfl
        | true =>
          obtain ⟨e, he, h2⟩ := leadsB_iff.1 hh
          exact absurd h2 (h1 e he))
      go_wp2_with fail
      go_ret
      exact ⟨by rw [HT.out]; rfl, rfl⟩
end Go.Proofs.YteddiknlcdbhjaaGreat

namespace Go.Proofs.YteddiknlcdbhjaaGreat
open Go Go.RowKit TrP
attribute [local go_sem] litStep_value

theorem putI_len (l : List Int) (x : Int) : (putI' l x).length ≤ l.length + 1 := by
  unfold putI' insG
  split
  · omega
  · simp; omega
theorem foldT_len (l : List Ev) : ∀ (r : List Ev) (out : List Int), (r.foldl (fun out x => putI' out x.txn) out).length ≤ out.length + r.length
  | [], out => by simp
  | x :: r, out => by
    rw [List.foldl_cons]
    have h1 := foldT_len l r (putI' out x.txn)
    have h2 := putI_len out x.txn
    simp only [List.length_cons]
    omega
theorem foldT_snoc {l : List Ev} {j : Nat} {x : Ev} (hx : l[j]? = some x) : txnsR (l.take (j + 1)) = putI' (txnsR (l.take j)) x.txn := by
  unfold txnsR
  rw [List.take_add_one, hx, List.foldl_append]
  rfl
def TxnsPost (l : List Ev) (w : World) (e : Ending) (w' : World) : Prop := ∃ u, e = .returned u ∧ Ow encK 3 w' w.heap.size u (txnsR l) ∧ Upd [] w w'
set_option maxRecDepth 100000 in
set_option maxHeartbeats 8000000 in
theorem r_txns (A : Option Addr) (n k : Nat) (l : List Ev) (w : World) (h : Rd encEv w (.slice A n k) l) (hn : l.length = n) (hl : n ≤ 60) :
    Calls Tryz.prog 17 #[.slice A n k] w fun e w' => TxnsPost l w e w' := by
  have H := Lib.hid h
  have HN := Lib.hid hn
  clear h hn
  go_enter Tryz.func17, Tryz.ntmps17
  go_wp2_with fail
  go_loopw [3, 4] (fun r u wr => ∃ (A' : Option Addr) (m c j : Nat), r = .slice A' m c ∧ u = .int .i64 j ∧ j ≤ n ∧ m ≤ j ∧ Hid ((txnsR (l.take j)).length = m) ∧ Hid (Ow encK 3 wr w.heap.size (.slice A' m c) (txnsR (l.take j))) ∧ Hid (Upd [] w wr)) (fun r u _ => n - (intOf u).toNat)
  case atStart => exact ⟨none, 0, 0, 0, rfl, rfl, by omega, by omega, Lib.hid rfl, Lib.hid (Ow.nil ..), Lib.hid (.refl _ _)⟩
  case round =>
    obtain ⟨A', m, c, j, rfl, rfl, hj, hm, HM, HO, U1⟩ := hrel
    by_cases hjn : j < n
    · obtain ⟨⟨x, xc, xv, xw⟩, hx⟩ : ∃ x, l[j]? = some x := ⟨_, List.getElem?_eq_getElem (by rw [HN.out]; omega)⟩
      have H1 := Lib.hid (H.out.upd0 U1.out)
      have FS : Hid (txnsR (l.take (j + 1)) = putI' (txnsR (l.take j)) x) := Lib.hid (foldT_snoc hx)
      obtain ⟨L, hL⟩ : ∃ L, txnsR (l.take j) = L := ⟨_, rfl⟩
      rw [hL] at FS HM HO
      obtain ⟨ad, rfl, hb, hc⟩ := H1.out.at_ hx
      have CX : Hid (∀ W, Upd [] wr W → W.cell? (ad.add (j * 4)) = some (.int .i64 x)) := Lib.hid (fun W hW => by
        obtain ⟨ad', ea, _, hc'⟩ := (H1.out.upd0 hW).at_ hx
        injection ea with ea
        subst ea
        exact hc' 0 _ rfl)
      have q3 : (0 : Int) ≤ (j : Int) := by omega
      have q4 : (j : Int) < (n : Int) := by omega
      clear hx hc hL
      obtain ⟨A2, c2, e2, hmc, hcm⟩ := own_slice HO.out
      injection e2 with e3 e4 e5
      subst e3 e5
      rw [HM.out] at hmc
      unfold maxLen at hcm
      clear e4
      go_wp2_with fail
      go_loopw [5] (fun v wq => ∃ k : Nat, v = .int .i64 k ∧ k ≤ m ∧ Hid (Upd [] wr wq) ∧ Hid (k ≤ posG ltI L x)) (fun v _ => m - (intOf v).toNat)
      case atStart => exact ⟨0, rfl, by omega, Lib.hid (.refl _ _), Lib.hid (Nat.zero_le _)⟩
      case round =>
        obtain ⟨i, rfl, hi, KU, HP⟩ := hrel
        rename World => wq
        have q1 : (0 : Int) ≤ (i : Int) := by omega
        have q2 : (i : Int) ≤ (c : Int) := by omega
        have q5 : (m : Int) ≤ (c : Int) := by omega
        have q6 : (i : Int) ≤ (m : Int) := by omega
        have f0 := CX.out wq KU.out
        by_cases him : i < m
        · obtain ⟨y, hy⟩ : ∃ y, L[i]? = some y := ⟨_, List.getElem?_eq_getElem (by rw [HM.out]; omega)⟩
          have HY := Lib.hid hy
          obtain ⟨g, cg, cur, e1, -⟩ := own_form HO.out (by rw [HM.out]; omega)
          injection e1 with e1 e2 e1'
          subst e1 e1'
          have f1 : wq.cell? ⟨g, i, none⟩ = some (.int .i64 y) := by
            have h1 := (HO.out.upd0 KU.out).at_ hy 0 _ rfl
            rwa [show i * encK.s + 0 = i by simp [encI]] at h1
          have q7 : (i : Int) < (m : Int) := by omega
          clear hy e2
          by_cases hyx : y < x
          · have d : decide (y < x) = true := by simpa using hyx
            have HP2 : Hid (i + 1 ≤ posG ltI L x) := Lib.hid (posG_step HP.out HY.out (by simpa [ltI] using hyx))
            go_wp2_with fail
            go_quiet (fail)
            go_wp2_with fail
            go_roundw
            case rel => exact ⟨i + 1, by go_num, by omega, Lib.hid (KU.out.drewN _), HP2⟩
            case measure => simp [intOf]; omega
          · have d : decide (y < x) = false := by simpa using hyx
            have HE : Hid (i = posG ltI L x) := Lib.hid (posG_stop HP.out HY.out (by simpa [ltI] using hyx))
            by_cases hye : y = x
            · have d2 : (y != x) = false := by simp [hye]
              have d3 : ((i : Int) == (m : Int)) = false := by simp; omega
              have HPU : Hid (putI' L x = L) := Lib.hid (by unfold putI' insG; rw [← HE.out, if_pos (by rw [HY.out, hye])])
              go_wp2_with fail
              go_quiet (fail)
              go_wp2_with fail
              go_quiet (fail)
              go_wp2_with fail
              go_roundw
              case rel => exact ⟨some ⟨g, 0, none⟩, m, c, j + 1, rfl, by go_num, by omega, by omega, Lib.hid (by rw [FS.out, HPU.out]; exact HM.out), Lib.hid (by rw [FS.out, HPU.out]; exact HO.out.upd0 (KU.out.drewN _)), Lib.hid (U1.out.trans (KU.out.drewN _))⟩
              case measure => simp [intOf]; omega
            · have d2 : (y != x) = true := by simpa using hye
              have d3 : ((i : Int) == (m : Int)) = false := by simp; omega
              have HNE : Hid (¬ L[i]? = some x) := Lib.hid (by rw [HY.out]; simpa using hye)
              go_wp2_with fail
              go_quiet (fail)
              go_wp2_with fail
              go_quiet (fail)
              go_wp2_with fail
              generalize hw2 : (wq.drewN _).drewN _ = w2
              have U2 : Hid (Upd [] wr w2) := Lib.hid (by rw [← hw2]; exact (KU.out.drewN _).drewN _)
              clear hw2
              have W2 : Hid (Upd [] w w2) := Lib.hid (U1.out.trans U2.out)
              have CS : Hid (∀ W, Upd [] w2.drew W → W.cell? (ad.add (j * 4)) = some (.int .i64 x)) := Lib.hid (fun W hW => CX.out W (U2.out.drew.trans hW))
              have F1 : Hid (∀ W, Upd [] w2.drew W → Src W 1 (.slice (some (⟨g, 0, none⟩ : Addr)) i c) i (flat encK (L.take i))) := Lib.hid (fun W hW => by
                have hu : Upd [] w2 W := (Upd.refl [] w2).drew.trans hW
                have := (HO.out.upd0 (U2.out.trans hu)).rd.take i (by rw [HM.out]; exact hi) c
                unfold Rd at this
                rwa [List.length_take, HM.out, Nat.min_eq_left hi] at this)
              have F2 : Hid (∀ W, Upd [] w2.drew W → Src W 1 (.slice (if c = i then (some (⟨g, 0, none⟩ : Addr)) else some (⟨g, i, none⟩ : Addr)) (m - i) (c - i)) (m - i) (flat encK (L.drop i))) := Lib.hid (fun W hW => by
                have hu : Upd [] w2 W := (Upd.refl [] w2).drew.trans hW
                have := (HO.out.upd0 (U2.out.trans hu)).rd.drop i (by rw [HM.out]; exact hi) hmc (c - i)
                unfold Rd at this
                rw [show i * encK.s = i by simp [encI], show encK.s = 1 from rfl] at this
                rw [List.length_drop, HM.out] at this
                simpa [add_head] using this)
              have SZ : Hid (w.heap.size ≤ w2.heap.size) := Lib.hid W2.out.size
              have EQ : Hid (flat encK (L.take i) ++ ([Value.int .i64 x] ++ flat encK (L.drop i)) = flat encK (putI' L x) ∧ (putI' L x).length = m + 1) := Lib.hid (by
                have hput : putI' L x = L.take i ++ (x :: L.drop i) := by
                  unfold putI' insG
                  rw [← HE.out, if_neg HNE.out]
                rw [hput]
                refine ⟨?_, ?_⟩
                · rw [flat_append, flat_cons]; rfl
                · simp [HM.out]; try omega)
              refine wp_invN [(0, .own w.heap.size 3 1 0 []), (4, .own w.heap.size 3 1 i (flat encK (L.take i))), (10, .lit 3 #[.int .i64 x] 1), (11, .own w.heap.size 3 1 (i + 1) (flat encK (L.take i) ++ [.int .i64 x])), (15, .own w.heap.size 3 1 (m + 1) (flat encK (L.take i) ++ [.int .i64 x] ++ flat encK (L.drop i)))] [(4, [0]), (11, [4]), (15, [11])] (by kernel_rfl) (by kernel_rfl) (by kernel_rfl) ⟨lasts_own _ _ _ _ _ (by simp [maxLen]), lasts_own _ _ _ _ _ (by unfold maxLen; omega), lasts_lit _ _ _, lasts_own _ _ _ _ _ (by unfold maxLen; omega), lasts_own _ _ _ _ _ (by unfold maxLen; omega), trivial⟩ ?_
              refine wpV_heavy (by simp only [lightOp]) (by rfl) (fun W hU hk hF K hK => ?_) ?_
              · go_wp2_with fail
                exact wpV_made hK rfl rfl rfl rfl (Nat.le_trans SZ.out hU.size)
              rintro _ ⟨A1, c1', rfl, _, _⟩
              simp only [Act.put, List.setIfInBounds_toArray, List.set_cons_zero, List.set_cons_succ]
              with_reducible apply wpV_light
              · simp only [lightOp]
              · intro W hU hF
                have f0 := CS.out W hU
                clear hU hF
                go_simp
                exact rfl
              simp only [Act.put, List.setIfInBounds_toArray, List.set_cons_zero, List.set_cons_succ]
              with_reducible apply wpV_light
              · simp only [lightOp]
              · intro W hU hF
                have f0 := CS.out W hU
                clear hU hF
                go_simp
                exact rfl
              simp only [Act.put, List.setIfInBounds_toArray, List.set_cons_zero, List.set_cons_succ]
              with_reducible apply wpV_light
              · simp only [lightOp]
              · intro W hU hF
                have f0 := CS.out W hU
                clear hU hF
                go_simp
                exact rfl
              simp only [Act.put, List.setIfInBounds_toArray, List.set_cons_zero, List.set_cons_succ]
              refine wpV_heavy (by simp only [lightOp]) (by rfl) (fun W hU hk hF K hK => ?_) ?_
              · exact wpV_app hK (.tmp 46) (.tmp 49) _ (by rfl) int_elem _ _ (by rfl) (by rfl) rfl rfl (by simp [usedV, mkI, conOf, specOf, Spec.own]) (hF.out.1 (by kernel_rfl)) (F1.out W hU) (by omega) (by simp) flat_cells (by unfold maxLen; omega) (by omega) (Nat.le_trans SZ.out hU.size)
              rintro _ ⟨A2, c2', rfl, _, _⟩
              simp only [Act.put, List.setIfInBounds_toArray, List.set_cons_zero, List.set_cons_succ]
              with_reducible apply wpV_light
              · simp only [lightOp]
              · intro W hU hF
                have f0 := CS.out W hU
                clear hU hF
                go_simp
                exact rfl
              simp only [Act.put, List.setIfInBounds_toArray, List.set_cons_zero, List.set_cons_succ]
              with_reducible apply wpV_light
              · simp only [lightOp]
              · intro W hU hF
                have f0 := CS.out W hU
                clear hU hF
                go_simp
                exact rfl
              simp only [Act.put, List.setIfInBounds_toArray, List.set_cons_zero, List.set_cons_succ]
              with_reducible apply wpV_light
              · simp only [lightOp]
              · intro W hU hF
                have f0 := CS.out W hU
                clear hU hF
                go_simp
                exact rfl
              simp only [Act.put, List.setIfInBounds_toArray, List.set_cons_zero, List.set_cons_succ]
              with_reducible apply wpV_light
              · simp only [lightOp]
              · intro W hU hF
                have f0 := CS.out W hU
                clear hU hF
                go_simp
                exact rfl
              simp only [Act.put, List.setIfInBounds_toArray, List.set_cons_zero, List.set_cons_succ]
              with_reducible apply wpV_light
              · simp only [lightOp]
              · intro W hU hF
                have f0 := CS.out W hU
                clear hU hF
                go_simp
                exact rfl
              simp only [Act.put, List.setIfInBounds_toArray, List.set_cons_zero, List.set_cons_succ]
              refine wpV_heavy (by simp only [lightOp]) (by rfl) (fun W hU hk hF K hK => ?_) ?_
              · go_wp2_with fail
                exact wpV_lit hK rfl rfl rfl
              rintro _ ⟨g3, rfl⟩
              simp only [Act.put, List.setIfInBounds_toArray, List.set_cons_zero, List.set_cons_succ]
              refine wpV_heavy (by simp only [lightOp]) (by rfl) (fun W hU hk hF K hK => ?_) ?_
              · obtain ⟨g', he, hbl⟩ := hF.out.2.2.1 (by kernel_rfl)
                injection he with he _ _
                injection he with he
                injection he with he
                subst he
                exact wpV_app hK (.tmp 50) (.tmp 56) _ (by rfl) int_elem _ _ (by rfl) (by rfl) rfl rfl (by simp [usedV, mkI, conOf, specOf, Spec.own]) (hF.out.2.1 (by kernel_rfl)) (.of_blk hbl (m := 1) 1 rfl) (by omega) (by simp) (by intro u hu; simp at hu; subst hu; rfl) (by unfold maxLen; omega) (by omega) (Nat.le_trans SZ.out hU.size)
              rintro _ ⟨A4, c4, rfl, _, _⟩
              simp only [Act.put, List.setIfInBounds_toArray, List.set_cons_zero, List.set_cons_succ]
              with_reducible apply wpV_light
              · simp only [lightOp]
              · intro W hU hF
                have f0 := CS.out W hU
                clear hU hF
                go_simp
                exact rfl
              simp only [Act.put, List.setIfInBounds_toArray, List.set_cons_zero, List.set_cons_succ]
              with_reducible apply wpV_light
              · simp only [lightOp]
              · intro W hU hF
                have f0 := CS.out W hU
                clear hU hF
                go_simp
                exact rfl
              simp only [Act.put, List.setIfInBounds_toArray, List.set_cons_zero, List.set_cons_succ]
              with_reducible apply wpV_light
              · simp only [lightOp]
              · intro W hU hF
                have f0 := CS.out W hU
                clear hU hF
                go_simp
                exact rfl
              simp only [Act.put, List.setIfInBounds_toArray, List.set_cons_zero, List.set_cons_succ]
              refine wpV_heavy (by simp only [lightOp]) (by rfl) (fun W hU hk hF K hK => ?_) ?_
              · exact wpV_app hK (.tmp 57) (.tmp 60) _ (by rfl) int_elem _ _ (by rfl) (by rfl) rfl rfl (by simp [usedV, mkI, conOf, specOf, Spec.own]) (hF.out.2.2.2.1 (by kernel_rfl)) (F2.out W hU) (by omega) (by simp) flat_cells (by unfold maxLen; omega) (by omega) (Nat.le_trans SZ.out hU.size)
              rintro _ ⟨A5, c5, rfl, _, _⟩
              simp only [Act.put, List.setIfInBounds_toArray, List.set_cons_zero, List.set_cons_succ]
              with_reducible apply wpV_light
              · simp only [lightOp]
              · intro W hU hF
                have f0 := CS.out W hU
                clear hU hF
                go_simp
                exact rfl
              simp only [Act.put, List.setIfInBounds_toArray, List.set_cons_zero, List.set_cons_succ]
              refine wpV_end (fun W hU _ hF => ?_)
              have U3 : Hid (Upd [] w W) := Lib.hid (W2.out.drew.trans hU)
              have O3 : Hid (Ow encK 3 W w.heap.size (.slice A5 (m + 1) c5) (putI' L x)) := Lib.hid (by
                have := hF.out.2.2.2.2.1 (by kernel_rfl)
                unfold Ow
                rw [EQ.out.2, ← EQ.out.1, ← List.append_assoc]
                exact this)
              clear hU hF
              refine wpT_end ?_
              go_wp2_with fail
              go_roundw
              case rel => exact ⟨A5, m + 1, c5, j + 1, rfl, by go_num, by omega, by omega, Lib.hid (by rw [FS.out]; exact EQ.out.2), Lib.hid (by rw [FS.out]; exact O3.out), U3⟩
              case measure => simp [intOf]; omega
        · have : i = m := by omega
          subst this
          have HE : Hid (i = posG ltI L x) := Lib.hid (by
            have h1 := posG_le (lt := ltI) L x
            have h2 := HP.out
            rw [HM.out] at h1
            omega)
          have HNE : Hid (¬ L[i]? = some x) := Lib.hid (by rw [List.getElem?_eq_none (by rw [HM.out]; exact Nat.le_refl _)]; simp)
          go_wp2_with fail
          go_quiet (fail)
          go_wp2_with fail
          go_quiet (fail)
          go_wp2_with fail
          generalize hw2 : (wq.drewN _).drewN _ = w2
          have U2 : Hid (Upd [] wr w2) := Lib.hid (by rw [← hw2]; exact (KU.out.drewN _).drewN _)
          clear hw2
          have W2 : Hid (Upd [] w w2) := Lib.hid (U1.out.trans U2.out)
          have CS : Hid (∀ W, Upd [] w2.drew W → W.cell? (ad.add (j * 4)) = some (.int .i64 x)) := Lib.hid (fun W hW => CX.out W (U2.out.drew.trans hW))
          have F1 : Hid (∀ W, Upd [] w2.drew W → Src W 1 (.slice A' i c) i (flat encK (L.take i))) := Lib.hid (fun W hW => by
            have hu : Upd [] w2 W := (Upd.refl [] w2).drew.trans hW
            have := (HO.out.upd0 (U2.out.trans hu)).rd.take i (by rw [HM.out]; exact hi) c
            unfold Rd at this
            rwa [List.length_take, HM.out, Nat.min_eq_left hi] at this)
          have F2 : Hid (∀ W, Upd [] w2.drew W → Src W 1 (.slice (if c = i then A' else Option.map (fun (x : Addr) => x.add i) A') 0 (c - i)) 0 (flat encK (L.drop i))) := Lib.hid (fun W hW => by
            have hu : Upd [] w2 W := (Upd.refl [] w2).drew.trans hW
            have := (HO.out.upd0 (U2.out.trans hu)).rd.drop i (by rw [HM.out]; exact hi) hmc (c - i)
            unfold Rd at this
            rw [show i * encK.s = i by simp [encI], show encK.s = 1 from rfl] at this
            rw [List.length_drop, HM.out] at this
            simpa [add_head] using this)
          have SZ : Hid (w.heap.size ≤ w2.heap.size) := Lib.hid W2.out.size
          have EQ : Hid (flat encK (L.take i) ++ ([Value.int .i64 x] ++ flat encK (L.drop i)) = flat encK (putI' L x) ∧ (putI' L x).length = i + 1) := Lib.hid (by
            have hput : putI' L x = L.take i ++ (x :: L.drop i) := by
              unfold putI' insG
              rw [← HE.out, if_neg HNE.out]
            rw [hput]
            refine ⟨?_, ?_⟩
            · rw [flat_append, flat_cons]; rfl
            · simp [HM.out]; try omega)
          refine wp_invN [(0, .own w.heap.size 3 1 0 []), (4, .own w.heap.size 3 1 i (flat encK (L.take i))), (10, .lit 3 #[.int .i64 x] 1), (11, .own w.heap.size 3 1 (i + 1) (flat encK (L.take i) ++ [.int .i64 x])), (15, .own w.heap.size 3 1 (i + 1) (flat encK (L.take i) ++ [.int .i64 x] ++ flat encK (L.drop i)))] [(4, [0]), (11, [4]), (15, [11])] (by kernel_rfl) (by kernel_rfl) (by kernel_rfl) ⟨lasts_own _ _ _ _ _ (by simp [maxLen]), lasts_own _ _ _ _ _ (by unfold maxLen; omega), lasts_lit _ _ _, lasts_own _ _ _ _ _ (by unfold maxLen; omega), lasts_own _ _ _ _ _ (by unfold maxLen; omega), trivial⟩ ?_
          refine wpV_heavy (by simp only [lightOp]) (by rfl) (fun W hU hk hF K hK => ?_) ?_
          · go_wp2_with fail
            exact wpV_made hK rfl rfl rfl rfl (Nat.le_trans SZ.out hU.size)
          rintro _ ⟨A1, c1', rfl, _, _⟩
          simp only [Act.put, List.setIfInBounds_toArray, List.set_cons_zero, List.set_cons_succ]
          with_reducible apply wpV_light
          · simp only [lightOp]
          · intro W hU hF
            have f0 := CS.out W hU
            clear hU hF
            go_simp
            exact rfl
          simp only [Act.put, List.setIfInBounds_toArray, List.set_cons_zero, List.set_cons_succ]
          with_reducible apply wpV_light
          · simp only [lightOp]
          · intro W hU hF
            have f0 := CS.out W hU
            clear hU hF
            go_simp
            exact rfl
          simp only [Act.put, List.setIfInBounds_toArray, List.set_cons_zero, List.set_cons_succ]
          with_reducible apply wpV_light
          · simp only [lightOp]
          · intro W hU hF
            have f0 := CS.out W hU
            clear hU hF
            go_simp
            exact rfl
          simp only [Act.put, List.setIfInBounds_toArray, List.set_cons_zero, List.set_cons_succ]
          refine wpV_heavy (by simp only [lightOp]) (by rfl) (fun W hU hk hF K hK => ?_) ?_
          · exact wpV_app hK (.tmp 46) (.tmp 49) _ (by rfl) int_elem _ _ (by rfl) (by rfl) rfl rfl (by simp [usedV, mkI, conOf, specOf, Spec.own]) (hF.out.1 (by kernel_rfl)) (F1.out W hU) (by omega) (by simp) flat_cells (by unfold maxLen; omega) (by omega) (Nat.le_trans SZ.out hU.size)
          rintro _ ⟨A2, c2', rfl, _, _⟩
          simp only [Act.put, List.setIfInBounds_toArray, List.set_cons_zero, List.set_cons_succ]
          with_reducible apply wpV_light
          · simp only [lightOp]
          · intro W hU hF
            have f0 := CS.out W hU
            clear hU hF
            go_simp
            exact rfl
          simp only [Act.put, List.setIfInBounds_toArray, List.set_cons_zero, List.set_cons_succ]
          with_reducible apply wpV_light
          · simp only [lightOp]
          · intro W hU hF
            have f0 := CS.out W hU
            clear hU hF
            go_simp
            exact rfl
          simp only [Act.put, List.setIfInBounds_toArray, List.set_cons_zero, List.set_cons_succ]
          with_reducible apply wpV_light
          · simp only [lightOp]
          · intro W hU hF
            have f0 := CS.out W hU
            clear hU hF
            go_simp
            exact rfl
          simp only [Act.put, List.setIfInBounds_toArray, List.set_cons_zero, List.set_cons_succ]
          with_reducible apply wpV_light
          · simp only [lightOp]
          · intro W hU hF
            have f0 := CS.out W hU
            clear hU hF
            go_simp
            exact rfl
          simp only [Act.put, List.setIfInBounds_toArray, List.set_cons_zero, List.set_cons_succ]
          with_reducible apply wpV_light
          · simp only [lightOp]
          · intro W hU hF
            have f0 := CS.out W hU
            clear hU hF
            go_simp
            exact rfl
          simp only [Act.put, List.setIfInBounds_toArray, List.set_cons_zero, List.set_cons_succ]
          refine wpV_heavy (by simp only [lightOp]) (by rfl) (fun W hU hk hF K hK => ?_) ?_
          · go_wp2_with fail
            exact wpV_lit hK rfl rfl rfl
          rintro _ ⟨g3, rfl⟩
          simp only [Act.put, List.setIfInBounds_toArray, List.set_cons_zero, List.set_cons_succ]
          refine wpV_heavy (by simp only [lightOp]) (by rfl) (fun W hU hk hF K hK => ?_) ?_
          · obtain ⟨g', he, hbl⟩ := hF.out.2.2.1 (by kernel_rfl)
            injection he with he _ _
            injection he with he
            injection he with he
            subst he
            exact wpV_app hK (.tmp 50) (.tmp 56) _ (by rfl) int_elem _ _ (by rfl) (by rfl) rfl rfl (by simp [usedV, mkI, conOf, specOf, Spec.own]) (hF.out.2.1 (by kernel_rfl)) (.of_blk hbl (m := 1) 1 rfl) (by omega) (by simp) (by intro u hu; simp at hu; subst hu; rfl) (by unfold maxLen; omega) (by omega) (Nat.le_trans SZ.out hU.size)
          rintro _ ⟨A4, c4, rfl, _, _⟩
          simp only [Act.put, List.setIfInBounds_toArray, List.set_cons_zero, List.set_cons_succ]
          with_reducible apply wpV_light
          · simp only [lightOp]
          · intro W hU hF
            have f0 := CS.out W hU
            clear hU hF
            go_simp
            exact rfl
          simp only [Act.put, List.setIfInBounds_toArray, List.set_cons_zero, List.set_cons_succ]
          with_reducible apply wpV_light
          · simp only [lightOp]
          · intro W hU hF
            have f0 := CS.out W hU
            clear hU hF
            go_simp
            exact rfl
          simp only [Act.put, List.setIfInBounds_toArray, List.set_cons_zero, List.set_cons_succ]
          with_reducible apply wpV_light
          · simp only [lightOp]
          · intro W hU hF
            have f0 := CS.out W hU
            clear hU hF
            go_simp
            exact rfl
          simp only [Act.put, List.setIfInBounds_toArray, List.set_cons_zero, List.set_cons_succ]
          refine wpV_heavy (by simp only [lightOp]) (by rfl) (fun W hU hk hF K hK => ?_) ?_
          · exact wpV_app hK (.tmp 57) (.tmp 60) _ (by rfl) int_elem _ _ (by rfl) (by rfl) rfl rfl (by simp [usedV, mkI, conOf, specOf, Spec.own]) (hF.out.2.2.2.1 (by kernel_rfl)) (F2.out W hU) (by omega) (by simp) flat_cells (by unfold maxLen; omega) (by omega) (Nat.le_trans SZ.out hU.size)
          rintro _ ⟨A5, c5, rfl, _, _⟩
          simp only [Act.put, List.setIfInBounds_toArray, List.set_cons_zero, List.set_cons_succ]
          with_reducible apply wpV_light
          · simp only [lightOp]
          · intro W hU hF
            have f0 := CS.out W hU
            clear hU hF
            go_simp
            exact rfl
          simp only [Act.put, List.setIfInBounds_toArray, List.set_cons_zero, List.set_cons_succ]
          refine wpV_end (fun W hU _ hF => ?_)
          have U3 : Hid (Upd [] w W) := Lib.hid (W2.out.drew.trans hU)
          have O3 : Hid (Ow encK 3 W w.heap.size (.slice A5 (i + 1) c5) (putI' L x)) := Lib.hid (by
            have := hF.out.2.2.2.2.1 (by kernel_rfl)
            unfold Ow
            rw [EQ.out.2, ← EQ.out.1, ← List.append_assoc]
            exact this)
          clear hU hF
          refine wpT_end ?_
          go_wp2_with fail
          go_roundw
          case rel => exact ⟨A5, i + 1, c5, j + 1, rfl, by go_num, by omega, by omega, Lib.hid (by rw [FS.out]; exact EQ.out.2), Lib.hid (by rw [FS.out]; exact O3.out), U3⟩
          case measure => simp [intOf]; omega
    · have : j = n := by omega
      subst this
      go_wp2_with fail
      go_ret
      refine ⟨_, rfl, ?_, U1.out⟩
      have h1 := HO.out
      rw [List.take_of_length_le (by rw [HN.out]; exact Nat.le_refl _)] at h1
      exact h1
end Go.Proofs.YteddiknlcdbhjaaGreat

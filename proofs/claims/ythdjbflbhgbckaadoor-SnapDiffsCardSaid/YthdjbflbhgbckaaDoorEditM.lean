/-
  copy, clear and append of zeros, at elements of several cells: what they make of a block. No program in sight. slices.Insert of one pair. slices.Delete of one pair.
-/
import Derived.Test.YthdjbflbhgbckaaDoorApp
import Derived.Test.YthdjbflbhgbckaaDoorFlat
import Derived.Laws.IdiomCopy
import Derived.Laws.Externs
import Derived.Lib.AppendZerosOnto
import Derived.Lib.Overlaps
import Derived.Test.YthdjbflbhgbckaaDoorSnap
set_option linter.unusedVariables false
namespace Go.Proofs.YthdjbflbhgbckaaDoor
open Go.RowKit

/-- Values written one behind the other. -/
def spl : List Value → Array Value → Nat → Array Value
  | [], cur, _ => cur
  | v :: r, cur, o => spl r (cur.setIfInBounds o v) (o + 1)
theorem spl_size : ∀ (vs : List Value) (cur : Array Value) (o : Nat), (spl vs cur o).size = cur.size
  | [], _, _ => rfl
  | v :: r, cur, o => by unfold spl; rw [spl_size r]; simp
theorem list_set_split (L : List Value) (o : Nat) (v : Value) (h : o < L.length) : L.set o v = L.take o ++ v :: L.drop (o + 1) := by
  rw [List.set_eq_take_append_cons_drop, if_pos h]
theorem spl_list : ∀ (vs : List Value) (cur : Array Value) (o : Nat), o + vs.length ≤ cur.size → (spl vs cur o).toList = cur.toList.take o ++ (vs ++ cur.toList.drop (o + vs.length))
  | [], cur, o, _ => by simp [spl]
  | v :: r, cur, o, h => by
    have hl : o < cur.toList.length := by simp at h ⊢; omega
    have ht : (cur.toList.take o).length = o := by rw [List.length_take]; omega
    unfold spl
    rw [spl_list r _ (o + 1) (by simp at h ⊢; omega), Array.toList_setIfInBounds, list_set_split _ _ _ hl, List.length_cons]
    have e1 : (cur.toList.take o ++ v :: cur.toList.drop (o + 1)).take (o + 1) = cur.toList.take o ++ [v] := by
      rw [List.take_append, ht, List.take_of_length_le (by omega), show o + 1 - o = 1 by omega]
      rfl
    have e2 : (cur.toList.take o ++ v :: cur.toList.drop (o + 1)).drop (o + 1 + r.length) = cur.toList.drop (o + (r.length + 1)) := by
      rw [List.drop_append, ht, List.drop_of_length_le (by omega), show o + 1 + r.length - o = r.length + 1 by omega, List.drop_succ_cons, List.drop_drop, List.nil_append]
      congr 1
      omega
    rw [e1, e2]
    simp
theorem Blk.setCells {g : Nat} {t : TypeId} : ∀ (vs : List Value) (o : Nat) (w : World) (cur : Array Value), Blk w g t cur → Blk (w.setCells g o vs) g t (spl vs cur o)
  | [], _, _, _, h => h
  | v :: r, o, w, cur, h => Blk.setCells r (o + 1) _ _ (h.set_ o v)
theorem Upd.setCells {g : Nat} {a : World} : ∀ (vs : List Value) (o : Nat) (w : World), Upd [g] a w → Upd [g] a (w.setCells g o vs)
  | [], _, _, h => h
  | v :: r, o, w, h => Upd.setCells r (o + 1) _ (h.setCell (.inl (by simp)) v)
section
variable {P : Program} {t e : TypeId} {s bytes : Nat}
/-- copy: all is read ahead of what is written. -/
theorem run_copy_s (ET : Elem P t e s bytes) (w : World) (sT ty : TypeId) (g o dLen dCap : Nat) (a : Addr) (sLen sCap k : Nat) (cs : List Value) (cur : Array Value) (t' : TypeId) (hb : Blk w g t' cur) (hk : Nat.min sLen dLen = k) (hl : cs.length = k * s)
    (hsrc : ∀ j v, cs[j]? = some v → w.cell? (a.add j) = some v) (hfit : o + cs.length ≤ cur.size) (h1 : ∀ v ∈ cs, v.oneCell' = true) :
    (Builtin.copy_ #[t, sT] ty #[.slice (some ⟨g, o, none⟩) dLen dCap, .slice (some a) sLen sCap]).run P w = .ok (goInt k) (w.setCells g o cs) := by
  obtain ⟨i, z, hi, hz, hz1, hz2, hzs⟩ := ET.info
  have hlo := run_loadCells_list (P := P) w a cs hsrc
  have hst := run_storeCells_cells (P := P) g o cs 0 w (fun j hj => by rw [Nat.add_zero, hb.cell, Array.getElem?_eq_getElem (by omega)]; rfl) (fun j hj => hb.frozen _) h1
  rw [hl] at hlo
  simp [Builtin.copy_, run_underlying ET.und, Builtin.lenOf, Builtin.firstCells, sizeOf, typeInfo, hi, hz1, hk, hlo, hst]
theorem wp_copy_s {o : Oper} {a : Act} {K : Act → World → Prop} {Q : Exit → Act → World → Prop} (w : World) (d s' : Operand) (t t' : TypeId)
    (ho : o.op = .call { callee := .builtin .copy, args := #[d, s'], argTypes := #[t, t'] }) (v u : Value) (hd : a.eval d = v) (hs : a.eval s' = u) {v' : Value} {w' : World}
    (hr : (Builtin.copy_ #[t, t'] o.type #[v, u]).run P w = .ok v' w') (h : K (a.put o.dst v') w') : o.wp P a w K Q := by
  unfold Oper.wp execOp
  simp only [ho, resolve, invoke, builtin, Sem.run_bind, Sem.run_pure, Result.andThen_ok, List.map_toArray, List.map_cons, List.map_nil, hd, hs, hr]
  exact h
theorem wpList_copy_s {ops : Array Oper} {rest : List Oper} {o : Oper} {a : Act} {Q : Exit → Act → World → Prop} (w : World) (hgd : o.guard = none) (d s' : Operand) (t t' : TypeId)
    (ho : o.op = .call { callee := .builtin .copy, args := #[d, s'], argTypes := #[t, t'] }) (v u : Value) (hd : a.eval d = v) (hs : a.eval s' = u) {v' : Value} {w' : World}
    (hr : (Builtin.copy_ #[t, t'] o.type #[v, u]).run P w = .ok v' w') (h : wpList P ops Q rest (a.put o.dst v') w') : wpList P ops Q (o :: rest) a w :=
  wpList_plain hgd fun _ hK => wp_copy_s w d s' t t' ho v u hd hs hr (hK _ _ h)
/-- append(x, make(.., k)...) where there is no room: a new row. -/
theorem run_appz (ET : Elem P t e s bytes) (w : World) (tn ty : TypeId) (htn : P.underlying tn = some (.int .i64)) (a : Addr) (n c k : Nat) (xs : List Value) (hsrc : Src w s (.slice (some a) n c) n xs) (hk : 0 < k) (hg : c < n + k) (h63 : n + k ≤ maxLen) (hby : (n + k) * bytes ≤ 140737488355328) :
    ∃ (cap : Nat) (w' : World) (cur : Array Value), (Builtin.append_ #[t, tn] ty #[.slice (some a) n c, .int .i64 k]).run P w = .ok (.slice (some ⟨w.heap.size, 0, none⟩) (n + k) cap) w' ∧ Blk w' w.heap.size e cur ∧ cur.toList.take (n * s) = xs ∧ cur.size = cap * s ∧ n + k ≤ cap ∧ cap ≤ maxLen ∧ Upd [] w w' := by
  obtain ⟨i, z, hi, hz, hz1, hz2, hzs⟩ := ET.info
  subst hz1 hz2
  obtain ⟨hl, A, c', e1, hc⟩ := hsrc
  injection e1 with e1 _ e2
  subst e1 e2
  have hold : (Builtin.firstCells i.size n (.slice (some a) n c)).run P w.drew = .ok xs.toArray w.drew :=
    run_firstCells_some w.drew i.size n a n c xs hl (fun j v hj => by
      obtain ⟨ad, e1, _, h⟩ := hc j v hj
      cases e1
      exact h)
  have h48 : k * i.bytes ≤ 281474976710656 := by
    have := Nat.mul_le_mul_right i.bytes (show k ≤ n + k by omega)
    omega
  have h63' : ((n + k : Nat) : Int) ≤ 9223372036854775807 := by simp only [maxLen] at h63; omega
  have hr := Lib.run_append_grow_zeros w t tn ty e i z .i64 .i64 ET.und htn hi hz (some a) n c xs hold k hk ET.pos hg h63' h48 (growslice_fits hg hby)
  have hge := grownCap_ge w (n + k) c e
  have hcm : grownCap w (n + k) c e ≤ maxLen := grownCap_le_maxLen w (n + k) c e h63
  refine ⟨_, _, _, hr, Blk.new w.drew _ _, ?_, ?_, hge, hcm, ((Upd.refl [] w).drew).alloc _⟩
  · simp only [Array.toList_append, List.append_assoc]
    rw [← hl]
    exact List.take_left
  · simp only [Array.size_append, List.size_toArray, size_zeroCells, hzs, hl, ← Nat.add_mul]
    congr 1
    omega
theorem wp_appz {o : Oper} {a : Act} {K : Act → World → Prop} {Q : Exit → Act → World → Prop} (w : World) (s' x' : Operand) (t tn : TypeId) (ho : o.op = .call { callee := .builtin .append, args := #[s', x'], argTypes := #[t, tn] })
    (v x : Value) (hs : a.eval s' = v) (hx : a.eval x' = x) {v' : Value} {w' : World} (hr : (Builtin.append_ #[t, tn] o.type #[v, x]).run P w = .ok v' w') (h : K (a.put o.dst v') w') : o.wp P a w K Q :=
  Lib.wp_append_run w s' x' t tn ho v x hs hx v' w' hr h
theorem wpList_appz {ops : Array Oper} {rest : List Oper} {o : Oper} {a : Act} {Q : Exit → Act → World → Prop} (w : World) (hgd : o.guard = none) (s' x' : Operand) (t tn : TypeId) (ho : o.op = .call { callee := .builtin .append, args := #[s', x'], argTypes := #[t, tn] })
    (v x : Value) (hs : a.eval s' = v) (hx : a.eval x' = x) {v' : Value} {w' : World} (hr : (Builtin.append_ #[t, tn] o.type #[v, x]).run P w = .ok v' w') (h : wpList P ops Q rest (a.put o.dst v') w') : wpList P ops Q (o :: rest) a w :=
  wpList_plain hgd fun _ hK => wp_appz w s' x' t tn ho v x hs hx hr (hK _ _ h)
/-- clear of a slice: zeros. -/
theorem run_clear_s (ET : Elem P t e s bytes) (w : World) (g o n c : Nat) (hn : 0 < n) (cur : Array Value) (t' : TypeId) (hb : Blk w g t' cur) (hfit : o + n * s ≤ cur.size) (h1 : ∀ z, ((P.info? e).bind (·.zero)) = some z → ∀ v ∈ z.cells, v.oneCell' = true) :
    ∃ cs : List Value, cs.length = n * s ∧ ∀ ty, (Builtin.clear_ #[t] ty #[.slice (some ⟨g, o, none⟩) n c]).run P w = .ok (.tuple #[]) (w.setCells g o cs) := by
  obtain ⟨i, z, hi, hz, hz1, hz2, hzs⟩ := ET.info
  have hlen : (Builtin.zeroCells z.cells n).toList.length = n * s := by rw [Array.length_toList, size_zeroCells, hzs]
  have h1' : ∀ v ∈ (Builtin.zeroCells z.cells n).toList, v.oneCell' = true := by
    intro v hv
    unfold Builtin.zeroCells at hv
    rw [Array.mem_toList_iff, Array.mem_map] at hv
    obtain ⟨j, hj, rfl⟩ := hv
    have hp := ET.pos
    refine h1 z (by rw [hi]; exact hz) _ ?_
    rw [getElem!_pos z.cells (j % z.cells.size) (Nat.mod_lt _ (by omega))]
    exact Array.getElem_mem _
  have hst := run_storeCells_cells (P := P) g o (Builtin.zeroCells z.cells n).toList 0 w (fun j hj => by rw [Nat.add_zero, hb.cell, Array.getElem?_eq_getElem (by omega)]; rfl) (fun j hj => hb.frozen _) h1'
  refine ⟨_, hlen, fun ty => ?_⟩
  cases n with
  | zero => omega
  | succ n =>
    rw [Nat.add_zero] at hst
    simp [Builtin.clear_, run_underlying ET.und, zeroValue, typeInfo, hi, hz, hst]
end
end Go.Proofs.YthdjbflbhgbckaaDoor

namespace Go.Proofs.YthdjbflbhgbckaaDoor
open Go.RowKit Stab Snap
attribute [local go_sem] litStep_value

def insL (acc : PL) (i : Nat) (x : Int × Int) : PL := acc.take i ++ x :: acc.drop i
theorem insL_len (acc : PL) (i : Nat) (x : Int × Int) : (insL acc i x).length = acc.length + 1 := by
  have h := congrArg List.length (List.take_append_drop i acc)
  unfold insL
  rw [List.length_append, List.length_cons]
  rw [List.length_append] at h
  omega
theorem ins_list1 {L T D X : List Value} {a d : Nat} (hT : L.take a = T) (hTl : T.length = a) (hX : X.length = 2) (hD : D.length = d) (hL : a + 2 + d ≤ L.length) :
    ((L.take (a + 2) ++ (D ++ L.drop (a + 2 + d))).take a ++ (X ++ (L.take (a + 2) ++ (D ++ L.drop (a + 2 + d))).drop (a + 2))).take (a + 2 + d) = T ++ (X ++ D) := by
  have h2 : (L.take (a + 2)).length = a + 2 := by rw [List.length_take]; omega
  have e1 : (L.take (a + 2) ++ (D ++ L.drop (a + 2 + d))).take a = T := by
    rw [List.take_append_of_le_length (by omega), List.take_take, Nat.min_eq_left (by omega), hT]
  have e2 : (L.take (a + 2) ++ (D ++ L.drop (a + 2 + d))).drop (a + 2) = D ++ L.drop (a + 2 + d) := by
    rw [List.drop_append, h2, List.drop_of_length_le (by omega), Nat.sub_self]
    rfl
  rw [e1, e2, ← List.append_assoc, ← List.append_assoc, List.take_append_of_le_length (by simp; omega), List.take_of_length_le (by simp; omega), List.append_assoc]
theorem ins_list2 {L T D X : List Value} {a d : Nat} (hT : L.take a = T) (hTl : T.length = a) (hX : X.length = 2) (hD : D.length = d) (hL : a + 2 + d ≤ L.length) :
    ((L.take a ++ (X ++ L.drop (a + 2))).take (a + 2) ++ (D ++ (L.take a ++ (X ++ L.drop (a + 2))).drop (a + 2 + d))).take (a + 2 + d) = T ++ (X ++ D) := by
  have e1 : (L.take a ++ (X ++ L.drop (a + 2))).take (a + 2) = T ++ X := by
    rw [hT, ← List.append_assoc, List.take_append_of_le_length (by simp; omega), List.take_of_length_le (by simp; omega)]
  rw [e1, ← List.append_assoc, List.take_append_of_le_length (by simp; omega), List.take_of_length_le (by simp; omega), List.append_assoc]
theorem flat_ins {acc : PL} {i : Nat} {x : Int × Int} : flat encPr (insL acc i x) = flat encPr (acc.take i) ++ ([.int .i64 x.1, .int .i64 x.2] ++ flat encPr (acc.drop i)) := by
  unfold insL
  rw [flat_append, show x :: acc.drop i = [x] ++ acc.drop i from rfl, flat_append, flat_one_]
  rfl
def InsPost (B : Nat) (v : Value) (acc : PL) (i : Nat) (x : Int × Int) (w : World) (e : Ending) (w' : World) : Prop := ∃ v', e = .returned v' ∧ Ow encPr 39 w' B v' (insL acc i x) ∧ Upd v.ownBlock.toList w w'
theorem hov_pair (w : World) (vb g : Nat) (x : Int × Int) (cur : Array Value) (hv : Blk w vb 39 #[.int .i64 x.1, .int .i64 x.2]) (hg : Blk w g 39 cur) (hne : vb ≠ g) (hs : cur.size ≠ 0) (o lb cb : Nat) :
    (callFunc 52 #[.slice (some ⟨vb, 0, none⟩) 1 1, .slice (some ⟨g, o, none⟩) lb cb]).run Tryd.prog w = .ok (.value (.bool false)) w := by
  obtain ⟨i0, z0, hi0, hz0, hs0, _⟩ := elem_pair.info
  have hz : ∀ w, (Go.sizeOf 39).run Tryd.prog w = .ok 2 w := fun w => by simp [Go.sizeOf, typeInfo, hi0, hs0]
  have sh : ∀ {k : Nat} {t : TypeId} {cs : Array Value}, Blk w k t cs → w.shape? k = some (t, cs.size) := fun {k t cs} h => by
    unfold Blk at h
    unfold World.shape?
    rw [h]
  rw [run_callFunc_extern Tryd.func52 (by kernel_rfl) (by kernel_rfl) (by kernel_rfl) (e := Extern.SlicesOverlaps.overlaps #[22, 22] #[4]) (by kernel_rfl),
    Lib.run_overlaps_apart w 22 4 39 Tryd.underlying22 2 hz ⟨vb, 0, none⟩ ⟨g, o, none⟩ 1 1 lb cb hne _ _ _ _ (sh hv) (sh hg) hs (hv.frozen 0) (hv.frozen _)]
  rfl
set_option maxRecDepth 100000 in
set_option maxHeartbeats 4000000 in
theorem insert_ok (B : Nat) (A : Option Addr) (n c : Nat) (acc : PL) (i vb : Nat) (x : Int × Int) (w : World) (h : Ow encPr 39 w B (.slice A n c) acc) (hn : acc.length = n) (hi : i ≤ n) (hl : n ≤ 900) (hv : Blk w vb 39 #[.int .i64 x.1, .int .i64 x.2]) (hne : (Value.slice A n c).ownBlock ≠ some vb) (hB : B ≤ w.heap.size) :
    Calls Tryd.prog 32 #[.slice A n c, .int .i64 i, .slice (some ⟨vb, 0, none⟩) 1 1] w fun e w' => InsPost B (.slice A n c) acc i x w e w' := by
  have HO := Lib.hid h
  have HN := Lib.hid hn
  have HV := Lib.hid hv
  have HNE := Lib.hid hne
  have HBB := Lib.hid hB
  have hcm : n ≤ c ∧ c ≤ maxLen := by
    obtain ⟨_, c', e, h1, h2⟩ := own_slice h
    injection e with _ _ e
    subst e
    rw [hn] at h1
    exact ⟨h1, h2⟩
  obtain ⟨hnc, hcm⟩ := hcm
  unfold maxLen at hcm
  have u1 : (0 : Int) ≤ (i : Int) := by omega
  have u2 : (i : Int) ≤ (n : Int) := by omega
  have u3 : (n : Int) ≤ (c : Int) := by omega
  clear h hn hv hne hB
  by_cases hin : i = n
  · subst hin
    have EN : Hid (insL acc i x = acc ++ [x]) := Lib.hid (by unfold insL; rw [List.take_of_length_le (by rw [HN.out]; exact Nat.le_refl _), List.drop_of_length_le (by rw [HN.out]; exact Nat.le_refl _)])
    have OA : Hid (w.ownsRow B 39 2 (.slice A i c) i (flat encPr acc)) := Lib.hid (by have := HO.out; unfold Ow at this; rw [HN.out] at this; exact this)
    by_cases hci : c = i
    · subst hci
      go_enter Tryd.func32, Tryd.ntmps32
      go_wp2_with (at_builtin; refine stopped ?_)
      refine Lib.hid ?_
      refine wpList_app _ (by rfl) (.tmp 23) (.tmp 24) _ (by rfl) elem_pair (.slice A c c) _ (by rfl) (by rfl) OA.out (.of_blk HV.out (m := 1) 1 rfl) (by intro u hu; simp at hu; rcases hu with rfl | rfl <;> rfl) (by simp only [maxLen]; omega) (by omega) HBB.out ?_
      intro v7 w7 o7 u7 b7
      have O7 : Hid (Ow encPr 39 w7 B v7 (acc ++ [x])) := Lib.hid (by unfold Ow; rw [List.length_append, HN.out, flat_append, flat_one_]; exact o7)
      have U7 := Lib.hid u7
      clear o7 u7 b7
      go_wp2_with fail
      go_ret
      exact ⟨_, rfl, by rw [EN.out]; exact O7.out, U7.out⟩
    · go_enter Tryd.func32, Tryd.ntmps32
      go_wp2_with (at_builtin; refine stopped ?_)
      refine Lib.hid ?_
      refine wpList_app _ (by rfl) (.tmp 23) (.tmp 24) _ (by rfl) elem_pair (.slice A i c) _ (by rfl) (by rfl) OA.out (.of_blk HV.out (m := 1) 1 rfl) (by intro u hu; simp at hu; rcases hu with rfl | rfl <;> rfl) (by simp only [maxLen]; omega) (by omega) HBB.out ?_
      intro v7 w7 o7 u7 b7
      have O7 : Hid (Ow encPr 39 w7 B v7 (acc ++ [x])) := Lib.hid (by unfold Ow; rw [List.length_append, HN.out, flat_append, flat_one_]; exact o7)
      have U7 := Lib.hid u7
      clear o7 u7 b7
      go_wp2_with fail
      go_ret
      exact ⟨_, rfl, by rw [EN.out]; exact O7.out, U7.out⟩
  · have hlt : i < n := by omega
    have d0 : ((i : Int) == (n : Int)) = false := by simp; omega
    have hci : ¬ c = i := by omega
    obtain ⟨g, cg, cur, e1, hBg, hgb, hnc', hcm', hcs, htk⟩ := own_form HO.out (by rw [HN.out]; omega)
    injection e1 with e1 en e1'
    subst e1 e1'
    have GB := Lib.hid hgb
    have GS := Lib.hid hcs
    have GT := Lib.hid htk
    have BG := Lib.hid hBg
    clear hgb hcs htk hBg hcm' hnc' en
    have OW : Hid (∀ W, Upd [] w W → ∀ j v, (flat encPr (acc.drop i))[j]? = some v → W.cell? ((⟨g, i * 2, none⟩ : Addr).add j) = some v) := Lib.hid (fun W hW j v hj => by
      rw [Addr.add_lit]
      have ho := HO.out.upd0 hW
      unfold Ow at ho
      rw [HN.out] at ho
      refine own_cell ho (i * 2 + j) v ?_
      rw [show flat encPr acc = flat encPr (acc.take i) ++ flat encPr (acc.drop i) by rw [← flat_append, List.take_append_drop], List.getElem?_append_right (by rw [flat_len, List.length_take, HN.out, Nat.min_eq_left hi]; show i * 2 ≤ _; omega), flat_len, List.length_take, HN.out, Nat.min_eq_left hi]
      rw [show i * 2 + j - i * (encPr).s = j by show i * 2 + j - i * 2 = j; omega]
      exact hj)
    have DL : Hid ((flat encPr (acc.drop i)).length = (n - i) * 2) := Lib.hid (by rw [flat_len, List.length_drop, HN.out]; rfl)
    have TK : Hid (cur.toList.take (i * 2) = flat encPr (acc.take i) ∧ (flat encPr (acc.take i)).length = i * 2) := Lib.hid (by
      have h1 : (flat encPr (acc.take i)).length = i * 2 := by rw [flat_len, List.length_take, HN.out, Nat.min_eq_left hi]; rfl
      refine ⟨?_, h1⟩
      have h2 := GT.out
      rw [HN.out] at h2
      have h3 : cur.toList.take (i * 2) = (cur.toList.take (n * (encPr).s)).take (i * 2) := by
        rw [List.take_take, Nat.min_eq_left (by show i * 2 ≤ n * 2; omega)]
      rw [h3, h2, show flat encPr acc = flat encPr (acc.take i) ++ flat encPr (acc.drop i) by rw [← flat_append, List.take_append_drop], List.take_append_of_le_length (by omega), List.take_of_length_le (by omega)])
    by_cases hroom : n + 1 ≤ c
    · have d1 : decide ((c : Int) < (n : Int) + 1) = false := by simp; omega
      have u4 : (n : Int) + 1 ≤ (c : Int) := by omega
      have hov := fun o lb cb => hov_pair w vb g x cur HV.out GB.out (fun e => HNE.out (by rw [e]; rfl)) (by rw [GS.out]; show c * 2 ≠ 0; omega) o lb cb
      obtain ⟨i1, hi1⟩ : ∃ i1, i + 1 = i1 := ⟨_, rfl⟩
      have t1 : (i : Int) + 1 = (i1 : Int) := by omega
      have t1w : IntKind.i64.wrap (i1 : Int) = (i1 : Int) := by rw [IntKind.wrap_i64]; omega
      have u5 : (i1 : Int) ≤ (n : Int) + 1 := by omega
      have u6 : (0 : Int) ≤ (i1 : Int) := by omega
      have u7 : (i : Int) ≤ (n : Int) + 1 := by omega
      have hci2 : ¬ c = i1 := by omega
      have HI1 := Lib.hid hi1
      clear hi1
      go_enter Tryd.func32, Tryd.ntmps32
      go_wp2_with (simp only [hov])
      have CZ : Hid (cur.size = c * 2) := GS
      have hk1 : Nat.min (n + 1 - i) (n + 1 - i1) = n - i := by have := HI1.out; simp only [Nat.min_def]; split <;> omega
      have hk2 : Nat.min 1 (n + 1 - i) = 1 := by simp only [Nat.min_def]; split <;> omega
      refine wp_invNT 8 [] [] (by kernel_rfl) (by simp) (by kernel_rfl) (by kernel_rfl) trivial ?_
      simp only [List.take_succ_cons, List.take_zero, List.drop_succ_cons, List.drop_zero]
      with_reducible apply wpV_light
      · simp only [lightOp]
      · intro W hU hF
        clear hU hF
        go_simp
        exact rfl
      simp only [Act.put, List.setIfInBounds_toArray, List.set_cons_zero, List.set_cons_succ]
      with_reducible apply wpV_light
      · simp only [lightOp]
      · intro W hU hF
        clear hU hF
        go_simp
        exact rfl
      simp only [Act.put, List.setIfInBounds_toArray, List.set_cons_zero, List.set_cons_succ]
      with_reducible apply wpV_light
      · simp only [lightOp]
      · intro W hU hF
        clear hU hF
        go_simp
        exact rfl
      simp only [Act.put, List.setIfInBounds_toArray, List.set_cons_zero, List.set_cons_succ]
      with_reducible apply wpV_light
      · simp only [lightOp]
      · intro W hU hF
        clear hU hF
        go_simp
        exact rfl
      simp only [Act.put, List.setIfInBounds_toArray, List.set_cons_zero, List.set_cons_succ]
      with_reducible apply wpV_light
      · simp only [lightOp]
      · intro W hU hF
        clear hU hF
        go_simp
        exact rfl
      simp only [Act.put, List.setIfInBounds_toArray, List.set_cons_zero, List.set_cons_succ]
      with_reducible apply wpV_light
      · simp only [lightOp]
      · intro W hU hF
        clear hU hF
        go_simp
        exact rfl
      simp only [Act.put, List.setIfInBounds_toArray, List.set_cons_zero, List.set_cons_succ]
      with_reducible apply wpV_light
      · simp only [lightOp]
      · intro W hU hF
        clear hU hF
        go_simp
        exact rfl
      simp only [Act.put, List.setIfInBounds_toArray, List.set_cons_zero, List.set_cons_succ]
      with_reducible apply wpV_light
      · simp only [lightOp]
      · intro W hU hF
        clear hU hF
        go_simp
        exact rfl
      simp only [Act.put, List.setIfInBounds_toArray, List.set_cons_zero, List.set_cons_succ]
      refine wpV_end (fun W hU _ _ => ?_)
      have U6 : Hid (Upd [] w W) := Lib.hid ((Upd.refl [] w).drew.trans hU)
      clear hU
      refine wpT_op (by rfl) (fun K hK => ?_)
      have GB6 := Lib.hid (GB.out.upd U6.out (by simp))
      refine wp_copy_s W (.tmp 73) (.tmp 76) _ _ (by rfl) (.slice (some ⟨g, i1 * 2, none⟩) (n + 1 - i1) (c - i1)) (.slice (some ⟨g, i * 2, none⟩) (n + 1 - i) (c - i)) (by rfl) (by rfl) (run_copy_s elem_pair W _ _ g (i1 * 2) _ _ ⟨g, i * 2, none⟩ _ _ (n - i) (flat encPr (acc.drop i)) cur _ GB6.out hk1 DL.out (OW.out W U6.out) (by have := HI1.out; rw [DL.out, CZ.out]; omega) flat_cells) ?_
      have GB7 := Lib.hid (GB6.out.setCells (flat encPr (acc.drop i)) (i1 * 2))
      have U7 : Hid (Upd [g] w (W.setCells g (i1 * 2) (flat encPr (acc.drop i)))) := Lib.hid (Upd.setCells _ _ _ (U6.out.mono (by simp)))
      have VB7 : Hid (Blk (W.setCells g (i1 * 2) (flat encPr (acc.drop i))) vb 39 #[.int .i64 x.1, .int .i64 x.2]) := Lib.hid (HV.out.upd U7.out (fun hm => HNE.out (by simp at hm; subst hm; rfl)))
      generalize (W.setCells g (i1 * 2) (flat encPr (acc.drop i))) = W7 at *
      refine hK.out _ _ ?_
      clear hK K
      simp only [Act.put, List.setIfInBounds_toArray, List.set_cons_zero, List.set_cons_succ]
      refine wpT_end ?_
      obtain ⟨cur7, hc7⟩ : ∃ z, spl (flat encPr (acc.drop i)) cur (i1 * 2) = z := ⟨_, rfl⟩
      have HC7 := Lib.hid hc7
      rw [hc7] at GB7
      have CZ7 : Hid (cur7.size = c * 2) := Lib.hid (by rw [← hc7, spl_size, CZ.out])
      have hcp : ∀ ty, (Builtin.copy_ #[22, 22] ty #[.slice (some ⟨g, i * 2, none⟩) (n + 1 - i) (c - i), .slice (some ⟨vb, 0, none⟩) 1 1]).run Tryd.prog W7 = .ok (goInt 1) (W7.setCells g (i * 2) [.int .i64 x.1, .int .i64 x.2]) := fun ty =>
        run_copy_s elem_pair W7 _ _ g (i * 2) _ _ ⟨vb, 0, none⟩ _ _ 1 [.int .i64 x.1, .int .i64 x.2] cur7 _ GB7.out hk2 rfl (fun j v hj => by rw [Addr.add_lit, Nat.zero_add, VB7.out.cell, ← Array.getElem?_toList]; exact hj) (by rw [CZ7.out]; simp; omega) (by intro u hu; simp at hu; rcases hu with rfl | rfl <;> rfl)
      clear hc7
      go_wp2_with (refine wpList_copy_s W7 rfl (.tmp 80) (.tmp 81) 22 22 rfl _ _ rfl rfl (hcp _) ?_)
      have GB8 := Lib.hid (GB7.out.setCells [.int .i64 x.1, .int .i64 x.2] (i * 2))
      have U8 : Hid (Upd [g] w (W7.setCells g (i * 2) [.int .i64 x.1, .int .i64 x.2])) := Lib.hid (Upd.setCells _ _ _ U7.out)
      generalize (W7.setCells g (i * 2) [.int .i64 x.1, .int .i64 x.2]) = W8 at *
      clear hcp
      go_wp2_with fail
      go_ret
      refine ⟨.slice (some ⟨g, 0, none⟩) (n + 1) c, rfl, ⟨by rw [flat_len], .inr ⟨g, c, _, by rw [insL_len, HN.out], BG.out, GB8.out, by rw [insL_len, HN.out]; exact hroom, by unfold maxLen; omega, by rw [spl_size, CZ7.out]; rfl, ?_⟩⟩, U8.out⟩
      rw [spl_list _ _ _ (by rw [CZ7.out]; simp; omega), ← HC7.out, spl_list _ _ _ (by have := HI1.out; rw [DL.out, CZ.out]; omega), flat_ins, insL_len, HN.out]
      have hii := HI1.out
      have hdl := DL.out
      have hcz := CZ.out
      have hx := ins_list1 (L := cur.toList) (T := flat encPr (acc.take i)) (D := flat encPr (acc.drop i)) (X := [.int .i64 x.1, .int .i64 x.2]) (a := i * 2) (d := (n - i) * 2) TK.out.1 TK.out.2 rfl DL.out (by rw [Array.length_toList, CZ.out]; omega)
      rw [show (n + 1) * (encPr).s = i * 2 + 2 + (n - i) * 2 by show (n + 1) * 2 = _; omega, show i1 * 2 = i * 2 + 2 by omega, DL.out]
      exact hx
    · have d1 : decide ((c : Int) < (n : Int) + 1) = true := by simp; omega
      obtain ⟨k, hk⟩ : ∃ k, n + 1 - i = k := ⟨_, rfl⟩
      have hik : i + k = n + 1 := by omega
      have t0 : (n : Int) + 1 - (i : Int) = (k : Int) := by omega
      have t0w : IntKind.i64.wrap (k : Int) = (k : Int) := by rw [IntKind.wrap_i64]; omega
      have SR : Src w 2 (.slice (some ⟨g, 0, none⟩) i c) i (flat encPr (acc.take i)) := by
        have := HO.out.rd.take i (by rw [HN.out]; exact hi) c
        unfold Rd at this
        rw [List.length_take, HN.out, Nat.min_eq_left hi] at this
        exact this
      obtain ⟨cap, w1, cur1, hap, hb1, htk1, hcs1, hnc1, hcm1, u1'⟩ := run_appz elem_pair w 3 22 Tryd.underlying3 ⟨g, 0, none⟩ i c k _ SR (by omega) (by omega) (by unfold maxLen; omega) (by omega)
      rw [hik] at hap hnc1
      obtain ⟨hb, hhb⟩ : ∃ hb, w.heap.size = hb := ⟨_, rfl⟩
      rw [hhb] at hap hb1
      have GB1 := Lib.hid hb1
      have CZ1 := Lib.hid hcs1
      have TK1 : Hid (cur1.toList.take (i * 2) = flat encPr (acc.take i)) := Lib.hid htk1
      have U1 := Lib.hid u1'
      have HBE := Lib.hid hhb
      have CM1 := Lib.hid hcm1
      obtain ⟨i1, hi1⟩ : ∃ i1, i + 1 = i1 := ⟨_, rfl⟩
      have t1 : (i : Int) + 1 = (i1 : Int) := by omega
      have t1w : IntKind.i64.wrap (i1 : Int) = (i1 : Int) := by rw [IntKind.wrap_i64]; omega
      have u4 : (i : Int) ≤ (c : Int) := by omega
      have u5 : (i1 : Int) ≤ (n : Int) + 1 := by omega
      have u6 : (0 : Int) ≤ (i1 : Int) := by omega
      have u7 : (i : Int) ≤ (n : Int) + 1 := by omega
      have u8 : (n : Int) + 1 ≤ (cap : Int) := by omega
      have hci2 : ¬ cap = i := by omega
      have hci3 : ¬ cap = i1 := by omega
      have HI1 := Lib.hid hi1
      have hk2 : Nat.min 1 (n + 1 - i) = 1 := by simp only [Nat.min_def]; split <;> omega
      have hk1 : Nat.min (n - i) (n + 1 - i1) = n - i := by simp only [Nat.min_def]; split <;> omega
      have VB1 := Lib.hid (HV.out.upd U1.out (by simp))
      have hcp : ∀ ty, (Builtin.copy_ #[22, 22] ty #[.slice (some ⟨hb, i * 2, none⟩) (n + 1 - i) (cap - i), .slice (some ⟨vb, 0, none⟩) 1 1]).run Tryd.prog w1 = .ok (goInt 1) (w1.setCells hb (i * 2) [.int .i64 x.1, .int .i64 x.2]) := fun ty =>
        run_copy_s elem_pair w1 _ _ hb (i * 2) _ _ ⟨vb, 0, none⟩ _ _ 1 [.int .i64 x.1, .int .i64 x.2] cur1 _ GB1.out hk2 rfl (fun j v hj => by rw [Addr.add_lit, Nat.zero_add, VB1.out.cell, ← Array.getElem?_toList]; exact hj) (by rw [CZ1.out]; simp; omega) (by intro u hu; simp at hu; rcases hu with rfl | rfl <;> rfl)
      clear hi1 hb1 htk1 hcs1 hcm1 u1' SR hk hhb hik
      go_enter Tryd.func32, Tryd.ntmps32
      go_wp2_with (refine wpList_appz w rfl (.tmp 34) (.tmp 39) 22 3 rfl _ _ rfl rfl hap ?_)
      go_wp2_with (refine wpList_copy_s w1 rfl (.tmp 43) (.tmp 44) 22 22 rfl _ _ rfl rfl (hcp _) ?_)
      have GB8 := Lib.hid (GB1.out.setCells [.int .i64 x.1, .int .i64 x.2] (i * 2))
      have U8 : Hid (Upd [] w (w1.setCells hb (i * 2) [.int .i64 x.1, .int .i64 x.2])) := Lib.hid (U1.out.trans' (Upd.setCells _ _ _ (.refl [hb] w1)) (fun y hy => .inr (by have := HBE.out; simp at hy; omega)))
      obtain ⟨cur8, hc8⟩ : ∃ z, spl [.int .i64 x.1, .int .i64 x.2] cur1 (i * 2) = z := ⟨_, rfl⟩
      have HC8 := Lib.hid hc8
      rw [hc8] at GB8
      have CZ8 : Hid (cur8.size = cap * 2) := Lib.hid (by rw [← hc8, spl_size, CZ1.out])
      generalize (w1.setCells hb (i * 2) [.int .i64 x.1, .int .i64 x.2]) = W8 at *
      clear hcp hap hc8
      go_wp2_with fail
      refine wp_invNT 8 [] [] (by kernel_rfl) (by simp) (by kernel_rfl) (by kernel_rfl) trivial ?_
      simp only [List.take_succ_cons, List.take_zero, List.drop_succ_cons, List.drop_zero]
      with_reducible apply wpV_light
      · simp only [lightOp]
      · intro W hU hF
        clear hU hF
        go_simp
        exact rfl
      simp only [Act.put, List.setIfInBounds_toArray, List.set_cons_zero, List.set_cons_succ]
      with_reducible apply wpV_light
      · simp only [lightOp]
      · intro W hU hF
        clear hU hF
        go_simp
        exact rfl
      simp only [Act.put, List.setIfInBounds_toArray, List.set_cons_zero, List.set_cons_succ]
      with_reducible apply wpV_light
      · simp only [lightOp]
      · intro W hU hF
        clear hU hF
        go_simp
        exact rfl
      simp only [Act.put, List.setIfInBounds_toArray, List.set_cons_zero, List.set_cons_succ]
      with_reducible apply wpV_light
      · simp only [lightOp]
      · intro W hU hF
        clear hU hF
        go_simp
        exact rfl
      simp only [Act.put, List.setIfInBounds_toArray, List.set_cons_zero, List.set_cons_succ]
      with_reducible apply wpV_light
      · simp only [lightOp]
      · intro W hU hF
        clear hU hF
        go_simp
        exact rfl
      simp only [Act.put, List.setIfInBounds_toArray, List.set_cons_zero, List.set_cons_succ]
      with_reducible apply wpV_light
      · simp only [lightOp]
      · intro W hU hF
        clear hU hF
        go_simp
        exact rfl
      simp only [Act.put, List.setIfInBounds_toArray, List.set_cons_zero, List.set_cons_succ]
      with_reducible apply wpV_light
      · simp only [lightOp]
      · intro W hU hF
        clear hU hF
        go_simp
        exact rfl
      simp only [Act.put, List.setIfInBounds_toArray, List.set_cons_zero, List.set_cons_succ]
      with_reducible apply wpV_light
      · simp only [lightOp]
      · intro W hU hF
        clear hU hF
        go_simp
        exact rfl
      simp only [Act.put, List.setIfInBounds_toArray, List.set_cons_zero, List.set_cons_succ]
      refine wpV_end (fun W hU _ _ => ?_)
      have U9 : Hid (Upd [] W8 W) := Lib.hid ((Upd.refl [] W8).drew.trans hU)
      clear hU
      refine wpT_op (by rfl) (fun K hK => ?_)
      have GB9 := Lib.hid (GB8.out.upd U9.out (by simp))
      refine wp_copy_s W (.tmp 50) (.tmp 53) _ _ (by rfl) (.slice (some ⟨hb, i1 * 2, none⟩) (n + 1 - i1) (cap - i1)) (.slice (some ⟨g, i * 2, none⟩) (n - i) (c - i)) (by rfl) (by rfl) (run_copy_s elem_pair W _ _ hb (i1 * 2) _ _ ⟨g, i * 2, none⟩ _ _ (n - i) (flat encPr (acc.drop i)) cur8 _ GB9.out hk1 DL.out (OW.out W (U8.out.trans U9.out)) (by have := HI1.out; rw [DL.out, CZ8.out]; omega) flat_cells) ?_
      have GB10 := Lib.hid (GB9.out.setCells (flat encPr (acc.drop i)) (i1 * 2))
      have U10 : Hid (Upd [] w (W.setCells hb (i1 * 2) (flat encPr (acc.drop i)))) := Lib.hid ((U8.out.trans U9.out).trans' (Upd.setCells _ _ _ (.refl [hb] W)) (fun y hy => .inr (by have := HBE.out; simp at hy; omega)))
      generalize (W.setCells hb (i1 * 2) (flat encPr (acc.drop i))) = W10 at *
      refine hK.out _ _ ?_
      clear hK K
      simp only [Act.put, List.setIfInBounds_toArray, List.set_cons_zero, List.set_cons_succ]
      refine wpT_end ?_
      go_wp2_with fail
      go_ret
      refine ⟨.slice (some ⟨hb, 0, none⟩) (n + 1) cap, rfl, ⟨by rw [flat_len], .inr ⟨hb, cap, _, by rw [insL_len, HN.out], by rw [← HBE.out]; exact HBB.out, GB10.out, by rw [insL_len, HN.out]; exact hnc1, CM1.out, by rw [spl_size, CZ8.out]; rfl, ?_⟩⟩, U10.out.mono (by simp)⟩
      rw [spl_list _ _ _ (by have := HI1.out; rw [DL.out, CZ8.out]; omega), ← HC8.out, spl_list _ _ _ (by rw [CZ1.out]; simp; omega), flat_ins, insL_len, HN.out]
      have hii := HI1.out
      have hx := ins_list2 (L := cur1.toList) (T := flat encPr (acc.take i)) (D := flat encPr (acc.drop i)) (X := [.int .i64 x.1, .int .i64 x.2]) (a := i * 2) (d := (n - i) * 2) TK1.out TK.out.2 rfl DL.out (by rw [Array.length_toList, CZ1.out]; omega)
      rw [show (n + 1) * (encPr).s = i * 2 + 2 + (n - i) * 2 by show (n + 1) * 2 = _; omega, show i1 * 2 = i * 2 + 2 by omega, DL.out]
      exact hx
end Go.Proofs.YthdjbflbhgbckaaDoor

namespace Go.Proofs.YthdjbflbhgbckaaDoor
open Go.RowKit Stab Snap
attribute [local go_sem] litStep_value

def delL (acc : PL) (i : Nat) : PL := acc.take i ++ acc.drop (i + 1)
theorem delL_len {acc : PL} {i n : Nat} (hn : acc.length = n) (hi : i < n) : (delL acc i).length = n - 1 := by
  unfold delL
  rw [List.length_append, List.length_take, List.length_drop]
  omega
theorem del_list {L T D Z : List Value} {a d : Nat} (hT : L.take a = T) (hTl : T.length = a) (hD : D.length = d) (hL : a + d + 2 ≤ L.length) (hZ : Z.length = 2) :
    ((T ++ D ++ L.drop (a + d)).take (a + d) ++ (Z ++ (T ++ D ++ L.drop (a + d)).drop (a + d + 2))).take (a + d) = T ++ D := by
  have h1 : (T ++ D).length = a + d := by simp; omega
  rw [List.take_append_of_le_length (l₁ := (T ++ D ++ L.drop (a + d)).take (a + d)) (by rw [List.length_take, List.length_append, h1]; omega), List.take_take, Nat.min_self, List.take_append_of_le_length (by omega), List.take_of_length_le (by omega)]
def DelPost (B g n c : Nat) (acc : PL) (i : Nat) (w : World) (e : Ending) (w' : World) : Prop := e = .returned (.slice (some ⟨g, 0, none⟩) (n - 1) c) ∧ Ow encPr 39 w' B (.slice (some ⟨g, 0, none⟩) (n - 1) c) (delL acc i) ∧ Upd [g] w w'
set_option maxRecDepth 100000 in
set_option maxHeartbeats 4000000 in
theorem delete_ok (B g n c : Nat) (acc : PL) (i j : Nat) (w : World) (h : Ow encPr 39 w B (.slice (some ⟨g, 0, none⟩) n c) acc) (hn : acc.length = n) (hj : i + 1 = j) (hi : j ≤ n) (hl : n ≤ 1000) :
    Calls Tryd.prog 33 #[.slice (some ⟨g, 0, none⟩) n c, .int .i64 i, .int .i64 j] w fun e w' => DelPost B g n c acc i w e w' := by
  have HO := Lib.hid h
  have HN := Lib.hid hn
  have HJ := Lib.hid hj
  obtain ⟨g', c', cur, e1, hBg, hgb, hnc, hcm, hcs, htk⟩ := own_form h (by omega)
  injection e1 with e1 en e1'
  injection e1 with e1
  injection e1 with e1
  subst e1 e1'
  rw [hn] at hnc htk
  have GB := Lib.hid hgb
  have CZ : Hid (cur.size = c * 2) := Lib.hid hcs
  have GT : Hid (cur.toList.take (n * 2) = flat encPr acc) := Lib.hid htk
  have BG := Lib.hid hBg
  have hcm2 : c ≤ 9223372036854775807 := by unfold maxLen at hcm; omega
  have u1 : (0 : Int) ≤ (i : Int) := by omega
  have u2 : (i : Int) ≤ (j : Int) := by omega
  have u3 : (j : Int) ≤ (n : Int) := by omega
  have u4 : (n : Int) ≤ (c : Int) := by omega
  have u5 : (0 : Int) ≤ (j : Int) := by omega
  have u6 : (i : Int) ≤ (c : Int) := by omega
  have d0 : ((i : Int) == (j : Int)) = false := by simp; omega
  have hni : ¬ n = i := by omega
  have hci : ¬ c = i := by omega
  obtain ⟨m, hm⟩ : ∃ m, n - j = m := ⟨_, rfl⟩
  obtain ⟨n1, hn1⟩ : ∃ n1, n - 1 = n1 := ⟨_, rfl⟩
  have him : i + m = n1 := by omega
  have hn1n : n - n1 = 1 := by omega
  have u7 : (n1 : Int) ≤ (n : Int) := by omega
  have u8 : (0 : Int) ≤ (n1 : Int) := by omega
  have hcn1 : ¬ c = n1 := by omega
  have TL : Hid ((flat encPr (acc.take i)).length = i * 2) := Lib.hid (by rw [flat_len, List.length_take, HN.out, Nat.min_eq_left (by omega)]; rfl)
  have DL : Hid ((flat encPr (acc.drop j)).length = m * 2) := Lib.hid (by rw [flat_len, List.length_drop, HN.out, hm]; rfl)
  have TK : Hid (cur.toList.take (i * 2) = flat encPr (acc.take i)) := Lib.hid (by
    have h3 : cur.toList.take (i * 2) = (cur.toList.take (n * 2)).take (i * 2) := by
      rw [List.take_take, Nat.min_eq_left (by omega)]
    rw [h3, GT.out, show flat encPr acc = flat encPr (acc.take i) ++ flat encPr (acc.drop i) by rw [← flat_append, List.take_append_drop], List.take_append_of_le_length (by rw [TL.out]; exact Nat.le_refl _), List.take_of_length_le (by rw [TL.out]; exact Nat.le_refl _)])
  have OW : Hid (∀ W, Upd [] w W → ∀ k v, (flat encPr (acc.drop j))[k]? = some v → W.cell? ⟨g, j * 2 + k, none⟩ = some v) := Lib.hid (fun W hW k v hk => by
    have ho := HO.out.upd0 hW
    unfold Ow at ho
    rw [HN.out] at ho
    refine own_cell ho (j * 2 + k) v ?_
    rw [show flat encPr acc = flat encPr (acc.take j) ++ flat encPr (acc.drop j) by rw [← flat_append, List.take_append_drop], List.getElem?_append_right (by rw [flat_len, List.length_take, HN.out, Nat.min_eq_left hi]; show j * 2 ≤ _; omega), flat_len, List.length_take, HN.out, Nat.min_eq_left hi]
    rw [show j * 2 + k - j * (encPr).s = k by show j * 2 + k - j * 2 = k; omega]
    exact hk)
  have NS : Hid (c = j → flat encPr (acc.drop j) = []) := Lib.hid (fun e => by
    have : m = 0 := by omega
    refine List.eq_nil_of_length_eq_zero ?_
    rw [DL.out, this])
  have HM := Lib.hid hm
  have HN1 := Lib.hid hn1
  unfold DelPost
  rw [hn1]
  clear h hn hj hgb hcs htk hBg hcm en hnc hm hn1
  by_cases hcj : c = j
  · subst hcj
    have SR : Hid (∀ W, Upd [] w W → ∀ k v, (flat encPr (acc.drop c))[k]? = some v → W.cell? ((⟨g, 0, none⟩ : Addr).add k) = some v) := Lib.hid (fun W hW k v hk => by
      rw [NS.out rfl] at hk
      cases hk)
    go_enter Tryd.func33, Tryd.ntmps33
    go_wp2_with fail
    refine wp_invNT 6 [] [] (by kernel_rfl) (by simp) (by kernel_rfl) (by kernel_rfl) trivial ?_
    simp only [List.take_succ_cons, List.take_zero, List.drop_succ_cons, List.drop_zero]
    with_reducible apply wpV_light
    · simp only [lightOp]
    · intro W hU hF
      clear hU hF
      go_simp
      exact rfl
    simp only [Act.put, List.setIfInBounds_toArray, List.set_cons_zero, List.set_cons_succ]
    with_reducible apply wpV_light
    · simp only [lightOp]
    · intro W hU hF
      clear hU hF
      go_simp
      exact rfl
    simp only [Act.put, List.setIfInBounds_toArray, List.set_cons_zero, List.set_cons_succ]
    with_reducible apply wpV_light
    · simp only [lightOp]
    · intro W hU hF
      clear hU hF
      go_simp
      exact rfl
    simp only [Act.put, List.setIfInBounds_toArray, List.set_cons_zero, List.set_cons_succ]
    with_reducible apply wpV_light
    · simp only [lightOp]
    · intro W hU hF
      clear hU hF
      go_simp
      exact rfl
    simp only [Act.put, List.setIfInBounds_toArray, List.set_cons_zero, List.set_cons_succ]
    with_reducible apply wpV_light
    · simp only [lightOp]
    · intro W hU hF
      clear hU hF
      go_simp
      exact rfl
    simp only [Act.put, List.setIfInBounds_toArray, List.set_cons_zero, List.set_cons_succ]
    with_reducible apply wpV_light
    · simp only [lightOp]
    · intro W hU hF
      clear hU hF
      go_simp
      exact rfl
    simp only [Act.put, List.setIfInBounds_toArray, List.set_cons_zero, List.set_cons_succ]
    refine wpV_end (fun W hU _ _ => ?_)
    have U6 : Hid (Upd [] w W) := Lib.hid ((Upd.refl [] w).drew.trans hU)
    clear hU
    refine wpT_op (by rfl) (fun K hK => ?_)
    have GB6 := Lib.hid (GB.out.upd U6.out (by simp))
    obtain ⟨i0, z0, hi0, hz0, hs0, hb0, _⟩ := elem_pair.info
    refine Lib.wp_append_run W (.tmp 22) (.tmp 25) 22 22 (by rfl) (.slice (some ⟨g, 0, none⟩) i c) (.slice (some ⟨g, 0, none⟩) (n - c) 0) (by rfl) (by rfl) _ _ (run_append_room W 22 _ 39 i0 Tryd.underlying22 hi0 g i c cur GB6.out ⟨g, 0, none⟩ (n - c) 0 (flat encPr (acc.drop c)) (by rw [DL.out, HM.out, hs0]) (SR.out W U6.out) flat_cells (by have := HM.out; omega) (by rw [DL.out, hs0, CZ.out]; omega)) ?_
    rw [HM.out, him, hs0, TK.out, DL.out]
    obtain ⟨cur7, hc7⟩ : ∃ z, (flat encPr (acc.take i) ++ flat encPr (acc.drop c) ++ cur.toList.drop (i * 2 + m * 2)).toArray = z := ⟨_, rfl⟩
    rw [hc7]
    have HC7 : Hid (cur7.toList = flat encPr (acc.take i) ++ flat encPr (acc.drop c) ++ cur.toList.drop (i * 2 + m * 2)) := Lib.hid (by rw [← hc7])
    have CZ7 : Hid (cur7.size = c * 2) := Lib.hid (by
      rw [← Array.length_toList, HC7.out, List.length_append, List.length_append, TL.out, DL.out, List.length_drop, Array.length_toList, CZ.out]
      have := HJ.out
      have := HM.out
      omega)
    have GB7 : Hid (Blk (W.setRow g cur7) g 39 cur7) := Lib.hid (setRow_heap W g cur cur7 _ _ GB6.out)
    have U7 : Hid (Upd [g] w (W.setRow g cur7)) := Lib.hid ((U6.out.mono (by simp)).trans ⟨rfl, rfl, rfl, by simp [World.setRow], fun k hk hn => setRow_other W g k cur7 (by simpa using hn)⟩)
    generalize (W.setRow g cur7) = W7 at *
    refine hK.out _ _ ?_
    clear hK K hc7
    simp only [Act.put, List.setIfInBounds_toArray, List.set_cons_zero, List.set_cons_succ]
    refine wpT_op (by rfl) (fun K hK => ?_)
    go_wp2_with fail
    refine hK.out _ _ ?_
    clear hK K
    try simp only [Act.put, List.setIfInBounds_toArray, List.set_cons_zero, List.set_cons_succ]
    refine wpT_end ?_
    have hz : (Tryd.prog.info? 39).bind (·.zero) = some (.agg #[.int .i64 0, .int .i64 0]) := by kernel_rfl
    have hcl0 := run_clear_s elem_pair W7 g (n1 * 2) 1 (c - n1) (by omega) cur7 _ GB7.out (by rw [CZ7.out]; omega) (fun z hz' v hv => by
      rw [hz] at hz'
      injection hz' with hz'
      subst hz'
      simp [Value.cells] at hv
      subst hv
      rfl)
    obtain ⟨Z, hZl, hcl⟩ := hcl0
    clear hz
    go_wp2_with fail
    go_ret
    have GB8 := GB7.out.setCells Z (n1 * 2)
    have e8 : (spl Z cur7 (n1 * 2)).toList.take (n1 * 2) = flat encPr (delL acc i) := by
      have := HN1.out
      have := HM.out
      rw [spl_list _ _ _ (by rw [CZ7.out, hZl]; omega), HC7.out, hZl, show n1 * 2 = i * 2 + m * 2 by omega]
      unfold delL
      rw [flat_append, show i + 1 = c from HJ.out]
      exact del_list TK.out TL.out DL.out (by rw [Array.length_toList, CZ.out]; omega) hZl
    exact ⟨rfl, ⟨by rw [flat_len], .inr ⟨g, c, _, by rw [delL_len HN.out (by have := HJ.out; omega), HN1.out], BG.out, GB8, by rw [delL_len HN.out (by have := HJ.out; omega)]; omega, by unfold maxLen; omega, by rw [spl_size, CZ7.out]; rfl, by rw [delL_len HN.out (by have := HJ.out; omega), HN1.out]; exact e8⟩⟩, Upd.setCells _ _ _ U7.out⟩
  · have SR : Hid (∀ W, Upd [] w W → ∀ k v, (flat encPr (acc.drop j))[k]? = some v → W.cell? ((⟨g, j * 2, none⟩ : Addr).add k) = some v) := Lib.hid (fun W hW k v hk => by
      rw [Addr.add_lit]
      exact OW.out W hW k v hk)
    go_enter Tryd.func33, Tryd.ntmps33
    go_wp2_with fail
    refine wp_invNT 6 [] [] (by kernel_rfl) (by simp) (by kernel_rfl) (by kernel_rfl) trivial ?_
    simp only [List.take_succ_cons, List.take_zero, List.drop_succ_cons, List.drop_zero]
    with_reducible apply wpV_light
    · simp only [lightOp]
    · intro W hU hF
      clear hU hF
      go_simp
      exact rfl
    simp only [Act.put, List.setIfInBounds_toArray, List.set_cons_zero, List.set_cons_succ]
    with_reducible apply wpV_light
    · simp only [lightOp]
    · intro W hU hF
      clear hU hF
      go_simp
      exact rfl
    simp only [Act.put, List.setIfInBounds_toArray, List.set_cons_zero, List.set_cons_succ]
    with_reducible apply wpV_light
    · simp only [lightOp]
    · intro W hU hF
      clear hU hF
      go_simp
      exact rfl
    simp only [Act.put, List.setIfInBounds_toArray, List.set_cons_zero, List.set_cons_succ]
    with_reducible apply wpV_light
    · simp only [lightOp]
    · intro W hU hF
      clear hU hF
      go_simp
      exact rfl
    simp only [Act.put, List.setIfInBounds_toArray, List.set_cons_zero, List.set_cons_succ]
    with_reducible apply wpV_light
    · simp only [lightOp]
    · intro W hU hF
      clear hU hF
      go_simp
      exact rfl
    simp only [Act.put, List.setIfInBounds_toArray, List.set_cons_zero, List.set_cons_succ]
    with_reducible apply wpV_light
    · simp only [lightOp]
    · intro W hU hF
      clear hU hF
      go_simp
      exact rfl
    simp only [Act.put, List.setIfInBounds_toArray, List.set_cons_zero, List.set_cons_succ]
    refine wpV_end (fun W hU _ _ => ?_)
    have U6 : Hid (Upd [] w W) := Lib.hid ((Upd.refl [] w).drew.trans hU)
    clear hU
    refine wpT_op (by rfl) (fun K hK => ?_)
    have GB6 := Lib.hid (GB.out.upd U6.out (by simp))
    obtain ⟨i0, z0, hi0, hz0, hs0, hb0, _⟩ := elem_pair.info
    refine Lib.wp_append_run W (.tmp 22) (.tmp 25) 22 22 (by rfl) (.slice (some ⟨g, 0, none⟩) i c) (.slice (some ⟨g, j * 2, none⟩) (n - j) (c - j)) (by rfl) (by rfl) _ _ (run_append_room W 22 _ 39 i0 Tryd.underlying22 hi0 g i c cur GB6.out ⟨g, j * 2, none⟩ (n - j) (c - j) (flat encPr (acc.drop j)) (by rw [DL.out, HM.out, hs0]) (SR.out W U6.out) flat_cells (by have := HM.out; omega) (by rw [DL.out, hs0, CZ.out]; omega)) ?_
    rw [HM.out, him, hs0, TK.out, DL.out]
    obtain ⟨cur7, hc7⟩ : ∃ z, (flat encPr (acc.take i) ++ flat encPr (acc.drop j) ++ cur.toList.drop (i * 2 + m * 2)).toArray = z := ⟨_, rfl⟩
    rw [hc7]
    have HC7 : Hid (cur7.toList = flat encPr (acc.take i) ++ flat encPr (acc.drop j) ++ cur.toList.drop (i * 2 + m * 2)) := Lib.hid (by rw [← hc7])
    have CZ7 : Hid (cur7.size = c * 2) := Lib.hid (by
      rw [← Array.length_toList, HC7.out, List.length_append, List.length_append, TL.out, DL.out, List.length_drop, Array.length_toList, CZ.out]
      have := HJ.out
      have := HM.out
      omega)
    have GB7 : Hid (Blk (W.setRow g cur7) g 39 cur7) := Lib.hid (setRow_heap W g cur cur7 _ _ GB6.out)
    have U7 : Hid (Upd [g] w (W.setRow g cur7)) := Lib.hid ((U6.out.mono (by simp)).trans ⟨rfl, rfl, rfl, by simp [World.setRow], fun k hk hn => setRow_other W g k cur7 (by simpa using hn)⟩)
    generalize (W.setRow g cur7) = W7 at *
    refine hK.out _ _ ?_
    clear hK K hc7
    simp only [Act.put, List.setIfInBounds_toArray, List.set_cons_zero, List.set_cons_succ]
    refine wpT_op (by rfl) (fun K hK => ?_)
    go_wp2_with fail
    refine hK.out _ _ ?_
    clear hK K
    try simp only [Act.put, List.setIfInBounds_toArray, List.set_cons_zero, List.set_cons_succ]
    refine wpT_end ?_
    have hz : (Tryd.prog.info? 39).bind (·.zero) = some (.agg #[.int .i64 0, .int .i64 0]) := by kernel_rfl
    have hcl0 := run_clear_s elem_pair W7 g (n1 * 2) 1 (c - n1) (by omega) cur7 _ GB7.out (by rw [CZ7.out]; omega) (fun z hz' v hv => by
      rw [hz] at hz'
      injection hz' with hz'
      subst hz'
      simp [Value.cells] at hv
      subst hv
      rfl)
    obtain ⟨Z, hZl, hcl⟩ := hcl0
    clear hz
    go_wp2_with fail
    go_ret
    have GB8 := GB7.out.setCells Z (n1 * 2)
    have e8 : (spl Z cur7 (n1 * 2)).toList.take (n1 * 2) = flat encPr (delL acc i) := by
      have := HN1.out
      have := HM.out
      rw [spl_list _ _ _ (by rw [CZ7.out, hZl]; omega), HC7.out, hZl, show n1 * 2 = i * 2 + m * 2 by omega]
      unfold delL
      rw [flat_append, show i + 1 = j from HJ.out]
      exact del_list TK.out TL.out DL.out (by rw [Array.length_toList, CZ.out]; omega) hZl
    exact ⟨rfl, ⟨by rw [flat_len], .inr ⟨g, c, _, by rw [delL_len HN.out (by have := HJ.out; omega), HN1.out], BG.out, GB8, by rw [delL_len HN.out (by have := HJ.out; omega)]; omega, by unfold maxLen; omega, by rw [spl_size, CZ7.out]; rfl, by rw [delL_len HN.out (by have := HJ.out; omega), HN1.out]; exact e8⟩⟩, Upd.setCells _ _ _ U7.out⟩
end Go.Proofs.YthdjbflbhgbckaaDoor

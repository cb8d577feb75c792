/-
  copy, clear and append of zeros, at elements of several cells: what they make of a block. No program in sight.
-/
import Derived.Test.YthdjbflbhgbckaaApp
import Derived.Test.YthdjbflbhgbckaaFlat
import Derived.Laws.IdiomCopy
import Derived.Laws.Externs
import Derived.Lib.AppendZerosOnto
import Derived.Lib.Overlaps
set_option linter.unusedVariables false
namespace Go.Proofs.Ythdjbflbhgbckaa
open Go.RowKit

/-- Values written one behind the other. -/
def spl : List Value → Array Value → Nat → Array Value
  | [], cur, _ => cur
  | v :: r, cur, o => spl r (cur.setIfInBounds o v) (o + 1)
theorem spl_size : ∀ (vs : List Value) (cur : Array Value) (o : Nat), (spl vs cur o).size = cur.size
  | [], _, _ => rfl
  | v :: r, cur, o => by unfold spl; rw [spl_size r]; simp
theorem list_set_split (L : List Value) (o : Nat) (v : Value) (h : o < L.length) : L.set o v = L.take o ++ v :: L.drop (o + 1) := by
  rw [List.set_eq_take_append_cons_drop, if_pos h]
theorem spl_list : ∀ (vs : List Value) (cur : Array Value) (o : Nat), o + vs.length ≤ cur.size → (spl vs cur o).toList = cur.toList.take o ++ (vs ++ cur.toList.drop (o + vs.length))
  | [], cur, o, _ => by simp [spl]
  | v :: r, cur, o, h => by
    have hl : o < cur.toList.length := by simp at h ⊢; omega
    have ht : (cur.toList.take o).length = o := by rw [List.length_take]; omega
    unfold spl
    rw [spl_list r _ (o + 1) (by simp at h ⊢; omega), Array.toList_setIfInBounds, list_set_split _ _ _ hl, List.length_cons]
    have e1 : (cur.toList.take o ++ v :: cur.toList.drop (o + 1)).take (o + 1) = cur.toList.take o ++ [v] := by
      rw [List.take_append, ht, List.take_of_length_le (by omega), show o + 1 - o = 1 by omega]
      rfl
    have e2 : (cur.toList.take o ++ v :: cur.toList.drop (o + 1)).drop (o + 1 + r.length) = cur.toList.drop (o + (r.length + 1)) := by
      rw [List.drop_append, ht, List.drop_of_length_le (by omega), show o + 1 + r.length - o = r.length + 1 by omega, List.drop_succ_cons, List.drop_drop, List.nil_append]
      congr 1
      omega
    rw [e1, e2]
    simp
theorem Blk.setCells {g : Nat} {t : TypeId} : ∀ (vs : List Value) (o : Nat) (w : World) (cur : Array Value), Blk w g t cur → Blk (w.setCells g o vs) g t (spl vs cur o)
  | [], _, _, _, h => h
  | v :: r, o, w, cur, h => Blk.setCells r (o + 1) _ _ (h.set_ o v)
theorem Upd.setCells {g : Nat} {a : World} : ∀ (vs : List Value) (o : Nat) (w : World), Upd [g] a w → Upd [g] a (w.setCells g o vs)
  | [], _, _, h => h
  | v :: r, o, w, h => Upd.setCells r (o + 1) _ (h.setCell (.inl (by simp)) v)
section
variable {P : Program} {t e : TypeId} {s bytes : Nat}
/-- copy: all is read ahead of what is written. -/
theorem run_copy_s (ET : Elem P t e s bytes) (w : World) (sT ty : TypeId) (g o dLen dCap : Nat) (a : Addr) (sLen sCap k : Nat) (cs : List Value) (cur : Array Value) (t' : TypeId) (hb : Blk w g t' cur) (hk : Nat.min sLen dLen = k) (hl : cs.length = k * s)
    (hsrc : ∀ j v, cs[j]? = some v → w.cell? (a.add j) = some v) (hfit : o + cs.length ≤ cur.size) (h1 : ∀ v ∈ cs, v.oneCell' = true) :
    (Builtin.copy_ #[t, sT] ty #[.slice (some ⟨g, o, none⟩) dLen dCap, .slice (some a) sLen sCap]).run P w = .ok (goInt k) (w.setCells g o cs) := by
  obtain ⟨i, z, hi, hz, hz1, hz2, hzs⟩ := ET.info
  have hlo := run_loadCells_list (P := P) w a cs hsrc
  have hst := run_storeCells_cells (P := P) g o cs 0 w (fun j hj => by rw [Nat.add_zero, hb.cell, Array.getElem?_eq_getElem (by omega)]; rfl) (fun j hj => hb.frozen _) h1
  rw [hl] at hlo
  simp [Builtin.copy_, run_underlying ET.und, Builtin.lenOf, Builtin.firstCells, sizeOf, typeInfo, hi, hz1, hk, hlo, hst]
theorem wp_copy_s {o : Oper} {a : Act} {K : Act → World → Prop} {Q : Exit → Act → World → Prop} (w : World) (d s' : Operand) (t t' : TypeId)
    (ho : o.op = .call { callee := .builtin .copy, args := #[d, s'], argTypes := #[t, t'] }) (v u : Value) (hd : a.eval d = v) (hs : a.eval s' = u) {v' : Value} {w' : World}
    (hr : (Builtin.copy_ #[t, t'] o.type #[v, u]).run P w = .ok v' w') (h : K (a.put o.dst v') w') : o.wp P a w K Q := by
  unfold Oper.wp execOp
  simp only [ho, resolve, invoke, builtin, Sem.run_bind, Sem.run_pure, Result.andThen_ok, List.map_toArray, List.map_cons, List.map_nil, hd, hs, hr]
  exact h
theorem wpList_copy_s {ops : Array Oper} {rest : List Oper} {o : Oper} {a : Act} {Q : Exit → Act → World → Prop} (w : World) (hgd : o.guard = none) (d s' : Operand) (t t' : TypeId)
    (ho : o.op = .call { callee := .builtin .copy, args := #[d, s'], argTypes := #[t, t'] }) (v u : Value) (hd : a.eval d = v) (hs : a.eval s' = u) {v' : Value} {w' : World}
    (hr : (Builtin.copy_ #[t, t'] o.type #[v, u]).run P w = .ok v' w') (h : wpList P ops Q rest (a.put o.dst v') w') : wpList P ops Q (o :: rest) a w :=
  wpList_plain hgd fun _ hK => wp_copy_s w d s' t t' ho v u hd hs hr (hK _ _ h)
/-- append(x, make(.., k)...) where there is no room: a new row. -/
theorem run_appz (ET : Elem P t e s bytes) (w : World) (tn ty : TypeId) (htn : P.underlying tn = some (.int .i64)) (a : Addr) (n c k : Nat) (xs : List Value) (hsrc : Src w s (.slice (some a) n c) n xs) (hk : 0 < k) (hg : c < n + k) (h63 : n + k ≤ maxLen) (hby : (n + k) * bytes ≤ 140737488355328) :
    ∃ (cap : Nat) (w' : World) (cur : Array Value), (Builtin.append_ #[t, tn] ty #[.slice (some a) n c, .int .i64 k]).run P w = .ok (.slice (some ⟨w.heap.size, 0, none⟩) (n + k) cap) w' ∧ Blk w' w.heap.size e cur ∧ cur.toList.take (n * s) = xs ∧ cur.size = cap * s ∧ n + k ≤ cap ∧ cap ≤ maxLen ∧ Upd [] w w' := by
  obtain ⟨i, z, hi, hz, hz1, hz2, hzs⟩ := ET.info
  subst hz1 hz2
  obtain ⟨hl, A, c', e1, hc⟩ := hsrc
  injection e1 with e1 _ e2
  subst e1 e2
  have hold : (Builtin.firstCells i.size n (.slice (some a) n c)).run P w.drew = .ok xs.toArray w.drew :=
    run_firstCells_some w.drew i.size n a n c xs hl (fun j v hj => by
      obtain ⟨ad, e1, _, h⟩ := hc j v hj
      cases e1
      exact h)
  have h48 : k * i.bytes ≤ 281474976710656 := by
    have := Nat.mul_le_mul_right i.bytes (show k ≤ n + k by omega)
    omega
  have h63' : ((n + k : Nat) : Int) ≤ 9223372036854775807 := by simp only [maxLen] at h63; omega
  have hr := Lib.run_append_grow_zeros w t tn ty e i z .i64 .i64 ET.und htn hi hz (some a) n c xs hold k hk ET.pos hg h63' h48 (growslice_fits hg hby)
  have hge := grownCap_ge w (n + k) c e
  have hcm : grownCap w (n + k) c e ≤ maxLen := grownCap_le_maxLen w (n + k) c e h63
  refine ⟨_, _, _, hr, Blk.new w.drew _ _, ?_, ?_, hge, hcm, ((Upd.refl [] w).drew).alloc _⟩
  · simp only [Array.toList_append, List.append_assoc]
    rw [← hl]
    exact List.take_left
  · simp only [Array.size_append, List.size_toArray, size_zeroCells, hzs, hl, ← Nat.add_mul]
    congr 1
    omega
theorem wp_appz {o : Oper} {a : Act} {K : Act → World → Prop} {Q : Exit → Act → World → Prop} (w : World) (s' x' : Operand) (t tn : TypeId) (ho : o.op = .call { callee := .builtin .append, args := #[s', x'], argTypes := #[t, tn] })
    (v x : Value) (hs : a.eval s' = v) (hx : a.eval x' = x) {v' : Value} {w' : World} (hr : (Builtin.append_ #[t, tn] o.type #[v, x]).run P w = .ok v' w') (h : K (a.put o.dst v') w') : o.wp P a w K Q :=
  Lib.wp_append_run w s' x' t tn ho v x hs hx v' w' hr h
theorem wpList_appz {ops : Array Oper} {rest : List Oper} {o : Oper} {a : Act} {Q : Exit → Act → World → Prop} (w : World) (hgd : o.guard = none) (s' x' : Operand) (t tn : TypeId) (ho : o.op = .call { callee := .builtin .append, args := #[s', x'], argTypes := #[t, tn] })
    (v x : Value) (hs : a.eval s' = v) (hx : a.eval x' = x) {v' : Value} {w' : World} (hr : (Builtin.append_ #[t, tn] o.type #[v, x]).run P w = .ok v' w') (h : wpList P ops Q rest (a.put o.dst v') w') : wpList P ops Q (o :: rest) a w :=
  wpList_plain hgd fun _ hK => wp_appz w s' x' t tn ho v x hs hx hr (hK _ _ h)
/-- clear of a slice: zeros. -/
theorem run_clear_s (ET : Elem P t e s bytes) (w : World) (g o n c : Nat) (hn : 0 < n) (cur : Array Value) (t' : TypeId) (hb : Blk w g t' cur) (hfit : o + n * s ≤ cur.size) (h1 : ∀ z, ((P.info? e).bind (·.zero)) = some z → ∀ v ∈ z.cells, v.oneCell' = true) :
    ∃ cs : List Value, cs.length = n * s ∧ ∀ ty, (Builtin.clear_ #[t] ty #[.slice (some ⟨g, o, none⟩) n c]).run P w = .ok (.tuple #[]) (w.setCells g o cs) := by
  obtain ⟨i, z, hi, hz, hz1, hz2, hzs⟩ := ET.info
  have hlen : (Builtin.zeroCells z.cells n).toList.length = n * s := by rw [Array.length_toList, size_zeroCells, hzs]
  have h1' : ∀ v ∈ (Builtin.zeroCells z.cells n).toList, v.oneCell' = true := by
    intro v hv
    unfold Builtin.zeroCells at hv
    rw [Array.mem_toList_iff, Array.mem_map] at hv
    obtain ⟨j, hj, rfl⟩ := hv
    have hp := ET.pos
    refine h1 z (by rw [hi]; exact hz) _ ?_
    rw [getElem!_pos z.cells (j % z.cells.size) (Nat.mod_lt _ (by omega))]
    exact Array.getElem_mem _
  have hst := run_storeCells_cells (P := P) g o (Builtin.zeroCells z.cells n).toList 0 w (fun j hj => by rw [Nat.add_zero, hb.cell, Array.getElem?_eq_getElem (by omega)]; rfl) (fun j hj => hb.frozen _) h1'
  refine ⟨_, hlen, fun ty => ?_⟩
  cases n with
  | zero => omega
  | succ n =>
    rw [Nat.add_zero] at hst
    simp [Builtin.clear_, run_underlying ET.und, zeroValue, typeInfo, hi, hz, hst]
end
end Go.Proofs.Ythdjbflbhgbckaa

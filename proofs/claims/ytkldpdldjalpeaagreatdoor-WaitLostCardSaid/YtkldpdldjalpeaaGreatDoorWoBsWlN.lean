/-
  WaitLost: its first loops, a step of each, without the code.
-/
import Derived.Test.YtkldpdldjalpeaaGreatDoorWoB8
import Derived.Laws.OwnMore
set_option linter.unusedVariables false
namespace Go.Proofs.YtkldpdldjalpeaaGreatDoor
open Go.RowKit Th

theorem flat_nt (l : List Nat) : flat NtE l = l.map (fun y : Nat => Value.int .i64 (y : Int)) := by
  induction l with
  | nil => rfl
  | cons a l ih => rw [flat_cons, ih]; rfl
def wfL (css : List (List Nat)) (i : Nat) (k : Nat) : List Nat := if k < i then css.getD k [] else []
def wfR (css : List (List Nat)) (i t : Nat) (k : Nat) : List Nat := if k = i then (css.getD i []).take t else wfL css i k
theorem wfL_0 (css : List (List Nat)) : wfL css 0 = fun _ => [] := by funext k; simp [wfL]
theorem wfL_R (css : List (List Nat)) (i : Nat) : wfL css i = wfR css i 0 := by
  funext k
  unfold wfR
  by_cases h : k = i
  · subst h; simp [wfL]
  · rw [if_neg h]
theorem wfR_next {css : List (List Nat)} {i t x : Nat} (h : (css.getD i [])[t]? = some x) : (fun k => if k = i then (css.getD i []).take t ++ [x] else wfR css i t k) = wfR css i (t + 1) := by
  funext k
  unfold wfR
  by_cases hk : k = i
  · rw [if_pos hk, if_pos hk, List.take_add_one, h]; rfl
  · rw [if_neg hk, if_neg hk, if_neg hk]
theorem wfR_end {css : List (List Nat)} {i t : Nat} (h : (css.getD i []).length ≤ t) : wfR css i t = wfL css (i + 1) := by
  funext k
  unfold wfR wfL
  by_cases hk : k = i
  · subst hk; rw [if_pos rfl, if_pos (by omega), List.take_of_length_le h]
  · rw [if_neg hk]
    by_cases h2 : k < i
    · rw [if_pos h2, if_pos (by omega)]
    · rw [if_neg h2, if_neg (by omega)]
def tsL (css : List (List Nat)) (i : Nat) : List (TS An) := (css.take i).map fun c => ⟨sleeperT c, false⟩
theorem tsL_next {css : List (List Nat)} {i : Nat} {c : List Nat} (h : css[i]? = some c) : tsL css i ++ [⟨sleeperT c, false⟩] = tsL css (i + 1) := by
  unfold tsL
  rw [List.take_add_one, h]
  simp
def tsC (css : List (List Nat)) (cl : List Nat) (j : Nat) : List (TS An) := css.map (fun c => (⟨sleeperT c, false⟩ : TS An)) ++ (cl.take j).map fun x => ⟨committerT x, false⟩
theorem tsC_0 (css : List (List Nat)) (cl : List Nat) : tsL css css.length = tsC css cl 0 := by simp [tsL, tsC]
theorem tsC_next {css : List (List Nat)} {cl : List Nat} {j x : Nat} (h : cl[j]? = some x) : tsC css cl j ++ [⟨committerT x, false⟩] = tsC css cl (j + 1) := by
  unfold tsC
  rw [List.take_add_one, h]
  simp
theorem tsC_end (css : List (List Nat)) (cl : List Nat) : tsC css cl cl.length = (lostP css cl).map fun p => ⟨p, false⟩ := by
  simp [tsC, lostP]; rfl
/-- The sleepers made are as asked. -/
structure SlC (css : List (List Nat)) (i : Nat) (sl : List SlD) : Prop where
  len : sl.length = i
  row : ∀ (k : Nat) d, sl[k]? = some d → css[k]? = some d.cells ∧ d.cells.length ≤ 3
structure CoC (cl : List Nat) (j : Nat) (co : List CoD) : Prop where
  len : co.length = j
  row : ∀ (k : Nat) d, co[k]? = some d → cl[k]? = some d.x
theorem SlC.push {css : List (List Nat)} {i : Nat} {sl : List SlD} (h : SlC css i sl) {d : SlD} (hd : css[i]? = some d.cells) (h3 : d.cells.length ≤ 3) : SlC css (i + 1) (sl ++ [d]) :=
  ⟨by simp [h.len], fun k e he => by
    rcases snoc_get he with ⟨_, he⟩ | ⟨rfl, rfl⟩
    · exact h.row k e he
    · rw [h.len]; exact ⟨hd, h3⟩⟩
theorem CoC.push {cl : List Nat} {j : Nat} {co : List CoD} (h : CoC cl j co) {d : CoD} (hd : cl[j]? = some d.x) : CoC cl (j + 1) (co ++ [d]) :=
  ⟨by simp [h.len], fun k e he => by
    rcases snoc_get he with ⟨_, he⟩ | ⟨rfl, rfl⟩
    · exact h.row k e he
    · rw [h.len]; exact hd⟩
theorem made_rep (v : Value) (n : Nat) (hn : n ≤ 3) : madeCells #[v] n = (List.replicate n v).toArray := by
  rw [← toList_madeCells_one]
set_option maxRecDepth 20000 in
theorem b30_eq : BR 3 = B30 := rfl
/-- Ahead of the first loop. -/
theorem lo_start {w w1 w2 : World} {F : BFp} {kb ns nc : Nat} (h1 : BSt w1 F (BR 3)) (h2 : Blk w1 kb 26 #[.int .u64 3, .int .u64 6, .int .u64 9]) (h3 : Upd [] w w1) (h4 : (∀ x ∈ F.l, w.heap.size ≤ x) ∧ w.heap.size ≤ kb ∧ kb ∉ F.l) (hn : ns ≤ 3 ∧ nc ≤ 3)
    (hw : w2 = (((((w1.alloc (.cells #[.int .u64 12] 26)).alloc (.cells (madeCells #[.int .i64 0] ns) 3)).alloc (.cells #[.slice (some ⟨w1.heap.size + 1, 0, none⟩) ns ns] 23)).alloc (.cells (madeCells #[.bool false] nc) 4)).alloc (.cells (madeCells #[.slice none 0 0] ns) 23))) :
    Lo w ⟨w1.heap.size, kb, w1.heap.size + 1 + 1, w1.heap.size + 1 + 1 + 1 + 1⟩ (w1.heap.size + 1) (w1.heap.size + 1 + 1 + 1) ns nc (List.replicate ns (.slice none 0 0)) (fun _ => []) 0 [] [] w2 F (BR 3) [w1.heap.size + 1, w1.heap.size + 1 + 1 + 1] [] [] [] := by
  have u : Upd [] w1 w2 := by rw [hw]; exact (((((Upd.refl _ _).alloc _).alloc _).alloc _).alloc _).alloc _
  have x0 : Blk w2 w1.heap.size 26 #[.int .u64 12] := by rw [hw]; exact ((((Blk.new _ _ _).alloc _).alloc _).alloc _).alloc _
  have x1 : Blk w2 (w1.heap.size + 1) 3 (madeCells #[.int .i64 0] ns) := by rw [hw]; exact (((Blk.newAt _ _ (by simp)).alloc _).alloc _).alloc _
  have x2 : Blk w2 (w1.heap.size + 1 + 1) 23 #[.slice (some ⟨w1.heap.size + 1, 0, none⟩) ns ns] := by rw [hw]; exact ((Blk.newAt _ _ (by simp)).alloc _).alloc _
  have x3 : Blk w2 (w1.heap.size + 1 + 1 + 1) 4 (madeCells #[.bool false] nc) := by rw [hw]; exact (Blk.newAt _ _ (by simp)).alloc _
  have x4 : Blk w2 (w1.heap.size + 1 + 1 + 1 + 1) 23 (madeCells #[.slice none 0 0] ns) := by rw [hw]; exact Blk.newAt _ _ (by simp)
  have hs : w2.heap.size = w1.heap.size + 5 := by rw [hw]; simp
  have k1 := h2.lt
  have k2 := h3.size
  rw [made_rep _ _ hn.1] at x1 x4
  rw [made_rep _ _ hn.2] at x3
  have hff : ∀ x ∈ foot F [w1.heap.size + 1, w1.heap.size + 1 + 1 + 1] ([] : List (TD An)), (x ∈ F.l ∧ x < w1.heap.size) ∨ x = w1.heap.size + 1 ∨ x = w1.heap.size + 1 + 1 + 1 := fun x hx => by
    rcases mem_foot.1 hx with hx | hx | ⟨i, d, hd, _⟩
    · exact .inl ⟨hx, h1.lt x hx⟩
    · simp at hx; exact .inr hx
    · simp at hd
  refine ⟨⟨rfl, rfl, h1.upd u (by simp), ⟨fun i d hd => by simp at hd, fun i d hd => by simp at hd, ⟨List.replicate ns 0, by simp, by simpa using x1, fun i a _ ha => by simp at ha⟩, ⟨List.replicate nc false, by simp, by simpa using x3, fun i a ha => by simp at ha⟩, by simp, fun x hx => by simp at hx; omega⟩, fun x hx hm => ?_, fun i d t hd => by simp at hd, fun i d t hd => by simp at hd, fun i d hd => by simp at hd, fun i t hd => by simp at hd, fun i j d e _ hd => by simp at hd⟩, ⟨x0, h2.upd u (by simp), x2, x4, by simp, fun i v hv => ?_, fun i j v z hij hv hz x hx => ?_, ⟨by simp, by simp; omega⟩, ⟨k2, h4.2.1, by simp; omega, by simp; omega⟩⟩, fun x hx hm => ?_, h3.trans u, fun x hx => ?_, fun i d e hd => by simp at hd, fun i d e hd => by simp at hd, fun e he => by simp at he, rfl⟩
  · have := h1.lt x hm
    simp at hx
    omega
  · have := List.mem_of_getElem? hv
    rw [List.mem_replicate] at this
    rw [this.2]
    exact Ow.nil _ _ _ _
  · have := List.mem_of_getElem? hv
    rw [List.mem_replicate] at this
    rw [this.2] at hx
    simp [Value.ownBlock] at hx
  · have hf := hff x hm
    rcases mem_kb.1 hx with h | h | h | h | ⟨i, v, hv, hx2⟩
    · simp only at h; omega
    · rcases hf with hf | hf
      · simp only at h; subst h; exact h4.2.2 hf.1
      · simp only at h; omega
    · simp only at h; omega
    · simp only at h; omega
    · have := List.mem_of_getElem? hv
      rw [List.mem_replicate] at this
      rw [this.2] at hx2
      simp [Value.ownBlock] at hx2
  · rcases hff x hx with h | h
    · exact h4.1 x h.1
    · omega
section
variable {w : World} {b : BX} {tb db ns nc : Nat} {vs : List Value} {wf : Nat → List Nat} {Lb : Nat} {sl : List SlD} {co : List CoD} {wr : World} {F : BFp} {B : BS} {S : List Nat} {ds : List (TD An)} {ts : List (TS An)} {rs : List (Option An)}
/-- One more cell, in the inner loop. -/
theorem in_step (KL : Lo w b tb db ns nc vs wf Lb sl co wr F B S ds ts rs) {tv : Value} (KT : TV w b vs wr F S ds tv) {u : Value} {cells : List Nat} (hu1 : Ow RfE 26 wr w.heap.size u cells) (hu2 : ∀ x, u.ownBlock = some x → x ∉ foot F S ds ∧ x ∉ KB b vs ∧ tv.ownBlock ≠ some x) {i : Nat} {vq : Value} (hvq : vs[i]? = some vq)
    {w5 w7 : World} {v5 v7 : Value} {ob ob2 : Obj} {l' cells' : List Nat} (u5 : Upd vq.ownBlock.toList (wr.alloc ob) w5) (o5 : Ow NtE 3 w5 w.heap.size v5 l') (b5 : v5.ownBlock = vq.ownBlock ∨ v5.ownBlock = some (wr.alloc ob).heap.size)
    (u7 : Upd u.ownBlock.toList ((w5.setCell ⟨b.qb, i, none⟩ v5).alloc ob2) w7) (o7 : Ow RfE 26 w7 w.heap.size v7 cells') (b7 : v7.ownBlock = u.ownBlock ∨ v7.ownBlock = some ((w5.setCell ⟨b.qb, i, none⟩ v5).alloc ob2).heap.size) :
    Lo w b tb db ns nc (vs.set i v5) (fun k => if k = i then l' else wf k) Lb sl co w7 F B S ds ts rs ∧ TV w b (vs.set i v5) w7 F S ds tv ∧ ∀ x, v7.ownBlock = some x → x ∉ foot F S ds ∧ x ∉ KB b (vs.set i v5) ∧ tv.ownBlock ≠ some x := by
  have h5 : Upd vq.ownBlock.toList wr w5 := (((Upd.refl [] wr).alloc ob).mono (by simp)).trans u5
  obtain ⟨p1, p2⟩ := KL.own.put hvq h5 o5 (fun x hx => by
    rcases b5 with b5 | b5
    · exact .inl (b5 ▸ hx)
    · rw [b5] at hx; injection hx with hx; simp at hx; exact .inr (by omega))
  have h6 : Upd [b.qb] w5 (w5.setCell ⟨b.qb, i, none⟩ v5) := (Upd.refl _ _).setCell (by simp) _
  have h7 : Upd u.ownBlock.toList (w5.setCell ⟨b.qb, i, none⟩ v5) w7 := (((Upd.refl [] _).alloc ob2).mono (by simp)).trans u7
  have hk : ∀ x, x = b.qb ∨ vq.ownBlock = some x → x ∈ KB b vs := fun x hx => by
    rcases hx with rfl | hx
    · exact mem_kb.2 (.inr (.inr (.inr (.inl rfl))))
    · exact mem_kb.2 (.inr (.inr (.inr (.inr ⟨i, vq, hvq, hx⟩))))
  have hT : Upd (vq.ownBlock.toList ++ [b.qb] ++ u.ownBlock.toList) wr w7 := ((h5.mono (fun x hx => .inl (by simp only [List.mem_append]; exact .inl (.inl hx)))).trans' h6 (fun x hx => .inl (by simp only [List.mem_append]; exact .inl (.inr hx)))).trans' h7 (fun x hx => .inl (by simp only [List.mem_append]; exact .inr hx))
  have hm : ∀ x, x ∈ vq.ownBlock.toList ++ [b.qb] ++ u.ownBlock.toList → (x ∈ KB b vs) ∨ u.ownBlock = some x := fun x hx => by
    simp only [List.mem_append, Option.mem_toList, List.mem_singleton] at hx
    rcases hx with (hx | hx) | hx
    · exact .inl (hk x (.inr hx))
    · exact .inl (hk x (.inl hx))
    · exact .inr hx
  have hs5 := h5.size
  have hs7 := h7.size
  have z5 : (w5.setCell ⟨b.qb, i, none⟩ v5).heap.size = w5.heap.size := by simp
  have p7 : Own3 w.heap.size b tb ns (vs.set i v5) (fun k => if k = i then l' else wf k) w7 := p1.upd h7 (fun x hx hmm => by
    have hux := (Option.mem_toList.1 hmm)
    rcases p2 x hx with h | h
    · exact (hu2 x hux).2.1 h
    · have := (own_lt hu1 hux).2; omega)
  refine ⟨KL.far hT (fun x hx => ?_) p7 p2, KT.upd hT (fun x hx hmm => ?_), fun x hx => ?_⟩
  · rcases hm x hx with h | h
    · exact ⟨KL.kf x h, (KL.own.lt x h).2⟩
    · exact ⟨(hu2 x h).1, (own_lt hu1 h).1⟩
  · rcases hm x hmm with h | h
    · exact KT.kb KL.own x hx h
    · exact (hu2 x h).2.2 hx
  · rcases b7 with b7 | b7
    · rw [b7] at hx
      obtain ⟨q1, q2, q3⟩ := hu2 x hx
      refine ⟨q1, fun hmm => ?_, q3⟩
      rcases p2 x hmm with h | h
      · exact q2 h
      · have := (own_lt hu1 hx).2; omega
    · rw [b7] at hx
      injection hx with hx
      have hx2 : w5.heap.size < x := by rw [← hx]; simp
      refine ⟨fun hmm => ?_, fun hmm => ?_, fun hmm => ?_⟩
      · have := KL.sys.lt (m15_ok sl co ns nc tb db) x hmm; omega
      · have := (p1.lt x hmm).1
        omega
      · have := (own_lt KT.ts hmm).2; omega
/-- A sleeper more: its boxes, its thread, the threads' slice. -/
theorem out_stepS (KL : Lo w b tb db ns nc vs wf Lb sl [] wr F B S ds ts rs) {tv : Value} (KT : TV w b vs wr F S ds tv) {lv : Value} {cells : List Nat} (hu1 : Ow RfE 26 wr w.heap.size lv cells) (hu2 : ∀ x, lv.ownBlock = some x → x ∉ foot F S ds ∧ x ∉ KB b vs ∧ tv.ownBlock ≠ some x) {i g q : Nat} (hi : i = sl.length) (hg : wr.heap.size ≤ g)
    {w1 w2 w3 : World} {v3 : Value} {ob : Obj} (b1 : Blk w1 g 26 #[.int .u64 12]) (b2 : Blk w1 (g + 1) 27 #[lv]) (b3 : Blk w1 (g + 1 + 1) 36 #[.pointer (some ⟨tb, i, none⟩)]) (u1 : Upd [] wr w1) (s1 : w1.heap.size = g + 3)
    (t1 : ThSt w2 F.b0 q (.slice none 0 0) 31 #[ptrV (g + 1), ptrV g, ptrV (g + 1 + 1)] [] false) (u2 : Upd [] w1 w2) (q1 : w1.heap.size ≤ q) (q2 : q < w2.heap.size)
    (u3 : Upd tv.ownBlock.toList (w2.alloc ob) w3) (o3 : w3.ownsRow w.heap.size 32 1 v3 (ds.length + 1) ((ds.map fun d => ptrV d.tb) ++ [ptrV q])) (c3 : v3.ownBlock = tv.ownBlock ∨ v3.ownBlock = some (w2.alloc ob).heap.size) :
    ∃ S' : List Nat, Lo w b tb db ns nc vs wf Lb (sl ++ [⟨cells, lv, g + 1, g, g + 1 + 1⟩]) [] w3 F B S' (ds ++ [⟨q, .slice none 0 0, 31, #[ptrV (g + 1), ptrV g, ptrV (g + 1 + 1)], sleeperT cells, []⟩]) (ts ++ [⟨sleeperT cells, false⟩]) (rs ++ [none]) ∧ TV w b vs w3 F S' (ds ++ [⟨q, .slice none 0 0, 31, #[ptrV (g + 1), ptrV g, ptrV (g + 1 + 1)], sleeperT cells, []⟩]) v3 := by
  have u12 := u1.trans u2
  have hfl := KL.sys.lt (m15_ok sl [] ns nc tb db)
  have hsz := KL.up.size
  have hsz2 := u2.size
  have KL2 := KL.far0 u12 (by simp)
  have KT2 : TV w b vs w2 F S ds tv := KT.upd u12 (by simp)
  have hown : ∀ x, x ∈ (⟨q, .slice none 0 0, 31, #[ptrV (g + 1), ptrV g, ptrV (g + 1 + 1)], sleeperT cells, []⟩ : TD An).own → x = q := fun x hx => by
    simp [TD.own, TB, Value.ownBlock] at hx; exact hx
  have hkl : ∀ x ∈ KB b vs, x < wr.heap.size := fun x hx => (KL.own.lt x hx).1
  have hN : ∀ x ∈ [g + 1, g, g + 1 + 1] ++ lv.ownBlock.toList, x ∉ foot F S ds ∧ x ∉ KB b vs ∧ w.heap.size ≤ x ∧ x < w1.heap.size ∧ tv.ownBlock ≠ some x := fun x hx => by
    rcases List.mem_append.1 hx with hx | hx
    · have hx' : wr.heap.size ≤ x ∧ x < w1.heap.size := by simp at hx; omega
      exact ⟨fun hm => by have := hfl x hm; omega, fun hm => by have := hkl x hm; omega, by omega, hx'.2, fun hm => by have := (own_lt KT.ts hm).2; omega⟩
    · have hx' := Option.mem_toList.1 hx
      obtain ⟨p1, p2, p3⟩ := hu2 x hx'
      have := own_lt hu1 hx'
      exact ⟨p1, p2, this.1, by omega, p3⟩
  have L2 := KL2.pushS (d := ⟨cells, lv, g + 1, g, g + 1 + 1⟩) (e := ⟨q, .slice none 0 0, 31, #[ptrV (g + 1), ptrV g, ptrV (g + 1 + 1)], sleeperT cells, []⟩) (N := [g + 1, g, g + 1 + 1] ++ lv.ownBlock.toList) rfl ⟨b2.upd u2 (by simp), b1.upd u2 (by simp), by rw [← hi]; exact b3.upd u2 (by simp), own_base (own_upd0 hu1 u12) (Nat.zero_le _), by simp, fun x hx => List.mem_append_right _ (by simp [hx])⟩ t1 rfl rfl rfl rfl
    (fun x hx => by have := (hN x hx).2.2.2.1; omega) (fun x hx => by
      obtain rfl := hown x hx
      exact ⟨fun hm => by have := hfl _ hm; omega, fun hm => by have := hkl _ hm; omega, fun hm => by have := (hN _ hm).2.2.2.1; omega, by omega⟩) (fun x hx => ⟨(hN x hx).1, (hN x hx).2.1, (hN x hx).2.2.1⟩)
  have h3 : Upd tv.ownBlock.toList w2 w3 := (((Upd.refl [] w2).alloc ob).mono (by simp)).trans u3
  have hv3 : ∀ x, v3.ownBlock = some x → tv.ownBlock = some x ∨ w2.heap.size ≤ x := fun x hx => by
    rcases c3 with c3 | c3
    · exact .inl (c3 ▸ hx)
    · rw [c3] at hx; injection hx with hx; simp at hx; exact .inr (by omega)
  have hT : ∀ x, tv.ownBlock = some x → x ∉ foot F S ds ∧ x ∉ [g + 1, g, g + 1 + 1] ++ lv.ownBlock.toList ∧ x ≠ q := fun x hx => ⟨KT.tf x hx, fun hm => (hN x hm).2.2.2.2 hx, fun e => by have := (own_lt KT.ts hx).2; omega⟩
  refine ⟨_, L2.far0 h3 (fun x hx => ?_), TV.push (N := [g + 1, g, g + 1 + 1] ++ lv.ownBlock.toList) o3 (fun x hx => ?_)⟩
  · have hx' := Option.mem_toList.1 hx
    obtain ⟨p1, p2, p3⟩ := hT x hx'
    refine ⟨fun hm => ?_, (own_lt KT.ts hx').1, KT.kb KL.own x hx'⟩
    simp only [foot, List.mem_append, List.flatMap_append] at hm
    rcases hm with (hm | hm | hm) | hm | hm
    · exact p1 (mem_foot.2 (.inl hm))
    · exact p1 (mem_foot.2 (.inr (.inl hm)))
    · exact p2 (List.mem_append.2 hm)
    · obtain ⟨d, hd, hm⟩ := List.mem_flatMap.1 hm
      obtain ⟨k, hk⟩ := List.getElem?_of_mem hd
      exact p1 (mem_foot.2 (.inr (.inr ⟨k, d, hk, hm⟩)))
    · exact p3 (hown x (by simpa using hm))
  · rcases hv3 x hx with h | h
    · obtain ⟨p1, p2, p3⟩ := hT x h
      exact ⟨p1, p2, fun hm => p3 (hown x hm)⟩
    · exact ⟨fun hm => by have := hfl x hm; omega, fun hm => by have := (hN x hm).2.2.2.1; omega, fun hm => by have := hown x hm; omega⟩
/-- A committer more. -/
theorem out_stepC (KL : Lo w b tb db ns nc vs wf Lb sl co wr F B S ds ts rs) (hsl : sl.length = ns) {tv : Value} (KT : TV w b vs wr F S ds tv) {c i g q : Nat} (hi : i = co.length) (hg : wr.heap.size ≤ g)
    {w1 w2 w3 : World} {v3 : Value} {ob : Obj} (b1 : Blk w1 g 26 #[.int .u64 12]) (b2 : Blk w1 (g + 1) 26 #[.int .u64 (clR c)]) (b3 : Blk w1 (g + 1 + 1) 38 #[.pointer (some ⟨db, i, none⟩)]) (u1 : Upd [] wr w1) (s1 : w1.heap.size = g + 3)
    (t1 : ThSt w2 F.b0 q (.slice none 0 0) 32 #[ptrV (g + 1 + 1), ptrV (g + 1), ptrV g] [] false) (u2 : Upd [] w1 w2) (q1 : w1.heap.size ≤ q) (q2 : q < w2.heap.size)
    (u3 : Upd tv.ownBlock.toList (w2.alloc ob) w3) (o3 : w3.ownsRow w.heap.size 32 1 v3 (ds.length + 1) ((ds.map fun d => ptrV d.tb) ++ [ptrV q])) (c3 : v3.ownBlock = tv.ownBlock ∨ v3.ownBlock = some (w2.alloc ob).heap.size) :
    ∃ S' : List Nat, Lo w b tb db ns nc vs wf Lb sl (co ++ [⟨c, g + 1 + 1, g + 1, g⟩]) w3 F B S' (ds ++ [⟨q, .slice none 0 0, 32, #[ptrV (g + 1 + 1), ptrV (g + 1), ptrV g], committerT c, []⟩]) (ts ++ [⟨committerT c, false⟩]) (rs ++ [none]) ∧ TV w b vs w3 F S' (ds ++ [⟨q, .slice none 0 0, 32, #[ptrV (g + 1 + 1), ptrV (g + 1), ptrV g], committerT c, []⟩]) v3 := by
  have u12 := u1.trans u2
  have hfl := KL.sys.lt (m15_ok sl co ns nc tb db)
  have hsz := KL.up.size
  have hsz2 := u2.size
  have KL2 := KL.far0 u12 (by simp)
  have hown : ∀ x, x ∈ (⟨q, .slice none 0 0, 32, #[ptrV (g + 1 + 1), ptrV (g + 1), ptrV g], committerT c, []⟩ : TD An).own → x = q := fun x hx => by
    simp [TD.own, TB, Value.ownBlock] at hx; exact hx
  have hkl : ∀ x ∈ KB b vs, x < wr.heap.size := fun x hx => (KL.own.lt x hx).1
  have hN : ∀ x ∈ [g + 1, g, g + 1 + 1], x ∉ foot F S ds ∧ x ∉ KB b vs ∧ w.heap.size ≤ x ∧ x < w1.heap.size ∧ tv.ownBlock ≠ some x := fun x hx => by
    have hx' : wr.heap.size ≤ x ∧ x < w1.heap.size := by simp at hx; omega
    exact ⟨fun hm => by have := hfl x hm; omega, fun hm => by have := hkl x hm; omega, by omega, hx'.2, fun hm => by have := (own_lt KT.ts hm).2; omega⟩
  have L2 := KL2.pushC hsl (d := ⟨c, g + 1 + 1, g + 1, g⟩) (e := ⟨q, .slice none 0 0, 32, #[ptrV (g + 1 + 1), ptrV (g + 1), ptrV g], committerT c, []⟩) (N := [g + 1, g, g + 1 + 1]) rfl ⟨b2.upd u2 (by simp), b1.upd u2 (by simp), by rw [← hi]; exact b3.upd u2 (by simp), by simp⟩ t1 rfl rfl rfl rfl
    (fun x hx => by have := (hN x hx).2.2.2.1; omega) (fun x hx => by
      obtain rfl := hown x hx
      exact ⟨fun hm => by have := hfl _ hm; omega, fun hm => by have := hkl _ hm; omega, fun hm => by have := (hN _ hm).2.2.2.1; omega, by omega⟩) (fun x hx => ⟨(hN x hx).1, (hN x hx).2.1, (hN x hx).2.2.1⟩)
  have h3 : Upd tv.ownBlock.toList w2 w3 := (((Upd.refl [] w2).alloc ob).mono (by simp)).trans u3
  have hv3 : ∀ x, v3.ownBlock = some x → tv.ownBlock = some x ∨ w2.heap.size ≤ x := fun x hx => by
    rcases c3 with c3 | c3
    · exact .inl (c3 ▸ hx)
    · rw [c3] at hx; injection hx with hx; simp at hx; exact .inr (by omega)
  have hT : ∀ x, tv.ownBlock = some x → x ∉ foot F S ds ∧ x ∉ [g + 1, g, g + 1 + 1] ∧ x ≠ q := fun x hx => ⟨KT.tf x hx, fun hm => (hN x hm).2.2.2.2 hx, fun e => by have := (own_lt KT.ts hx).2; omega⟩
  refine ⟨_, L2.far0 h3 (fun x hx => ?_), TV.push (N := [g + 1, g, g + 1 + 1]) o3 (fun x hx => ?_)⟩
  · have hx' := Option.mem_toList.1 hx
    obtain ⟨p1, p2, p3⟩ := hT x hx'
    refine ⟨fun hm => ?_, (own_lt KT.ts hx').1, KT.kb KL.own x hx'⟩
    simp only [foot, List.mem_append, List.flatMap_append] at hm
    rcases hm with (hm | hm | hm) | hm | hm
    · exact p1 (mem_foot.2 (.inl hm))
    · exact p1 (mem_foot.2 (.inr (.inl hm)))
    · exact p2 hm
    · obtain ⟨d, hd, hm⟩ := List.mem_flatMap.1 hm
      obtain ⟨k, hk⟩ := List.getElem?_of_mem hd
      exact p1 (mem_foot.2 (.inr (.inr ⟨k, d, hk, hm⟩)))
    · exact p3 (hown x (by simpa using hm))
  · rcases hv3 x hx with h | h
    · obtain ⟨p1, p2, p3⟩ := hT x h
      exact ⟨p1, p2, fun hm => p3 (hown x hm)⟩
    · exact ⟨fun hm => by have := hfl x hm; omega, fun hm => by have := (hN x hm).2.2.2.1; omega, fun hm => by have := hown x hm; omega⟩
end
set_option maxRecDepth 20000 in
theorem ask_do (rb tkb ib tb i ab n : Nat) (tv : List Int) (hn : tv.length = n) (hi : i < n) (hn3 : n ≤ 3) {t : Int} (ht : tv[i]? = some t) : DoOk 16 #[.pointer (some ⟨rb, 0, none⟩), .pointer (some ⟨tkb, 0, none⟩), .pointer (some ⟨ib, 0, none⟩), .pointer (some ⟨ab, 0, none⟩)] (awakeT 12 t) (fun a => a.err ≠ 0) (fun B => ∀ q ∈ [(12, 1)], q ∈ B.sz) (MBx (askC rb tkb ib tb i n tv) (askO ab)) := by
  have e : t = tv.getD i 0 := by rw [List.getD_eq_getElem?_getD, ht]; rfl
  rw [e]
  exact doOk_of (fun _ _ => rfl) fun w F cb lv c S r0 h1 h2 h3 h4 h5 => ask_ok rb tkb ib tb i ab n tv hn hi hn3 w h1 h2 h3 h4 h5
theorem E5.upd0 {w : World} {b : BX} {tb db ns nc : Nat} {vs : List Value} {wf : Nat → List Nat} {tv : List Int} {dv : List Bool} {B : BS} {wr w' : World} {F : BFp} (h : E5 w b tb db ns nc vs wf tv dv B wr F) (hu : Upd [] wr w') : E5 w b tb db ns nc vs wf tv dv B w' F :=
  ⟨h.bs.upd hu (by simp), h.own.upd hu (by simp), h.btb.upd hu (by simp), h.bdb.upd hu (by simp), h.ap, h.nt, h.up.trans hu, h.fl⟩
/-- One asks, alone. -/
theorem ask_alone {w : World} {rb kb tkb qb tb db ns nc i : Nat} {vs : List Value} {wf : Nat → List Nat} {tv : List Int} {dv : List Bool} {m0 v0 m1 v1 m2 v2 : Int} {r : Nat} {w3 : World} {F : BFp} {t : Int} (h : E5 w ⟨rb, kb, tkb, qb⟩ tb db ns nc vs wf tv dv (RB3 m0 v0 m1 v1 m2 v2 r) w3 F) (hr : r ≤ 3) (hn : tv.length = ns) (hi : i < ns) (hn3 : ns ≤ 3) (ht : tv[i]? = some t) :
    Calls Tryz.prog 15 #[.pointer (some ⟨F.b0, 0, none⟩), .func (.func 16) #[] #[.pointer (some ⟨rb, 0, none⟩), .pointer (some ⟨tkb, 0, none⟩), .pointer (some ⟨w3.heap.size, 0, none⟩), .pointer (some ⟨w3.heap.size + 1, 0, none⟩)]] ((w3.alloc (.cells #[.int .i64 i] 3)).alloc (.cells #[.bool false] 4)) fun e w' =>
      e = .returned (.int .i64 0) ∧ ∃ F', E5 w ⟨rb, kb, tkb, qb⟩ tb db ns nc vs wf tv dv (RB3 m0 v0 m1 v1 m2 v2 r) w' F' ∧ F'.b0 = F.b0 ∧ Blk w' w3.heap.size 3 #[.int .i64 i] ∧ Blk w' (w3.heap.size + 1) 4 #[.bool (decide ((r : Int) ≠ t))] := by
  have hu : Upd [] w3 ((w3.alloc (.cells #[.int .i64 i] 3)).alloc (.cells #[.bool false] 4)) := ((Upd.refl _ _).alloc _).alloc _
  have h1 := h.upd0 hu
  have bi : Blk ((w3.alloc (.cells #[.int .i64 i] 3)).alloc (.cells #[.bool false] 4)) w3.heap.size 3 #[.int .i64 i] := (Blk.new _ _ _).alloc _
  have ba : Blk ((w3.alloc (.cells #[.int .i64 i] 3)).alloc (.cells #[.bool false] 4)) (w3.heap.size + 1) 4 #[.bool false] := Blk.newAt _ _ (by simp)
  have sz : ((w3.alloc (.cells #[.int .i64 i] 3)).alloc (.cells #[.bool false] 4)).heap.size = w3.heap.size + 2 := by simp
  have k1 : rb < w3.heap.size := h.own.brb.lt
  have k2 : tkb < w3.heap.size := h.own.btk.lt
  have k3 : tb < w3.heap.size := h.btb.lt
  have k4 : rb ≠ tkb := h.own.brb.ne_ h.own.btk (by decide)
  have k5 : rb ≠ tb := h.own.brb.ne_ h.btb (by decide)
  have k6 : tkb ≠ tb := h.own.btk.ne_ h.btb (by decide)
  have hM : MBx (askC rb tkb w3.heap.size tb i ns tv) (askO (w3.heap.size + 1)) ((w3.alloc (.cells #[.int .i64 i] 3)).alloc (.cells #[.bool false] 4)) [rb, tkb, w3.heap.size, tb, w3.heap.size + 1] (none : Option An) := by
    refine ⟨rfl, by simp; omega, ?_, ?_⟩
    · simp only [List.mem_cons, forall_eq_or_imp, List.not_mem_nil, false_imp_iff, implies_true, and_true]
      exact ⟨h1.own.brb, h1.own.btk, bi, h1.btb⟩
    · simp only [List.mem_cons, forall_eq_or_imp, List.not_mem_nil, false_imp_iff, implies_true, and_true]
      exact ⟨_, ba, by intro a ha; cases ha⟩
  have hF : ∀ x ∈ [rb, tkb, w3.heap.size, tb, w3.heap.size + 1], x ∉ F.l := by
    have q : ∀ x, x ∈ F.l → x < w3.heap.size := h.bs.lt
    have a1 := (h.ap rb (by simp [KB])).1
    have a2 := (h.ap tkb (by simp [KB])).1
    have a3 := (h.ap tb (by simp)).1
    intro x hx hm
    have := q x hm
    simp at hx
    rcases hx with rfl | rfl | rfl | rfl | rfl
    · exact a1 hm
    · exact a2 hm
    · omega
    · exact a3 hm
    · omega
  refine (alone_ok (mbx_ok _ _) (ask_do rb tkb w3.heap.size tb i (w3.heap.size + 1) ns tv hn hi hn3 ht) _ h1.bs hM hF (exec_awake3 m0 v0 m1 v1 m2 v2 r hr t) (dep_awake 12 t) (by omega) (by
    show ∀ q ∈ [(12, 1)], q ∈ [(1, 1), (3, 2), (6, 2), (9, 2), (12, 1)]
    simp) (by simp)).mono ?_
  rintro e w' ⟨rfl, F', p1, p2, p3, p4, p5, p6⟩
  obtain ⟨e1, e2⟩ := h.next hu (Nat.le_refl _) (by omega) (by omega) p1 p2 p4 p5
  obtain ⟨_, _, m1', _⟩ := p2
  simp only [List.mem_cons, forall_eq_or_imp, List.not_mem_nil, false_imp_iff, implies_true, and_true] at m1'
  refine ⟨rfl, F', e1, p3, m1'.2.2.1, ?_⟩
  have : ((if (r : Int) = t then (0 : Int) else 1) == 1) = decide ((r : Int) ≠ t) := by
    by_cases e : (r : Int) = t
    · rw [if_pos e]; simp [e]
    · rw [if_neg e]; simp [e]
  rw [← this]
  exact e2
def LGood (css : List (List Nat)) (cl : List Nat) (x : List (TS An) × BS) : Prop := ∃ s, Th.Sys (IL cl.length (cjF cl)) (RL cl.length (cjF cl) css.length) (QL css cl) 49 x s
theorem lost_go {css : List (List Nat)} {cl : List Nat} (hnc : cl.length ≤ 3) : SGo (fun a : An => a.err ≠ 0) J15 (LGood css cl) :=
  ⟨fun x k ⟨s, h⟩ => h.step (rl_ok css cl hnc) k, fun x i t a ⟨s, h⟩ ht hp he => he (lost_err h ht hp), fun x ⟨s, h⟩ => lost_sz h⟩
theorem css_ok {L : List (List Int)} {css : List (List Nat)} (h : css = L.map fun l => l.map (pickI 3)) {sl : List SlD} (hs : SlC css css.length sl) : ∀ l ∈ css, l.length ≤ 3 ∧ ∀ x ∈ l, x < 3 := by
  intro l hl
  obtain ⟨i, hi⟩ := List.getElem?_of_mem hl
  have hil := (List.getElem?_eq_some_iff.1 hi).1
  refine ⟨?_, fun x hx => ?_⟩
  · have hd := List.getElem?_eq_getElem (l := sl) (i := i) (by rw [hs.len]; exact hil)
    obtain ⟨h1, h2⟩ := hs.row i _ hd
    rw [hi] at h1
    injection h1 with h1
    rw [h1]; exact h2
  · rw [h] at hl
    obtain ⟨l0, _, rfl⟩ := List.mem_map.1 hl
    obtain ⟨k, _, rfl⟩ := List.mem_map.1 hx
    exact (pick3 k).2
theorem cl_ok {cs : List Int} {cl : List Nat} (h : cl = cs.map (pickI 3)) : ∀ x ∈ cl, x < 3 := by
  intro x hx
  rw [h] at hx
  obtain ⟨k, _, rfl⟩ := List.mem_map.1 hx
  exact (pick3 k).2
end Go.Proofs.YtkldpdldjalpeaaGreatDoor

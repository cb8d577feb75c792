/-
  WaitLost: what stays while threads are made, picked, and run; the law's own boxes beside them.
  Several that lock one cell with one version: just one does. No program in sight.
  Calls of a cell one by one, by one who runs alone. No program in sight.
  WaitLost: what its last part asks. No program in sight.
  concordlaw15's alive by contract.
-/
import Derived.Test.YtkldpdldjalpeaaGreatDoorWoB7
import Derived.Test.YtkldpdldjalpeaaGreatDoorWoB4
import Derived.Test.YtkldpdldjalpeaaGreatDoorWoB5
import Derived.Test.YtkldpdldjalpeaaGreatDoorWoB6
set_option linter.unusedVariables false
namespace Go.Proofs.YtkldpdldjalpeaaGreatDoor
open Go.RowKit Th

section
variable {α : Type} {M : World → List Nat → List (Option α) → Prop}
/-- One more thread, in one world. -/
theorem SysSt.push2 (MO : MemAll M) {M' : World → List Nat → List (Option α) → Prop} {w : World} {F : BFp} {B : BS} {S S' : List Nat} {ds : List (TD α)} {ts : List (TS α)} {rs : List (Option α)} (d : TD α) (h : SysSt M w F B S ds ts rs)
    (hst : ThSt w F.b0 d.tb d.lv d.fid d.caps [] false) (hl : d.l = []) (hown : ∀ x ∈ d.own, x ∉ foot F S ds) (hm : M' w S' (rs ++ [none])) (hS : ∀ x ∈ S', x ∈ S ∨ (x ∉ foot F S ds ∧ x ∉ d.own)) :
    SysSt M' w F B S' (ds ++ [d]) (ts ++ [⟨d.p, false⟩]) (rs ++ [none]) := by
  have get : ∀ (j : Nat) e, (ds ++ [d])[j]? = some e → (j = ds.length ∧ e = d) ∨ (j < ds.length ∧ ds[j]? = some e) := fun j e he => by
    by_cases hj : j < ds.length
    · rw [List.getElem?_append_left hj] at he; exact .inr ⟨hj, he⟩
    · rw [List.getElem?_append_right (by omega)] at he
      have : j - ds.length = 0 := by
        cases hk : j - ds.length with
        | zero => rfl
        | succ k => rw [hk] at he; simp at he
      rw [this] at he
      simp at he
      exact .inl ⟨by omega, he.symm⟩
  have gett : ∀ (j : Nat) e, (ts ++ [⟨d.p, false⟩])[j]? = some e → (j = ts.length ∧ e = ⟨d.p, false⟩) ∨ (j < ts.length ∧ ts[j]? = some e) := fun j e he => by
    by_cases hj : j < ts.length
    · rw [List.getElem?_append_left hj] at he; exact .inr ⟨hj, he⟩
    · rw [List.getElem?_append_right (by omega)] at he
      have : j - ts.length = 0 := by
        cases hk : j - ts.length with
        | zero => rfl
        | succ k => rw [hk] at he; simp at he
      rw [this] at he
      simp at he
      exact .inl ⟨by omega, he.symm⟩
  have holdf : ∀ (j : Nat) e, ds[j]? = some e → ∀ x ∈ e.own, x ∈ foot F S ds := fun j e he x hx => mem_foot.2 (.inr (.inr ⟨j, e, he, hx⟩))
  refine ⟨by simp [h.n1], by simp [h.n2], h.bs, hm, fun x hx hmm => ?_, fun j e u he hu2 => ?_, fun j e u he hu2 => ?_, fun j e he x hx => ?_, fun j u hu2 hdn => ?_, fun j1 j2 e1 e2 hj h1 h2 x hx => ?_⟩
  · rcases hS x hx with hx | hx
    · exact h.a2 x hx hmm
    · exact hx.1 (mem_foot.2 (.inl hmm))
  · rcases get j e he with ⟨hj, rfl⟩ | ⟨hj, he⟩
    · rcases gett j u hu2 with ⟨_, rfl⟩ | ⟨hj', _⟩
      · rw [hl]; exact hst
      · rw [h.n1] at hj; omega
    · rcases gett j u hu2 with ⟨hj', rfl⟩ | ⟨_, hu2⟩
      · rw [h.n1] at hj; omega
      · exact h.st j e u he hu2
  · rcases get j e he with ⟨hj, rfl⟩ | ⟨hj, he⟩
    · rcases gett j u hu2 with ⟨_, rfl⟩ | ⟨hj', _⟩
      · rw [hl]; exact ThOk.start _ _
      · rw [h.n1] at hj; omega
    · rcases gett j u hu2 with ⟨hj', rfl⟩ | ⟨_, hu2⟩
      · rw [h.n1] at hj; omega
      · exact h.ok j e u he hu2
  · rcases get j e he with ⟨hj, rfl⟩ | ⟨hj, he⟩
    · refine ⟨fun hmm => hown x hx (mem_foot.2 (.inl hmm)), fun hmm => ?_⟩
      rcases hS x hmm with hmm | hmm
      · exact hown x hx (mem_foot.2 (.inr (.inl hmm)))
      · exact hmm.2 hx
    · refine ⟨(h.a1 j e he x hx).1, fun hmm => ?_⟩
      rcases hS x hmm with hmm | hmm
      · exact (h.a1 j e he x hx).2 hmm
      · exact hmm.1 (holdf j e he x hx)
  · rcases gett j u hu2 with ⟨hj, rfl⟩ | ⟨hj, hu2⟩
    · cases hdn
    · rw [List.getElem?_append_left (by rw [h.n2]; exact hj)]
      exact h.r0 j u hu2 hdn
  · rcases get j1 e1 h1 with ⟨hj1, rfl⟩ | ⟨hj1, h1⟩
    · rcases get j2 e2 h2 with ⟨hj2, _⟩ | ⟨hj2, h2⟩
      · omega
      · exact fun hmm => hown x hx (holdf j2 e2 h2 x hmm)
    · rcases get j2 e2 h2 with ⟨hj2, e00⟩ | ⟨hj2, h2⟩
      · intro hmm
        rw [e00] at hmm
        exact hown x hmm (holdf j1 e1 h1 x hx)
      · exact h.ap j1 j2 e1 e2 hj h1 h2 x hx
end
def ptrV (x : Nat) : Value := .pointer (some ⟨x, 0, none⟩)
theorem thr_elem : Elem Tryz.prog 31 32 1 8 := .mk' (z := ((Tryz.prog.info? 32).bind (·.zero)).getD undef) Tryz.underlying31 (by kernel_rfl) (by kernel_rfl) (by omega)
theorem int_elem : Elem Tryz.prog 23 3 1 8 := .mk' (z := ((Tryz.prog.info? 3).bind (·.zero)).getD undef) Tryz.underlying23 (by kernel_rfl) (by kernel_rfl) (by omega)
theorem u64_elem : Elem Tryz.prog 27 26 1 8 := .mk' (z := ((Tryz.prog.info? 26).bind (·.zero)).getD undef) Tryz.underlying27 (by kernel_rfl) (by kernel_rfl) (by omega)
/-- A list of small numbers, as ints. -/
def NtE : Enc Nat := ⟨fun x => [.int .i64 x], 1, fun _ => rfl, by intro a u hu; simp at hu; subst hu; rfl, by omega⟩
/-- The law's boxes: the room's, the cells, the tickets' slice, the rows of which. -/
structure BX where
  rb : Nat
  kb : Nat
  tkb : Nat
  qb : Nat
def KB (b : BX) (vs : List Value) : List Nat := b.rb :: b.kb :: b.tkb :: b.qb :: vs.flatMap fun v => v.ownBlock.toList
theorem mem_kb {b : BX} {vs : List Value} {x : Nat} : x ∈ KB b vs ↔ x = b.rb ∨ x = b.kb ∨ x = b.tkb ∨ x = b.qb ∨ ∃ (i : Nat) (v : Value), vs[i]? = some v ∧ v.ownBlock = some x := by
  simp only [KB, List.mem_cons, List.mem_flatMap, Option.mem_toList]
  constructor
  · rintro (h | h | h | h | ⟨v, hv, h⟩)
    · exact .inl h
    · exact .inr (.inl h)
    · exact .inr (.inr (.inl h))
    · exact .inr (.inr (.inr (.inl h)))
    · obtain ⟨i, hi⟩ := List.getElem?_of_mem hv
      exact .inr (.inr (.inr (.inr ⟨i, v, hi, h⟩)))
  · rintro (h | h | h | h | ⟨i, v, hv, h⟩)
    · exact .inl h
    · exact .inr (.inl h)
    · exact .inr (.inr (.inl h))
    · exact .inr (.inr (.inr (.inl h)))
    · exact .inr (.inr (.inr (.inr ⟨v, List.mem_of_getElem? hv, h⟩)))
structure Own3 (w0 : Nat) (b : BX) (tb ns : Nat) (vs : List Value) (wf : Nat → List Nat) (wr : World) : Prop where
  brb : Blk wr b.rb 26 #[.int .u64 12]
  bkb : Blk wr b.kb 26 #[.int .u64 3, .int .u64 6, .int .u64 9]
  btk : Blk wr b.tkb 23 #[.slice (some ⟨tb, 0, none⟩) ns ns]
  bq : Blk wr b.qb 23 vs.toArray
  len : vs.length = ns
  row : ∀ (i : Nat) v, vs[i]? = some v → Ow NtE 3 wr w0 v (wf i)
  ap : ∀ (i j : Nat) v u, i ≠ j → vs[i]? = some v → vs[j]? = some u → ∀ x, v.ownBlock = some x → u.ownBlock ≠ some x
  ne : b.tkb ≠ b.qb ∧ b.kb ≠ b.rb
  ge : w0 ≤ b.rb ∧ w0 ≤ b.kb ∧ w0 ≤ b.tkb ∧ w0 ≤ b.qb
theorem Own3.upd {w0 : Nat} {b : BX} {tb ns : Nat} {vs : List Value} {wf : Nat → List Nat} {wr w' : World} {T : List Nat} (h : Own3 w0 b tb ns vs wf wr) (hu : Upd T wr w') (hT : ∀ x ∈ KB b vs, x ∉ T) : Own3 w0 b tb ns vs wf w' :=
  ⟨h.brb.upd hu (hT _ (mem_kb.2 (.inl rfl))), h.bkb.upd hu (hT _ (mem_kb.2 (.inr (.inl rfl)))), h.btk.upd hu (hT _ (mem_kb.2 (.inr (.inr (.inl rfl))))), h.bq.upd hu (hT _ (mem_kb.2 (.inr (.inr (.inr (.inl rfl)))))), h.len,
    fun i v hv => (h.row i v hv).upd hu (fun x hx => hT _ (mem_kb.2 (.inr (.inr (.inr (.inr ⟨i, v, hv, hx⟩)))))), h.ap, h.ne, h.ge⟩
theorem Own3.lt {w0 : Nat} {b : BX} {tb ns : Nat} {vs : List Value} {wf : Nat → List Nat} {wr : World} (h : Own3 w0 b tb ns vs wf wr) : ∀ x ∈ KB b vs, x < wr.heap.size ∧ w0 ≤ x := by
  intro x hx
  rcases mem_kb.1 hx with rfl | rfl | rfl | rfl | ⟨i, v, hv, hx⟩
  · exact ⟨h.brb.lt, h.ge.1⟩
  · exact ⟨h.bkb.lt, h.ge.2.1⟩
  · exact ⟨h.btk.lt, h.ge.2.2.1⟩
  · exact ⟨h.bq.lt, h.ge.2.2.2⟩
  · exact ⟨(own_lt (h.row i v hv) hx).2, (own_lt (h.row i v hv) hx).1⟩
/-- A row has one more: it is appended to, and put. -/
theorem Own3.put {w0 : Nat} {b : BX} {tb ns : Nat} {vs : List Value} {wf : Nat → List Nat} {wr w5 : World} (h : Own3 w0 b tb ns vs wf wr) {i : Nat} {v v5 : Value} {l : List Nat} (hi : vs[i]? = some v) (hu : Upd v.ownBlock.toList wr w5) (ho : Ow NtE 3 w5 w0 v5 l) (hb : ∀ x, v5.ownBlock = some x → v.ownBlock = some x ∨ wr.heap.size ≤ x) :
    Own3 w0 b tb ns (vs.set i v5) (fun k => if k = i then l else wf k) (w5.setCell ⟨b.qb, i, none⟩ v5) ∧ (∀ x ∈ KB b (vs.set i v5), x ∈ KB b vs ∨ wr.heap.size ≤ x) := by
  have hil := (List.getElem?_eq_some_iff.1 hi).1
  have hro := h.row i v hi
  have h5 : Upd [b.qb] w5 (w5.setCell ⟨b.qb, i, none⟩ v5) := (Upd.refl _ _).setCell (by simp) _
  have nt : ∀ {x : Nat} {t : TypeId} {cs : Array Value}, Blk wr x t cs → t ≠ 3 → x ∉ v.ownBlock.toList := fun hx ht hm => own_type hro hx ht (by simpa using hm)
  have get : ∀ (j : Nat) u, (vs.set i v5)[j]? = some u → (j = i ∧ u = v5) ∨ (j ≠ i ∧ vs[j]? = some u) := fun j u he => by
    rw [List.getElem?_set] at he
    split at he
    · next e1 => simp only [hil, if_true, Option.some.injEq] at he; exact .inl ⟨e1.symm, he.symm⟩
    · next e1 => exact .inr ⟨fun e2 => e1 e2.symm, he⟩
  have q5 : Blk w5 b.qb 23 vs.toArray := h.bq.upd hu (nt h.bq (by decide))
  have nq : ∀ {B0 : Nat} {u : Value} {n : Nat} {xs : List Value}, w5.ownsRow B0 3 1 u n xs → ∀ x, u.ownBlock = some x → x ∉ [b.qb] := fun ho x hx hm => own_type ho q5 (by decide) (by simp at hm; rw [hx, hm])
  refine ⟨⟨(h.brb.upd hu (nt h.brb (by decide))).upd h5 (by simpa using h.brb.ne_ h.bq (by decide)), (h.bkb.upd hu (nt h.bkb (by decide))).upd h5 (by simpa using h.bkb.ne_ h.bq (by decide)), (h.btk.upd hu (nt h.btk (by decide))).upd h5 (by simpa using h.ne.1), ?_, by simp [h.len], fun j u hj => ?_, fun j k u1 u2 hjk h1 h2 x hx => ?_, h.ne, h.ge⟩, fun x hx => ?_⟩
  · exact q5.set_eq (by simp)
  · rcases get j u hj with ⟨rfl, rfl⟩ | ⟨hne, hj⟩
    · simp only [if_true]
      exact own_upd ho h5 (nq ho)
    · simp only [if_neg hne]
      have hj5 := (h.row j u hj).upd hu (fun x hx hm => h.ap j i u v hne hj hi x hx (by simpa using hm))
      exact own_upd hj5 h5 (nq hj5)
  · have new : ∀ (j : Nat) u, vs[j]? = some u → ∀ x, u.ownBlock = some x → x < wr.heap.size := fun j u hj x hx => (own_lt (h.row j u hj) hx).2
    rcases get j u1 h1 with ⟨e1, e1'⟩ | ⟨hne, k1⟩
    · rcases get k u2 h2 with ⟨e, _⟩ | ⟨hne2, k2⟩
      · omega
      · rw [e1'] at hx
        rcases hb x hx with h' | h'
        · exact h.ap i k v u2 (fun e => hne2 e.symm) hi k2 x h'
        · intro hx2
          have := new k u2 k2 x hx2
          omega
    · rcases get k u2 h2 with ⟨e2, e2'⟩ | ⟨hne2, k2⟩
      · intro hx2
        rw [e2'] at hx2
        rcases hb x hx2 with h' | h'
        · exact h.ap j i u1 v hne k1 hi x hx h'
        · have := new j u1 k1 x hx
          omega
      · exact h.ap j k u1 u2 hjk k1 k2 x hx
  · rcases mem_kb.1 hx with h' | h' | h' | h' | ⟨j, u, hj, h'⟩
    · exact .inl (mem_kb.2 (.inl h'))
    · exact .inl (mem_kb.2 (.inr (.inl h')))
    · exact .inl (mem_kb.2 (.inr (.inr (.inl h'))))
    · exact .inl (mem_kb.2 (.inr (.inr (.inr (.inl h')))))
    · rcases get j u hj with ⟨rfl, rfl⟩ | ⟨hne, hj⟩
      · rcases hb x h' with h' | h'
        · exact .inl (mem_kb.2 (.inr (.inr (.inr (.inr ⟨j, v, hi, h'⟩)))))
        · exact .inr h'
      · exact .inl (mem_kb.2 (.inr (.inr (.inr (.inr ⟨j, u, hj, h'⟩)))))
/-- The threads, and the boxes beside them. -/
structure Lo (w : World) (b : BX) (tb db ns nc : Nat) (vs : List Value) (wf : Nat → List Nat) (Lb : Nat) (sl : List SlD) (co : List CoD) (wr : World) (F : BFp) (B : BS) (S : List Nat) (ds : List (TD An)) (ts : List (TS An)) (rs : List (Option An)) : Prop where
  sys : SysSt (M15 sl co ns nc tb db) wr F B S ds ts rs
  own : Own3 w.heap.size b tb ns vs wf wr
  kf : ∀ x ∈ KB b vs, x ∉ foot F S ds
  up : Upd [] w wr
  nw : ∀ x ∈ foot F S ds, w.heap.size ≤ x
  rowS : ∀ (i : Nat) d e, sl[i]? = some d → ds[i]? = some e → e.fid = 31 ∧ e.caps = #[ptrV d.cbx, ptrV d.rb, ptrV d.pb] ∧ e.p = sleeperT d.cells
  rowC : ∀ (j : Nat) d e, co[j]? = some d → ds[ns + j]? = some e → e.fid = 32 ∧ e.caps = #[ptrV d.pb, ptrV d.cb, ptrV d.rb] ∧ e.p = committerT d.x
  len : ∀ e ∈ ds, e.l.length ≤ Lb
  n1 : ds.length = sl.length + co.length
/-- The threads' slice. -/
structure TV (w : World) (b : BX) (vs : List Value) (wr : World) (F : BFp) (S : List Nat) (ds : List (TD An)) (tv : Value) : Prop where
  ts : wr.ownsRow w.heap.size 32 1 tv ds.length (ds.map fun d => ptrV d.tb)
  tf : ∀ x, tv.ownBlock = some x → x ∉ foot F S ds
theorem TV.kb {w : World} {b : BX} {tb ns : Nat} {wf : Nat → List Nat} {vs : List Value} {wr : World} {F : BFp} {S : List Nat} {ds : List (TD An)} {tv : Value} (h : TV w b vs wr F S ds tv) (k : Own3 w.heap.size b tb ns vs wf wr) : ∀ x, tv.ownBlock = some x → x ∉ KB b vs := by
  intro x hx hm
  rcases mem_kb.1 hm with rfl | rfl | rfl | rfl | ⟨i, v, hv, hx2⟩
  · exact own_type h.ts k.brb (by decide) hx
  · exact own_type h.ts k.bkb (by decide) hx
  · exact own_type h.ts k.btk (by decide) hx
  · exact own_type h.ts k.bq (by decide) hx
  · have hr : wr.ownsRow _ _ _ v _ _ := k.row i v hv
    obtain ⟨_, h2⟩ := hr
    rcases h2 with ⟨h2, _⟩ | ⟨g, cap, cur, h1, h2, h3, h4, h5, h6, h7⟩
    · subst h2; simp [Value.ownBlock] at hx2
    · subst h1
      simp only [Value.ownBlock, Option.some.injEq] at hx2
      subst hx2
      exact own_type h.ts h3 (by decide) hx
theorem TV.upd {w : World} {b : BX} {vs vs' : List Value} {wr w' : World} {F : BFp} {S : List Nat} {ds : List (TD An)} {tv : Value} {T : List Nat} (h : TV w b vs wr F S ds tv) (hu : Upd T wr w') (hT : ∀ x, tv.ownBlock = some x → x ∉ T) : TV w b vs' w' F S ds tv :=
  ⟨own_upd h.ts hu hT, h.tf⟩
theorem ds_tb {w w' : World} {F F2 : BFp} {S S2 : List Nat} {ds ds2 : List (TD An)} (h2 : SNx w w' F F2 S S2 ds ds2) : ds2.map (fun d => ptrV d.tb) = ds.map (fun d => ptrV d.tb) := by
  apply List.ext_getElem?
  intro i
  simp only [List.getElem?_map]
  cases hd : ds[i]? with
  | none =>
    have : ds2[i]? = none := List.getElem?_eq_none (by rw [h2.len]; exact List.getElem?_eq_none_iff.1 hd)
    rw [this]
  | some d =>
    have hl : i < ds2.length := by rw [h2.len]; exact (List.getElem?_eq_some_iff.1 hd).1
    have := h2.same i d _ hd (List.getElem?_eq_getElem hl)
    rw [List.getElem?_eq_getElem hl]
    simp only [Option.map_some]
    rw [this.1]
theorem TV.next {w : World} {b : BX} {vs : List Value} {wr w' : World} {F F2 : BFp} {S S2 : List Nat} {ds ds2 : List (TD An)} {tv : Value} (h : TV w b vs wr F S ds tv) (h2 : SNx wr w' F F2 S S2 ds ds2) : TV w b vs w' F2 S2 ds2 tv := by
  refine ⟨?_, fun x hx hm => (h2.gr x hm).elim (h.tf x hx) (fun e => by have := (own_lt h.ts hx).2; omega)⟩
  rw [ds_tb h2, h2.len]
  exact own_upd h.ts h2.up (fun x hx => h.tf x hx)
section
variable {w : World} {b : BX} {tb db ns nc : Nat} {vs : List Value} {wf : Nat → List Nat} {Lb : Nat} {sl : List SlD} {co : List CoD} {wr : World} {F : BFp} {B : BS} {S : List Nat} {ds : List (TD An)} {ts : List (TS An)} {rs : List (Option An)}
/-- A step of one of them. -/
theorem Lo.next (h : Lo w b tb db ns nc vs wf Lb sl co wr F B S ds ts rs) {k : Nat} {w' : World} {F2 : BFp} {B2 : BS} {S2 : List Nat} {ds2 : List (TD An)} {ts2 : List (TS An)} {rs2 : List (Option An)}
    (h1 : SysSt (M15 sl co ns nc tb db) w' F2 B2 S2 ds2 ts2 rs2) (h2 : SNx wr w' F F2 S S2 ds ds2) (h3 : LenLe k ds ds2) : Lo w b tb db ns nc vs wf (Lb + k) sl co w' F2 B2 S2 ds2 ts2 rs2 := by
  refine ⟨h1, h.own.upd h2.up (fun x hx => h.kf x hx), fun x hx hm => (h2.gr x hm).elim (h.kf x hx) (fun e => by have := (h.own.lt x hx).1; omega), h.up.trans' h2.up (fun x hx => .inr (h.nw x hx)), fun x hx => (h2.gr x hx).elim (h.nw x) (fun e => Nat.le_trans h.up.size e), fun i d e hd he => ?_, fun j d e hd he => ?_, fun e he => ?_, by rw [h2.len, h.n1]⟩
  · have hl : i < ds.length := by rw [← h2.len]; exact (List.getElem?_eq_some_iff.1 he).1
    obtain ⟨q1, q2, q3⟩ := h.rowS i d _ hd (List.getElem?_eq_getElem hl)
    obtain ⟨e1, e2, e3, e4⟩ := h2.same i _ e (List.getElem?_eq_getElem hl) he
    exact ⟨e2.trans q1, e3.trans q2, e4.trans q3⟩
  · have hl : ns + j < ds.length := by rw [← h2.len]; exact (List.getElem?_eq_some_iff.1 he).1
    obtain ⟨q1, q2, q3⟩ := h.rowC j d _ hd (List.getElem?_eq_getElem hl)
    obtain ⟨e1, e2, e3, e4⟩ := h2.same _ _ e (List.getElem?_eq_getElem hl) he
    exact ⟨e2.trans q1, e3.trans q2, e4.trans q3⟩
  · obtain ⟨i, hi⟩ := List.getElem?_of_mem he
    have hl : i < ds.length := by rw [← h2.len]; exact (List.getElem?_eq_some_iff.1 hi).1
    have g1 := h3 i _ e (List.getElem?_eq_getElem hl) hi
    have g2 := h.len _ (List.getElem_mem hl)
    omega
/-- What is done elsewhere. -/
theorem Lo.far (h : Lo w b tb db ns nc vs wf Lb sl co wr F B S ds ts rs) {w' : World} {T : List Nat} {vs' : List Value} {wf' : Nat → List Nat} (hu : Upd T wr w') (hT : ∀ x ∈ T, x ∉ foot F S ds ∧ w.heap.size ≤ x) (ho : Own3 w.heap.size b tb ns vs' wf' w') (hk : ∀ x ∈ KB b vs', x ∈ KB b vs ∨ wr.heap.size ≤ x) : Lo w b tb db ns nc vs' wf' Lb sl co w' F B S ds ts rs :=
  ⟨h.sys.far (m15_ok sl co ns nc tb db) hu (fun x hx => (hT x hx).1), ho, fun x hx hm => (hk x hx).elim (fun hx => h.kf x hx hm) (fun hx => by have := h.sys.lt (m15_ok sl co ns nc tb db) x hm; omega), h.up.trans' hu (fun x hx => .inr (hT x hx).2), h.nw, h.rowS, h.rowC, h.len, h.n1⟩
theorem Lo.far0 (h : Lo w b tb db ns nc vs wf Lb sl co wr F B S ds ts rs) {w' : World} {T : List Nat} (hu : Upd T wr w') (hT : ∀ x ∈ T, x ∉ foot F S ds ∧ w.heap.size ≤ x ∧ x ∉ KB b vs) : Lo w b tb db ns nc vs wf Lb sl co w' F B S ds ts rs :=
  h.far hu (fun x hx => ⟨(hT x hx).1, (hT x hx).2.1⟩) (h.own.upd hu (fun x hx hm => (hT x hm).2.2 hx)) (fun x hx => .inl hx)
theorem SlR.more {w : World} {S N : List Nat} {i : Nat} {d : SlD} (h : SlR tb w S i d) : SlR tb w (S ++ N) i d :=
  ⟨h.b1, h.b2, h.b3, h.ls, ⟨List.mem_append_left _ h.mem.1.1, List.mem_append_left _ h.mem.1.2.1, List.mem_append_left _ h.mem.1.2.2⟩, fun b hb => List.mem_append_left _ (h.mem.2 b hb)⟩
theorem CoR.more {w : World} {S N : List Nat} {j : Nat} {d : CoD} (h : CoR db w S j d) : CoR db w (S ++ N) j d :=
  ⟨h.b1, h.b2, h.b3, List.mem_append_left _ h.mem.1, List.mem_append_left _ h.mem.2.1, List.mem_append_left _ h.mem.2.2⟩
theorem rs_none {rs : List (Option An)} {i : Nat} {a : An} (h : (rs ++ [none])[i]? = some (some a)) : rs[i]? = some (some a) := by
  by_cases hi : i < rs.length
  · rwa [List.getElem?_append_left hi] at h
  · rw [List.getElem?_append_right (by omega)] at h
    cases hk : i - rs.length with
    | zero => rw [hk] at h; simp at h
    | succ k => rw [hk] at h; simp at h
theorem snoc_get {β : Type} {l : List β} {x y : β} {i : Nat} (h : (l ++ [x])[i]? = some y) : (i < l.length ∧ l[i]? = some y) ∨ (i = l.length ∧ y = x) := by
  by_cases hi : i < l.length
  · rw [List.getElem?_append_left hi] at h; exact .inl ⟨hi, h⟩
  · rw [List.getElem?_append_right (by omega)] at h
    cases hk : i - l.length with
    | zero => rw [hk] at h; simp at h; exact .inr ⟨by omega, h.symm⟩
    | succ k => rw [hk] at h; simp at h
/-- A sleeper more. -/
theorem Lo.pushS (h : Lo w b tb db ns nc vs wf Lb sl [] wr F B S ds ts rs) {d : SlD} {e : TD An} {N : List Nat} (hN : N = [d.cbx, d.rb, d.pb] ++ d.lv.ownBlock.toList) (hd : SlR tb wr (S ++ N) sl.length d) (hst : ThSt wr F.b0 e.tb e.lv e.fid e.caps [] false) (hl : e.l = [])
    (e1 : e.fid = 31) (e2 : e.caps = #[ptrV d.cbx, ptrV d.rb, ptrV d.pb]) (e3 : e.p = sleeperT d.cells) (hlt : ∀ x ∈ N, x < wr.heap.size) (ho : ∀ x ∈ e.own, x ∉ foot F S ds ∧ x ∉ KB b vs ∧ x ∉ N ∧ w.heap.size ≤ x) (hf : ∀ x ∈ N, x ∉ foot F S ds ∧ x ∉ KB b vs ∧ w.heap.size ≤ x) :
    Lo w b tb db ns nc vs wf Lb (sl ++ [d]) [] wr F B (S ++ N) (ds ++ [e]) (ts ++ [⟨e.p, false⟩]) (rs ++ [none]) := by
  have hm : M15 (sl ++ [d]) [] ns nc tb db wr (S ++ N) (rs ++ [none]) := by
    obtain ⟨tv, t1, t2, t3⟩ := h.sys.m.tks
    obtain ⟨dv, d1, d2, d3⟩ := h.sys.m.dns
    refine ⟨fun i d' hi => ?_, fun j d' hj => by simp at hj, ⟨tv, t1, t2, fun i a hi ha => t3 i a hi (rs_none ha)⟩, ⟨dv, d1, d2, fun j a ha => d3 j a (rs_none ha)⟩, ⟨List.mem_append_left _ h.sys.m.mem.1, List.mem_append_left _ h.sys.m.mem.2⟩, fun x hx => ?_⟩
    · rcases snoc_get hi with ⟨_, hi⟩ | ⟨rfl, rfl⟩
      · exact (h.sys.m.row i d' hi).more
      · exact hd
    · rcases List.mem_append.1 hx with hx | hx
      · exact h.sys.m.lt x hx
      · exact hlt x hx
  have hfoot : ∀ x, x ∈ foot F (S ++ N) (ds ++ [e]) → x ∈ foot F S ds ∨ x ∈ N ∨ x ∈ e.own := fun x hx => by
    simp only [foot, List.mem_append, List.flatMap_append] at hx ⊢
    rcases hx with (hx | hx | hx) | hx | hx
    · exact .inl (.inl (.inl hx))
    · exact .inl (.inl (.inr hx))
    · exact .inr (.inl hx)
    · exact .inl (.inr hx)
    · exact .inr (.inr (by simpa using hx))
  have hn : ds.length = sl.length := by rw [h.n1]; simp
  refine ⟨h.sys.push2 (m15_ok sl [] ns nc tb db) e hst hl (fun x hx => (ho x hx).1) hm (fun x hx => ?_), h.own, fun x hx hm => ?_, h.up, fun x hx => ?_, fun i d' e' hd' he' => ?_, fun j d' e' hd' he' => by simp at hd', fun e' he' => ?_, by simp [h.n1]⟩
  · rcases List.mem_append.1 hx with hx | hx
    · exact .inl hx
    · exact .inr ⟨(hf x hx).1, fun hm => (ho x hm).2.2.1 hx⟩
  · rcases hfoot x hm with hm | hm | hm
    · exact h.kf x hx hm
    · exact (hf x hm).2.1 hx
    · exact (ho x hm).2.1 hx
  · rcases hfoot x hx with hx | hx | hx
    · exact h.nw x hx
    · exact (hf x hx).2.2
    · exact (ho x hx).2.2.2
  · rcases snoc_get hd' with ⟨hi, hd'⟩ | ⟨hi, rfl⟩
    · rcases snoc_get he' with ⟨_, he'⟩ | ⟨hi', rfl⟩
      · exact h.rowS i d' e' hd' he'
      · omega
    · rcases snoc_get he' with ⟨hi', he'⟩ | ⟨_, rfl⟩
      · omega
      · exact ⟨e1, e2, e3⟩
  · rcases List.mem_append.1 he' with he' | he'
    · exact h.len e' he'
    · simp at he'; subst he'; rw [hl]; exact Nat.zero_le _
/-- A committer more. -/
theorem Lo.pushC (h : Lo w b tb db ns nc vs wf Lb sl co wr F B S ds ts rs) (hsl : sl.length = ns) {d : CoD} {e : TD An} {N : List Nat} (hN : N = [d.cb, d.rb, d.pb]) (hd : CoR db wr (S ++ N) co.length d) (hst : ThSt wr F.b0 e.tb e.lv e.fid e.caps [] false) (hl : e.l = [])
    (e1 : e.fid = 32) (e2 : e.caps = #[ptrV d.pb, ptrV d.cb, ptrV d.rb]) (e3 : e.p = committerT d.x) (hlt : ∀ x ∈ N, x < wr.heap.size) (ho : ∀ x ∈ e.own, x ∉ foot F S ds ∧ x ∉ KB b vs ∧ x ∉ N ∧ w.heap.size ≤ x) (hf : ∀ x ∈ N, x ∉ foot F S ds ∧ x ∉ KB b vs ∧ w.heap.size ≤ x) :
    Lo w b tb db ns nc vs wf Lb sl (co ++ [d]) wr F B (S ++ N) (ds ++ [e]) (ts ++ [⟨e.p, false⟩]) (rs ++ [none]) := by
  have hm : M15 sl (co ++ [d]) ns nc tb db wr (S ++ N) (rs ++ [none]) := by
    obtain ⟨tv, t1, t2, t3⟩ := h.sys.m.tks
    obtain ⟨dv, d1, d2, d3⟩ := h.sys.m.dns
    refine ⟨fun i d' hi => (h.sys.m.row i d' hi).more, fun j d' hj => ?_, ⟨tv, t1, t2, fun i a hi ha => t3 i a hi (rs_none ha)⟩, ⟨dv, d1, d2, fun j a ha => d3 j a (rs_none ha)⟩, ⟨List.mem_append_left _ h.sys.m.mem.1, List.mem_append_left _ h.sys.m.mem.2⟩, fun x hx => ?_⟩
    · rcases snoc_get hj with ⟨_, hj⟩ | ⟨rfl, rfl⟩
      · exact (h.sys.m.crow j d' hj).more
      · exact hd
    · rcases List.mem_append.1 hx with hx | hx
      · exact h.sys.m.lt x hx
      · exact hlt x hx
  have hfoot : ∀ x, x ∈ foot F (S ++ N) (ds ++ [e]) → x ∈ foot F S ds ∨ x ∈ N ∨ x ∈ e.own := fun x hx => by
    simp only [foot, List.mem_append, List.flatMap_append] at hx ⊢
    rcases hx with (hx | hx | hx) | hx | hx
    · exact .inl (.inl (.inl hx))
    · exact .inl (.inl (.inr hx))
    · exact .inr (.inl hx)
    · exact .inl (.inr hx)
    · exact .inr (.inr (by simpa using hx))
  have hn : ds.length = ns + co.length := by rw [h.n1, hsl]
  refine ⟨h.sys.push2 (m15_ok sl co ns nc tb db) e hst hl (fun x hx => (ho x hx).1) hm (fun x hx => ?_), h.own, fun x hx hm => ?_, h.up, fun x hx => ?_, fun i d' e' hd' he' => ?_, fun j d' e' hd' he' => ?_, fun e' he' => ?_, by simp [h.n1]; omega⟩
  · rcases List.mem_append.1 hx with hx | hx
    · exact .inl hx
    · exact .inr ⟨(hf x hx).1, fun hm => (ho x hm).2.2.1 hx⟩
  · rcases hfoot x hm with hm | hm | hm
    · exact h.kf x hx hm
    · exact (hf x hm).2.1 hx
    · exact (ho x hm).2.1 hx
  · rcases hfoot x hx with hx | hx | hx
    · exact h.nw x hx
    · exact (hf x hx).2.2
    · exact (ho x hx).2.2.2
  · have hi := (List.getElem?_eq_some_iff.1 hd').1
    rcases snoc_get he' with ⟨_, he'⟩ | ⟨hi', rfl⟩
    · exact h.rowS i d' e' hd' he'
    · omega
  · rcases snoc_get hd' with ⟨hi, hd'⟩ | ⟨hi, rfl⟩
    · rcases snoc_get he' with ⟨_, he'⟩ | ⟨hi', rfl⟩
      · exact h.rowC j d' e' hd' he'
      · omega
    · rcases snoc_get he' with ⟨hi', he'⟩ | ⟨_, rfl⟩
      · omega
      · exact ⟨e1, e2, e3⟩
  · rcases List.mem_append.1 he' with he' | he'
    · exact h.len e' he'
    · simp at he'; subst he'; rw [hl]; exact Nat.zero_le _
/-- A slice of threads, one more. -/
theorem TV.push {N : List Nat} {e : TD An} {v5 : Value} {w' : World} (ho : w'.ownsRow w.heap.size 32 1 v5 (ds.length + 1) ((ds.map fun d => ptrV d.tb) ++ [ptrV e.tb])) (hb : ∀ x, v5.ownBlock = some x → x ∉ foot F S ds ∧ x ∉ N ∧ x ∉ e.own) : TV w b vs w' F (S ++ N) (ds ++ [e]) v5 := by
  refine ⟨by rw [List.length_append, List.map_append]; exact ho, fun x hx hm => ?_⟩
  obtain ⟨h1, h2, h3⟩ := hb x hx
  simp only [foot, List.mem_append, List.flatMap_append] at hm
  rcases hm with (hm | hm | hm) | hm | hm
  · exact h1 (mem_foot.2 (.inl hm))
  · exact h1 (mem_foot.2 (.inr (.inl hm)))
  · exact h2 hm
  · obtain ⟨d, hd, hm⟩ := List.mem_flatMap.1 hm
    obtain ⟨i, hi⟩ := List.getElem?_of_mem hd
    exact h1 (mem_foot.2 (.inr (.inr ⟨i, d, hi, hm⟩)))
  · exact h3 (by simpa using hm)
/-- The bodies. -/
theorem Lo.body (h : Lo w b tb db ns nc vs wf Lb sl co wr F B S ds ts rs) (hs : sl.length = ns) (hc : co.length = nc) (hsc : ∀ d ∈ sl, d.cells.length ≤ 3 ∧ ∀ x ∈ d.cells, x < 3) (hcc : ∀ d ∈ co, d.x < 3) {i : Nat} {e : TD An} (he : ds[i]? = some e) :
    BodyOk e.fid e.caps e.p (fun a => a.err ≠ 0) J15 (fun w S r => M15 sl co ns nc tb db w S (rs.set i r)) := by
  have hrl : rs.length = ns + nc := by rw [h.sys.n2, ← h.sys.n1, h.n1, hs, hc]
  have hil := (List.getElem?_eq_some_iff.1 he).1
  rw [h.n1, hs, hc] at hil
  by_cases hi : i < ns
  · have hd := List.getElem?_eq_getElem (l := sl) (i := i) (by omega)
    obtain ⟨q1, q2, q3⟩ := h.rowS i _ e hd he
    rw [q1, q2, q3]
    exact sleeper_body sl co ns nc tb db i _ hd hi (hsc _ (List.mem_of_getElem? hd)) rs hrl
  · obtain ⟨j, rfl⟩ : ∃ j, i = ns + j := ⟨i - ns, by omega⟩
    have hd := List.getElem?_eq_getElem (l := co) (i := j) (by omega)
    obtain ⟨q1, q2, q3⟩ := h.rowC j _ e hd he
    rw [q1, q2, q3]
    exact committer_body sl co ns nc tb db j _ hd (by omega) (hcc _ (List.mem_of_getElem? hd)) rs hrl
/-- Behind all of them. -/
structure E5 (w : World) (b : BX) (tb db ns nc : Nat) (vs : List Value) (wf : Nat → List Nat) (tv : List Int) (dv : List Bool) (B : BS) (wr : World) (F : BFp) : Prop where
  bs : BSt wr F B
  own : Own3 w.heap.size b tb ns vs wf wr
  btb : Blk wr tb 3 (tv.map (Value.int .i64)).toArray
  bdb : Blk wr db 4 (dv.map Value.bool).toArray
  ap : ∀ x ∈ tb :: db :: KB b vs, x ∉ F.l ∧ w.heap.size ≤ x
  nt : tb ∉ KB b vs
  up : Upd [] w wr
  fl : ∀ x ∈ F.l, w.heap.size ≤ x
theorem Lo.fin (h : Lo w b tb db ns nc vs wf Lb sl co wr F B S ds ts rs) {as_ : List An} (hts : ts = as_.map fun a => ⟨.ret a, true⟩) (hn : as_.length = ns + nc) :
    ∃ (tv : List Int) (dv : List Bool), tv.length = ns ∧ dv.length = nc ∧ (∀ (i : Nat) a, i < ns → as_[i]? = some a → tv[i]? = some a.n) ∧ (∀ (j : Nat) a, as_[ns + j]? = some a → dv[j]? = some (a.n == 1)) ∧ E5 w b tb db ns nc vs wf tv dv B wr F := by
  obtain ⟨tv, t1, t2, t3⟩ := h.sys.m.tks
  obtain ⟨dv, d1, d2, d3⟩ := h.sys.m.dns
  have hr : ∀ (i : Nat) a, as_[i]? = some a → rs[i]? = some (some a) := fun i a ha => h.sys.r0 i ⟨.ret a, true⟩ (by rw [hts, List.getElem?_map, ha]; rfl) rfl
  have hF : ∀ x ∈ F.l, x ∈ foot F S ds := fun x hx => mem_foot.2 (.inl hx)
  have hS : ∀ x ∈ S, x ∈ foot F S ds := fun x hx => mem_foot.2 (.inr (.inl hx))
  refine ⟨tv, dv, t1, d1, fun i a hi ha => t3 i a hi (hr i a ha), fun j a ha => d3 j a (hr _ a ha), h.sys.bs, h.own, t2, d2, fun x hx => ?_, fun hm => h.kf _ hm (hS _ h.sys.m.mem.1), h.up, fun x hx => h.nw x (hF x hx)⟩
  rcases List.mem_cons.1 hx with rfl | hx
  · exact ⟨h.sys.a2 _ h.sys.m.mem.1, h.nw _ (hS _ h.sys.m.mem.1)⟩
  rcases List.mem_cons.1 hx with rfl | hx
  · exact ⟨h.sys.a2 _ h.sys.m.mem.2, h.nw _ (hS _ h.sys.m.mem.2)⟩
  · exact ⟨fun hm => h.kf x hx (hF x hm), (h.own.lt x hx).2⟩
end
/-- One has asked. -/
theorem E5.next {w : World} {b : BX} {tb db ns nc : Nat} {vs : List Value} {wf : Nat → List Nat} {tv : List Int} {dv : List Bool} {B : BS} {wr w1 w2 : World} {F F' : BFp} (h : E5 w b tb db ns nc vs wf tv dv B wr F) {ib ab i : Nat} {a : An} (hu : Upd [] wr w1) (hib : wr.heap.size ≤ ib) (hab : wr.heap.size ≤ ab) (hab1 : ab < w1.heap.size)
    (p1 : BSt w2 F' B) (p2 : MBx (askC b.rb b.tkb ib tb i ns tv) (askO ab) w2 [b.rb, b.tkb, ib, tb, ab] (some a)) (p4 : Upd (F.l ++ [b.rb, b.tkb, ib, tb, ab]) w1 w2) (p5 : ∀ x ∈ F'.l, x ∈ F.l ∨ w1.heap.size ≤ x) :
    E5 w b tb db ns nc vs wf tv dv B w2 F' ∧ Blk w2 ab 4 #[.bool (a.n == 1)] := by
  obtain ⟨_, _, m1, m2⟩ := p2
  simp only [List.mem_cons, forall_eq_or_imp, List.not_mem_nil, false_imp_iff, implies_true, and_true] at m1 m2
  obtain ⟨g1, g2, g3, g4⟩ := m1
  obtain ⟨x0, g5, g6⟩ := m2
  obtain rfl := g6 a rfl
  have hq : ∀ x, x ∈ tb :: db :: KB b vs → x < wr.heap.size := fun x hx => by
    rcases List.mem_cons.1 hx with rfl | hx
    · exact h.btb.lt
    rcases List.mem_cons.1 hx with rfl | hx
    · exact h.bdb.lt
    · exact (h.own.lt x hx).1
  have hws := h.up.size
  have o1 : Own3 w.heap.size b tb ns vs wf w1 := h.own.upd hu (by simp)
  have nF : ∀ x ∈ tb :: db :: KB b vs, x ∉ [b.rb, b.tkb, ib, tb, ab] → x ∉ F.l ++ [b.rb, b.tkb, ib, tb, ab] := fun x hx hn hm => (List.mem_append.1 hm).elim (h.ap x hx).1 hn
  have bt1 := h.btb.upd hu (by simp)
  have q1 : b.qb ∉ [b.rb, b.tkb, ib, tb, ab] := by
    intro hm
    have k1 := hq b.qb (by simp [KB])
    have k2 := o1.brb.ne_ o1.bq (by decide)
    have k3 := o1.ne.1
    have k4 := bt1.ne_ o1.bq (by decide)
    simp at hm
    omega
  refine ⟨⟨p1, ⟨g1, ?_, g2, o1.bq.upd p4 (nF _ (by simp [KB]) q1), o1.len, fun j v hv => (o1.row j v hv).upd p4 (fun x hx => ?_), o1.ap, o1.ne, o1.ge⟩, g4, (h.bdb.upd hu (by simp)).upd p4 (nF _ (by simp) ?_), fun x hx => ⟨fun hm => ?_, (h.ap x hx).2⟩, h.nt, ?_, fun x hx => ?_⟩, g5⟩
  · refine o1.bkb.upd p4 (nF _ (by simp [KB]) fun hm => ?_)
    have k1 := hq b.kb (by simp [KB])
    have k2 := o1.bkb.ne_ o1.btk (by decide)
    have k3 := o1.ne.2
    have k4 := o1.bkb.ne_ bt1 (by decide)
    simp at hm
    omega
  · have hk : x ∈ KB b vs := mem_kb.2 (.inr (.inr (.inr (.inr ⟨j, v, hv, hx⟩))))
    have hk' : x ∈ tb :: db :: KB b vs := List.mem_cons_of_mem _ (List.mem_cons_of_mem _ hk)
    refine nF x hk' fun hm => ?_
    have k1 := hq x hk'
    have k5 : x ≠ tb := fun e => h.nt (e ▸ hk)
    have k6 : x ≠ b.rb := fun e => own_type (o1.row j v hv) o1.brb (by decide) (e ▸ hx)
    have k7 : x ≠ b.tkb := fun e => own_type (o1.row j v hv) o1.btk (by decide) (e ▸ hx)
    simp at hm
    omega
  · intro hm
    have k1 := h.bdb.lt
    have bd1 := h.bdb.upd hu (by simp)
    have k2 := bd1.ne_ o1.brb (by decide)
    have k3 := bd1.ne_ o1.btk (by decide)
    have k4 := bd1.ne_ bt1 (by decide)
    simp at hm
    omega
  · rcases p5 x hm with hm | hm
    · exact (h.ap x hx).1 hm
    · have := hq x hx
      have := hu.size
      omega
  · refine (h.up.trans hu).trans' p4 fun x hx => .inr ?_
    rcases List.mem_append.1 hx with hx | hx
    · exact h.fl x hx
    · have r1 := (h.ap b.rb (by simp [KB])).2
      have r2 := (h.ap b.tkb (by simp [KB])).2
      have r3 := (h.ap tb (by simp)).2
      simp at hx
      omega
  · rcases p5 x hx with hx | hx
    · exact h.fl x hx
    · have := hu.size
      omega
end Go.Proofs.YtkldpdldjalpeaaGreatDoor

namespace Go.Proofs.YtkldpdldjalpeaaGreatDoor.Th

/-- The scene's blocks with other words of clock, Meta and value. -/
def B1 (c w v : Int) : BS := ⟨6, [(1, 1), (3, 2)], [0, 3, c, 5, w, v] ++ List.replicate 294 0⟩
theorem b1_clock (c w v : Int) : (B1 c w v).ws.getD (1 + 1 + 0) 0 = c := rfl
theorem b1_meta (c w v : Int) : (B1 c w v).ws.getD (3 + 1 + 0) 0 = w := rfl
theorem b1_val (c w v : Int) : (B1 c w v).ws.getD (3 + 1 + 1) 0 = v := rfl
theorem b1_load_clock (c w v : Int) : ex (B1 c w v) (.load 1 0) = (⟨1, 1, 0, c, false⟩, B1 c w v) := rfl
theorem b1_load_meta (c w v : Int) : ex (B1 c w v) (.load 3 0) = (⟨1, 3, 0, w, false⟩, B1 c w v) := rfl
theorem b1_load_val (c w v : Int) : ex (B1 c w v) (.load 3 1) = (⟨1, 3, 1, v, false⟩, B1 c w v) := rfl
theorem b1_store_meta (c w v x : Int) : ex (B1 c w v) (.store 3 0 x) = (⟨2, 3, 0, x, false⟩, B1 c x v) := rfl
theorem b1_store_val (c w v x : Int) : ex (B1 c w v) (.store 3 1 x) = (⟨2, 3, 1, x, false⟩, B1 c w x) := rfl
theorem b1_cas_meta (c w v o x : Int) : ex (B1 c w v) (.cas 3 0 o x) = (⟨3, 3, 0, x, w == o⟩, if w = o then B1 c x v else B1 c w v) := by
  simp only [ex]
  rw [b1_meta]
  by_cases h : w = o <;> simp only [h, if_true, if_false] <;> rfl
theorem b1_cas_clock (c w v o x : Int) : ex (B1 c w v) (.cas 1 0 o x) = (⟨3, 1, 0, x, c == o⟩, if c = o then B1 x w v else B1 c w v) := by
  simp only [ex]
  rw [b1_clock]
  by_cases h : c = o <;> simp only [h, if_true, if_false] <;> rfl

/-- Who has locked it. -/
def wO : Option Nat → Int
  | none => 0
  | some j => pk ⟨0, j + 1, true, false⟩
def IO (m : Nat) (s : Option Nat) (B : BS) : Prop := B = B1 0 (wO s) 10 ∧ ∀ j, s = some j → j < m
def RO (i : Nat) (s s' : Option Nat) : Prop := s' = s ∨ (s = none ∧ ∃ j, j ≠ i ∧ s' = some j)
def QO (i : Nat) (l : List An) (s : Option Nat) : Prop := (l = [⟨0, 0, 0⟩] ∧ s = some i) ∨ (l = [⟨12, 0, 0⟩] ∧ ∃ j, j ≠ i ∧ s = some j)
theorem ro_ok : RelOk RO QO where
  refl i s := .inl rfl
  trans i s s' s'' h k := by
    rcases h with rfl | ⟨h, j, h1, rfl⟩
    · exact k
    · rcases k with rfl | ⟨k, _⟩
      · exact .inr ⟨h, j, h1, rfl⟩
      · cases k
  post i a s s' h q := by
    rcases h with rfl | ⟨rfl, _⟩
    · exact q
    · rcases q with ⟨_, e⟩ | ⟨_, j, _, e⟩ <;> cases e
theorem wO_some {j : Nat} (h : j < 4) : unp (wO (some j)) = ⟨0, j + 1, true, false⟩ ∧ wO (some j) ≠ 0 := by
  have h1 : unp (wO (some j)) = ⟨0, j + 1, true, false⟩ := unp_pk ⟨by simp, by simp, by simp only; omega, by simp only; omega⟩
  refine ⟨h1, fun e => ?_⟩
  unfold wO pk at e
  simp at e
  omega
def calO (i : Nat) : Cl := ⟨5, 0, 0, (i + 1 : Nat), 0⟩
def QA (i : Nat) (a : An) (s : Option Nat) : Prop := QO i [a] s
theorem turn_lost {m i j : Nat} (hm : m ≤ 4) (hj : j ≠ i) : ∀ n, Safe (IO m) RO i (QA i) (turnT 3 0 (lockTo ((i + 1 : Nat) : Int)) n) (some j)
  | 0 => .inr ⟨rfl, j, hj, rfl⟩
  | n + 1 => by
    intro s' hr B hB
    have : s' = some j := hr.elim id (fun e => by cases e.1)
    subst this
    obtain ⟨rfl, hl⟩ := hB
    refine ⟨some j, fun _ _ => .inl rfl, ⟨rfl, hl⟩, ?_⟩
    rw [b1_load_meta]
    have := (wO_some (Nat.lt_of_lt_of_le (hl j rfl) hm)).1
    simp only [this, true_or, if_true]
    exact .inr ⟨rfl, j, hj, rfl⟩
theorem turn_one {m i : Nat} (hm : m ≤ 4) (hi : i < m) (n : Nat) : Safe (IO m) RO i (QA i) (turnT 3 0 (lockTo ((i + 1 : Nat) : Int)) (n + 1)) none := by
  intro s' hr B hB
  rcases hr with rfl | ⟨_, j, hj, rfl⟩
  · obtain ⟨rfl, hl⟩ := hB
    refine ⟨none, fun _ _ => .inl rfl, ⟨rfl, hl⟩, ?_⟩
    rw [b1_load_meta]
    have h0 : unp (wO none) = ⟨0, 0, false, false⟩ := by decide
    have hne : ¬ (lockTo ((i + 1 : Nat) : Int) ⟨0, 0, false, false⟩ = ⟨0, 0, false, false⟩) := by simp [lockTo]
    simp only [h0, Bool.false_eq_true, ne_eq, not_true_eq_false, or_self, if_false, hne]
    intro s2 hr2 B2 hB2
    rcases hr2 with rfl | ⟨_, j, hj, rfl⟩
    · obtain ⟨rfl, hl⟩ := hB2
      have hp : pk ⟨0, 0, false, false⟩ = 0 := rfl
      refine ⟨some i, fun j hj => .inr ⟨rfl, i, fun e => hj e.symm, rfl⟩, ⟨?_, ?_⟩, ?_⟩
      · rw [b1_cas_meta, hp]
        simp only [show wO none = 0 from rfl, if_true]
        rfl
      · intro j e; injection e with e; omega
      · rw [b1_cas_meta, hp]
        exact .inl ⟨rfl, rfl⟩
    · obtain ⟨rfl, hl⟩ := hB2
      have hw := (wO_some (Nat.lt_of_lt_of_le (hl j rfl) hm)).2
      have hp : pk ⟨0, 0, false, false⟩ = 0 := rfl
      refine ⟨some j, fun _ _ => .inl rfl, ⟨?_, hl⟩, ?_⟩
      · rw [b1_cas_meta, hp, if_neg hw]
      · rw [b1_cas_meta, hp]
        have : (wO (some j) == 0) = false := by simpa using hw
        simp only [this, Bool.false_eq_true, if_false]
        exact turn_lost hm hj n
  · obtain ⟨rfl, hl⟩ := hB
    refine ⟨some j, fun _ _ => .inl rfl, ⟨rfl, hl⟩, ?_⟩
    rw [b1_load_meta]
    have := (wO_some (Nat.lt_of_lt_of_le (hl j rfl) hm)).1
    simp only [this, true_or, if_true]
    exact .inr ⟨rfl, j, hj, rfl⟩
theorem one_safe {m i : Nat} (hm : m ≤ 4) (hi : i < m) : Safe (IO m) RO i (QO i) (bodyT 1 3 [calO i] []) none := by
  unfold bodyT
  rw [if_neg (by simp [calO])]
  refine Safe.bind (Q := QA i) ?_ fun a s h => by
    by_cases e : a.err = 98
    · rw [if_pos e]; exact h
    · rw [if_neg e]; exact h
  exact turn_one hm hi 7
theorem qo_fine {i : Nat} {l : List An} {s : Option Nat} (h : QO i l s) : Fine l := by
  intro a ha
  rcases h with ⟨rfl, _⟩ | ⟨rfl, _⟩ <;> (simp at ha; subst ha; decide)
/-- All who lock it, in whichever order. -/
theorem one_whole {n : Nat} (hn : n ≤ 4) (hn2 : 2 ≤ n) (picks : List Nat) :
    ∃ (j : Nat), j < n ∧ wholeT 500 ((List.range n).map fun i => bodyT 1 3 [calO i] []) (B1 0 0 10) picks
      = ((List.range n).map (fun i => (⟨.ret [⟨if i = j then 0 else 12, 0, 0⟩], true⟩ : TS (List An))), B1 0 (pk ⟨0, j + 1, true, false⟩) 10) := by
  obtain ⟨as_, s, h1, h2, h3, h4⟩ := whole_safe (I := IO n) (Q := QO) (D := 17) ro_ok (n := 500) (by omega) (ps := (List.range n).map fun i => bodyT 1 3 [calO i] []) (B := B1 0 0 10) (s := none) ⟨rfl, by simp⟩ (by
    intro i p hp
    simp only [List.getElem?_map, Option.map_eq_some_iff] at hp
    obtain ⟨k, hk, rfl⟩ := hp
    have hlt := (List.getElem?_eq_some_iff.1 hk).1
    rw [List.length_range] at hlt
    rw [List.getElem?_range hlt] at hk
    injection hk with hk
    subst hk
    exact ⟨one_safe hn (by omega), dep_body 1 3 [calO i] []⟩) picks
  rw [List.length_map, List.length_range] at h2
  obtain ⟨h3, h5⟩ := h3
  have hget : ∀ i, i < n → ∃ a, as_[i]? = some a := fun i hi => ⟨as_[i], List.getElem?_eq_getElem (by omega)⟩
  have hs : ∃ j, s = some j := by
    obtain ⟨a, ha⟩ := hget 0 (by omega)
    rcases h4 0 a ha with ⟨_, e⟩ | ⟨_, j, _, e⟩
    · exact ⟨_, e⟩
    · exact ⟨_, e⟩
  obtain ⟨j, rfl⟩ := hs
  have hq : ∀ i a, as_[i]? = some a → a = [(⟨if i = j then 0 else 12, 0, 0⟩ : An)] := by
    intro i a ha
    rcases h4 i a ha with ⟨rfl, e⟩ | ⟨rfl, k, hk, e⟩
    · injection e with e; subst e; simp
    · injection e with e; subst e; rw [if_neg (fun e => hk e.symm)]
  have hj : j < n := h5 j rfl
  refine ⟨j, hj, ?_⟩
  have has : as_ = (List.range n).map (fun i => [(⟨if i = j then 0 else 12, 0, 0⟩ : An)]) := by
    apply List.ext_getElem?
    intro i
    by_cases hi : i < n
    · obtain ⟨a, ha⟩ := hget i hi
      rw [ha, List.getElem?_map, List.getElem?_range hi, hq i a ha]
      rfl
    · rw [List.getElem?_eq_none (by omega), List.getElem?_eq_none (by simp; omega)]
  rw [← show ((wholeT 500 ((List.range n).map fun i => bodyT 1 3 [calO i] []) (B1 0 0 10) picks).1, (wholeT 500 ((List.range n).map fun i => bodyT 1 3 [calO i] []) (B1 0 0 10) picks).2) = wholeT 500 ((List.range n).map fun i => bodyT 1 3 [calO i] []) (B1 0 0 10) picks from rfl, h1, h3, has, List.map_map]
  rfl
end Go.Proofs.YtkldpdldjalpeaaGreatDoor.Th

namespace Go.Proofs.YtkldpdldjalpeaaGreatDoor.Th

theorem exec_lock {c v : Int} {m : Mt} (hm : Fit m) (hc : m.ch = false) {o : Int} (ho : 0 ≤ o ∧ o < 256) : exec 17 (turnT 3 m.ver (lockTo o) 8) (B1 c (pk m) v) = some (⟨0, 0, 0⟩, B1 c (pk (lockTo o m)) v) := by
  have hf : Fit (lockTo o m) := ⟨hm.1, hm.2.1, ho.1, ho.2⟩
  have hne : lockTo o m ≠ m := fun e => by have := congrArg Mt.ch e; rw [hc] at this; cases this
  unfold turnT
  rw [exec_acc, b1_load_meta]
  simp only [unp_pk hm, hc, Bool.false_eq_true, ne_eq, not_true, or_self, if_false, if_neg hne]
  rw [exec_acc, b1_cas_meta]
  simp only [if_true, beq_self_eq_true]
  exact exec_ret _ _ _
theorem exec_wait {c v : Int} {m : Mt} (hm : Fit m) (hc : m.ch = false) (hw : m.wt = false) : exec 17 (turnT 3 m.ver waitTo 8) (B1 c (pk m) v) = some (⟨0, 0, 0⟩, B1 c (pk (waitTo m)) v) := by
  have hne : waitTo m ≠ m := fun e => by have := congrArg Mt.wt e; rw [hw] at this; cases this
  unfold turnT
  rw [exec_acc, b1_load_meta]
  simp only [unp_pk hm, hc, Bool.false_eq_true, ne_eq, not_true, or_self, if_false, if_neg hne]
  rw [exec_acc, b1_cas_meta]
  simp only [if_true, beq_self_eq_true]
  exact exec_ret _ _ _
theorem exec_turn_no {c v : Int} {m : Mt} (hm : Fit m) (n : Int) (tf : Mt → Mt) (h : m.ch = true ∨ m.ver ≠ n) : exec 17 (turnT 3 n tf 8) (B1 c (pk m) v) = some (⟨12, 0, 0⟩, B1 c (pk m) v) := by
  unfold turnT
  rw [exec_acc, b1_load_meta]
  simp only [unp_pk hm]
  rw [if_pos h]
  exact exec_ret _ _ _
theorem exec_commit {c v : Int} {m : Mt} (hm : Fit m) (hc : m.ch = true) (val ver : Int) : exec 17 (commitT 3 val ver) (B1 c (pk m) v) = some (⟨0, 0, if m.wt = true then 1 else 0⟩, B1 c (pk ⟨ver, 0, false, false⟩) val) := by
  unfold commitT
  rw [exec_acc, b1_load_meta]
  simp only [unp_pk hm, hc, Bool.true_eq_false, if_false]
  rw [exec_acc, b1_store_val, exec_acc, b1_store_meta]
  exact exec_ret _ _ _
theorem exec_rel {c v : Int} {m : Mt} (hm : Fit m) (hc : m.ch = true) : exec 17 (relT 3) (B1 c (pk m) v) = some (⟨0, 0, 0⟩, B1 c (pk ⟨m.ver, 0, false, m.wt⟩) v) := by
  unfold relT
  rw [exec_acc, b1_load_meta]
  simp only [unp_pk hm, hc, Bool.true_eq_false, if_false]
  rw [exec_acc, b1_store_meta]
  exact exec_ret _ _ _
theorem exec_rel_no {c v : Int} {m : Mt} (hm : Fit m) (hc : m.ch = false) : exec 17 (relT 3) (B1 c (pk m) v) = some (⟨2, 0, 0⟩, B1 c (pk m) v) := by
  unfold relT
  rw [exec_acc, b1_load_meta]
  simp only [unp_pk hm, hc, if_true]
  exact exec_ret _ _ _
theorem exec_read {c v : Int} {m : Mt} (hm : Fit m) (hc : m.ch = false) : exec 17 (readT 3) (B1 c (pk m) v) = some (⟨0, v, m.ver⟩, B1 c (pk m) v) := by
  unfold readT
  rw [exec_acc, b1_load_meta]
  unfold readL
  simp only [unp_pk hm, hc, Bool.false_eq_true, if_false]
  rw [exec_acc, b1_load_val, exec_acc, b1_load_meta]
  simp only [if_true]
  exact exec_ret _ _ _
theorem exec_now {c w v : Int} : exec 17 (nowT 1) (B1 c w v) = some (⟨0, 0, s64 c⟩, B1 c w v) := by
  unfold nowT
  rw [exec_acc, b1_load_clock]
  exact exec_ret _ _ _
/-- One more call. -/
theorem exec_cons {x : Cl} {r : List Cl} {l : List An} {a : An} {B B1 : BS} {k : Nat} {res : List An × BS} (hk : x.kind ≠ 9) (h : exec 17 (ansT 1 3 x) B = some (a, B1)) (ha : a.err ≠ 98) (h2 : exec k (bodyT 1 3 r (l ++ [a])) B1 = some res) : exec (17 + k) (bodyT 1 3 (x :: r) l) B = some res := by
  unfold bodyT
  rw [if_neg (fun e => hk e.1)]
  refine exec_bind 17 k h ?_
  rw [if_neg ha]
  exact h2
theorem exec_nil {l : List An} {B : BS} : exec 0 (bodyT 1 3 [] l) B = some (l, B) := rfl
/-- Who waits is told of; a release keeps that. -/
def waitsC (val ver : Int) (ws rl : Bool) : List Cl := (if ws then [⟨8, 0, 0, 0, 0⟩] else []) ++ (if rl then [⟨5, 0, 0, 1, 0⟩, ⟨8, 0, 0, 0, 0⟩, ⟨7, 0, 0, 0, 0⟩] else []) ++ [⟨5, 0, 0, 1, 0⟩, ⟨6, 0, ver, 0, val⟩, ⟨3, 0, 0, 0, 0⟩, ⟨5, 0, ver, 0, 0⟩, ⟨6, 0, ver + 1, 0, val⟩]
def waitsA (val ver : Int) (ws rl : Bool) : List An := (if ws then [⟨0, 0, 0⟩] else []) ++ (if rl then [⟨0, 0, 0⟩, ⟨12, 0, 0⟩, ⟨0, 0, 0⟩] else []) ++ [⟨0, 0, 0⟩, ⟨0, 0, if ws then 1 else 0⟩, ⟨0, val, ver⟩, ⟨0, 0, 0⟩, ⟨0, 0, 0⟩]
theorem waits_tail {c v val ver : Int} {ws : Bool} (hv : 1 ≤ ver ∧ ver ≤ 1000) (l : List An) : exec (17 + (17 + (17 + (17 + (17 + 0))))) (bodyT 1 3 [⟨5, 0, 0, 1, 0⟩, ⟨6, 0, ver, 0, val⟩, ⟨3, 0, 0, 0, 0⟩, ⟨5, 0, ver, 0, 0⟩, ⟨6, 0, ver + 1, 0, val⟩] l) (B1 c (pk ⟨0, 0, false, ws⟩) v)
    = some (l ++ [⟨0, 0, 0⟩] ++ [⟨0, 0, if ws then 1 else 0⟩] ++ [⟨0, val, ver⟩] ++ [⟨0, 0, 0⟩] ++ [⟨0, 0, 0⟩], B1 c (pk ⟨ver + 1, 0, false, false⟩) val) := by
  have f0 : Fit ⟨0, 0, false, ws⟩ := ⟨by simp, by simp, by simp, by simp⟩
  have f1 : Fit (lockTo 1 ⟨0, 0, false, ws⟩) := ⟨by simp [lockTo], by simp [lockTo], by simp [lockTo], by simp [lockTo]⟩
  have f2 : Fit ⟨ver, 0, false, false⟩ := ⟨by simp; omega, by simp; omega, by simp, by simp⟩
  have f3 : Fit (lockTo 0 ⟨ver, 0, false, false⟩) := ⟨by simp [lockTo]; omega, by simp [lockTo]; omega, by simp [lockTo], by simp [lockTo]⟩
  refine exec_cons (by simp) (exec_lock f0 rfl (by simp)) (by simp) ?_
  refine exec_cons (by simp) (exec_commit f1 rfl val ver) (by simp) ?_
  refine exec_cons (by simp) (exec_read f2 rfl) (by simp) ?_
  refine exec_cons (by simp) (exec_lock f2 rfl (by simp)) (by simp) ?_
  refine exec_cons (by simp) (exec_commit f3 rfl val (ver + 1)) (by simp) ?_
  exact exec_nil
theorem waits_exec {val ver : Int} (hv : 1 ≤ ver ∧ ver ≤ 1000) (ws rl : Bool) : ∃ n B', exec n (bodyT 1 3 (waitsC val ver ws rl) []) (B1 0 0 10) = some (waitsA val ver ws rl, B') := by
  have f0 : Fit ⟨0, 0, false, false⟩ := ⟨by simp, by simp, by simp, by simp⟩
  have f1 : ∀ ws, Fit ⟨0, 0, false, ws⟩ := fun ws => ⟨by simp, by simp, by simp, by simp⟩
  have f2 : ∀ ws, Fit (lockTo 1 ⟨0, 0, false, ws⟩) := fun ws => ⟨by simp [lockTo], by simp [lockTo], by simp [lockTo], by simp [lockTo]⟩
  have hz : B1 0 0 10 = B1 0 (pk ⟨0, 0, false, false⟩) 10 := rfl
  rw [hz]
  have mid : ∀ (ws : Bool) (l : List An), exec (17 + (17 + (17 + (17 + (17 + (17 + (17 + (17 + 0)))))))) (bodyT 1 3 ([⟨5, 0, 0, 1, 0⟩, ⟨8, 0, 0, 0, 0⟩, ⟨7, 0, 0, 0, 0⟩] ++ [⟨5, 0, 0, 1, 0⟩, ⟨6, 0, ver, 0, val⟩, ⟨3, 0, 0, 0, 0⟩, ⟨5, 0, ver, 0, 0⟩, ⟨6, 0, ver + 1, 0, val⟩]) l) (B1 0 (pk ⟨0, 0, false, ws⟩) 10)
      = some (l ++ [⟨0, 0, 0⟩] ++ [⟨12, 0, 0⟩] ++ [⟨0, 0, 0⟩] ++ [⟨0, 0, 0⟩] ++ [⟨0, 0, if ws then 1 else 0⟩] ++ [⟨0, val, ver⟩] ++ [⟨0, 0, 0⟩] ++ [⟨0, 0, 0⟩], B1 0 (pk ⟨ver + 1, 0, false, false⟩) val) := fun ws l => by
    refine exec_cons (by simp) (exec_lock (f1 ws) rfl (by simp)) (by simp) ?_
    refine exec_cons (by simp) (exec_turn_no (f2 ws) 0 waitTo (.inl rfl)) (by simp) ?_
    refine exec_cons (by simp) (exec_rel (f2 ws) rfl) (by simp) ?_
    exact waits_tail hv _
  have fst : ∀ (r : List Cl) (k : Nat) (res : List An × BS), exec k (bodyT 1 3 r [⟨0, 0, 0⟩]) (B1 0 (pk ⟨0, 0, false, true⟩) 10) = some res → exec (17 + k) (bodyT 1 3 (⟨8, 0, 0, 0, 0⟩ :: r) []) (B1 0 (pk ⟨0, 0, false, false⟩) 10) = some res := fun r k res h =>
    exec_cons (by simp) (exec_wait f0 rfl rfl) (by simp) h
  cases ws <;> cases rl
  · exact ⟨_, _, waits_tail hv []⟩
  · exact ⟨_, _, mid false []⟩
  · exact ⟨_, _, fst _ _ _ (waits_tail hv _)⟩
  · exact ⟨_, _, fst _ _ _ (mid true _)⟩
end Go.Proofs.YtkldpdldjalpeaaGreatDoor.Th

namespace Go.Proofs.YtkldpdldjalpeaaGreatDoor.Th
def pickI (n : Nat) (k : Int) : Nat := ((k.tmod n + n).tmod n).toNat
theorem pickI_eq {n : Nat} (k : Int) (h : 1 ≤ n) : (k.tmod n + n).tmod n = (pickI n k : Nat) ∧ pickI n k < n := by
  have h0 : (0 : Int) < n := by omega
  have h1 := Int.lt_tmod_of_pos k h0
  have h2 := Int.tmod_lt_of_pos (k.tmod n + n) h0
  have h3 := Int.tmod_nonneg (a := k.tmod n + n) (n : Int) (by omega)
  unfold pickI
  omega
theorem pick3 (k : Int) : (k.tmod 3 + 3).tmod 3 = (pickI 3 k : Nat) ∧ pickI 3 k < 3 := pickI_eq (n := 3) k (by omega)
theorem ends_far {α : Type} (n : Nat) : ∀ (l : List Nat) (x : List (TS α) × BS) (j : Nat), j ∉ l → (endsT n l x).1[j]? = x.1[j]?
  | [], x, j, _ => rfl
  | k :: l, x, j, h => by
    show (endsT n l (sysRun n x.1 x.2 k)).1[j]? = _
    rw [ends_far n l _ j (fun hm => h (List.mem_cons_of_mem _ hm)), sysRun_far _ _ _ _ _ (fun e => h (by simp [e]))]
set_option maxRecDepth 20000 in
theorem exec_awake3 (m0 v0 m1 v1 m2 v2 : Int) (r : Nat) (hr : r ≤ 3) (t : Int) : exec 30 (awakeT 12 t) (RB3 m0 v0 m1 v1 m2 v2 r) = some (⟨0, 0, if (r : Int) = t then 0 else 1⟩, RB3 m0 v0 m1 v1 m2 v2 r) := by
  have h1 : exec 30 (awakeT 12 t) (RB3 m0 v0 m1 v1 m2 v2 r) = some (⟨0, 0, if s64 (r : Int) = t then 0 else 1⟩, RB3 m0 v0 m1 v1 m2 v2 r) := rfl
  rw [h1]
  have h2 : s64 (r : Int) = r := by
    have : r = 0 ∨ r = 1 ∨ r = 2 ∨ r = 3 := by omega
    rcases this with rfl | rfl | rfl | rfl <;> rfl
  rw [h2]
/-- A sleeper that could not. -/
theorem lost_no {css : List (List Nat)} {cl : List Nat} {as_ : List An} {r : Nat} (h : LostOk css cl as_ r) {dv : List Bool} (hd : ∀ (j : Nat) a, as_[css.length + j]? = some a → dv[j]? = some (a.n == 1)) {i : Nat} {a : An} (hi : i < css.length) (ha : as_[i]? = some a) (hn : a.n < 0) :
    ∃ j : Nat, dv[j]? = some true := by
  obtain ⟨_, h1 | h1⟩ := h.2 i a hi ha
  · obtain ⟨_, j, b, hb, hb1⟩ := h1
    exact ⟨j, by rw [hd j b hb, hb1]; rfl⟩
  · omega
/-- A sleeper that slept. -/
theorem lost_yes {css : List (List Nat)} {cl : List Nat} {as_ : List An} {r : Nat} (h : LostOk css cl as_ r) (hl : as_.length = css.length + cl.length) {dv : List Bool} (hdl : dv.length = cl.length) (hd : ∀ (j : Nat) a, as_[css.length + j]? = some a → dv[j]? = some (a.n == 1)) {i : Nat} {a : An} (hi : i < css.length) (ha : as_[i]? = some a) (hn : ¬ a.n < 0) :
    ((∃ j : Nat, dv[j]? = some true ∧ cl.getD j 0 ∈ css.getD i []) → (r : Int) ≠ a.n) ∧ ((¬ ∃ j : Nat, dv[j]? = some true) → (r : Int) = a.n) := by
  have key : ∀ j : Nat, dv[j]? = some true → ∃ b, as_[css.length + j]? = some b ∧ b.n = 1 := fun j hj => by
    have hjl := (List.getElem?_eq_some_iff.1 hj).1
    have hb : as_[css.length + j]? = some (as_[css.length + j]'(by omega)) := List.getElem?_eq_getElem (by omega)
    refine ⟨_, hb, ?_⟩
    have := hd j _ hb
    rw [hj] at this
    injection this with this
    simpa using this.symm
  obtain ⟨_, h1 | h1⟩ := h.2 i a hi ha
  · omega
  · obtain ⟨_, h2, h3⟩ := h1
    refine ⟨fun ⟨j, hj, hm⟩ => ?_, fun hno => ?_⟩
    · obtain ⟨b, hb, hb1⟩ := key j hj
      have := h2 j b hb hb1 hm
      omega
    · rw [h3 fun j b hb hb1 => hno ⟨j, by rw [hd j b hb, hb1]; rfl⟩]
end Go.Proofs.YtkldpdldjalpeaaGreatDoor.Th

namespace Go.Proofs.YtkldpdldjalpeaaGreatDoor.Th
def RB1 (w v r : Int) : BS := ⟨8, [(1, 1), (3, 2), (6, 1)], [0, 3, 0, 5, w, v, 3, r] ++ List.replicate 292 0⟩
set_option maxRecDepth 20000 in
theorem br1 : BR 1 = RB1 0 10 0 := rfl
set_option maxRecDepth 20000 in
theorem al_e1 : exec 30 (sleepT 6 [(3, 0)]) (RB1 0 10 0) = some (⟨0, 0, 0⟩, RB1 2 10 0) := rfl
set_option maxRecDepth 20000 in
theorem al_e2 : exec 30 Go.Proofs.YtkldpdldjalpeaaGreatDoor.lcT (RB1 2 10 0) = some (⟨0, 0, 1⟩, RB1 65536 5 0) := rfl
set_option maxRecDepth 20000 in
theorem al_e3 : exec 30 (wakeT 6) (RB1 65536 5 0) = some (⟨0, 0, 1⟩, RB1 65536 5 1) := rfl
set_option maxRecDepth 20000 in
theorem al_e4 : exec 30 (awakeT 6 0) (RB1 65536 5 1) = some (⟨0, 0, 1⟩, RB1 65536 5 1) := rfl
end Go.Proofs.YtkldpdldjalpeaaGreatDoor.Th
namespace Go.Proofs.YtkldpdldjalpeaaGreatDoor
open Go.RowKit Th
attribute [local go_sem] litStep_value

theorem dep_lc : Dep lcT 20 := ((dep_turn 3 0 (lockTo 1) 8).bind (m := 4) fun a => by
  split
  · refine .acc _ _ 3 fun e => ?_
    split
    · exact .ret _ _
    · exact .acc _ _ 2 fun _ => .acc _ _ 1 fun _ => .ret _ _
  · exact .ret _ _)
theorem doOk_of {α : Type} {fid : FuncId} {caps : Array Value} {p : Pg α} {Bad : α → Prop} {J : BS → Prop} {M : World → List Nat → Option α → Prop} (he : ∀ args w, (callFunc fid args).run Tryz.prog w = .ok (.enter fid args) w)
    (h : ∀ (w : World) (F : BFp) (cb : Nat) (lv : Value) (c : CS) (S : List Nat) (r0 : Option α), CSt w F cb lv c → J c.B → M w S r0 → (∀ x ∈ S, x ∉ SS F cb lv) → (∀ a, (Th.run p c).1 = some a → ¬ Bad a) →
      Calls Tryz.prog fid (#[.pointer (some ⟨cb, 0, none⟩)] ++ caps) w fun e w' => ∃ v, e = .returned v ∧ DoP F cb lv S M w (Th.run p c) v w') : DoOk fid caps p Bad J M :=
  ⟨he, fun w F cb lv c S r0 h1 h2 h3 h4 h5 => (h w F cb lv c S r0 h1 h2 h3 h4 h5).mono fun e w' ⟨v, e1, lv', q1, q2, q3, q4, q5⟩ => ⟨lv', v, e1, q1, q2, q3, q4, q5⟩⟩
set_option maxRecDepth 20000 in
theorem ali1_do (rb cbx kb tk : Nat) : DoOk 23 #[.pointer (some ⟨rb, 0, none⟩), .pointer (some ⟨cbx, 0, none⟩), .pointer (some ⟨tk, 0, none⟩)] (sleepT 6 [(3, 0)]) (fun a => a.err ≠ 0) (fun B => ∀ q ∈ [(3, 2), (6, 1)], q ∈ B.sz) (aliM1 rb cbx kb tk) :=
  doOk_of (fun _ _ => rfl) fun w F cb lv c S r0 h1 h2 h3 h4 h5 => ali1_ok rb cbx kb tk w h1 h2 h3 h4 h5
set_option maxRecDepth 20000 in
theorem ali2_do (cbx kb wb : Nat) : DoOk 24 #[.pointer (some ⟨cbx, 0, none⟩), .pointer (some ⟨wb, 0, none⟩)] lcT (fun a => a.err ≠ 0) (fun B => ∀ q ∈ [(3, 2), (6, 1)], q ∈ B.sz) (aliM2 cbx kb wb) :=
  doOk_of (fun _ _ => rfl) fun w F cb lv c S r0 h1 h2 h3 h4 h5 => ali2_ok cbx kb wb w h1 h2 h3 h4 h5
set_option maxRecDepth 20000 in
theorem ali3_do (rb : Nat) : DoOk 26 #[.pointer (some ⟨rb, 0, none⟩)] (wakeT 6) (fun a => a.err ≠ 0) (fun B => ∀ q ∈ [(3, 2), (6, 1)], q ∈ B.sz) (aliM3 rb) :=
  doOk_of (fun _ _ => rfl) fun w F cb lv c S r0 h1 h2 h3 h4 h5 => ali3_ok rb w h1 h2 h3 h4 h5
set_option maxRecDepth 20000 in
theorem ali4_do (rb tk aw : Nat) : DoOk 27 #[.pointer (some ⟨rb, 0, none⟩), .pointer (some ⟨tk, 0, none⟩), .pointer (some ⟨aw, 0, none⟩)] (awakeT 6 0) (fun a => a.err ≠ 0) (fun B => ∀ q ∈ [(3, 2), (6, 1)], q ∈ B.sz) (aliM4 rb tk aw) :=
  doOk_of (fun _ _ => rfl) fun w F cb lv c S r0 h1 h2 h3 h4 h5 => ali4_ok rb tk aw w h1 h2 h3 h4 h5
/-- Behind one that ran alone: the blocks L beside it. -/
theorem alone_next {w w1 w2 : World} {F F' : BFp} {L S : List Nat} (nf : ∀ x ∈ F.l, w.heap.size ≤ x ∧ x ∉ L) (hL : ∀ x ∈ L, w.heap.size ≤ x ∧ x < w1.heap.size) (hu : Upd [] w w1) (p4 : Upd (F.l ++ S) w1 w2) (hSL : ∀ x ∈ S, x ∈ L) (p5 : ∀ x ∈ F'.l, x ∈ F.l ∨ w1.heap.size ≤ x) :
    Upd [] w w2 ∧ (∀ x ∈ F'.l, w.heap.size ≤ x ∧ x ∉ L) ∧ (∀ x ∈ L, w.heap.size ≤ x ∧ x < w2.heap.size) ∧ ∀ b ∈ L, b ∉ S → b ∉ F.l ++ S := by
  refine ⟨hu.trans' p4 (fun x hx => .inr ?_), fun x hx => ?_, fun x hx => ⟨(hL x hx).1, Nat.lt_of_lt_of_le (hL x hx).2 p4.size⟩, fun b hb hn hm => ?_⟩
  · rcases List.mem_append.1 hx with hx | hx
    · exact (nf x hx).1
    · exact (hL x (hSL x hx)).1
  · rcases p5 x hx with h | h
    · exact nf x h
    · exact ⟨Nat.le_trans hu.size h, fun hm => by have := (hL x hm).2; omega⟩
  · rcases List.mem_append.1 hm with hm | hm
    · exact (nf b hm).2 hb
    · exact hn hm
set_option maxRecDepth 20000 in
set_option maxHeartbeats 2000000 in
theorem alive15_ok (w : World) : Calls Tryz.prog 6 #[] w fun e w' => e = .returned (.bool true) ∧ Upd [] w w' := by
  go_enter Tryz.func6, Tryz.ntmps6
  go_wp2_with fail
  refine (scene15_ok 1 (by omega) w).mono ?_
  rintro e w1 ⟨F, kb, rfl, h1, h2, h3, h4, h5, h6⟩
  rw [br1] at h1
  have H1 := Lib.hid h1
  have H2 : Hid (Blk w1 kb 26 #[.int .u64 3]) := Lib.hid h2
  have H3 := Lib.hid h3
  have H4 : Hid ((∀ x ∈ F.l, w.heap.size ≤ x) ∧ w.heap.size ≤ kb ∧ kb ∉ F.l) := Lib.hid ⟨h4, h5, h6⟩
  have hr : rmN 1 = 6 := rfl
  rw [hr]
  clear h1 h2 h3 h4 h5 h6 hr
  go_wp2_with fail
  obtain ⟨n0, hn0⟩ : ∃ n0, n0 = w1.heap.size := ⟨_, rfl⟩
  obtain ⟨w2, hw2⟩ : ∃ w2, w2 = ((((w1.alloc (Obj.cells #[.int .u64 6] 26)).alloc (Obj.cells #[.slice (some ⟨kb, 0, none⟩) 1 1] 27)).alloc (Obj.cells #[.int .i64 9] 3)).alloc (Obj.cells #[.bool false] 4)).alloc (Obj.cells #[.bool false] 4) := ⟨_, rfl⟩
  have U2 : Hid (Upd [] w1 w2) := Lib.hid (by rw [hw2]; exact (((((Upd.refl _ _).alloc _).alloc _).alloc _).alloc _).alloc _)
  have S2 : Hid (w2.heap.size = n0 + 5) := Lib.hid (by rw [hw2, hn0]; simp)
  have X0 : Blk w2 n0 26 #[.int .u64 6] := by rw [hw2, hn0]; exact ((((Blk.new _ _ _).alloc _).alloc _).alloc _).alloc _
  have X1 : Blk w2 (n0 + 1) 27 #[.slice (some ⟨kb, 0, none⟩) 1 1] := by rw [hw2, hn0]; exact (((Blk.newAt _ _ (by simp)).alloc _).alloc _).alloc _
  have X2 : Blk w2 (n0 + 1 + 1) 3 #[.int .i64 9] := by rw [hw2, hn0]; exact ((Blk.newAt _ _ (by simp)).alloc _).alloc _
  have X3 : Blk w2 (n0 + 1 + 1 + 1) 4 #[.bool false] := by rw [hw2, hn0]; exact (Blk.newAt _ _ (by simp)).alloc _
  have X4 : Blk w2 (n0 + 1 + 1 + 1 + 1) 4 #[.bool false] := by rw [hw2, hn0]; exact Blk.newAt _ _ (by simp)
  have XX : Hid (Blk w2 n0 26 #[.int .u64 6] ∧ Blk w2 (n0 + 1) 27 #[.slice (some ⟨kb, 0, none⟩) 1 1] ∧ Blk w2 (n0 + 1 + 1) 3 #[.int .i64 9] ∧ Blk w2 (n0 + 1 + 1 + 1) 4 #[.bool false] ∧ Blk w2 (n0 + 1 + 1 + 1 + 1) 4 #[.bool false]) := Lib.hid ⟨X0, X1, X2, X3, X4⟩
  have KL : Hid (kb < n0 ∧ ∀ x ∈ F.l, x < n0) := Lib.hid ⟨hn0 ▸ H2.out.lt, hn0 ▸ H1.out.lt⟩
  have HN0 : Hid (w.heap.size ≤ n0) := Lib.hid (hn0 ▸ H3.out.size)
  rw [← hw2, ← hn0]
  clear hw2 hn0 X0 X1 X2 X3 X4
  obtain ⟨L, hL⟩ : ∃ L, L = [n0, n0 + 1, kb, n0 + 1 + 1, n0 + 1 + 1 + 1, n0 + 1 + 1 + 1 + 1] := ⟨_, rfl⟩
  have hL1 : ∀ x ∈ L, w.heap.size ≤ x ∧ x < w2.heap.size := fun x hx => by
    have := S2.out; have := HN0.out; have := KL.out.1
    rw [hL] at hx
    simp at hx
    rcases hx with rfl | rfl | rfl | rfl | rfl | rfl
    · omega
    · omega
    · exact ⟨H4.out.2.1, by omega⟩
    · omega
    · omega
    · omega
  have hF1 : ∀ x ∈ F.l, w.heap.size ≤ x ∧ x ∉ L := fun x hx => ⟨H4.out.1 x hx, fun hm => by
    have := KL.out.2 x hx
    rw [hL] at hm
    simp at hm
    rcases hm with rfl | rfl | rfl | rfl | rfl | rfl
    · omega
    · omega
    · exact H4.out.2.2 hx
    · omega
    · omega
    · omega⟩
  have HL := Lib.hid hL
  have HQ : Hid (kb < n0) := Lib.hid KL.out.1
  have UU : Hid (Upd [] w w2) := Lib.hid (H3.out.trans U2.out)
  have G1 : Hid (BSt w2 F (RB1 0 10 0) ∧ Blk w2 n0 26 #[.int .u64 6] ∧ Blk w2 (n0 + 1) 27 #[.slice (some ⟨kb, 0, none⟩) 1 1] ∧ Blk w2 kb 26 #[.int .u64 3] ∧ Blk w2 (n0 + 1 + 1) 3 #[.int .i64 9] ∧ Blk w2 (n0 + 1 + 1 + 1) 4 #[.bool false] ∧ Blk w2 (n0 + 1 + 1 + 1 + 1) 4 #[.bool false]) := Lib.hid ⟨H1.out.upd U2.out (by simp), XX.out.1, XX.out.2.1, H2.out.upd U2.out (by simp), XX.out.2.2⟩
  have NL1 := Lib.hid hL1
  have NF1 := Lib.hid hF1
  clear hL1 hF1 hL H1 H2 H4 XX U2 S2 KL H3
  -- the sleeper
  have hM1 : aliM1 n0 (n0 + 1) kb (n0 + 1 + 1) w2 [n0, n0 + 1, kb, n0 + 1 + 1] (none : Option An) := ⟨rfl, by have := HQ.out; simp; omega, by simp only [List.mem_cons, forall_eq_or_imp, List.not_mem_nil, false_imp_iff, implies_true, and_true]; exact ⟨G1.out.2.1, G1.out.2.2.1, G1.out.2.2.2.1⟩, by simp only [List.mem_cons, forall_eq_or_imp, List.not_mem_nil, false_imp_iff, implies_true, and_true]; exact ⟨_, G1.out.2.2.2.2.1, by intro a ha; cases ha⟩⟩
  have hS1 : ∀ x ∈ [n0, n0 + 1, kb, n0 + 1 + 1], x ∈ L := fun x hx => by rw [HL.out]; simp at hx ⊢; omega
  refine (alone_ok (mbx_ok _ _) (ali1_do n0 (n0 + 1) kb (n0 + 1 + 1)) w2 G1.out.1 hM1 (fun x hx hm => (NF1.out x hm).2 (hS1 x hx)) al_e1 (dep_sleep _ _) (by simp) (by decide) (by simp)).mono ?_
  rintro e w3 ⟨rfl, F1, p1, p2, p3, p4, p5, p6⟩
  obtain ⟨_, _, m1, m2⟩ := p2
  simp only [List.mem_cons, forall_eq_or_imp, List.not_mem_nil, false_imp_iff, implies_true, and_true] at m1 m2
  obtain ⟨x0, m3, m4⟩ := m2
  obtain rfl := m4 _ rfl
  obtain ⟨g1, g2, g3, g4⟩ := alone_next NF1.out NL1.out UU.out p4 hS1 p5
  have G2 : Hid (BSt w3 F1 (RB1 2 10 0) ∧ Blk w3 n0 26 #[.int .u64 6] ∧ Blk w3 (n0 + 1) 27 #[.slice (some ⟨kb, 0, none⟩) 1 1] ∧ Blk w3 kb 26 #[.int .u64 3] ∧ Blk w3 (n0 + 1 + 1) 3 #[.int .i64 0] ∧ Blk w3 (n0 + 1 + 1 + 1) 4 #[.bool false] ∧ Blk w3 (n0 + 1 + 1 + 1 + 1) 4 #[.bool false]) := Lib.hid (by
    have := HQ.out
    exact ⟨p1, m1.1, m1.2.1, m1.2.2, m3, G1.out.2.2.2.2.2.1.upd p4 (g4 _ (by rw [HL.out]; simp) (by simp; omega)), G1.out.2.2.2.2.2.2.upd p4 (g4 _ (by rw [HL.out]; simp) (by simp; omega))⟩)
  have U3 := Lib.hid g1
  have NF2 := Lib.hid g2
  have NL2 := Lib.hid g3
  have E1 := Lib.hid p3
  rw [← E1.out]
  clear p1 p3 p4 p5 p6 m1 m3 hM1 hS1 g1 g2 g3 g4 G1 NF1 NL1 UU
  go_wp2_with fail
  -- the committer
  have hM1 : aliM2 (n0 + 1) kb (n0 + 1 + 1 + 1) w3 [n0 + 1, kb, n0 + 1 + 1 + 1] (none : Option An) := ⟨rfl, by have := HQ.out; simp; omega, by simp only [List.mem_cons, forall_eq_or_imp, List.not_mem_nil, false_imp_iff, implies_true, and_true]; exact ⟨G2.out.2.2.1, G2.out.2.2.2.1⟩, by simp only [List.mem_cons, forall_eq_or_imp, List.not_mem_nil, false_imp_iff, implies_true, and_true]; exact ⟨_, G2.out.2.2.2.2.2.1, by intro a ha; cases ha⟩⟩
  have hS1 : ∀ x ∈ [n0 + 1, kb, n0 + 1 + 1 + 1], x ∈ L := fun x hx => by rw [HL.out]; simp at hx ⊢; omega
  refine (alone_ok (mbx_ok _ _) (ali2_do (n0 + 1) kb (n0 + 1 + 1 + 1)) w3 G2.out.1 hM1 (fun x hx hm => (NF2.out x hm).2 (hS1 x hx)) al_e2 dep_lc (by simp) (by decide) (by simp)).mono ?_
  rintro e w4 ⟨rfl, F2, p1, p2, p3, p4, p5, p6⟩
  obtain ⟨_, _, m1, m2⟩ := p2
  simp only [List.mem_cons, forall_eq_or_imp, List.not_mem_nil, false_imp_iff, implies_true, and_true] at m1 m2
  obtain ⟨x0, m3, m4⟩ := m2
  obtain rfl := m4 _ rfl
  obtain ⟨g1, g2, g3, g4⟩ := alone_next NF2.out NL2.out U3.out p4 hS1 p5
  have G3 : Hid (BSt w4 F2 (RB1 65536 5 0) ∧ Blk w4 n0 26 #[.int .u64 6] ∧ Blk w4 (n0 + 1 + 1) 3 #[.int .i64 0] ∧ Blk w4 (n0 + 1 + 1 + 1) 4 #[.bool true] ∧ Blk w4 (n0 + 1 + 1 + 1 + 1) 4 #[.bool false]) := Lib.hid (by
    have := HQ.out
    exact ⟨p1, G2.out.2.1.upd p4 (g4 _ (by rw [HL.out]; simp) (by simp; omega)), G2.out.2.2.2.2.1.upd p4 (g4 _ (by rw [HL.out]; simp) (by simp; omega)), m3, G2.out.2.2.2.2.2.2.upd p4 (g4 _ (by rw [HL.out]; simp) (by simp; omega))⟩)
  have U4 := Lib.hid g1
  have NF3 := Lib.hid g2
  have NL3 := Lib.hid g3
  have E2 := Lib.hid p3
  rw [← E2.out]
  clear p1 p3 p4 p5 p6 m1 m3 hM1 hS1 g1 g2 g3 g4 G2 NF2 NL2 U3
  go_wp2_with fail
  -- who wakes
  have hM1 : aliM3 n0 w4 [n0] (none : Option An) := ⟨rfl, by simp, by simp only [List.mem_cons, forall_eq_or_imp, List.not_mem_nil, false_imp_iff, implies_true, and_true]; exact G3.out.2.1, by simp⟩
  have hS1 : ∀ x ∈ [n0], x ∈ L := fun x hx => by rw [HL.out]; simp at hx ⊢; omega
  refine (alone_ok (mbx_ok _ _) (ali3_do n0) w4 G3.out.1 hM1 (fun x hx hm => (NF3.out x hm).2 (hS1 x hx)) al_e3 (dep_wake _) (by simp) (by decide) (by simp)).mono ?_
  rintro e w5 ⟨rfl, F3, p1, p2, p3, p4, p5, p6⟩
  obtain ⟨_, _, m1, m2⟩ := p2
  simp only [List.mem_cons, forall_eq_or_imp, List.not_mem_nil, false_imp_iff, implies_true, and_true] at m1
  obtain ⟨g1, g2, g3, g4⟩ := alone_next NF3.out NL3.out U4.out p4 hS1 p5
  have G4 : Hid (BSt w5 F3 (RB1 65536 5 1) ∧ Blk w5 n0 26 #[.int .u64 6] ∧ Blk w5 (n0 + 1 + 1) 3 #[.int .i64 0] ∧ Blk w5 (n0 + 1 + 1 + 1) 4 #[.bool true] ∧ Blk w5 (n0 + 1 + 1 + 1 + 1) 4 #[.bool false]) := Lib.hid (by
    exact ⟨p1, m1, G3.out.2.2.1.upd p4 (g4 _ (by rw [HL.out]; simp) (by simp; omega)), G3.out.2.2.2.1.upd p4 (g4 _ (by rw [HL.out]; simp) (by simp; omega)), G3.out.2.2.2.2.upd p4 (g4 _ (by rw [HL.out]; simp) (by simp; omega))⟩)
  have U5 := Lib.hid g1
  have NF4 := Lib.hid g2
  have NL4 := Lib.hid g3
  have E3 := Lib.hid p3
  rw [← E3.out]
  clear p1 p3 p4 p5 p6 m1 m2 hM1 hS1 g1 g2 g3 g4 G3 NF3 NL3 U4
  go_wp2_with fail
  -- who asks
  have hM1 : aliM4 n0 (n0 + 1 + 1) (n0 + 1 + 1 + 1 + 1) w5 [n0, n0 + 1 + 1, n0 + 1 + 1 + 1 + 1] (none : Option An) := ⟨rfl, by simp; omega, by simp only [List.mem_cons, forall_eq_or_imp, List.not_mem_nil, false_imp_iff, implies_true, and_true]; exact ⟨G4.out.2.1, G4.out.2.2.1⟩, by simp only [List.mem_cons, forall_eq_or_imp, List.not_mem_nil, false_imp_iff, implies_true, and_true]; exact ⟨_, G4.out.2.2.2.2, by intro a ha; cases ha⟩⟩
  have hS1 : ∀ x ∈ [n0, n0 + 1 + 1, n0 + 1 + 1 + 1 + 1], x ∈ L := fun x hx => by rw [HL.out]; simp at hx ⊢; omega
  refine (alone_ok (mbx_ok _ _) (ali4_do n0 (n0 + 1 + 1) (n0 + 1 + 1 + 1 + 1)) w5 G4.out.1 hM1 (fun x hx hm => (NF4.out x hm).2 (hS1 x hx)) al_e4 (dep_awake _ _) (by simp) (by decide) (by simp)).mono ?_
  rintro e w6 ⟨rfl, F4, p1, p2, p3, p4, p5, p6⟩
  obtain ⟨_, _, m1, m2⟩ := p2
  simp only [List.mem_cons, forall_eq_or_imp, List.not_mem_nil, false_imp_iff, implies_true, and_true] at m1 m2
  obtain ⟨x0, m3, m4⟩ := m2
  obtain rfl := m4 _ rfl
  obtain ⟨g1, g2, g3, g4⟩ := alone_next NF4.out NL4.out U5.out p4 hS1 p5
  have z1 := m1.2.facts
  have z2 := (G4.out.2.2.2.1.upd p4 (g4 _ (by rw [HL.out]; simp) (by simp; omega))).facts
  have m3' : Blk w6 (n0 + 1 + 1 + 1 + 1) 4 #[.bool true] := m3
  have z3 := m3'.facts
  have U6 := Lib.hid g1
  clear p1 p3 p4 p5 p6 m1 m3 m3' hM1 hS1 g1 g2 g3 g4 G4 NF4 NL4 U5
  go_wp2_with fail
  go_ret
  exact ⟨rfl, U6.out⟩
end Go.Proofs.YtkldpdldjalpeaaGreatDoor

/-
  sets.Sets: what it keeps; made, Read.
-/
import Derived.Test.YtbpmkbcpnnpdjaaDoorIMap
import Derived.Test.YtbpmkbcpnnpdjaaDoorFlat
import Derived.Test.YtbpmkbcpnnpdjaaDoorArg
import Derived.Test.YtbpmkbcpnnpdjaaDoorSPlain
import Derived.Test.YtbpmkbcpnnpdjaaDoorErrN
import Derived.Test.YtbpmkbcpnnpdjaaDoorAppV
import Derived.Test.YtbpmkbcpnnpdjaaDoorDrawK
set_option linter.unusedVariables false
namespace Go.Proofs.YtbpmkbcpnnpdjaaDoor
open Go.RowKit Assoc SP
attribute [local go_sem] litStep_value

theorem stopped {p : Prop} (h : Hid p) : p := h.out
theorem blk_map {w : World} {b : Nat} {t : TypeId} {cs : Array Value} {q : IntKind} {f : Int → Option Value} {n : Nat} (h : Blk w b t cs) {m : Nat} (hm : IMap w q m f n) : b ≠ m := by
  rintro rfl
  obtain ⟨L, c, hr, _⟩ := hm
  have := hr.blk
  unfold Blk at h
  rw [h] at this
  cases this
theorem own_map {w : World} {B s n m k : Nat} {e : TypeId} {v : Value} {xs : List Value} {q : IntKind} {f : Int → Option Value} (h : w.ownsRow B e s v n xs) (hm : IMap w q m f k) : v.ownBlock ≠ some m := by
  intro hb
  rcases h.2 with ⟨e, _⟩ | ⟨g, cap, cur, e, _, hg, _⟩
  · rw [e] at hb; simp [Value.ownBlock] at hb
  · rw [e] at hb
    simp only [Value.ownBlock, Option.some.injEq] at hb
    subst hb
    exact (blk_map hg hm) rfl
theorem own_own {w : World} {B B' s s' n n' : Nat} {e e' : TypeId} {v v' : Value} {xs xs' : List Value} (h : w.ownsRow B e s v n xs) (h' : w.ownsRow B' e' s' v' n' xs') (hne : e ≠ e') {b : Nat} (hb : v.ownBlock = some b) : v'.ownBlock ≠ some b := by
  intro hb'
  rcases h.2 with ⟨e, _⟩ | ⟨g, cap, cur, e, _, hg, _⟩
  · rw [e] at hb; simp [Value.ownBlock] at hb
  · rw [e] at hb
    simp only [Value.ownBlock, Option.some.injEq] at hb
    subst hb
    exact own_type h' hg hne hb'

def encR : Enc (Int × Int) := encII .u64 .i64
def encW : Enc (Int × Int) := encII .u64 .u64
def encU : Enc U := ⟨fun u => [.int .u64 u.c, .int .u64 u.v, .bool u.was], 3, fun _ => rfl, by intro a u hu; simp at hu; rcases hu with rfl | rfl | rfl <;> rfl, by omega⟩
def encK : Enc Nat := ⟨fun n => [.int .i64 n], 1, fun _ => rfl, by intro a u hu; simp at hu; subst hu; rfl, by omega⟩
def mapR (R : List (Int × Int)) : Int → Option Value := fun c => (posR R c).map fun (i : Nat) => Value.int .i64 i
def mapW (W : AL) : Int → Option Value := fun c => (get W c).map (Value.int .u64)
theorem elem_seen : Elem Tryd.prog 34 47 2 16 := .mk' (z := ((Tryd.prog.info? 47).bind (·.zero)).getD undef) Tryd.underlying34 (by kernel_rfl) (by kernel_rfl) (by omega)
theorem elem_undo : Elem Tryd.prog 59 75 3 24 := .mk' (z := ((Tryd.prog.info? 75).bind (·.zero)).getD undef) Tryd.underlying59 (by kernel_rfl) (by kernel_rfl) (by omega)
theorem elem_int : Elem Tryd.prog 60 3 1 8 := .mk' (z := ((Tryd.prog.info? 3).bind (·.zero)).getD undef) Tryd.underlying60 (by kernel_rfl) (by kernel_rfl) (by omega)
theorem elem_wrote : Elem Tryd.prog 26 55 2 16 := .mk' (z := ((Tryd.prog.info? 55).bind (·.zero)).getD undef) Tryd.underlying26 (by kernel_rfl) (by kernel_rfl) (by omega)

/-- Sets: the block, the two maps, the three slices. -/
structure SetSt (B sb am wm : Nat) (vr vl vk : Value) (w : World) (s : SS) : Prop where
  box : Blk w sb 62 #[vr, .map (some am), .map (some wm), vl, vk]
  r : Ow encR 47 w B vr s.R
  l : Ow encU 75 w B vl s.log
  k : Ow encK 3 w B vk s.marks
  a : IMap w .u64 am (mapR s.R) s.R.length
  m : IMap w .u64 wm (mapW s.W) s.W.length
  ne : am ≠ wm
  bs : B ≤ sb
  ba : B ≤ am
  bw : B ≤ wm
/-- The blocks. -/
def fpS (sb am wm : Nat) (vr vl vk : Value) : List Nat := sb :: am :: wm :: (vr.ownBlock.toList ++ vl.ownBlock.toList ++ vk.ownBlock.toList)
/-- Sets of which all is well. -/
def Sets (B sb am wm : Nat) (F : List Nat) (w : World) (s : SS) : Prop := SP.Good s ∧ ∃ vr vl vk, F = fpS sb am wm vr vl vk ∧ SetSt B sb am wm vr vl vk w s
section
variable {B sb am wm : Nat} {vr vl vk vr' vl' vk' : Value} {w w' : World} {s s' : SS} {F T : List Nat}
theorem SetSt.nr (h : SetSt B sb am wm vr vl vk w s) {b : Nat} (hb : vr.ownBlock = some b) : b ≠ sb ∧ b ≠ am ∧ b ≠ wm ∧ vl.ownBlock ≠ some b ∧ vk.ownBlock ≠ some b :=
  ⟨fun e => own_type h.r h.box (by decide) (e ▸ hb), fun e => own_map h.r h.a (e ▸ hb), fun e => own_map h.r h.m (e ▸ hb), own_own h.r h.l (by decide) hb, own_own h.r h.k (by decide) hb⟩
theorem SetSt.nl (h : SetSt B sb am wm vr vl vk w s) {b : Nat} (hb : vl.ownBlock = some b) : b ≠ sb ∧ b ≠ am ∧ b ≠ wm ∧ vr.ownBlock ≠ some b ∧ vk.ownBlock ≠ some b :=
  ⟨fun e => own_type h.l h.box (by decide) (e ▸ hb), fun e => own_map h.l h.a (e ▸ hb), fun e => own_map h.l h.m (e ▸ hb), own_own h.l h.r (by decide) hb, own_own h.l h.k (by decide) hb⟩
theorem SetSt.nk (h : SetSt B sb am wm vr vl vk w s) {b : Nat} (hb : vk.ownBlock = some b) : b ≠ sb ∧ b ≠ am ∧ b ≠ wm ∧ vr.ownBlock ≠ some b ∧ vl.ownBlock ≠ some b :=
  ⟨fun e => own_type h.k h.box (by decide) (e ▸ hb), fun e => own_map h.k h.a (e ▸ hb), fun e => own_map h.k h.m (e ▸ hb), own_own h.k h.r (by decide) hb, own_own h.k h.l (by decide) hb⟩
theorem SetSt.na (h : SetSt B sb am wm vr vl vk w s) : sb ≠ am ∧ sb ≠ wm := ⟨blk_map h.box h.a, blk_map h.box h.m⟩
/-- What none of its blocks' turns touches stays. -/
theorem SetSt.upd (h : SetSt B sb am wm vr vl vk w s) (hu : Upd T w w') (hT : ∀ k ∈ fpS sb am wm vr vl vk, k ∉ T) : SetSt B sb am wm vr vl vk w' s := by
  unfold fpS at hT
  simp only [List.mem_cons, List.mem_append, Option.mem_toList] at hT
  refine ⟨h.box.upd hu (hT _ (.inl rfl)), h.r.upd hu fun b hb => hT b (.inr (.inr (.inr (.inl (.inl hb))))), h.l.upd hu fun b hb => hT b (.inr (.inr (.inr (.inl (.inr hb))))), h.k.upd hu fun b hb => hT b (.inr (.inr (.inr (.inr hb)))), h.a.upd hu (hT _ (.inr (.inl rfl))), h.m.upd hu (hT _ (.inr (.inr (.inl rfl)))), h.ne, h.bs, h.ba, h.bw⟩
theorem SetSt.upd0 (h : SetSt B sb am wm vr vl vk w s) (hu : Upd [] w w') : SetSt B sb am wm vr vl vk w' s := h.upd hu (by simp)
theorem Sets.upd (h : Sets B sb am wm F w s) (hu : Upd T w w') (hT : Disj F T) : Sets B sb am wm F w' s := by
  obtain ⟨g, vr, vl, vk, rfl, h⟩ := h
  exact ⟨g, vr, vl, vk, rfl, h.upd hu hT⟩
theorem Sets.upd0 (h : Sets B sb am wm F w s) (hu : Upd [] w w') : Sets B sb am wm F w' s := h.upd hu (fun k _ => by simp)
theorem SetSt.lt (h : SetSt B sb am wm vr vl vk w s) : ∀ k ∈ fpS sb am wm vr vl vk, B ≤ k ∧ k < w.heap.size := by
  intro k hk
  unfold fpS at hk
  simp only [List.mem_cons, List.mem_append, Option.mem_toList] at hk
  rcases hk with rfl | rfl | rfl | (hk | hk) | hk
  · exact ⟨h.bs, h.box.lt⟩
  · exact ⟨h.ba, h.a.lt⟩
  · exact ⟨h.bw, h.m.lt⟩
  · exact own_lt h.r hk
  · exact own_lt h.l hk
  · exact own_lt h.k hk
theorem Sets.lt (h : Sets B sb am wm F w s) : ∀ k ∈ F, B ≤ k ∧ k < w.heap.size := by
  obtain ⟨g, vr, vl, vk, rfl, h⟩ := h
  exact h.lt
end
/-- Its turns: what stays, what is new. -/
theorem SetSt.turn {B sb am wm : Nat} {vr vl vk vr' vl' vk' : Value} {w w' : World} {s s' : SS} {T : List Nat} (h : SetSt B sb am wm vr vl vk w s) (hu : Upd T w w') (hb : Blk w' sb 62 #[vr', .map (some am), .map (some wm), vl', vk'])
    (hr : Ow encR 47 w' B vr' s'.R ∨ (vr' = vr ∧ s'.R = s.R ∧ ∀ b, vr.ownBlock = some b → b ∉ T))
    (hl : Ow encU 75 w' B vl' s'.log ∨ (vl' = vl ∧ s'.log = s.log ∧ ∀ b, vl.ownBlock = some b → b ∉ T))
    (hk : Ow encK 3 w' B vk' s'.marks ∨ (vk' = vk ∧ s'.marks = s.marks ∧ ∀ b, vk.ownBlock = some b → b ∉ T))
    (ha : IMap w' .u64 am (mapR s'.R) s'.R.length ∨ (s'.R = s.R ∧ am ∉ T)) (hm : IMap w' .u64 wm (mapW s'.W) s'.W.length ∨ (s'.W = s.W ∧ wm ∉ T)) : SetSt B sb am wm vr' vl' vk' w' s' := by
  refine ⟨hb, ?_, ?_, ?_, ?_, ?_, h.ne, h.bs, h.ba, h.bw⟩
  · rcases hr with hr | ⟨rfl, e, hT⟩
    · exact hr
    · rw [e]; exact h.r.upd hu hT
  · rcases hl with hl | ⟨rfl, e, hT⟩
    · exact hl
    · rw [e]; exact h.l.upd hu hT
  · rcases hk with hk | ⟨rfl, e, hT⟩
    · exact hk
    · rw [e]; exact h.k.upd hu hT
  · rcases ha with ha | ⟨e, hT⟩
    · exact ha
    · rw [e]; exact h.a.upd hu hT
  · rcases hm with hm | ⟨e, hT⟩
    · exact hm
    · rw [e]; exact h.m.upd hu hT
theorem frm_fp {sb am wm : Nat} {vr vl vk vr' vl' vk' : Value} {w w' : World} {T : List Nat} (hu : Upd T w w') (hT : ∀ k ∈ T, k ∈ fpS sb am wm vr vl vk ∨ w.heap.size ≤ k)
    (h1 : ∀ b, vr'.ownBlock = some b → vr.ownBlock = some b ∨ w.heap.size ≤ b) (h2 : ∀ b, vl'.ownBlock = some b → vl.ownBlock = some b ∨ w.heap.size ≤ b) (h3 : ∀ b, vk'.ownBlock = some b → vk.ownBlock = some b ∨ w.heap.size ≤ b) :
    Frm (fpS sb am wm vr vl vk) (fpS sb am wm vr' vl' vk') w w' := by
  refine ⟨hu.mono hT, fun k hk => ?_⟩
  unfold fpS at hk ⊢
  simp only [List.mem_cons, List.mem_append, Option.mem_toList] at hk ⊢
  rcases hk with rfl | rfl | rfl | (hk | hk) | hk
  · simp
  · simp
  · simp
  · rcases h1 _ hk with h | h
    · exact .inl (.inr (.inr (.inr (.inl (.inl h)))))
    · exact .inr h
  · rcases h2 _ hk with h | h
    · exact .inl (.inr (.inr (.inr (.inl (.inr h)))))
    · exact .inr h
  · rcases h3 _ hk with h | h
    · exact .inl (.inr (.inr (.inr (.inr h))))
    · exact .inr h
theorem mapR_push {R : List (Int × Int)} {c : Int} (h : posR R c = none) (n k : Int) : mapR (R ++ [(c, n)]) k = putI (mapR R) c (.int .i64 R.length) k := by
  unfold mapR putI posR
  unfold posR at h
  rw [List.findIdx?_eq_none_iff] at h
  rw [List.findIdx?_append]
  by_cases e : k = c
  · subst e
    rw [if_pos rfl]
    have : R.findIdx? (fun p => p.1 == k) = none := by rw [List.findIdx?_eq_none_iff]; exact h
    rw [this]
    simp
  · rw [if_neg e]
    have : [(c, n)].findIdx? (fun p => p.1 == k) = none := by
      rw [List.findIdx?_eq_none_iff]
      intro p hp
      simp at hp
      subst hp
      simpa using fun h => e h.symm
    rw [this]
    simp
theorem mapW_put {W : AL} (h : Srt W) (c v k : Int) : mapW (put W c v) k = putI (mapW W) c (.int .u64 v) k := by
  unfold mapW putI
  rw [get_put h]
  by_cases e : k = c <;> simp [e]
theorem mapW_del {W : AL} (c k : Int) : mapW (del W c) k = delI (mapW W) c k := by
  unfold mapW delI
  rw [get_del]
  by_cases e : k = c <;> simp [e]
theorem posR_some {R : List (Int × Int)} {c : Int} {i : Nat} (h : posR R c = some i) : ∃ y, R[i]? = some (c, y) := by
  unfold posR at h
  rw [List.findIdx?_eq_some_iff_getElem] at h
  obtain ⟨hk, h1, _⟩ := h
  refine ⟨R[i].2, ?_⟩
  rw [List.getElem?_eq_getElem hk]
  have h1 : R[i].1 = c := by simpa using h1
  rw [← h1]

set_option maxRecDepth 100000 in
theorem s_made (B sb am wm : Nat) (F : List Nat) (s : SS) (w : World) (h : Sets B sb am wm F w s) : Calls Tryd.prog 21 #[.pointer (some ⟨sb, 0, none⟩)] w fun e w' => e = .returned (.bool true) ∧ w = w' := by
  obtain ⟨g, vr, vl, vk, rfl, h⟩ := h
  have c1 : w.cell? ⟨sb, 1, none⟩ = some (.map (some am)) := h.box.cell 1
  have m0 : (_root_.Go.binOp BinOp.neq 57 (Value.map (some am)) (Value.map none)).run Tryd.prog w = .ok (.bool true) w := by kernel_rfl
  clear h g
  go_enter Tryd.func21, Tryd.ntmps21
  go_wp2_with fail
  go_ret
  exact ⟨rfl, rfl⟩

def ReadPost (B sb am wm : Nat) (F : List Nat) (s : SS) (c n : Int) (w : World) (e : Ending) (w' : World) : Prop := ∃ v F', e = .returned v ∧ ErrV w' v (rRead s.R c n).1 (rRead s.R c n).2.1 ∧ Sets B sb am wm F' w' { s with R := (rRead s.R c n).2.2 } ∧ Frm F F' w w'
set_option maxRecDepth 100000 in
set_option maxHeartbeats 4000000 in
theorem s_read (B sb am wm : Nat) (F : List Nat) (s : SS) (c n : Int) (w : World) (h : Sets B sb am wm F w s) (hBw : B ≤ w.heap.size) :
    Calls Tryd.prog 20 #[.pointer (some ⟨sb, 0, none⟩), .int .u64 c, .int .i64 n] w fun e w' => ReadPost B sb am wm F s c n w e w' := by
  have H := Lib.hid h
  obtain ⟨g, vr, vl, vk, hF, h⟩ := h
  have HF := Lib.hid hF
  have HS := Lib.hid h
  have HG := Lib.hid g
  obtain ⟨A, cr, rfl, hnc, hcm⟩ := own_slice h.r
  obtain ⟨N, hN⟩ : ∃ N, s.R.length = N := ⟨_, rfl⟩
  have HN := Lib.hid hN
  have hN5 : N ≤ 500 := hN ▸ g.rl
  rw [hN] at hnc
  have c0 : w.cell? ⟨sb, 0, none⟩ = some (.slice A N cr) := by have := h.box.cell 0; rw [hN] at this; exact this
  have c1 : w.cell? ⟨sb, 1, none⟩ = some (.map (some am)) := h.box.cell 1
  have rb := @posR_some s.R c
  have lk := run_lookup_int (P := Tryd.prog) (z := .int .i64 0) (mt := 57) Tryd.underlying57 Tryd.underlying38 (w := w) (by kernel_rfl) h.a c
  have HL := Lib.hid lk
  clear lk g hF h hN
  go_enter Tryd.func20, Tryd.ntmps20
  go_wp2_with fail
  refine (s_made B sb am wm F s w H.out).mono ?_; rintro e w2 ⟨rfl, rfl⟩
  cases hp : posR s.R c with
  | some i =>
    obtain ⟨y, hy⟩ := rb hp
    have hi : i < N := by have := (List.getElem?_eq_some_iff.1 hy).1; rwa [HN.out] at this
    have l0 : (Instr.lookup 57 (.map (some am)) (.int .u64 c) true).run Tryd.prog w = .ok (.tuple #[.int .i64 i, .bool true]) w := by
      have hr := HL.out
      unfold mapR at hr
      rw [hp] at hr
      exact hr
    obtain ⟨gr, cg, cur, e1, _⟩ := own_form HS.out.r (by rw [HN.out]; omega)
    injection e1 with e1 _ e1'
    subst e1 e1'
    have e0 : w.cell? ⟨gr, i * 2 + 1, none⟩ = some (.int .i64 y) := own_cell HS.out.r _ _ ((flat_get hy (j := 1) (by decide)).trans rfl)
    have HP : Hid (rRead s.R c n = if y = n then (0, 0, s.R) else (12, (i : Int) + 1, s.R)) := Lib.hid (by
      unfold rRead
      rw [hp]
      simp only
      rw [List.getD_eq_getElem?_getD, hy]
      rfl)
    have q1 : (0 : Int) ≤ (i : Int) := by omega
    have q2 : (i : Int) < (N : Int) := by omega
    clear hp hy rb
    by_cases hyn : y = n
    · have HPY : Hid (rRead s.R c n = (0, 0, s.R)) := Lib.hid (by rw [HP.out, if_pos hyn])
      subst hyn
      go_wp2_with fail
      go_ret
      unfold ReadPost
      rw [HPY.out]
      exact ⟨_, _, rfl, ErrV.nil _, H.out, .refl _ _⟩
    · go_wp2_with fail
      go_ret
      unfold ReadPost
      rw [HP.out, if_neg hyn]
      have hu : Upd [] w (w.alloc (.cells #[.int .i64 ((i : Int) + 1), .int .i64 12] 83)) := (Upd.refl [] w).alloc _
      exact ⟨_, _, rfl, ErrV.fault (no := 12) (at_ := (i : Int) + 1) (Blk.new w _ _) (by omega) (by omega), H.out.upd0 hu, .of0 hu⟩
  | none =>
    have l0 : (Instr.lookup 57 (.map (some am)) (.int .u64 c) true).run Tryd.prog w = .ok (.tuple #[.int .i64 0, .bool false]) w := by
      have hr := HL.out
      unfold mapR at hr
      rw [hp] at hr
      exact hr
    have HPN := Lib.hid hp
    have HP : Hid (rRead s.R c n = if 500 ≤ N then (8, 0, s.R) else (0, 0, s.R ++ [(c, n)])) := Lib.hid (by
      unfold rRead
      rw [hp, HN.out])
    clear hp rb
    by_cases h5 : 500 ≤ N
    · have d : decide ((500 : Int) ≤ (N : Int)) = true := by simp; omega
      go_wp2_with fail
      go_ret
      unfold ReadPost
      rw [HP.out, if_pos h5]
      exact ⟨_, _, rfl, ErrV.errno _ 8 (by omega) (by omega), H.out, .refl _ _⟩
    · have d : decide ((500 : Int) ≤ (N : Int)) = false := by simp; omega
      go_wp2_with fail
      have CS : Hid (∀ W, Upd [] w.drew W → W.cell? ⟨sb, 0, none⟩ = some (.slice A N cr) ∧ W.cell? ⟨sb, 1, none⟩ = some (.map (some am))) := Lib.hid (fun W hW => by
        have hu : Upd [] w W := (Upd.refl [] w).drew.trans hW
        have hb := HS.out.box.upd hu (by simp)
        exact ⟨by have := hb.cell 0; rw [HN.out] at this; exact this, hb.cell 1⟩)
      refine wp_invNT 10 [] [] (by kernel_rfl) (by simp) (by kernel_rfl) (by kernel_rfl) trivial ?_
      simp only [List.take_succ_cons, List.take_zero, List.drop_succ_cons, List.drop_zero]
      with_reducible apply wpV_light
      · simp only [lightOp]
      · intro W hU hF
        have f0 := CS.out W hU
        clear hU hF
        go_simp
        exact rfl
      simp only [Act.put, List.setIfInBounds_toArray, List.set_cons_zero, List.set_cons_succ]
      with_reducible apply wpV_light
      · simp only [lightOp]
      · intro W hU hF
        have f0 := CS.out W hU
        clear hU hF
        go_simp
        exact rfl
      simp only [Act.put, List.setIfInBounds_toArray, List.set_cons_zero, List.set_cons_succ]
      with_reducible apply wpV_light
      · simp only [lightOp]
      · intro W hU hF
        have f0 := CS.out W hU
        clear hU hF
        go_simp
        exact rfl
      simp only [Act.put, List.setIfInBounds_toArray, List.set_cons_zero, List.set_cons_succ]
      with_reducible apply wpV_light
      · simp only [lightOp]
      · intro W hU hF
        have f0 := CS.out W hU
        clear hU hF
        go_simp
        exact rfl
      simp only [Act.put, List.setIfInBounds_toArray, List.set_cons_zero, List.set_cons_succ]
      with_reducible apply wpV_light
      · simp only [lightOp]
      · intro W hU hF
        have f0 := CS.out W hU
        clear hU hF
        go_simp
        exact rfl
      simp only [Act.put, List.setIfInBounds_toArray, List.set_cons_zero, List.set_cons_succ]
      with_reducible apply wpV_light
      · simp only [lightOp]
      · intro W hU hF
        have f0 := CS.out W hU
        clear hU hF
        go_simp
        exact rfl
      simp only [Act.put, List.setIfInBounds_toArray, List.set_cons_zero, List.set_cons_succ]
      with_reducible apply wpV_light
      · simp only [lightOp]
      · intro W hU hF
        have f0 := CS.out W hU
        clear hU hF
        go_simp
        exact rfl
      simp only [Act.put, List.setIfInBounds_toArray, List.set_cons_zero, List.set_cons_succ]
      with_reducible apply wpV_light
      · simp only [lightOp]
      · intro W hU hF
        have f0 := CS.out W hU
        clear hU hF
        go_simp
        exact rfl
      simp only [Act.put, List.setIfInBounds_toArray, List.set_cons_zero, List.set_cons_succ]
      with_reducible apply wpV_light
      · simp only [lightOp]
      · intro W hU hF
        have f0 := CS.out W hU
        clear hU hF
        go_simp
        exact rfl
      simp only [Act.put, List.setIfInBounds_toArray, List.set_cons_zero, List.set_cons_succ]
      with_reducible apply wpV_light
      · simp only [lightOp]
      · intro W hU hF
        have f0 := CS.out W hU
        clear hU hF
        go_simp
        exact rfl
      simp only [Act.put, List.setIfInBounds_toArray, List.set_cons_zero, List.set_cons_succ]
      refine wpV_end (fun W hU _ _ => ?_)
      have U2 : Hid (Upd [] w W) := Lib.hid ((Upd.refl [] w).drew.trans hU)
      clear hU
      obtain ⟨W3, r3, m3, u3⟩ := run_mapUpdate_int (P := Tryd.prog) (mt := 57) Tryd.underlying57 Tryd.underlying38 (HS.out.a.upd U2.out (by simp)) c (.int .i64 N)
      have M3 : Hid (IMap W3 .u64 am (mapR (s.R ++ [(c, n)])) (N + 1)) := Lib.hid (by
        rw [show mapR s.R c = none by unfold mapR; rw [HPN.out]; rfl, HN.out] at m3
        exact m3.congr (fun k => by rw [mapR_push HPN.out, HN.out]))
      have U3 : Hid (Upd [am] w W3) := Lib.hid ((U2.out.mono (by simp)).trans u3)
      clear m3 u3
      refine wpT_op (by rfl) (fun K hK => ?_)
      go_wp2_with fail
      refine hK.out _ _ ?_
      clear hK K
      try simp only [Act.put, List.setIfInBounds_toArray, List.set_cons_zero, List.set_cons_succ]
      clear r3
      refine wpT_end ?_
      have NA := Lib.hid HS.out.na
      have B3 : Hid (Blk W3 sb 62 #[.slice A N cr, .map (some am), .map (some wm), vl, vk]) := Lib.hid (by have := HS.out.box.upd U3.out (by simp; exact NA.out.1); rw [HN.out] at this; exact this)
      have O3 : Hid (Ow encR 47 W3 B (.slice A N cr) s.R) := Lib.hid (by have := HS.out.r.upd U3.out (by intro b hb; simp; exact (HS.out.nr hb).2.1); rw [HN.out] at this; exact this)
      have O3N : Hid (W3.ownsRow B 47 2 (.slice A N cr) N (flat encR s.R)) := Lib.hid (by have := O3.out; unfold Ow at this; rw [HN.out] at this; exact this)
      have x0 : W3.cell? ⟨sb, 0, none⟩ = some (.slice A N cr) := B3.out.cell 0
      have x1 : W3.frozen? ⟨sb, 0, none⟩ = false := B3.out.frozen 0
      clear c0 c1 l0
      go_wp2_with (at_builtin; refine stopped ?_)
      refine Lib.hid ?_
      refine wpList_app _ (by rfl) (.tmp 65) (.tmp 69) _ (by rfl) elem_seen (.slice A N cr) _ (by rfl) (by rfl) (own_upd0 O3N.out ((Upd.refl [] W3).alloc _)) (.of_blk (Blk.new _ _ _) (m := 1) 1 rfl) (by intro u hu; simp at hu; rcases hu with rfl | rfl <;> rfl) (by simp only [maxLen]; omega) (by omega) (Nat.le_trans (Nat.le_trans hBw U3.out.size) (by simp)) ?_
      intro v5 w5 o5 u5 b5
      obtain ⟨A5, c5, rfl, _, _⟩ := own_slice o5
      have SZ : Hid (w.heap.size ≤ W3.heap.size) := Lib.hid U3.out.size
      have U5 : Hid (Upd ((Value.slice A N cr).ownBlock.toList) W3 w5) := Lib.hid (((Upd.refl _ W3).alloc _).trans u5)
      have B5 : Hid (∀ b, (Value.slice A5 (N + 1) c5).ownBlock = some b → (Value.slice A N cr).ownBlock = some b ∨ w.heap.size ≤ b) := Lib.hid (fun b hb => by
        rcases b5 with b5 | b5
        · exact .inl (b5 ▸ hb)
        · rw [b5] at hb
          injection hb with hb
          have := SZ.out
          simp at hb
          exact .inr (by omega))
      have O5 : Hid (Ow encR 47 w5 B (.slice A5 (N + 1) c5) (s.R ++ [(c, n)])) := Lib.hid (by
        have e1 : flat encR s.R ++ #[Value.int .u64 c, Value.int .i64 n].toList = flat encR (s.R ++ [(c, n)]) := by rw [flat_append]; rfl
        have e2 : N + 1 = (s.R ++ [(c, n)]).length := by rw [List.length_append, HN.out]; rfl
        rw [e1] at o5
        unfold Ow
        rw [← e2]
        exact o5)
      have H5 : Hid (Blk w5 sb 62 #[.slice A N cr, .map (some am), .map (some wm), vl, vk]) := Lib.hid (B3.out.upd U5.out (by
        intro hm
        have := (HS.out.nr (b := sb) (by rw [HN.out]; simpa using hm)).1
        exact this rfl))
      clear x0 x1 o5 u5 b5
      have x1 : w5.frozen? ⟨sb, 0, none⟩ = false := H5.out.frozen 0
      have x2 : sb < w5.heap.size := H5.out.lt
      have x0 : w5.cell? ⟨sb, 0, none⟩ = some (.slice A N cr) := H5.out.cell 0
      go_wp2_with fail
      go_ret
      unfold ReadPost
      rw [HP.out, if_neg h5]
      have UF : Upd [sb] w5 (w5.setCell ⟨sb, 0, none⟩ (.slice A5 (N + 1) c5)) := (Upd.refl [sb] w5).setCell (.inl (by simp)) _
      have hn5 : ∀ b, (Value.slice A5 (N + 1) c5).ownBlock = some b → b ≠ sb := fun b hb e => by
        subst e
        exact (own_type O5.out H5.out (by decide)) hb
      have UT : Upd (sb :: am :: (Value.slice A N cr).ownBlock.toList) w (w5.setCell ⟨sb, 0, none⟩ (.slice A5 (N + 1) c5)) :=
        ((U3.out.mono (by simp)).trans (U5.out.mono (by intro y hy; exact .inl (by simp at hy ⊢; exact .inr (.inr hy))))).trans (UF.mono (by simp))
      have G5 : SP.Good { s with R := s.R ++ [(c, n)] } := by have := good_read HG.out c n; rwa [HP.out, if_neg h5] at this
      refine ⟨_, fpS sb am wm (.slice A5 (N + 1) c5) vl vk, rfl, ErrV.nil _, ⟨G5, (.slice A5 (N + 1) c5), vl, vk, rfl, ?_⟩, ?_⟩
      · refine HS.out.turn UT (H5.out.set_eq rfl) (.inl (O5.out.upd UF (by intro b hb; simp; exact hn5 b hb))) (.inr ⟨rfl, rfl, fun b hb => ?_⟩) (.inr ⟨rfl, rfl, fun b hb => ?_⟩) (.inl ?_) (.inr ⟨rfl, ?_⟩)
        · have := HS.out.nl hb
          rw [HN.out] at this
          simp
          exact ⟨this.1, this.2.1, this.2.2.2.1⟩
        · have := HS.out.nk hb
          rw [HN.out] at this
          simp
          exact ⟨this.1, this.2.1, this.2.2.2.1⟩
        · have h1 : IMap W3 .u64 am (mapR (s.R ++ [(c, n)])) (s.R ++ [(c, n)]).length := by rw [List.length_append, HN.out]; exact M3.out
          refine (h1.upd U5.out (by intro hm; have := (HS.out.nr (b := am) (by rw [HN.out]; simpa using hm)).2.1; exact this rfl)).upd UF (by simp; exact fun e => NA.out.1 e.symm)
        · simp
          refine ⟨fun e => NA.out.2 e.symm, fun e => HS.out.ne e.symm, fun hb => ?_⟩
          have := (HS.out.nr (b := wm) (by rw [HN.out]; exact hb)).2.2.1
          exact this rfl
      · rw [HF.out, HN.out]
        refine frm_fp UT (by intro k hk; exact .inl (by unfold fpS; simp at hk ⊢; rcases hk with rfl | rfl | hk <;> simp [*])) B5.out (fun b hb => .inl hb) (fun b hb => .inl hb)
end Go.Proofs.YtbpmkbcpnnpdjaaDoor

/-
  model.State: what it keeps; coll, Get, Size, Kinds.
-/
import Derived.Test.YtjlpogmoebmkdaaDoorIMap
import Derived.Test.YtjlpogmoebmkdaaDoorFlat
import Derived.Test.YtjlpogmoebmkdaaDoorArg
import Derived.Test.YtjlpogmoebmkdaaDoorMPlain
import Derived.Test.YtjlpogmoebmkdaaDoorErrN
import Derived.Test.YtjlpogmoebmkdaaDoorAppV
import Derived.Test.YtjlpogmoebmkdaaDoorDrawK
import Derived.OwnWalk
set_option linter.unusedVariables false
namespace Go.Proofs.YtjlpogmoebmkdaaDoor
open Go.RowKit Assoc MP
attribute [local go_sem] litStep_value

theorem stopped {p : Prop} (h : Hid p) : p := h.out
theorem blk_map {w : World} {b : Nat} {t : TypeId} {cs : Array Value} {q : IntKind} {f : Int → Option Value} {n : Nat} (h : Blk w b t cs) {m : Nat} (hm : IMap w q m f n) : b ≠ m := by
  rintro rfl
  obtain ⟨L, c, hr, _⟩ := hm
  have := hr.blk
  unfold Blk at h
  rw [h] at this
  cases this
theorem own_map {w : World} {B s n m k : Nat} {e : TypeId} {v : Value} {xs : List Value} {q : IntKind} {f : Int → Option Value} (h : w.ownsRow B e s v n xs) (hm : IMap w q m f k) : v.ownBlock ≠ some m := by
  intro hb
  rcases h.2 with ⟨e, _⟩ | ⟨g, cap, cur, e, _, hg, _⟩
  · rw [e] at hb; simp [Value.ownBlock] at hb
  · rw [e] at hb
    simp only [Value.ownBlock, Option.some.injEq] at hb
    subst hb
    exact (blk_map hg hm) rfl
theorem run_len_int {P : Program} {w : World} {q : IntKind} {b n : Nat} {f : Int → Option Value} {mt kt et : TypeId} (hm : P.underlying mt = some (.map kt et)) (h : IMap w q b f n) (ty : TypeId) : (Builtin.len_ #[mt] ty #[.map (some b)]).run P w = .ok (.int .i64 n) w := by
  obtain ⟨L, c, h, _, hn⟩ := h
  simp [Builtin.len_, run_underlying hm, run_getObj_blk h.blk, goInt, Result.andThen, hn]
def mapI (l : AL) : Int → Option Value := fun c => (get l c).map (Value.int .i64)
theorem mapI_put {l : AL} (h : Srt l) (c v k : Int) : mapI (put l c v) k = putI (mapI l) c (.int .i64 v) k := by
  unfold mapI putI
  rw [get_put h]
  by_cases e : k = c <;> simp [e]
theorem mapI_del {l : AL} (c k : Int) : mapI (del l c) k = delI (mapI l) c k := by
  unfold mapI delI
  rw [get_del]
  by_cases e : k = c <;> simp [e]
theorem mapI_some (l : AL) (c : Int) : (mapI l c).isSome = (get l c).isSome := by unfold mapI; cases get l c <;> rfl
theorem imapI_put {w : World} {m : Nat} {l : AL} {c x : Int} (hs : Srt l) (h : IMap w .i64 m (putI (mapI l) c (.int .i64 x)) (if (mapI l c).isSome then l.length else l.length + 1)) : IMap w .i64 m (mapI (put l c x)) (put l c x).length := by
  rw [mapI_some] at h
  rw [len_put hs]
  exact h.congr (fun k => by rw [mapI_put hs])
theorem imapI_del {w : World} {m : Nat} {l : AL} {c : Int} (hs : Srt l) (h : IMap w .i64 m (delI (mapI l) c) (if (mapI l c).isSome then l.length - 1 else l.length)) : IMap w .i64 m (mapI (del l c)) (del l c).length := by
  rw [mapI_some] at h
  rw [len_del hs]
  exact h.congr (fun k => by rw [mapI_del])
abbrev encK : Enc Int := encI .i64
def mapsV (ms : List Nat) : List Value := ms.map (fun m => .map (some m))
/-- A state: the block, the kinds, the maps. -/
structure MdlSt (B sb : Nat) (vk : Value) (gc cc : Nat) (ms : List Nat) (w : World) (s : MS) : Prop where
  box : Blk w sb 75 #[vk, .slice (some ⟨gc, 0, none⟩) s.L.length cc]
  k : Ow encK 3 w B vk s.K
  c : w.ownsRow B 59 1 (.slice (some ⟨gc, 0, none⟩) s.L.length cc) s.L.length (mapsV ms)
  each : ∀ (i m : Nat) (l : AL), ms[i]? = some m → s.L[i]? = some l → IMap w .i64 m (mapI l) l.length
  nd : ms.Nodup
  bs : B ≤ sb
  bm : ∀ m ∈ ms, B ≤ m
def fpM (sb : Nat) (vk : Value) (gc : Nat) (ms : List Nat) : List Nat := sb :: gc :: (vk.ownBlock.toList ++ ms)
def Mdl (B sb : Nat) (F : List Nat) (w : World) (s : MS) : Prop := MP.Good s ∧ ∃ vk gc cc ms, F = fpM sb vk gc ms ∧ MdlSt B sb vk gc cc ms w s
section
variable {B sb gc cc : Nat} {vk : Value} {ms : List Nat} {w w' : World} {s : MS} {F T : List Nat}
theorem MdlSt.mlen (h : MdlSt B sb vk gc cc ms w s) : ms.length = s.L.length := by have := own_len h.c; simp [mapsV] at this; omega
theorem MdlSt.at_ (h : MdlSt B sb vk gc cc ms w s) {i : Nat} (hi : i < s.L.length) : ∃ m, ms[i]? = some m ∧ IMap w .i64 m (mapI (coll s i)) (coll s i).length := by
  have hm : i < ms.length := by rw [h.mlen]; exact hi
  exact ⟨ms[i], List.getElem?_eq_getElem hm, h.each i _ _ (List.getElem?_eq_getElem hm) (coll_get hi)⟩
theorem MdlSt.mem (h : MdlSt B sb vk gc cc ms w s) {m : Nat} (hm : m ∈ ms) : ∃ f n, IMap w .i64 m f n := by
  obtain ⟨i, hi, rfl⟩ := List.getElem_of_mem hm
  have hi' : i < s.L.length := by rw [← h.mlen]; exact hi
  exact ⟨_, _, h.each i _ _ (List.getElem?_eq_getElem hi) (coll_get hi')⟩
theorem MdlSt.upd (h : MdlSt B sb vk gc cc ms w s) (hu : Upd T w w') (hT : ∀ k ∈ fpM sb vk gc ms, k ∉ T) : MdlSt B sb vk gc cc ms w' s := by
  unfold fpM at hT
  simp only [List.mem_cons, List.mem_append, Option.mem_toList] at hT
  refine ⟨h.box.upd hu (hT _ (.inl rfl)), h.k.upd hu fun b hb => hT b (.inr (.inr (.inl hb))), own_upd h.c hu fun b hb => hT b (.inr (.inl (by simp [Value.ownBlock] at hb; exact hb.symm))), fun i m l hm hl => (h.each i m l hm hl).upd hu (hT m (.inr (.inr (.inr (List.mem_of_getElem? hm))))), h.nd, h.bs, h.bm⟩
theorem Mdl.upd (h : Mdl B sb F w s) (hu : Upd T w w') (hT : Disj F T) : Mdl B sb F w' s := by
  obtain ⟨g, vk, gc, cc, ms, rfl, h⟩ := h
  exact ⟨g, vk, gc, cc, ms, rfl, h.upd hu hT⟩
theorem Mdl.upd0 (h : Mdl B sb F w s) (hu : Upd [] w w') : Mdl B sb F w' s := h.upd hu (fun k _ => by simp)
theorem MdlSt.lt (h : MdlSt B sb vk gc cc ms w s) : ∀ k ∈ fpM sb vk gc ms, B ≤ k ∧ k < w.heap.size := by
  intro k hk
  unfold fpM at hk
  simp only [List.mem_cons, List.mem_append, Option.mem_toList] at hk
  rcases hk with rfl | rfl | hk | hk
  · exact ⟨h.bs, h.box.lt⟩
  · exact own_lt h.c rfl
  · exact own_lt h.k hk
  · obtain ⟨f, n, hm⟩ := h.mem hk
    exact ⟨h.bm k hk, hm.lt⟩
theorem Mdl.lt (h : Mdl B sb F w s) : ∀ k ∈ F, B ≤ k ∧ k < w.heap.size := by
  obtain ⟨g, vk, gc, cc, ms, rfl, h⟩ := h
  exact h.lt
/-- A map has turned. -/
theorem MdlSt.turn (h : MdlSt B sb vk gc cc ms w s) {i m : Nat} (hi : i < s.L.length) (hm : ms[i]? = some m) {l : AL} (hu : Upd [m] w w') (hl : IMap w' .i64 m (mapI l) l.length) : MdlSt B sb vk gc cc ms w' (setC s i l) := by
  obtain ⟨f, n, hmm⟩ := h.mem (List.mem_of_getElem? hm)
  have e : (setC s i l).L.length = s.L.length := by simp [setC]
  refine ⟨by rw [e]; exact h.box.upd hu (by simp; exact blk_map h.box hmm), h.k.upd hu fun b hb => by simp; rintro rfl; exact own_map h.k hmm hb, by rw [e]; exact own_upd h.c hu fun b hb => by simp; rintro rfl; exact own_map h.c hmm hb, fun j m' l' hj hl' => ?_, h.nd, h.bs, h.bm⟩
  have hl2 : (s.L.set i l)[j]? = some l' := hl'
  rw [List.getElem?_set] at hl2
  by_cases hij : i = j
  · subst hij
    rw [if_pos rfl, if_pos hi] at hl2
    rw [hm] at hj
    injection hj with hj
    injection hl2 with hl2
    subst hj hl2
    exact hl
  · rw [if_neg hij] at hl2
    refine (h.each j m' l' hj hl2).upd hu ?_
    simp
    rintro rfl
    have hd := h.nd
    have h1 := List.getElem?_eq_some_iff.1 hm
    have h2 := List.getElem?_eq_some_iff.1 hj
    obtain ⟨l1, e1⟩ := h1
    obtain ⟨l2, e2⟩ := h2
    rcases Nat.lt_or_ge i j with h3 | h3
    · exact List.pairwise_iff_getElem.1 hd i j l1 l2 h3 (e1.trans e2.symm)
    · exact List.pairwise_iff_getElem.1 hd j i l2 l1 (by omega) (e2.trans e1.symm)
end

def CollPost (s : MS) (ms : List Nat) (c : Int) (w : World) (e : Ending) (w' : World) : Prop :=
  (isC s c = true ∧ w = w' ∧ ∃ (i m : Nat), c = i ∧ i < s.L.length ∧ ms[i]? = some m ∧ e = .returned (.tuple #[.map (some m), .nilIface])) ∨
  (isC s c = false ∧ Upd [] w w' ∧ ∃ g, e = .returned (.tuple #[.map none, .iface 76 (.pointer (some ⟨g, 0, none⟩))]) ∧ Blk w' g 78 #[.int .i64 c, .int .i64 3])
set_option maxRecDepth 100000 in
set_option maxHeartbeats 1000000 in
theorem m_coll (B sb : Nat) (vk : Value) (gc cc : Nat) (ms : List Nat) (s : MS) (c : Int) (w : World) (h : MdlSt B sb vk gc cc ms w s) (hk8 : s.L.length ≤ 8) :
    Calls Tryd.prog 25 #[.pointer (some ⟨sb, 0, none⟩), .int .i64 c] w fun e w' => CollPost s ms c w e w' := by
  have eq0 := @Lib.run_eql_slice_nil Tryd.prog
  have HS := Lib.hid h
  obtain ⟨n, hn⟩ : ∃ n, s.L.length = n := ⟨_, rfl⟩
  have HN := Lib.hid hn
  have c1 : w.cell? ⟨sb, 1, none⟩ = some (.slice (some ⟨gc, 0, none⟩) n cc) := by rw [← hn]; exact h.box.cell 1
  rw [hn] at hk8
  clear h hn
  go_enter Tryd.func25, Tryd.ntmps25
  by_cases h1 : c < 0
  · have HI : Hid (isC s c = false) := Lib.hid (by unfold isC; rw [decide_eq_false_iff_not]; omega)
    go_wp2_with fail
    go_ret2
    unfold CollPost
    exact .inr ⟨HI.out, (Upd.refl [] w).alloc _, w.heap.size, rfl, Blk.new w _ _⟩
  · by_cases h2 : (n : Int) ≤ c
    · have HI : Hid (isC s c = false) := Lib.hid (by unfold isC; rw [decide_eq_false_iff_not, HN.out]; omega)
      go_wp2_with fail
      go_ret2
      unfold CollPost
      exact .inr ⟨HI.out, (Upd.refl [] w).alloc _, w.heap.size, rfl, Blk.new w _ _⟩
    · have HI : Hid (isC s c = true) := Lib.hid (by unfold isC; rw [decide_eq_true_iff, HN.out]; omega)
      obtain ⟨i, rfl, hi⟩ := isC_form HI.out
      obtain ⟨m, hm, _⟩ := HS.out.at_ hi
      have hin : i < n := by rw [← HN.out]; exact hi
      have HM := Lib.hid hm
      have HII := Lib.hid hi
      have e0 : w.cell? ⟨gc, i, none⟩ = some (.map (some m)) := own_cell HS.out.c i _ (by unfold mapsV; rw [List.getElem?_map, hm]; rfl)
      have q1 : (0 : Int) ≤ (i : Int) := by omega
      have q2 : (i : Int) < (n : Int) := by omega
      clear hm hi
      go_wp2_with fail
      go_ret2
      unfold CollPost
      exact .inl ⟨HI.out, rfl, i, m, rfl, HII.out, HM.out, rfl⟩
end Go.Proofs.YtjlpogmoebmkdaaDoor

/-
  concordref07.Sets: what it keeps; Read, Find, Version.
-/
import Derived.Test.YtbpmkbcpnnpdjaaDoorDPlain
import Derived.Test.YtbpmkbcpnnpdjaaDoorSets
set_option linter.unusedVariables false
namespace Go.Proofs.YtbpmkbcpnnpdjaaDoor
open Go.RowKit Assoc SP
attribute [local go_sem] litStep_value

theorem elem_wrotes : Elem Tryd.prog 35 26 1 24 := .mk' (z := ((Tryd.prog.info? 26).bind (·.zero)).getD undef) Tryd.underlying35 (by kernel_rfl) (by kernel_rfl) (by omega)
/-- The document's sets in block rb. -/
structure RSt (B rb : Nat) (vr vw vm : Value) (ms : List Value) (w : World) (d : DS) : Prop where
  box : Blk w rb 37 #[vr, vw, vm]
  r : Ow encR 47 w B vr d.R
  ww : Ow encW 55 w B vw d.W
  m : w.ownsRow B 26 1 vm d.M.length ms
  each : ∀ (i : Nat) (v : Value) (l : AL), ms[i]? = some v → d.M[i]? = some l → Ow encW 55 w B v l
  b : B ≤ rb
def ownsOf (ms : List Value) : List Nat := ms.flatMap (fun v => v.ownBlock.toList)
def fpD (rb : Nat) (vr vw vm : Value) (ms : List Value) : List Nat := rb :: (vr.ownBlock.toList ++ vw.ownBlock.toList ++ vm.ownBlock.toList ++ ownsOf ms)
def RefS (B rb : Nat) (F : List Nat) (w : World) (d : DS) : Prop := SP.GoodD d ∧ ∃ vr vw vm ms, F = fpD rb vr vw vm ms ∧ RSt B rb vr vw vm ms w d
theorem mem_owns {ms : List Value} {b : Nat} : b ∈ ownsOf ms ↔ ∃ v ∈ ms, v.ownBlock = some b := by
  unfold ownsOf
  simp [List.mem_flatMap]
section
variable {B rb : Nat} {vr vw vm : Value} {ms : List Value} {w w' : World} {d : DS} {F T : List Nat}
theorem RSt.mlen (h : RSt B rb vr vw vm ms w d) : ms.length = d.M.length := by have := own_len h.m; omega
theorem RSt.mem (h : RSt B rb vr vw vm ms w d) {v : Value} (hv : v ∈ ms) : ∃ l, l ∈ d.M ∧ Ow encW 55 w B v l := by
  obtain ⟨i, hi, rfl⟩ := List.getElem_of_mem hv
  have hi' : i < d.M.length := by rw [← h.mlen]; exact hi
  exact ⟨d.M[i], List.getElem_mem _, h.each i _ _ (List.getElem?_eq_getElem hi) (List.getElem?_eq_getElem hi')⟩
theorem RSt.upd (h : RSt B rb vr vw vm ms w d) (hu : Upd T w w') (hT : ∀ k ∈ fpD rb vr vw vm ms, k ∉ T) : RSt B rb vr vw vm ms w' d := by
  unfold fpD at hT
  simp only [List.mem_cons, List.mem_append, Option.mem_toList] at hT
  refine ⟨h.box.upd hu (hT _ (.inl rfl)), h.r.upd hu fun b hb => hT b (.inr (.inl (.inl (.inl hb)))), h.ww.upd hu fun b hb => hT b (.inr (.inl (.inl (.inr hb)))), own_upd h.m hu fun b hb => hT b (.inr (.inl (.inr hb))), fun i v l hv hl => (h.each i v l hv hl).upd hu fun b hb => hT b (.inr (.inr (mem_owns.2 ⟨v, List.mem_of_getElem? hv, hb⟩))), h.b⟩
theorem RSt.upd0 (h : RSt B rb vr vw vm ms w d) (hu : Upd [] w w') : RSt B rb vr vw vm ms w' d := h.upd hu (by simp)
theorem RefS.upd (h : RefS B rb F w d) (hu : Upd T w w') (hT : Disj F T) : RefS B rb F w' d := by
  obtain ⟨g, vr, vw, vm, ms, rfl, h⟩ := h
  exact ⟨g, vr, vw, vm, ms, rfl, h.upd hu hT⟩
theorem RefS.upd0 (h : RefS B rb F w d) (hu : Upd [] w w') : RefS B rb F w' d := h.upd hu (fun k _ => by simp)
theorem RSt.lt (h : RSt B rb vr vw vm ms w d) : ∀ k ∈ fpD rb vr vw vm ms, B ≤ k ∧ k < w.heap.size := by
  intro k hk
  unfold fpD at hk
  simp only [List.mem_cons, List.mem_append, Option.mem_toList] at hk
  rcases hk with rfl | ((hk | hk) | hk) | hk
  · exact ⟨h.b, h.box.lt⟩
  · exact own_lt h.r hk
  · exact own_lt h.ww hk
  · exact own_lt h.m hk
  · obtain ⟨v, hv, hb⟩ := mem_owns.1 hk
    obtain ⟨l, _, ho⟩ := h.mem hv
    exact own_lt ho hb
theorem RefS.lt (h : RefS B rb F w d) : ∀ k ∈ F, B ≤ k ∧ k < w.heap.size := by
  obtain ⟨g, vr, vw, vm, ms, rfl, h⟩ := h
  exact h.lt
/-- The box alone has turned, and new ones. -/
theorem RSt.turn {vr' vw' vm' : Value} {ms' : List Value} {d' : DS} (h : RSt B rb vr vw vm ms w d) (hu : Upd T w w') (hT : ∀ k ∈ T, k = rb) (hb : Blk w' rb 37 #[vr', vw', vm'])
    (hr : Ow encR 47 w' B vr' d'.R ∨ (vr' = vr ∧ d'.R = d.R)) (hw : Ow encW 55 w' B vw' d'.W ∨ (vw' = vw ∧ d'.W = d.W))
    (hm : (w'.ownsRow B 26 1 vm' d'.M.length ms' ∧ ∀ (i : Nat) (v : Value) (l : AL), ms'[i]? = some v → d'.M[i]? = some l → (v = vw ∧ l = d.W) ∨ ∃ j : Nat, ms[j]? = some v ∧ d.M[j]? = some l) ∨ (vm' = vm ∧ ms' = ms ∧ d'.M = d.M)) : RSt B rb vr' vw' vm' ms' w' d' := by
  have o1 : ∀ {e : TypeId} {s n : Nat} {v : Value} {xs : List Value}, e ≠ 37 → w.ownsRow B e s v n xs → w'.ownsRow B e s v n xs := fun he ho => own_upd ho hu fun b hb hbT => own_type ho h.box (Ne.symm he) (hT b hbT ▸ hb)
  refine ⟨hb, ?_, ?_, ?_, ?_, h.b⟩
  · rcases hr with hr | ⟨rfl, e⟩
    · exact hr
    · rw [e]; exact o1 (by decide) h.r
  · rcases hw with hw | ⟨rfl, e⟩
    · exact hw
    · rw [e]; exact o1 (by decide) h.ww
  · rcases hm with ⟨hm, _⟩ | ⟨rfl, rfl, e⟩
    · exact hm
    · rw [e]; exact o1 (by decide) h.m
  · intro i v l hv hl
    rcases hm with ⟨_, hm⟩ | ⟨rfl, rfl, e⟩
    · rcases hm i v l hv hl with ⟨rfl, rfl⟩ | ⟨j, h1, h2⟩
      · exact o1 (by decide) h.ww
      · exact o1 (by decide) (h.each j v l h1 h2)
    · rw [e] at hl
      exact o1 (by decide) (h.each i v l hv hl)
end
/-- The place of a cell that is written. -/
def posW (W : AL) (c : Int) : Int := match W.findIdx? (fun p => p.1 == c) with | some k => (k : Int) | none => -1
theorem idx_at {L : List (Int × Int)} {c : Int} {k : Nat} {x : Int × Int} (h : ∀ j, j < k → (L.getD j default).1 ≠ c) (hx : L[k]? = some x) (e : x.1 = c) : L.findIdx? (fun p => p.1 == c) = some k := by
  obtain ⟨hk, rfl⟩ := List.getElem?_eq_some_iff.1 hx
  rw [List.findIdx?_eq_some_iff_getElem]
  refine ⟨hk, by simpa using e, fun j hj => ?_⟩
  have := h j hj
  rw [List.getD_eq_getElem?_getD, List.getElem?_eq_getElem (by omega)] at this
  simpa using this
theorem idx_no {L : List (Int × Int)} {c : Int} (h : ∀ j, j < L.length → (L.getD j default).1 ≠ c) : L.findIdx? (fun p => p.1 == c) = none := by
  rw [List.findIdx?_eq_none_iff]
  intro x hx
  obtain ⟨j, hj, rfl⟩ := List.getElem_of_mem hx
  have := h j hj
  rw [List.getD_eq_getElem?_getD, List.getElem?_eq_getElem hj] at this
  simpa using this
theorem posW_none {W : AL} {c : Int} (h : get W c = none) : posW W c = -1 := by
  unfold posW
  rw [get_none] at h
  have : W.findIdx? (fun p => p.1 == c) = none := by
    rw [List.findIdx?_eq_none_iff]
    intro p hp
    simpa using h p hp
  rw [this]
theorem posW_some {W : AL} {c v : Int} (h : get W c = some v) : ∃ k : Nat, posW W c = k ∧ W[k]? = some (c, v) := by
  unfold posW
  cases hf : W.findIdx? (fun p => p.1 == c) with
  | none =>
    rw [List.findIdx?_eq_none_iff] at hf
    have : get W c = none := get_none.2 fun p hp => by simpa using hf p hp
    rw [this] at h
    cases h
  | some k =>
    refine ⟨k, rfl, ?_⟩
    rw [List.findIdx?_eq_some_iff_getElem] at hf
    obtain ⟨hk, h1, h2⟩ := hf
    rw [List.getElem?_eq_getElem hk]
    have h1 : W[k].1 = c := by simpa using h1
    have : get W c = some W[k].2 := by
      unfold Assoc.get
      have : W.find? (fun p => p.1 == c) = some W[k] := by
        rw [List.find?_eq_some_iff_getElem]
        exact ⟨by simpa using h1, k, hk, rfl, fun j hj => by simpa using h2 j hj⟩
      rw [this]
      rfl
    rw [this] at h
    injection h with h
    rw [← h1, ← h]

set_option maxRecDepth 100000 in
set_option maxHeartbeats 4000000 in
theorem rs_find (B rb : Nat) (F : List Nat) (d : DS) (c : Int) (w : World) (h : RefS B rb F w d) :
    Calls Tryd.prog 35 #[.pointer (some ⟨rb, 0, none⟩), .int .u64 c] w fun e w' => e = .returned (.int .i64 (posW d.W c)) ∧ w = w' := by
  obtain ⟨g, vr, vw, vm, ms, hF, h⟩ := h
  obtain ⟨A, ca, rfl, hnc, hcm⟩ := own_slice h.ww
  obtain ⟨n, hn⟩ : ∃ n, d.W.length = n := ⟨_, rfl⟩
  obtain ⟨r, hr⟩ : ∃ r, posW d.W c = r := ⟨_, rfl⟩
  have c1 : w.cell? ⟨rb, 1, none⟩ = some (.slice A n ca) := by rw [← hn]; exact h.box.cell 1
  have hn5 : n ≤ 500 := hn ▸ g.wl
  rw [hn] at hnc
  rw [hr]
  have HO := Lib.hid h.ww
  rw [hn] at HO
  have HN := Lib.hid hn
  have HR := Lib.hid hr
  clear h hn hr hF g
  go_enter Tryd.func35, Tryd.ntmps35
  go_wp2_with fail
  go_loop [5] (fun v => ∃ k : Nat, v = .int .i64 k ∧ k ≤ n ∧ Hid (∀ j, j < k → (d.W.getD j default).1 ≠ c)) (fun v => n - (intOf v).toNat)
  case atStart => exact ⟨0, rfl, by omega, Lib.hid (fun j hj => by omega)⟩
  case round =>
    obtain ⟨k, rfl, hk, HA⟩ := hrel
    by_cases hkn : k < n
    · obtain ⟨⟨xc, xv⟩, hx⟩ : ∃ x, d.W[k]? = some x := ⟨_, List.getElem?_eq_getElem (by rw [HN.out]; omega)⟩
      obtain ⟨gw, cg, cur, e1, _⟩ := own_form HO.out (by rw [HN.out]; omega)
      injection e1 with e1 _ e1'
      subst e1 e1'
      have e0 : w.cell? ⟨gw, k * 2, none⟩ = some (.int .u64 xc) := HO.out.at_ hx 0 _ rfl
      have HX := Lib.hid hx
      have q1 : (0 : Int) ≤ (k : Int) := by omega
      have q2 : (k : Int) < (n : Int) := by omega
      clear hx
      by_cases hid : xc = c
      · have d1 : (xc == c) = true := by simpa using hid
        have HZ : Hid (r = k) := Lib.hid (by rw [← HR.out]; unfold posW; rw [idx_at HA.out HX.out hid])
        clear hid
        go_wp2_with fail
        go_ret
        exact ⟨by rw [HZ.out]; rfl, rfl⟩
      · have d1 : (xc == c) = false := by simpa using hid
        have HZ : Hid (∀ j, j < k + 1 → (d.W.getD j default).1 ≠ c) := Lib.hid (fun j hj => by
          by_cases e : j = k
          · rw [e, List.getD_eq_getElem?_getD, HX.out]; exact hid
          · exact HA.out j (by omega))
        clear hid
        go_wp2_with fail
        go_round
        case rel => exact ⟨k + 1, by go_num, by omega, HZ⟩
        case measure => simp [intOf]; omega
    · have : k = n := by omega
      subst this
      have HZ : Hid (r = -1) := Lib.hid (by rw [← HR.out]; unfold posW; rw [idx_no (by rw [HN.out]; exact HA.out)])
      go_wp2_with fail
      go_ret
      exact ⟨by rw [HZ.out]; rfl, rfl⟩
end Go.Proofs.YtbpmkbcpnnpdjaaDoor

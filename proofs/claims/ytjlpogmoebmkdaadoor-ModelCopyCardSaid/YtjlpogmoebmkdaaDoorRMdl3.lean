/-
  concordref08.State: set.
-/
import Derived.Test.YtjlpogmoebmkdaaDoorRMdl2
set_option linter.unusedVariables false
namespace Go.Proofs.YtjlpogmoebmkdaaDoor
open Go.RowKit Assoc MP
attribute [local go_sem] litStep_value

theorem elem_prs : Elem Tryd.prog 57 27 1 24 := .mk' (z := ((Tryd.prog.info? 27).bind (·.zero)).getD undef) Tryd.underlying57 (by kernel_rfl) (by kernel_rfl) (by omega)
/-- The box and its list are others; what they hold is the old, or what was handed. -/
theorem RMSt.put {B rb : Nat} {vk vl vl' : Value} {ms : List Value} {w w' : World} {s : MS} {i : Nat} {va : Value} {l : AL} {T : List Nat}
    (h : RMSt B rb vk vl ms w s) (hi : i < s.L.length) (hu : Upd T w w') (hT : ∀ k ∈ T, k = rb) (hb : Blk w' rb 80 #[vk, vl'])
    (hl : w'.ownsRow B 27 1 vl' s.L.length (ms.set i va)) (ha : Ow encPr 36 w' B va l) : RMSt B rb vk vl' (ms.set i va) w' (setC s i l) := by
  have o1 : ∀ {e : TypeId} {s n : Nat} {v : Value} {xs : List Value}, e ≠ 80 → w.ownsRow B e s v n xs → w'.ownsRow B e s v n xs := fun he ho => own_upd ho hu fun b hb hbT => own_type ho h.box (Ne.symm he) (hT b hbT ▸ hb)
  refine ⟨hb, o1 (by decide) h.k, ?_, ?_, h.b⟩
  · show w'.ownsRow B _ 1 vl' (s.L.set i l).length _
    rw [List.length_set]
    exact hl
  · intro j v x hv hx
    have hx' : (s.L.set i l)[j]? = some x := hx
    rw [List.getElem?_set] at hv hx'
    by_cases e : i = j
    · subst e
      rw [if_pos rfl] at hv hx'
      rw [if_pos hi] at hx'
      rw [if_pos (by rw [h.mlen]; exact hi)] at hv
      injection hv with hv
      injection hx' with hx'
      subst hv hx'
      exact ha
    · rw [if_neg e] at hv hx'
      exact o1 (by decide) (h.each j v x hv hx')
def RSetPost (B rb : Nat) (F : List Nat) (s : MS) (i : Nat) (va : Value) (l : AL) (w : World) (e : Ending) (w' : World) : Prop :=
  ∃ F', e = .returned (.tuple #[]) ∧ RMdl B rb F' w' (setC s i l) ∧ Upd F w w' ∧ ∀ k ∈ F', k ∈ F ∨ w.heap.size ≤ k ∨ va.ownBlock = some k
set_option maxRecDepth 100000 in
set_option maxHeartbeats 4000000 in
theorem rm_set (B rb : Nat) (F : List Nat) (s : MS) (i : Nat) (va : Value) (l : AL) (w : World) (h : RMdl B rb F w s) (hi : i < s.L.length) (ha : Ow encPr 36 w B va l) (hg : MP.Good (setC s i l)) (hBw : B ≤ w.heap.size) :
    Calls Tryd.prog 57 #[.pointer (some ⟨rb, 0, none⟩), .int .i64 i, va] w fun e w' => RSetPost B rb F s i va l w e w' := by
  obtain ⟨g, vk, vl, ms, hF, h⟩ := h
  have HF := Lib.hid hF
  have HS := Lib.hid h
  have HG := Lib.hid hg
  have HA := Lib.hid ha
  have HI := Lib.hid hi
  obtain ⟨Aa, ca, hva, _, _⟩ := own_slice ha
  obtain ⟨an, han⟩ : ∃ an, l.length = an := ⟨_, rfl⟩
  rw [han] at hva
  subst hva
  obtain ⟨Al, cl, rfl, _, _⟩ := own_slice h.l
  obtain ⟨N, hN⟩ : ∃ N, s.L.length = N := ⟨_, rfl⟩
  have HN := Lib.hid hN
  have hiN : i < N := hN ▸ hi
  have hN8 : N ≤ 8 := by rw [← hN, ← g.kl]; exact g.k8
  have HB : Hid (Blk w rb 80 #[vk, .slice Al N cl]) := Lib.hid (by rw [← hN]; exact h.box)
  have HL : Hid (w.ownsRow B 27 1 (.slice Al N cl) N ms) := Lib.hid (by rw [← hN]; exact h.l)
  have ONE : Hid (∀ u ∈ ms, u.oneCell' = true) := Lib.hid (fun u hu => by
    obtain ⟨l, _, ho⟩ := HS.out.mem hu
    obtain ⟨A', c', rfl, _⟩ := own_slice ho
    rfl)
  have c1 : (w.alloc (.cells #[] 27)).cell? ⟨rb, 1, none⟩ = some (.slice Al N cl) := (HB.out.alloc _).cell 1
  have q1 : (0 : Int) ≤ (i : Int) := by omega
  have q2 : (i : Int) < (N : Int) := by omega
  clear g hF h hg ha hi hN han
  go_enter Tryd.func57, Tryd.ntmps57
  go_wp2_with (at_builtin; refine stopped ?_)
  refine Lib.hid ?_
  refine wpList_app _ (by rfl) (.tmp 7) (.tmp 11) _ (by rfl) elem_prs _ _ (by rfl) (by rfl) (own_made (B := w.heap.size) 1 (Blk.new w 27 #[]) (Nat.le_refl _)) (Src.of_own (own_upd0 HL.out ((Upd.refl [] w).alloc _))) ONE.out (by unfold maxLen; omega) (by omega) (by simp) ?_
  intro v2 w2 o2 u2 b2
  have U2 : Hid (Upd [] w w2) := Lib.hid (((Upd.refl [] w).alloc _).trans' u2 (by intro x hx; simp [Value.ownBlock] at hx; subst hx; exact .inr (Nat.le_refl _)))
  rw [Nat.zero_add, List.nil_append] at o2
  have O2 := Lib.hid o2
  obtain ⟨gn, cn, cur, rfl, hgn, _⟩ := own_form o2 (by omega)
  have HGN := Lib.hid hgn
  have HB2 : Hid (Blk w2 rb 80 #[vk, .slice Al N cl]) := Lib.hid (HB.out.upd U2.out (by simp))
  have ML : Hid (ms.length = N) := Lib.hid (by have := own_len HL.out; omega)
  obtain ⟨x0, hx0⟩ : ∃ x0, ms[i]? = some x0 := ⟨_, List.getElem?_eq_getElem (by rw [ML.out]; exact hiN)⟩
  have e0 : w2.cell? ⟨gn, i, none⟩ = some x0 := own_cell O2.out _ _ hx0
  have e1 : w2.frozen? ⟨gn, i, none⟩ = false := own_frozen O2.out i
  have e2 : gn < w2.heap.size := (own_lt O2.out rfl).2
  have hne : rb ≠ gn := by have := HB.out.lt; omega
  have O3 : Hid ((w2.setCell ⟨gn, i, none⟩ (.slice Aa an ca)).ownsRow w.heap.size 27 1 (.slice (some ⟨gn, 0, none⟩) N cn) N (ms.set i (.slice Aa an ca))) := Lib.hid (own_set O2.out i _)
  have HB3 : Hid (Blk (w2.setCell ⟨gn, i, none⟩ (.slice Aa an ca)) rb 80 #[vk, .slice Al N cl]) := Lib.hid (HB2.out.far hne _)
  have U3 : Hid (Upd [] w (w2.setCell ⟨gn, i, none⟩ (.slice Aa an ca))) := Lib.hid (U2.out.setCell (.inr hgn) _)
  have e3 : (w2.setCell ⟨gn, i, none⟩ (.slice Aa an ca)).cell? ⟨rb, 1, none⟩ = some (.slice Al N cl) := HB3.out.cell 1
  have e4 : (w2.setCell ⟨gn, i, none⟩ (.slice Aa an ca)).frozen? ⟨rb, 1, none⟩ = false := HB3.out.frozen 1
  have e5 : rb < (w2.setCell ⟨gn, i, none⟩ (.slice Aa an ca)).heap.size := HB3.out.lt
  clear o2 u2 b2 hx0 hgn c1
  go_wp2_with fail
  go_end0
  generalize w2.setCell ⟨gn, i, none⟩ (.slice Aa an ca) = w3 at *
  have HB4 := HB3.out.set_eq (i := 1) (u := .slice (some ⟨gn, 0, none⟩) N cn) rfl
  have U4 : Upd [rb] w3 (w3.setCell ⟨rb, 1, none⟩ (.slice (some ⟨gn, 0, none⟩) N cn)) := (Upd.refl [rb] w3).setCell (.inl (by simp)) _
  have U5 : Upd [rb] w (w3.setCell ⟨rb, 1, none⟩ (.slice (some ⟨gn, 0, none⟩) N cn)) := (U3.out.mono (by simp)).trans U4
  have OA : Ow encPr 36 (w3.setCell ⟨rb, 1, none⟩ (.slice (some ⟨gn, 0, none⟩) N cn)) B (.slice Aa an ca) l := HA.out.upd U5 (by intro b hb; simp; rintro rfl; exact own_type HA.out HB.out (by decide) hb)
  have OL : (w3.setCell ⟨rb, 1, none⟩ (.slice (some ⟨gn, 0, none⟩) N cn)).ownsRow B 27 1 (.slice (some ⟨gn, 0, none⟩) N cn) s.L.length (ms.set i (.slice Aa an ca)) := by
    rw [HN.out]
    exact own_base (own_upd O3.out U4 (by intro b hb; simp; rintro rfl; exact own_type O3.out HB3.out (by decide) hb)) hBw
  refine ⟨fpRM rb vk (.slice (some ⟨gn, 0, none⟩) N cn) (ms.set i (.slice Aa an ca)), rfl, ⟨HG.out, _, _, _, rfl, HS.out.put HI.out U5 (by simp) HB4 OL OA⟩, ?_, ?_⟩
  · rw [HF.out]
    exact U5.mono (by intro y hy; simp at hy; subst hy; exact .inl (by simp [fpRM]))
  · rw [HF.out]
    intro y hy
    unfold fpRM at hy ⊢
    simp only [List.mem_cons, List.mem_append, Option.mem_toList, mem_owns] at hy ⊢
    rcases hy with rfl | (hy | hy) | ⟨u, hu, hy⟩
    · simp
    · simp [hy]
    · exact .inr (.inl (by have := HGN.out; simp [Value.ownBlock] at hy; omega))
    · rcases List.mem_or_eq_of_mem_set hu with hu | rfl
      · exact .inl (.inr (.inr ⟨u, hu, hy⟩))
      · exact .inr (.inr hy)
end Go.Proofs.YtjlpogmoebmkdaaDoor

/-
  slices.Clone at words: by contract.
-/
import Derived.Test.YtopgaemibfigbaaDoorNo
import Derived.OwnWalk
namespace Go.Proofs.YtopgaemibfigbaaDoor
open Go.RowKit

theorem u64_info : (Tryd.prog.info? 35).map (fun i => (i.zero, i.size, i.bytes)) = some (some (.int .u64 0), 1, 8) := by kernel_rfl

theorem clone_nil (w : World) : Calls Tryd.prog 16 #[.slice none 0 0] w fun e w' => e = .returned (.slice none 0 0) ∧ w = w' := by
  have e1 := @Lib.run_eql_slice_nil Tryd.prog
  go_enter Tryd.func16, Tryd.ntmps16
  go_wp2_with fail
  go_ret
  exact ⟨rfl, rfl⟩

set_option maxHeartbeats 400000 in
theorem clone_any (b c : Nat) (xs : List Value) (w : World) (hx : Heads w b 35 xs) (hl : xs.length ≤ 1000000) (h1 : ∀ u ∈ xs, u.oneCell' = true) :
    Calls Tryd.prog 16 #[.slice (some ⟨b, 0, none⟩) xs.length c] w fun e w' => ∃ g c', e = .returned (.slice (some ⟨g, 0, none⟩) xs.length c') ∧ xs.length ≤ c' ∧ w.heap.size ≤ g ∧ Heads w' g 35 xs ∧ Upd [] w w' := by
  have e1 := @Lib.run_eql_slice_nil Tryd.prog
  obtain ⟨i0, hi0, hz0, hz1, hz2⟩ := info_parts u64_info
  have hbl := hx.lt
  have c1 : (w.alloc (.cells #[] 35)).ownsRow w.heap.size 35 1 (.slice (some ⟨w.heap.size, 0, none⟩) 0 0) 0 [] := ⟨by simp, .inr ⟨w.heap.size, 0, #[], rfl, Nat.le_refl _, heap_alloc_new w _, by omega, by simp [maxLen], by simp, by simp⟩⟩
  have c2 : xs.length = xs.length * 1 := by simp
  have c3 : ∀ (j : Nat) (u : Value), xs[j]? = some u → (w.alloc (.cells #[] 35)).cell? ((⟨b, 0, none⟩ : Addr).add j) = some u := by
    intro j u hu
    rw [add_head, World.cell?_alloc_lt _ _ _ hbl]
    exact hx.cell j u hu
  have c4 : 0 + xs.length ≤ maxLen := by simp only [maxLen]; omega
  have c5 : (0 + xs.length) * 8 ≤ 140737488355328 := by omega
  have H1 := Lib.hid c1
  have H2 := Lib.hid c2
  have H3 := Lib.hid c3
  clear c1 c2 c3
  go_enter Tryd.func16, Tryd.ntmps16
  go_wp2_with (at_builtin; refine wpList_append_own _ rfl _ _ _ rfl w.heap.size 35 i0 _ 1 8 Tryd.underlying28 hi0 hz0 hz1 hz2 rfl (by omega) (.slice (some ⟨w.heap.size, 0, none⟩) 0 0) 0 [] rfl H1.out ⟨b, 0, none⟩ _ _ xs rfl H2.out H3.out h1 c4 c5 (by simp) ?_; intro v1 w1 hown1 hg1 hnil1)
  go_ret
  have hv : v1 ≠ .slice none 0 0 := by intro h; have := hnil1.1 h; simp at this
  obtain ⟨g, c', rfl, hc', hg, hh, hn⟩ := heads_of_own hown1 hv
  simp only [Nat.zero_add, List.nil_append] at hh hc' ⊢
  refine ⟨g, c', rfl, hc', hg, hh, ((Upd.refl _ _).alloc _).grown hg1 ?_⟩
  intro k hk
  right
  simp only [Value.ownBlock, Option.some.injEq] at hk
  omega
end Go.Proofs.YtopgaemibfigbaaDoor

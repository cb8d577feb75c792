/-
  The reference's arena by contract: Do.
-/
import Derived.Test.YtopgaemibfigbaaDoorCopy
import Derived.Deep.AppendLies
namespace Go.Proofs.YtopgaemibfigbaaDoor
open Go.RowKit

theorem heads_of_lies {w : World} {base g n cap : Nat} {e : TypeId} {xs : List Value} (h : w.ownsRow base e 1 (.slice (some ⟨g, 0, none⟩) n cap) n xs) : Heads w g e xs ∧ base ≤ g ∧ n ≤ cap := by
  obtain ⟨g', c, hv, hn, hb, hh, _⟩ := heads_of_own h (by simp)
  simp only [Value.slice.injEq, Option.some.injEq, Addr.mk.injEq] at hv
  obtain ⟨⟨rfl, _⟩, _, rfl⟩ := hv
  exact ⟨hh, hb, hn⟩
theorem own_keep {w w' : World} {base : Nat} {e : TypeId} {size n : Nat} {v : Value} {xs : List Value} (h : w.ownsRow base e size v n xs) (hk : ∀ g, base ≤ g → g < w.heap.size → v.ownBlock = some g → w'.heap[g]? = w.heap[g]?) : w'.ownsRow base e size v n xs := by
  obtain ⟨h1, h2⟩ := h
  refine ⟨h1, ?_⟩
  rcases h2 with h2 | ⟨g, cap, cur, hv, hg, hh, r⟩
  · exact Or.inl h2
  · have hlt : g < w.heap.size := by
      rcases Nat.lt_or_ge g w.heap.size with hl | hl
      · exact hl
      · rw [Array.getElem?_eq_none hl] at hh; cases hh
    exact Or.inr ⟨g, cap, cur, hv, hg, by rw [hk g hg hlt (by rw [hv]; rfl)]; exact hh, r⟩
theorem own_upd {S : List Nat} {w w' : World} {base : Nat} {e : TypeId} {size n : Nat} {v : Value} {xs : List Value} (h : w.ownsRow base e size v n xs) (hu : Upd S w w') (hS : ∀ g, base ≤ g → v.ownBlock = some g → g ∉ S) : w'.ownsRow base e size v n xs :=
  own_keep h fun g hb hl hv => hu.keep g hl (hS g hb hv)
theorem own_lt {w : World} {base : Nat} {e : TypeId} {size n g : Nat} {v : Value} {xs : List Value} (h : w.ownsRow base e size v n xs) (hv : v.ownBlock = some g) : g < w.heap.size ∧ base ≤ g := by
  obtain ⟨h1, h2⟩ := h
  rcases h2 with ⟨rfl, _⟩ | ⟨g', cap, cur, rfl, hg, hh, r⟩
  · cases hv
  · simp only [Value.ownBlock, Option.some.injEq] at hv
    subst hv
    refine ⟨?_, hg⟩
    rcases Nat.lt_or_ge g' w.heap.size with hl | hl
    · exact hl
    · rw [Array.getElem?_eq_none hl] at hh; cases hh

theorem upd_of_grown {w w' : World} {row : Option Nat} (h : w.grownBy w' row) : Upd row.toList w w' :=
  ⟨h.os, h.tape, h.output, h.size, fun k hk hn => h.block k hk (fun e => hn (by rw [← e]; simp))⟩

/-- From w to w' no block below B has turned but those in S. -/
structure Low (B : Nat) (S : List Nat) (w w' : World) : Prop where
  os : w'.os = w.os
  tape : w'.tape = w.tape
  output : w'.output = w.output
  size : w.heap.size ≤ w'.heap.size
  keep : ∀ k, k < B → k ∉ S → w'.heap[k]? = w.heap[k]?
theorem Low.refl (B : Nat) (S : List Nat) (w : World) : Low B S w w := ⟨rfl, rfl, rfl, Nat.le_refl _, fun _ _ _ => rfl⟩
theorem Low.trans {B : Nat} {S : List Nat} {a b c : World} (h : Low B S a b) (k : Low B S b c) : Low B S a c :=
  ⟨k.os.trans h.os, k.tape.trans h.tape, k.output.trans h.output, Nat.le_trans h.size k.size, fun i hi hn => (k.keep i hi hn).trans (h.keep i hi hn)⟩
theorem Low.of_upd {B : Nat} {S T : List Nat} {w w' : World} (h : Upd S w w') (hB : B ≤ w.heap.size) (hS : ∀ x ∈ S, x ∈ T ∨ B ≤ x) : Low B T w w' :=
  ⟨h.os, h.tape, h.output, h.size, fun k hk hn => h.keep k (by omega) (fun hm => (hS k hm).elim hn (by omega))⟩
theorem Low.mono {B : Nat} {S T : List Nat} {w w' : World} (h : Low B S w w') (hS : ∀ x ∈ S, x ∈ T) : Low B T w w' :=
  ⟨h.os, h.tape, h.output, h.size, fun k hk hn => h.keep k hk (fun hm => hn (hS k hm))⟩
theorem Low.setCell {B : Nat} {S : List Nat} {a w : World} (h : Low B S a w) {p : Addr} (hp : p.block ∈ S ∨ B ≤ p.block) (u : Value) : Low B S a (w.setCell p u) :=
  ⟨h.os, h.tape, h.output, by simpa [World.setCell] using h.size, fun i hi hne => (Below.heap_setCell w p u i (by
    rintro rfl
    exact hp.elim hne (by omega))).trans (h.keep i hi hne)⟩
theorem Low.alloc {B : Nat} {S : List Nat} {a w : World} (h : Low B S a w) (hB : B ≤ w.heap.size) (o : Obj) : Low B S a (w.alloc o) :=
  h.trans (Low.of_upd ((Upd.refl [] w).alloc o) hB (by simp))
theorem Upd.low {S : List Nat} {w0 w w' : World} (h : Upd S w0 w) (k : Low w0.heap.size S w w') : Upd S w0 w' :=
  ⟨k.os.trans h.os, k.tape.trans h.tape, k.output.trans h.output, Nat.le_trans h.size k.size, fun i hi hn => (k.keep i hi hn).trans (h.keep i hi hn)⟩
theorem Blk.low {B : Nat} {S : List Nat} {w w' : World} {g : Nat} {t : TypeId} {cs : Array Value} (h : Blk w g t cs) (hl : Low B S w w') (hb : g < B) (hg : g ∉ S) : Blk w' g t cs := (hl.keep g hb hg).trans h
theorem Heads.low {B : Nat} {S : List Nat} {w w' : World} {g : Nat} {t : TypeId} {xs : List Value} (h : Heads w g t xs) (hl : Low B S w w') (hb : g < B) (hg : g ∉ S) : Heads w' g t xs := by
  obtain ⟨cs, h1, h2⟩ := h
  exact ⟨cs, h1.low hl hb hg, h2⟩

/-- The reference's arena: its struct is block r; what it notes lies behind all that lay in w0. -/
def RefA (w0 w : World) (r : Nat) (bad : List Nat) (ws : List Int) (n : Nat) : Prop := ∃ (q c : Nat) (v : Value) (xs : List Value), Blk w r 34 #[.slice (some ⟨q, 0, none⟩) ws.length c, v] ∧
  Heads w q 35 (ws.map (.int .u64)) ∧ w.ownsRow w0.heap.size 51 5 v n xs ∧ w0.heap.size ≤ w.heap.size ∧ q ∉ bad

theorem access_info : (Tryd.prog.info? 51).map (fun i => (i.zero, i.size, i.bytes)) = some (some (.agg #[.int .i64 0, .int .i64 0, .int .u64 0, .int .u64 0, .bool false]), 5, 40) := by kernel_rfl

theorem RefA.upd {w0 w w' : World} {r : Nat} {bad : List Nat} {ws : List Int} {n : Nat} (h : RefA w0 w r bad ws n) (hu : Upd bad w w') (hr : r ∉ bad) (hbad : ∀ x ∈ bad, x < w0.heap.size) : RefA w0 w' r bad ws n := by
  obtain ⟨q, c, v, xs, hb, hq, ho, hz, hqb⟩ := h
  exact ⟨q, c, v, xs, hb.upd hu hr, hq.upd hu hqb, own_upd ho hu (fun g hg _ hm => by have := hbad _ hm; omega), Nat.le_trans hz hu.size, hqb⟩
theorem Arena.low {B : Nat} {S : List Nat} {w w' : World} {a b : Nat} {ws : List Int} {cnt : Int} (h : Arena w a b ws cnt) (hl : Low B S w w') (ha : a < B) (hb : b < B) (hna : a ∉ S) (hnb : b ∉ S) : Arena w' a b ws cnt := by
  obtain ⟨c, k, at_, o, nw, d, h1⟩ := h.hdr
  exact ⟨⟨c, k, at_, o, nw, d, h1.low hl ha hna⟩, h.row.low hl hb hnb⟩

set_option maxHeartbeats 400000 in
theorem do_out (w0 w : World) (r : Nat) (bad : List Nat) (ws : List Int) (n : Nat) (kind i old next : Int) (h : RefA w0 w r bad ws n) (hi : i < 0 ∨ ws.length ≤ i) :
    Calls Tryd.prog 17 #[.pointer (some ⟨r, 0, none⟩), .int .i64 kind, .int .i64 i, .int .u64 old, .int .u64 next] w fun e w' => e = .returned (.tuple #[.int .u64 0, .bool false, .int .i64 3]) ∧ w = w' := by
  obtain ⟨q, c, v, xs, hb, _, _, _, _⟩ := h
  have fa := hb.facts
  go_enter Tryd.func17, Tryd.ntmps17
  go_wp2_with fail
  all_goals
    go_ret3
    exact ⟨rfl, rfl⟩

/-- An access of the reference that is done. -/
def Did (w0 w w' : World) (r : Nat) (bad : List Nat) (ws : List Int) (n : Nat) : Prop := RefA w0 w' r bad ws (n + 1) ∧ Low w0.heap.size [r] w w'

set_option maxRecDepth 100000 in
set_option maxHeartbeats 2000000 in
theorem do_load (w0 w : World) (r : Nat) (bad : List Nat) (ws : List Int) (n : Nat) (i old next was : Int) (h : RefA w0 w r bad ws n) (hr : r < w0.heap.size) (hbad : ∀ x ∈ bad, x < w0.heap.size) (h0 : 0 ≤ i) (hx : ws[i.toNat]? = some was) (hn : n ≤ 1000) (hl : ws.length ≤ 1000000) :
    Calls Tryd.prog 17 #[.pointer (some ⟨r, 0, none⟩), .int .i64 1, .int .i64 i, .int .u64 old, .int .u64 next] w fun e w' => e = .returned (.tuple #[.int .u64 was, .bool true, .int .i64 0]) ∧ Did w0 w w' r bad (ws.set i.toNat was) n := by
  have hlen : i < ws.length := by have := (List.getElem?_eq_some_iff.1 hx).1; omega
  obtain ⟨q, c, v, xs, hb, hq, ho, hz, hqb⟩ := h
  have fa := hb.facts
  have hqc := hq.cell i.toNat (.int .u64 was) (by simp [hx])
  obtain ⟨i0, hi0, hz0, hz1, hz2⟩ := info_parts u64_info
  obtain ⟨j0, hj0, hy0, hy1, hy2⟩ := info_parts access_info
  have c1 : (w.alloc (.cells #[] 35)).ownsRow w.heap.size 35 1 (.slice (some ⟨w.heap.size, 0, none⟩) 0 0) 0 [] := ⟨by simp, .inr ⟨w.heap.size, 0, #[], rfl, Nat.le_refl _, heap_alloc_new w _, by omega, by simp [maxLen], by simp, by simp⟩⟩
  have c3 : ∀ (j : Nat) (u : Value), (ws.map (Value.int .u64))[j]? = some u → (w.alloc (.cells #[] 35)).cell? ((⟨q, 0, none⟩ : Addr).add j) = some u := by
    intro j u hu
    rw [add_head, World.cell?_alloc_lt _ _ _ hq.lt]
    exact hq.cell j u hu
  have c7 : ∀ u ∈ ws.map (Value.int .u64), u.oneCell' = true := by intro u hu; simp at hu; obtain ⟨x, _, rfl⟩ := hu; rfl
  have HX := Lib.hid hx
  have H1 := Lib.hid c1
  have H3 := Lib.hid c3
  have H7 := Lib.hid c7
  have HO := Lib.hid ho
  clear hx c1 c3 c7 ho
  go_enter Tryd.func17, Tryd.ntmps17
  go_wp2_with (first
    | (at_builtin; refine wpList_append_lies _ rfl (.tmp 46) (.tmp 50) _ rfl w.heap.size 35 i0 _ 1 8 Tryd.underlying28 hi0 hz0 hz1 hz2 rfl (by omega) (.slice (some ⟨w.heap.size, 0, none⟩) 0 0) 0 [] rfl H1.out ⟨q, 0, none⟩ ws.length c (ws.map (Value.int .u64)) rfl (by simp) H3.out H7.out (by omega) (by simp only [maxLen]; omega) (by omega) (by simp) (w.heap.size + 1) (by simp) ?_
       intro g1 cap1 w1 hown1 hg1 hat1 hlt1
       simp only [Nat.zero_add, List.nil_append] at hown1 ⊢
       obtain ⟨hh1, hb1, hc1⟩ := heads_of_lies hown1
       have hrl : r < w.heap.size := hb.lt
       have hb2 : Blk w1 r 34 #[.slice (some ⟨q, 0, none⟩) ws.length c, v] := (hb.alloc _).grown hg1 (by simp [Value.ownBlock]; omega)
       have f1 := hb2.facts
       have x1 := hh1.cell i.toNat (.int .u64 was) (by simp [HX.out])
       have x2 := hh1.frozen i.toNat
       have hne : r ≠ g1 := by omega
       have u1 : Upd [] w w1 := ((Upd.refl [] w).alloc _).grown hg1 (by intro k hk; right; simp only [Value.ownBlock, Option.some.injEq] at hk; omega)
       have HH := Lib.hid hh1
       clear hown1 hg1 hat1 hh1 fa hqc)
    | (at_builtin
       have u2 : Upd [r, g1] w (((w1.setCell ⟨g1, i.toNat, none⟩ (.int .u64 was)).setCell ⟨r, 0, none⟩ (.slice (some ⟨g1, 0, none⟩) ws.length cap1)).alloc (.cells #[.int .i64 1, .int .i64 i, .int .u64 was, .int .u64 was, .bool true] 51)) := (((u1.mono (by simp)).setCell (by simp) _).setCell (by simp) _).alloc _
       have ho2 := own_upd HO.out u2 (fun g hg hv => by have := own_lt HO.out hv; simp; omega)
       have hc2 : ∀ (j : Nat) (u : Value), ([.int .i64 1, .int .i64 i, .int .u64 was, .int .u64 was, .bool true] : List Value)[j]? = some u → (((w1.setCell ⟨g1, i.toNat, none⟩ (.int .u64 was)).setCell ⟨r, 0, none⟩ (.slice (some ⟨g1, 0, none⟩) ws.length cap1)).alloc (.cells #[.int .i64 1, .int .i64 i, .int .u64 was, .int .u64 was, .bool true] 51)).cell? ((⟨w1.heap.size, 0, none⟩ : Addr).add j) = some u := by
         intro j u hu
         rw [add_head, (Blk.new_at _ _ _ w1.heap.size (by simp)).cell]
         simpa using hu
       refine wpList_append_lies _ rfl (.tmp 64) (.tmp 71) _ rfl w0.heap.size 51 j0 _ 5 40 Tryd.underlying32 hj0 hy0 hy1 hy2 rfl (by omega) v n xs rfl ho2 ⟨w1.heap.size, 0, none⟩ 1 1 [.int .i64 1, .int .i64 i, .int .u64 was, .int .u64 was, .bool true] rfl (by simp) hc2 (by intro u hu; simp at hu; rcases hu with rfl | rfl | rfl | rfl | rfl <;> rfl) (by omega) (by simp only [maxLen]; omega) (by omega) (by have := u1.size; simp; omega) (w1.heap.size + 1) (by simp) ?_
       intro g2 cap2 w2 hown2 hg2 hat2 hlt2
       have hb3 := (((hb2.far (p := ⟨g1, i.toNat, none⟩) hne (.int .u64 was)).set_ 0 (.slice (some ⟨g1, 0, none⟩) ws.length cap1)).alloc (.cells #[.int .i64 1, .int .i64 i, .int .u64 was, .int .u64 was, .bool true] 51)).grown hg2 (fun e => by have := own_lt HO.out e.symm; omega)
       have f2 := hb3.facts
       have hh2 : Heads w2 g1 35 ((ws.map (Value.int .u64)).set i.toNat (.int .u64 was)) :=
         ((HH.out.set i.toNat (.int .u64 was) (by simp; omega)).upd (((Upd.refl [r] _).setCell (p := ⟨r, 0, none⟩) (by simp) _).alloc _) (by simpa using hne.symm)).upd (upd_of_grown hg2) (fun hm => by
           simp only [Option.mem_toList] at hm
           have := own_lt HO.out hm; omega)
       have H2 := Lib.hid hh2
       have HOW := Lib.hid hown2
       have HG2 := Lib.hid hg2
       clear hh2 hown2 hg2 hat2 ho2 hc2))
  go_ret3
  refine ⟨rfl, ⟨g1, cap1, .slice (some ⟨g2, 0, none⟩) (n + 1) cap2, _, ?_, ?_, own_upd HOW.out ((Upd.refl [r] w2).setCell (by simp) _) (fun g hg _ => by simp; omega), ?_, fun hm => by have := hbad _ hm; omega⟩, ?_⟩
  · have := hb3.set_ 1 (.slice (some ⟨g2, 0, none⟩) (n + 1) cap2)
    rw [List.length_set]
    simpa using this
  · rw [List.map_set]
    exact H2.out.upd ((Upd.refl [r] w2).setCell (by simp) _) (by simpa using hne.symm)
  · have h1 := u2.size
    have h2 := HG2.out.size
    simp only [World.size_setCell]
    omega
  · have l1 : Low w0.heap.size [r] w _ := Low.of_upd u2 hz (by
      intro x hx
      simp only [List.mem_cons, List.not_mem_nil, or_false] at hx
      rcases hx with rfl | rfl
      · simp
      · right; omega)
    have l2 : Low w0.heap.size [r] _ w2 := Low.of_upd (upd_of_grown HG2.out) (by have := u2.size; omega) (by
      intro x hx
      simp only [Option.mem_toList] at hx
      right
      exact (own_lt HO.out hx).2)
    exact (l1.trans l2).setCell (by simp) _

set_option maxRecDepth 100000 in
set_option maxHeartbeats 2000000 in
theorem do_store (w0 w : World) (r : Nat) (bad : List Nat) (ws : List Int) (n : Nat) (i old next was : Int) (h : RefA w0 w r bad ws n) (hr : r < w0.heap.size) (hbad : ∀ x ∈ bad, x < w0.heap.size) (h0 : 0 ≤ i) (hx : ws[i.toNat]? = some was) (hn : n ≤ 1000) (hl : ws.length ≤ 1000000) :
    Calls Tryd.prog 17 #[.pointer (some ⟨r, 0, none⟩), .int .i64 2, .int .i64 i, .int .u64 old, .int .u64 next] w fun e w' => e = .returned (.tuple #[.int .u64 was, .bool true, .int .i64 0]) ∧ Did w0 w w' r bad (ws.set i.toNat next) n := by
  have hlen : i < ws.length := by have := (List.getElem?_eq_some_iff.1 hx).1; omega
  obtain ⟨q, c, v, xs, hb, hq, ho, hz, hqb⟩ := h
  have fa := hb.facts
  have hqc := hq.cell i.toNat (.int .u64 was) (by simp [hx])
  obtain ⟨i0, hi0, hz0, hz1, hz2⟩ := info_parts u64_info
  obtain ⟨j0, hj0, hy0, hy1, hy2⟩ := info_parts access_info
  have c1 : (w.alloc (.cells #[] 35)).ownsRow w.heap.size 35 1 (.slice (some ⟨w.heap.size, 0, none⟩) 0 0) 0 [] := ⟨by simp, .inr ⟨w.heap.size, 0, #[], rfl, Nat.le_refl _, heap_alloc_new w _, by omega, by simp [maxLen], by simp, by simp⟩⟩
  have c3 : ∀ (j : Nat) (u : Value), (ws.map (Value.int .u64))[j]? = some u → (w.alloc (.cells #[] 35)).cell? ((⟨q, 0, none⟩ : Addr).add j) = some u := by
    intro j u hu
    rw [add_head, World.cell?_alloc_lt _ _ _ hq.lt]
    exact hq.cell j u hu
  have c7 : ∀ u ∈ ws.map (Value.int .u64), u.oneCell' = true := by intro u hu; simp at hu; obtain ⟨x, _, rfl⟩ := hu; rfl
  have HX := Lib.hid hx
  have H1 := Lib.hid c1
  have H3 := Lib.hid c3
  have H7 := Lib.hid c7
  have HO := Lib.hid ho
  clear hx c1 c3 c7 ho
  go_enter Tryd.func17, Tryd.ntmps17
  go_wp2_with (first
    | (at_builtin; refine wpList_append_lies _ rfl (.tmp 46) (.tmp 50) _ rfl w.heap.size 35 i0 _ 1 8 Tryd.underlying28 hi0 hz0 hz1 hz2 rfl (by omega) (.slice (some ⟨w.heap.size, 0, none⟩) 0 0) 0 [] rfl H1.out ⟨q, 0, none⟩ ws.length c (ws.map (Value.int .u64)) rfl (by simp) H3.out H7.out (by omega) (by simp only [maxLen]; omega) (by omega) (by simp) (w.heap.size + 1) (by simp) ?_
       intro g1 cap1 w1 hown1 hg1 hat1 hlt1
       simp only [Nat.zero_add, List.nil_append] at hown1 ⊢
       obtain ⟨hh1, hb1, hc1⟩ := heads_of_lies hown1
       have hrl : r < w.heap.size := hb.lt
       have hb2 : Blk w1 r 34 #[.slice (some ⟨q, 0, none⟩) ws.length c, v] := (hb.alloc _).grown hg1 (by simp [Value.ownBlock]; omega)
       have f1 := hb2.facts
       have x1 := hh1.cell i.toNat (.int .u64 was) (by simp [HX.out])
       have x2 := hh1.frozen i.toNat
       have hne : r ≠ g1 := by omega
       have u1 : Upd [] w w1 := ((Upd.refl [] w).alloc _).grown hg1 (by intro k hk; right; simp only [Value.ownBlock, Option.some.injEq] at hk; omega)
       have HH := Lib.hid hh1
       clear hown1 hg1 hat1 hh1 fa hqc)
    | (at_builtin
       have u2 : Upd [r, g1] w (((w1.setCell ⟨g1, i.toNat, none⟩ (.int .u64 next)).setCell ⟨r, 0, none⟩ (.slice (some ⟨g1, 0, none⟩) ws.length cap1)).alloc (.cells #[.int .i64 2, .int .i64 i, .int .u64 was, .int .u64 next, .bool true] 51)) := (((u1.mono (by simp)).setCell (by simp) _).setCell (by simp) _).alloc _
       have ho2 := own_upd HO.out u2 (fun g hg hv => by have := own_lt HO.out hv; simp; omega)
       have hc2 : ∀ (j : Nat) (u : Value), ([.int .i64 2, .int .i64 i, .int .u64 was, .int .u64 next, .bool true] : List Value)[j]? = some u → (((w1.setCell ⟨g1, i.toNat, none⟩ (.int .u64 next)).setCell ⟨r, 0, none⟩ (.slice (some ⟨g1, 0, none⟩) ws.length cap1)).alloc (.cells #[.int .i64 2, .int .i64 i, .int .u64 was, .int .u64 next, .bool true] 51)).cell? ((⟨w1.heap.size, 0, none⟩ : Addr).add j) = some u := by
         intro j u hu
         rw [add_head, (Blk.new_at _ _ _ w1.heap.size (by simp)).cell]
         simpa using hu
       refine wpList_append_lies _ rfl (.tmp 64) (.tmp 71) _ rfl w0.heap.size 51 j0 _ 5 40 Tryd.underlying32 hj0 hy0 hy1 hy2 rfl (by omega) v n xs rfl ho2 ⟨w1.heap.size, 0, none⟩ 1 1 [.int .i64 2, .int .i64 i, .int .u64 was, .int .u64 next, .bool true] rfl (by simp) hc2 (by intro u hu; simp at hu; rcases hu with rfl | rfl | rfl | rfl | rfl <;> rfl) (by omega) (by simp only [maxLen]; omega) (by omega) (by have := u1.size; simp; omega) (w1.heap.size + 1) (by simp) ?_
       intro g2 cap2 w2 hown2 hg2 hat2 hlt2
       have hb3 := (((hb2.far (p := ⟨g1, i.toNat, none⟩) hne (.int .u64 next)).set_ 0 (.slice (some ⟨g1, 0, none⟩) ws.length cap1)).alloc (.cells #[.int .i64 2, .int .i64 i, .int .u64 was, .int .u64 next, .bool true] 51)).grown hg2 (fun e => by have := own_lt HO.out e.symm; omega)
       have f2 := hb3.facts
       have hh2 : Heads w2 g1 35 ((ws.map (Value.int .u64)).set i.toNat (.int .u64 next)) :=
         ((HH.out.set i.toNat (.int .u64 next) (by simp; omega)).upd (((Upd.refl [r] _).setCell (p := ⟨r, 0, none⟩) (by simp) _).alloc _) (by simpa using hne.symm)).upd (upd_of_grown hg2) (fun hm => by
           simp only [Option.mem_toList] at hm
           have := own_lt HO.out hm; omega)
       have H2 := Lib.hid hh2
       have HOW := Lib.hid hown2
       have HG2 := Lib.hid hg2
       clear hh2 hown2 hg2 hat2 ho2 hc2))
  go_ret3
  refine ⟨rfl, ⟨g1, cap1, .slice (some ⟨g2, 0, none⟩) (n + 1) cap2, _, ?_, ?_, own_upd HOW.out ((Upd.refl [r] w2).setCell (by simp) _) (fun g hg _ => by simp; omega), ?_, fun hm => by have := hbad _ hm; omega⟩, ?_⟩
  · have := hb3.set_ 1 (.slice (some ⟨g2, 0, none⟩) (n + 1) cap2)
    rw [List.length_set]
    simpa using this
  · rw [List.map_set]
    exact H2.out.upd ((Upd.refl [r] w2).setCell (by simp) _) (by simpa using hne.symm)
  · have h1 := u2.size
    have h2 := HG2.out.size
    simp only [World.size_setCell]
    omega
  · have l1 : Low w0.heap.size [r] w _ := Low.of_upd u2 hz (by
      intro x hx
      simp only [List.mem_cons, List.not_mem_nil, or_false] at hx
      rcases hx with rfl | rfl
      · simp
      · right; omega)
    have l2 : Low w0.heap.size [r] _ w2 := Low.of_upd (upd_of_grown HG2.out) (by have := u2.size; omega) (by
      intro x hx
      simp only [Option.mem_toList] at hx
      right
      exact (own_lt HO.out hx).2)
    exact (l1.trans l2).setCell (by simp) _

set_option maxRecDepth 100000 in
set_option maxHeartbeats 2000000 in
theorem do_cas_yes (w0 w : World) (r : Nat) (bad : List Nat) (ws : List Int) (n : Nat) (i next was : Int) (h : RefA w0 w r bad ws n) (hr : r < w0.heap.size) (hbad : ∀ x ∈ bad, x < w0.heap.size) (h0 : 0 ≤ i) (hx : ws[i.toNat]? = some was) (hn : n ≤ 1000) (hl : ws.length ≤ 1000000) :
    Calls Tryd.prog 17 #[.pointer (some ⟨r, 0, none⟩), .int .i64 3, .int .i64 i, .int .u64 was, .int .u64 next] w fun e w' => e = .returned (.tuple #[.int .u64 was, .bool true, .int .i64 0]) ∧ Did w0 w w' r bad (ws.set i.toNat next) n := by
  have hlen : i < ws.length := by have := (List.getElem?_eq_some_iff.1 hx).1; omega
  obtain ⟨q, c, v, xs, hb, hq, ho, hz, hqb⟩ := h
  have fa := hb.facts
  have hqc := hq.cell i.toNat (.int .u64 was) (by simp [hx])
  obtain ⟨i0, hi0, hz0, hz1, hz2⟩ := info_parts u64_info
  obtain ⟨j0, hj0, hy0, hy1, hy2⟩ := info_parts access_info
  have c1 : (w.alloc (.cells #[] 35)).ownsRow w.heap.size 35 1 (.slice (some ⟨w.heap.size, 0, none⟩) 0 0) 0 [] := ⟨by simp, .inr ⟨w.heap.size, 0, #[], rfl, Nat.le_refl _, heap_alloc_new w _, by omega, by simp [maxLen], by simp, by simp⟩⟩
  have c3 : ∀ (j : Nat) (u : Value), (ws.map (Value.int .u64))[j]? = some u → (w.alloc (.cells #[] 35)).cell? ((⟨q, 0, none⟩ : Addr).add j) = some u := by
    intro j u hu
    rw [add_head, World.cell?_alloc_lt _ _ _ hq.lt]
    exact hq.cell j u hu
  have c7 : ∀ u ∈ ws.map (Value.int .u64), u.oneCell' = true := by intro u hu; simp at hu; obtain ⟨x, _, rfl⟩ := hu; rfl
  have HX := Lib.hid hx
  have H1 := Lib.hid c1
  have H3 := Lib.hid c3
  have H7 := Lib.hid c7
  have HO := Lib.hid ho
  clear hx c1 c3 c7 ho
  go_enter Tryd.func17, Tryd.ntmps17
  go_wp2_with (first
    | (at_builtin; refine wpList_append_lies _ rfl (.tmp 46) (.tmp 50) _ rfl w.heap.size 35 i0 _ 1 8 Tryd.underlying28 hi0 hz0 hz1 hz2 rfl (by omega) (.slice (some ⟨w.heap.size, 0, none⟩) 0 0) 0 [] rfl H1.out ⟨q, 0, none⟩ ws.length c (ws.map (Value.int .u64)) rfl (by simp) H3.out H7.out (by omega) (by simp only [maxLen]; omega) (by omega) (by simp) (w.heap.size + 1) (by simp) ?_
       intro g1 cap1 w1 hown1 hg1 hat1 hlt1
       simp only [Nat.zero_add, List.nil_append] at hown1 ⊢
       obtain ⟨hh1, hb1, hc1⟩ := heads_of_lies hown1
       have hrl : r < w.heap.size := hb.lt
       have hb2 : Blk w1 r 34 #[.slice (some ⟨q, 0, none⟩) ws.length c, v] := (hb.alloc _).grown hg1 (by simp [Value.ownBlock]; omega)
       have f1 := hb2.facts
       have x1 := hh1.cell i.toNat (.int .u64 was) (by simp [HX.out])
       have x2 := hh1.frozen i.toNat
       have hne : r ≠ g1 := by omega
       have u1 : Upd [] w w1 := ((Upd.refl [] w).alloc _).grown hg1 (by intro k hk; right; simp only [Value.ownBlock, Option.some.injEq] at hk; omega)
       have HH := Lib.hid hh1
       clear hown1 hg1 hat1 hh1 fa hqc)
    | (at_builtin
       have u2 : Upd [r, g1] w (((w1.setCell ⟨g1, i.toNat, none⟩ (.int .u64 next)).setCell ⟨r, 0, none⟩ (.slice (some ⟨g1, 0, none⟩) ws.length cap1)).alloc (.cells #[.int .i64 3, .int .i64 i, .int .u64 was, .int .u64 next, .bool true] 51)) := (((u1.mono (by simp)).setCell (by simp) _).setCell (by simp) _).alloc _
       have ho2 := own_upd HO.out u2 (fun g hg hv => by have := own_lt HO.out hv; simp; omega)
       have hc2 : ∀ (j : Nat) (u : Value), ([.int .i64 3, .int .i64 i, .int .u64 was, .int .u64 next, .bool true] : List Value)[j]? = some u → (((w1.setCell ⟨g1, i.toNat, none⟩ (.int .u64 next)).setCell ⟨r, 0, none⟩ (.slice (some ⟨g1, 0, none⟩) ws.length cap1)).alloc (.cells #[.int .i64 3, .int .i64 i, .int .u64 was, .int .u64 next, .bool true] 51)).cell? ((⟨w1.heap.size, 0, none⟩ : Addr).add j) = some u := by
         intro j u hu
         rw [add_head, (Blk.new_at _ _ _ w1.heap.size (by simp)).cell]
         simpa using hu
       refine wpList_append_lies _ rfl (.tmp 64) (.tmp 71) _ rfl w0.heap.size 51 j0 _ 5 40 Tryd.underlying32 hj0 hy0 hy1 hy2 rfl (by omega) v n xs rfl ho2 ⟨w1.heap.size, 0, none⟩ 1 1 [.int .i64 3, .int .i64 i, .int .u64 was, .int .u64 next, .bool true] rfl (by simp) hc2 (by intro u hu; simp at hu; rcases hu with rfl | rfl | rfl | rfl | rfl <;> rfl) (by omega) (by simp only [maxLen]; omega) (by omega) (by have := u1.size; simp; omega) (w1.heap.size + 1) (by simp) ?_
       intro g2 cap2 w2 hown2 hg2 hat2 hlt2
       have hb3 := (((hb2.far (p := ⟨g1, i.toNat, none⟩) hne (.int .u64 next)).set_ 0 (.slice (some ⟨g1, 0, none⟩) ws.length cap1)).alloc (.cells #[.int .i64 3, .int .i64 i, .int .u64 was, .int .u64 next, .bool true] 51)).grown hg2 (fun e => by have := own_lt HO.out e.symm; omega)
       have f2 := hb3.facts
       have hh2 : Heads w2 g1 35 ((ws.map (Value.int .u64)).set i.toNat (.int .u64 next)) :=
         ((HH.out.set i.toNat (.int .u64 next) (by simp; omega)).upd (((Upd.refl [r] _).setCell (p := ⟨r, 0, none⟩) (by simp) _).alloc _) (by simpa using hne.symm)).upd (upd_of_grown hg2) (fun hm => by
           simp only [Option.mem_toList] at hm
           have := own_lt HO.out hm; omega)
       have H2 := Lib.hid hh2
       have HOW := Lib.hid hown2
       have HG2 := Lib.hid hg2
       clear hh2 hown2 hg2 hat2 ho2 hc2))
  go_ret3
  refine ⟨rfl, ⟨g1, cap1, .slice (some ⟨g2, 0, none⟩) (n + 1) cap2, _, ?_, ?_, own_upd HOW.out ((Upd.refl [r] w2).setCell (by simp) _) (fun g hg _ => by simp; omega), ?_, fun hm => by have := hbad _ hm; omega⟩, ?_⟩
  · have := hb3.set_ 1 (.slice (some ⟨g2, 0, none⟩) (n + 1) cap2)
    rw [List.length_set]
    simpa using this
  · rw [List.map_set]
    exact H2.out.upd ((Upd.refl [r] w2).setCell (by simp) _) (by simpa using hne.symm)
  · have h1 := u2.size
    have h2 := HG2.out.size
    simp only [World.size_setCell]
    omega
  · have l1 : Low w0.heap.size [r] w _ := Low.of_upd u2 hz (by
      intro x hx
      simp only [List.mem_cons, List.not_mem_nil, or_false] at hx
      rcases hx with rfl | rfl
      · simp
      · right; omega)
    have l2 : Low w0.heap.size [r] _ w2 := Low.of_upd (upd_of_grown HG2.out) (by have := u2.size; omega) (by
      intro x hx
      simp only [Option.mem_toList] at hx
      right
      exact (own_lt HO.out hx).2)
    exact (l1.trans l2).setCell (by simp) _

set_option maxRecDepth 100000 in
set_option maxHeartbeats 2000000 in
theorem do_cas_no (w0 w : World) (r : Nat) (bad : List Nat) (ws : List Int) (n : Nat) (i old next was : Int) (h : RefA w0 w r bad ws n) (hr : r < w0.heap.size) (hbad : ∀ x ∈ bad, x < w0.heap.size) (h0 : 0 ≤ i) (hx : ws[i.toNat]? = some was) (hn : n ≤ 1000) (hl : ws.length ≤ 1000000) (hne : (was == old) = false) :
    Calls Tryd.prog 17 #[.pointer (some ⟨r, 0, none⟩), .int .i64 3, .int .i64 i, .int .u64 old, .int .u64 next] w fun e w' => e = .returned (.tuple #[.int .u64 was, .bool false, .int .i64 0]) ∧ Did w0 w w' r bad (ws.set i.toNat was) n := by
  have hlen : i < ws.length := by have := (List.getElem?_eq_some_iff.1 hx).1; omega
  obtain ⟨q, c, v, xs, hb, hq, ho, hz, hqb⟩ := h
  have fa := hb.facts
  have hqc := hq.cell i.toNat (.int .u64 was) (by simp [hx])
  obtain ⟨i0, hi0, hz0, hz1, hz2⟩ := info_parts u64_info
  obtain ⟨j0, hj0, hy0, hy1, hy2⟩ := info_parts access_info
  have c1 : (w.alloc (.cells #[] 35)).ownsRow w.heap.size 35 1 (.slice (some ⟨w.heap.size, 0, none⟩) 0 0) 0 [] := ⟨by simp, .inr ⟨w.heap.size, 0, #[], rfl, Nat.le_refl _, heap_alloc_new w _, by omega, by simp [maxLen], by simp, by simp⟩⟩
  have c3 : ∀ (j : Nat) (u : Value), (ws.map (Value.int .u64))[j]? = some u → (w.alloc (.cells #[] 35)).cell? ((⟨q, 0, none⟩ : Addr).add j) = some u := by
    intro j u hu
    rw [add_head, World.cell?_alloc_lt _ _ _ hq.lt]
    exact hq.cell j u hu
  have c7 : ∀ u ∈ ws.map (Value.int .u64), u.oneCell' = true := by intro u hu; simp at hu; obtain ⟨x, _, rfl⟩ := hu; rfl
  have HX := Lib.hid hx
  have H1 := Lib.hid c1
  have H3 := Lib.hid c3
  have H7 := Lib.hid c7
  have HO := Lib.hid ho
  clear hx c1 c3 c7 ho
  go_enter Tryd.func17, Tryd.ntmps17
  go_wp2_with (first
    | (at_builtin; refine wpList_append_lies _ rfl (.tmp 46) (.tmp 50) _ rfl w.heap.size 35 i0 _ 1 8 Tryd.underlying28 hi0 hz0 hz1 hz2 rfl (by omega) (.slice (some ⟨w.heap.size, 0, none⟩) 0 0) 0 [] rfl H1.out ⟨q, 0, none⟩ ws.length c (ws.map (Value.int .u64)) rfl (by simp) H3.out H7.out (by omega) (by simp only [maxLen]; omega) (by omega) (by simp) (w.heap.size + 1) (by simp) ?_
       intro g1 cap1 w1 hown1 hg1 hat1 hlt1
       simp only [Nat.zero_add, List.nil_append] at hown1 ⊢
       obtain ⟨hh1, hb1, hc1⟩ := heads_of_lies hown1
       have hrl : r < w.heap.size := hb.lt
       have hb2 : Blk w1 r 34 #[.slice (some ⟨q, 0, none⟩) ws.length c, v] := (hb.alloc _).grown hg1 (by simp [Value.ownBlock]; omega)
       have f1 := hb2.facts
       have x1 := hh1.cell i.toNat (.int .u64 was) (by simp [HX.out])
       have x2 := hh1.frozen i.toNat
       have hne : r ≠ g1 := by omega
       have u1 : Upd [] w w1 := ((Upd.refl [] w).alloc _).grown hg1 (by intro k hk; right; simp only [Value.ownBlock, Option.some.injEq] at hk; omega)
       have HH := Lib.hid hh1
       clear hown1 hg1 hat1 hh1 fa hqc)
    | (at_builtin
       have u2 : Upd [r, g1] w (((w1.setCell ⟨g1, i.toNat, none⟩ (.int .u64 was)).setCell ⟨r, 0, none⟩ (.slice (some ⟨g1, 0, none⟩) ws.length cap1)).alloc (.cells #[.int .i64 3, .int .i64 i, .int .u64 was, .int .u64 was, .bool false] 51)) := (((u1.mono (by simp)).setCell (by simp) _).setCell (by simp) _).alloc _
       have ho2 := own_upd HO.out u2 (fun g hg hv => by have := own_lt HO.out hv; simp; omega)
       have hc2 : ∀ (j : Nat) (u : Value), ([.int .i64 3, .int .i64 i, .int .u64 was, .int .u64 was, .bool false] : List Value)[j]? = some u → (((w1.setCell ⟨g1, i.toNat, none⟩ (.int .u64 was)).setCell ⟨r, 0, none⟩ (.slice (some ⟨g1, 0, none⟩) ws.length cap1)).alloc (.cells #[.int .i64 3, .int .i64 i, .int .u64 was, .int .u64 was, .bool false] 51)).cell? ((⟨w1.heap.size, 0, none⟩ : Addr).add j) = some u := by
         intro j u hu
         rw [add_head, (Blk.new_at _ _ _ w1.heap.size (by simp)).cell]
         simpa using hu
       refine wpList_append_lies _ rfl (.tmp 64) (.tmp 71) _ rfl w0.heap.size 51 j0 _ 5 40 Tryd.underlying32 hj0 hy0 hy1 hy2 rfl (by omega) v n xs rfl ho2 ⟨w1.heap.size, 0, none⟩ 1 1 [.int .i64 3, .int .i64 i, .int .u64 was, .int .u64 was, .bool false] rfl (by simp) hc2 (by intro u hu; simp at hu; rcases hu with rfl | rfl | rfl | rfl | rfl <;> rfl) (by omega) (by simp only [maxLen]; omega) (by omega) (by have := u1.size; simp; omega) (w1.heap.size + 1) (by simp) ?_
       intro g2 cap2 w2 hown2 hg2 hat2 hlt2
       have hb3 := (((hb2.far (p := ⟨g1, i.toNat, none⟩) hne (.int .u64 was)).set_ 0 (.slice (some ⟨g1, 0, none⟩) ws.length cap1)).alloc (.cells #[.int .i64 3, .int .i64 i, .int .u64 was, .int .u64 was, .bool false] 51)).grown hg2 (fun e => by have := own_lt HO.out e.symm; omega)
       have f2 := hb3.facts
       have hh2 : Heads w2 g1 35 ((ws.map (Value.int .u64)).set i.toNat (.int .u64 was)) :=
         ((HH.out.set i.toNat (.int .u64 was) (by simp; omega)).upd (((Upd.refl [r] _).setCell (p := ⟨r, 0, none⟩) (by simp) _).alloc _) (by simpa using hne.symm)).upd (upd_of_grown hg2) (fun hm => by
           simp only [Option.mem_toList] at hm
           have := own_lt HO.out hm; omega)
       have H2 := Lib.hid hh2
       have HOW := Lib.hid hown2
       have HG2 := Lib.hid hg2
       clear hh2 hown2 hg2 hat2 ho2 hc2))
  go_ret3
  refine ⟨rfl, ⟨g1, cap1, .slice (some ⟨g2, 0, none⟩) (n + 1) cap2, _, ?_, ?_, own_upd HOW.out ((Upd.refl [r] w2).setCell (by simp) _) (fun g hg _ => by simp; omega), ?_, fun hm => by have := hbad _ hm; omega⟩, ?_⟩
  · have := hb3.set_ 1 (.slice (some ⟨g2, 0, none⟩) (n + 1) cap2)
    rw [List.length_set]
    simpa using this
  · rw [List.map_set]
    exact H2.out.upd ((Upd.refl [r] w2).setCell (by simp) _) (by simpa using hne.symm)
  · have h1 := u2.size
    have h2 := HG2.out.size
    simp only [World.size_setCell]
    omega
  · have l1 : Low w0.heap.size [r] w _ := Low.of_upd u2 hz (by
      intro x hx
      simp only [List.mem_cons, List.not_mem_nil, or_false] at hx
      rcases hx with rfl | rfl
      · simp
      · right; omega)
    have l2 : Low w0.heap.size [r] _ w2 := Low.of_upd (upd_of_grown HG2.out) (by have := u2.size; omega) (by
      intro x hx
      simp only [Option.mem_toList] at hx
      right
      exact (own_lt HO.out hx).2)
    exact (l1.trans l2).setCell (by simp) _

end Go.Proofs.YtopgaemibfigbaaDoor

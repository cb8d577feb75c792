/-
  Words' bits: masks, joins. No program in sight.
  Package blocks by contracts: what blocks are in memory; find, Word, Load, Store, CAS of one that is live.
  Errors that wrap another one, with the call in which it came (meta's doing): errors.Is, No.
  Lists of things that have so many cells each, laid flat; what a slice of them reads as, owns; which blocks a thing's turns may turn. No program in sight.
  A region that draws its order, where the order is forced in all that matters: what it does, it does as if in the order of the text. No program in sight.
  A region that draws its order, where the order is forced in all that matters: the theorem. No program in sight.
  A region that draws its order, each of whose operations does what it does in whatever order: one obligation an operation, none for an order. No program in sight.
-/
import Derived.Test.YtkldpdldjalpeaaGreatDoorWrB0
import Derived.Lib.EndianBits
import Derived.Laws.Bits64b
import Derived.Orders
import Derived.Tactics
import Derived.Laws.World
import Derived.Deep.RegionHeld3
import Derived.Lib.Hide
set_option linter.unusedVariables false
namespace Go.Proofs.YtkldpdldjalpeaaGreatDoor
open Go.RowKit

theorem and_32 {x : Int} (h0 : 0 ≤ x) (h1 : x < 18446744073709551616) : bits .and .u64 x 4294967295 = x % 4294967296 := bits_mask .u64 64 (by decide) wraps_u64 32 (by decide) x h0 h1
theorem and_8 {x : Int} (h0 : 0 ≤ x) (h1 : x < 18446744073709551616) : bits .and .u64 x 255 = x % 256 := bits_mask .u64 64 (by decide) wraps_u64 8 (by decide) x h0 h1
theorem and_1 {x : Int} (h0 : 0 ≤ x) (h1 : x < 18446744073709551616) : bits .and .u64 x 1 = x % 2 := bits_mask .u64 64 (by decide) wraps_u64 1 (by decide) x h0 h1
theorem and_2 {x : Int} (h0 : 0 ≤ x) (h1 : x < 18446744073709551616) : bits .and .u64 x 2 = x / 2 % 2 * 2 := by
  obtain ⟨n, rfl⟩ := Int.eq_ofNat_of_zero_le h0
  rw [show (2 : Int) = ((2 : Nat) : Int) from rfl, bits_and_u64_nat _ _ (by omega) (by omega)]
  have h1 : (n &&& 2) / 2 = n / 2 % 2 := by rw [Nat.and_div_two]; exact Nat.and_one_is_mod _
  have h2 : (n &&& 2) % 2 = 0 := by
    have h : (n &&& 2).testBit 0 = false := by rw [Nat.testBit_and]; simp
    rw [Nat.testBit_zero] at h
    have := of_decide_eq_false h
    omega
  have h3 : n &&& 2 = n / 2 % 2 * 2 := by omega
  rw [h3]
  omega
/-- The high one is a multiple of the low one's range. -/
theorem or_16 {x y : Int} (hx₀ : 0 ≤ x) (hx : x % 65536 = 0) (hx₁ : x < 18446744073709551616) (hy₀ : 0 ≤ y) (hy : y < 65536) : bits .or .u64 x y = x + y := bits_join .u64 64 (by decide) wraps_u64 16 x y hx₀ hx hx₁ hy₀ hy (by omega)
theorem or_8 {x y : Int} (hx₀ : 0 ≤ x) (hx : x % 256 = 0) (hx₁ : x < 18446744073709551616) (hy₀ : 0 ≤ y) (hy : y < 256) : bits .or .u64 x y = x + y := bits_join .u64 64 (by decide) wraps_u64 8 x y hx₀ hx hx₁ hy₀ hy (by omega)
theorem or_1 {x y : Int} (hx₀ : 0 ≤ x) (hx : x % 2 = 0) (hx₁ : x < 18446744073709551616) (hy₀ : 0 ≤ y) (hy : y < 2) : bits .or .u64 x y = x + y := bits_join .u64 64 (by decide) wraps_u64 1 x y hx₀ hx hx₁ hy₀ hy (by omega)
theorem or_0 {x : Int} (h0 : 0 ≤ x) (h1 : x < 18446744073709551616) : bits .or .u64 0 x = x := by
  rw [bits_join_low .u64 64 (by decide) wraps_u64 0 0 x (by omega) (by decide) (by decide) h0 (by simp) h1]; omega
end Go.Proofs.YtkldpdldjalpeaaGreatDoor

namespace Go.Proofs.YtkldpdldjalpeaaGreatDoor
open Go.RowKit Th

/-- Where blocks lie. -/
structure BFp where
  b0 : Nat
  a : Nat
  r : Nat
  m : Nat
  f : Nat
  xs : List Nat
def BFp.l (F : BFp) : List Nat := F.b0 :: F.a :: F.r :: F.m :: F.f :: F.xs
def findB : List (Nat × Nat) → List Nat → Int → Option Value
  | (r, n) :: l, x :: xs, k => if k = r then some (.pointer (some ⟨x, 0, none⟩)) else findB l xs k
  | _, _, _ => none
/-- Blocks. -/
structure BSt (w : World) (F : BFp) (B : BS) : Prop where
  hdr : Blk w F.b0 129 #[.pointer (some ⟨F.a, 0, none⟩), .int .i64 B.top, .map (some F.m), .map (some F.f)]
  ar : Ar w F.a F.r B.ws
  mp : IMap w .i64 F.m (findB B.sz F.xs) B.sz.length
  fr : IMap w .i64 F.f (fun _ => none) 0
  len : F.xs.length = B.sz.length
  blk : ∀ (i r n g : Nat), B.sz[i]? = some (r, n) → F.xs[i]? = some g → Blk w g 151 #[.int .i64 n, .int .u64 0, .bool true]
  sz : ∀ (i j : Nat) (p q : Nat × Nat), B.sz[i]? = some p → B.sz[j]? = some q → p.1 = q.1 → i = j
  rng : ∀ (p : Nat × Nat), p ∈ B.sz → 1 ≤ p.1 ∧ 1 ≤ p.2 ∧ p.2 ≤ 64 ∧ p.1 + p.2 + 1 ≤ B.top
  top : 1 ≤ B.top ∧ B.top ≤ B.ws.length ∧ B.ws.length ≤ 16384
  nd : F.l.Nodup
  wd : ∀ x, x ∈ B.ws → 0 ≤ x ∧ x < 18446744073709551616
theorem findB_at {k : Nat} {g n : Nat} : ∀ {l : List (Nat × Nat)} {xs : List Nat} {i : Nat}, (∀ (i j : Nat) (p q : Nat × Nat), l[i]? = some p → l[j]? = some q → p.1 = q.1 → i = j) → l[i]? = some (k, n) → xs[i]? = some g → findB l xs k = some (.pointer (some ⟨g, 0, none⟩))
  | [], _, i, _, h, _ => by simp at h
  | _ :: _, [], i, _, _, h => by simp at h
  | (r, m) :: l, x :: xs, 0, _, h, hx => by
    simp at h hx
    obtain ⟨rfl, rfl⟩ := h
    subst hx
    simp [findB]
  | (r, m) :: l, x :: xs, i + 1, hd, h, hx => by
    simp at h hx
    have hne : (k : Int) ≠ r := fun e => by
      have := hd (i + 1) 0 (k, n) (r, m) (by simpa using h) (by simp) (show k = r by omega)
      omega
    simp only [findB, if_neg hne]
    exact findB_at (i := i) (fun a b p q h1 h2 h3 => by have := hd (a + 1) (b + 1) p q (by simpa using h1) (by simpa using h2) h3; omega) h hx
theorem findB_none {k : Int} : ∀ {l : List (Nat × Nat)} {xs : List Nat}, (∀ (p : Nat × Nat), p ∈ l → (p.1 : Int) ≠ k) → findB l xs k = none
  | [], xs, _ => by cases xs <;> rfl
  | (r, m) :: l, [], _ => rfl
  | (r, m) :: l, x :: xs, h => by
    have h1 := h (r, m) (by simp)
    simp only at h1
    simp only [findB, if_neg (fun e : k = (r : Int) => h1 e.symm)]
    exact findB_none fun p hp => h p (by simp [hp])
section
variable {w w' : World} {F : BFp} {B : BS} {S : List Nat}
theorem BSt.upd (h : BSt w F B) (hu : Upd S w w') (hS : ∀ x ∈ S, x ∉ F.l) : BSt w' F B := by
  have hn : ∀ x ∈ F.l, x ∉ S := fun x hx hm => hS x hm hx
  refine ⟨h.hdr.upd hu (hn _ (by simp [BFp.l])), h.ar.upd hu (hn _ (by simp [BFp.l])) (hn _ (by simp [BFp.l])), h.mp.upd hu (hn _ (by simp [BFp.l])), h.fr.upd hu (hn _ (by simp [BFp.l])), h.len, fun i r n g hi hg => (h.blk i r n g hi hg).upd hu (hn _ ?_), h.sz, h.rng, h.top, h.nd, h.wd⟩
  have := List.mem_of_getElem? hg
  simp [BFp.l, this]
theorem BSt.lt (h : BSt w F B) : ∀ x ∈ F.l, x < w.heap.size := by
  intro x hx
  simp only [BFp.l, List.mem_cons] at hx
  rcases hx with rfl | rfl | rfl | rfl | rfl | hx
  · exact h.hdr.lt
  · exact h.ar.lt.1
  · exact h.ar.lt.2
  · exact h.mp.lt
  · exact h.fr.lt
  · obtain ⟨i, hi⟩ := List.getElem?_of_mem hx
    have hl := (List.getElem?_eq_some_iff.1 hi).1
    obtain ⟨p, hp⟩ : ∃ p, B.sz[i]? = some p := ⟨_, List.getElem?_eq_getElem (by rw [← h.len]; exact hl)⟩
    obtain ⟨r, n⟩ := p
    exact (h.blk i r n x hp hi).lt
/-- Other words of the arena. -/
theorem BSt.words (h : BSt w F B) {ws : List Int} (hu : Upd [F.a, F.r] w w') (ha : Ar w' F.a F.r ws) (hl : ws.length = B.ws.length) (hw : ∀ x, x ∈ ws → 0 ≤ x ∧ x < 18446744073709551616) : BSt w' F { B with ws := ws } := by
  have hn : ∀ x ∈ F.l, x ≠ F.a → x ≠ F.r → x ∉ [F.a, F.r] := by intro x _ h1 h2; simp [h1, h2]
  have hd := h.nd
  simp only [BFp.l, List.nodup_cons, List.mem_cons, not_or] at hd
  obtain ⟨⟨h1, h2, h3, h4, h5⟩, ⟨h6, h7, h8, h9⟩, ⟨h10, h11, h12⟩, ⟨h13, h14⟩, h15, h16⟩ := hd
  refine ⟨h.hdr.upd hu (by simp [h1, h2]), ha, h.mp.upd hu (by simp only [List.mem_cons, List.not_mem_nil, or_false, not_or]; exact ⟨fun e => h7 e.symm, fun e => h10 e.symm⟩), h.fr.upd hu (by simp only [List.mem_cons, List.not_mem_nil, or_false, not_or]; exact ⟨fun e => h8 e.symm, fun e => h11 e.symm⟩), h.len, fun i r n g hi hg => (h.blk i r n g hi hg).upd hu ?_, h.sz, h.rng, by rw [hl]; exact h.top, h.nd, hw⟩
  have := List.mem_of_getElem? hg
  simp only [List.mem_cons, List.not_mem_nil, or_false, not_or]
  exact ⟨fun e => h9 (e ▸ this), fun e => h12 (e ▸ this)⟩
end

theorem made_ok {F : BFp} {B : BS} (w : World) (h : BSt w F B) : Calls Tryz.prog 85 #[.pointer (some ⟨F.b0, 0, none⟩)] w fun e w' => e = .returned (.bool true) ∧ w = w' := by
  have f := h.hdr.facts
  have m0 := run_neq_map_nil (P := Tryz.prog) w _ _ _ (some F.m) Tryz.underlying126
  simp only [Option.isNone_some, Bool.not_false] at m0
  clear h
  go_enter Tryz.func85, Tryz.ntmps85
  go_wp2_with fail
  go_ret
  exact ⟨rfl, rfl⟩
theorem mem_at {B : BS} {F : BFp} {w : World} (h : BSt w F B) {r n : Nat} (hm : (r, n) ∈ B.sz) : ∃ (i g : Nat), B.sz[i]? = some (r, n) ∧ F.xs[i]? = some g ∧ Blk w g 151 #[.int .i64 n, .int .u64 0, .bool true] ∧ findB B.sz F.xs r = some (.pointer (some ⟨g, 0, none⟩)) := by
  obtain ⟨i, hi⟩ := List.getElem?_of_mem hm
  have hl := (List.getElem?_eq_some_iff.1 hi).1
  obtain ⟨g, hg⟩ : ∃ g, F.xs[i]? = some g := ⟨_, List.getElem?_eq_getElem (by rw [h.len]; exact hl)⟩
  exact ⟨i, g, hi, hg, h.blk i r n g hi hg, findB_at h.sz hi hg⟩
set_option maxHeartbeats 1000000 in
theorem find_ok {F : BFp} {B : BS} (w : World) (h : BSt w F B) (r n : Nat) (hm : (r, n) ∈ B.sz) :
    Calls Tryz.prog 82 #[.pointer (some ⟨F.b0, 0, none⟩), .int .u64 r] w fun e w' => ∃ g, e = .returned (.tuple #[.int .i64 r, .pointer (some ⟨g, 0, none⟩), .nilIface]) ∧ Blk w g 151 #[.int .i64 n, .int .u64 0, .bool true] ∧ w = w' := by
  obtain ⟨i, g, hi, hg, hb, hf⟩ := mem_at h hm
  have hrng := h.rng _ hm
  have htop := h.top
  have hr : (r : Int) < 16384 := by simp only at hrng; omega
  have HB := Lib.hid hb
  have fb := hb.facts
  have f := h.hdr.facts
  have hmp := h.mp
  have hlk := run_lookup_int' (P := Tryz.prog) (z := .pointer none) Tryz.underlying126 Tryz.underlying3 (w := w) (by kernel_rfl) hmp r
  rw [hf] at hlk
  simp only [Option.getD_some] at hlk
  have HS := Lib.hid h
  have e1 : bits .and .u64 (r : Int) 4294967295 = r := by rw [and_32 (by omega) (by omega)]; omega
  have e2 : (r : Int) / 4294967296 = 0 := by omega
  clear h hmp hm hi hg hf htop hrng hb
  go_enter Tryz.func82, Tryz.ntmps82
  go_wp2_with fail
  refine (made_ok _ HS.out).mono ?_; rintro e w' ⟨rfl, rfl⟩
  go_wp2_with fail
  go_ret3
  exact ⟨g, rfl, HB.out, rfl⟩
set_option maxHeartbeats 1000000 in
theorem word_at {F : BFp} {B : BS} (w : World) (h : BSt w F B) (r n i : Nat) (hm : (r, n) ∈ B.sz) (hi : i < n) :
    Calls Tryz.prog 71 #[.pointer (some ⟨F.b0, 0, none⟩), .int .u64 r, .int .i64 i] w fun e w' => e = .returned (.tuple #[.int .i64 ((r + 1 + i : Nat) : Int), .nilIface]) ∧ w = w' := by
  have hrng := h.rng _ hm
  have htop := h.top
  have hr : (r : Int) < 16384 ∧ (n : Int) ≤ 64 := by simp only at hrng; omega
  have hi' : (i : Int) < n := by omega
  have HF := Lib.hid (find_ok w h r n hm)
  have e1 : ((r + 1 + i : Nat) : Int) = r + 1 + i := by omega
  rw [e1]
  clear h hm htop hrng hi e1
  go_enter Tryz.func71, Tryz.ntmps71
  go_wp2_with fail
  refine HF.out.mono ?_; rintro e w' ⟨g, rfl, hb, rfl⟩
  have fb := hb.facts
  go_wp2_with fail
  go_ret2
  exact ⟨rfl, rfl⟩
theorem BSt.word {w : World} {F : BFp} {B : BS} (h : BSt w F B) {r n i : Nat} (hm : (r, n) ∈ B.sz) (hi : i < n) : ∃ x, B.ws[r + 1 + i]? = some x ∧ B.ws.getD (r + 1 + i) 0 = x ∧ 0 ≤ x ∧ x < 18446744073709551616 := by
  have hrng := h.rng _ hm
  have htop := h.top
  simp only at hrng
  have hl : r + 1 + i < B.ws.length := by omega
  refine ⟨B.ws[r + 1 + i], List.getElem?_eq_getElem hl, by rw [List.getD_eq_getElem?_getD, List.getElem?_eq_getElem hl]; rfl, h.wd _ (List.getElem_mem hl)⟩
set_option maxHeartbeats 1000000 in
theorem bload_ok {F : BFp} {B : BS} (w : World) (h : BSt w F B) (r n i : Nat) (hm : (r, n) ∈ B.sz) (hi : i < n) :
    Calls Tryz.prog 65 #[.pointer (some ⟨F.b0, 0, none⟩), .int .u64 r, .int .i64 i] w fun e w' => e = .returned (.tuple #[.int .u64 (B.ws.getD (r + 1 + i) 0), .nilIface]) ∧ BSt w' F B ∧ Upd [F.a, F.r] w w' := by
  obtain ⟨x, hx, hg, hx0⟩ := h.word hm hi
  rw [hg]
  have H1 := Lib.hid (word_at w h r n i hm hi)
  have H2 := Lib.hid (load_x F.a F.r B.ws ((r + 1 + i : Nat) : Int) x w h.ar (by omega) (by rw [Int.toNat_natCast]; exact hx))
  have HS := Lib.hid h
  have f := h.hdr.facts
  clear h hm hx hg
  go_enter Tryz.func65, Tryz.ntmps65
  go_wp2_with fail
  refine H1.out.mono ?_; rintro e w' ⟨rfl, rfl⟩
  go_wp2_with fail
  refine H2.out.mono ?_; rintro e w' ⟨rfl, ha, hu⟩
  go_wp2_with fail
  go_ret2
  have hu' : Upd [F.a, F.r] w w' := hu.mono (by simp)
  exact ⟨rfl, HS.out.words hu' ha rfl HS.out.wd, hu'⟩
theorem set_wd {ws : List Int} {k : Nat} {v : Int} (h : ∀ x, x ∈ ws → 0 ≤ x ∧ x < 18446744073709551616) (hv : 0 ≤ v ∧ v < 18446744073709551616) : ∀ x, x ∈ ws.set k v → 0 ≤ x ∧ x < 18446744073709551616 := by
  intro x hx
  rcases List.mem_or_eq_of_mem_set hx with hx | rfl
  · exact h x hx
  · exact hv
set_option maxHeartbeats 1000000 in
theorem bstore_ok {F : BFp} {B : BS} (w : World) (h : BSt w F B) (r n i : Nat) (v : Int) (hv : 0 ≤ v ∧ v < 18446744073709551616) (hm : (r, n) ∈ B.sz) (hi : i < n) :
    Calls Tryz.prog 60 #[.pointer (some ⟨F.b0, 0, none⟩), .int .u64 r, .int .i64 i, .int .u64 v] w fun e w' => e = .returned .nilIface ∧ BSt w' F (ex B (.store r i v)).2 ∧ Upd [F.a, F.r] w w' := by
  obtain ⟨x, hx, hg, hx0⟩ := h.word hm hi
  have H1 := Lib.hid (word_at w h r n i hm hi)
  have H2 := Lib.hid (store_x F.a F.r B.ws ((r + 1 + i : Nat) : Int) v x w h.ar (by omega) (by rw [Int.toNat_natCast]; exact hx))
  have HS := Lib.hid h
  have f := h.hdr.facts
  clear h hm hx hg
  go_enter Tryz.func60, Tryz.ntmps60
  go_wp2_with fail
  refine H1.out.mono ?_; rintro e w' ⟨rfl, rfl⟩
  go_wp2_with fail
  refine H2.out.mono ?_; rintro e w' ⟨rfl, ha, hu⟩
  go_wp2_with fail
  go_ret
  exact ⟨rfl, HS.out.words hu ha (by simp) (set_wd HS.out.wd hv), hu⟩
set_option maxHeartbeats 1000000 in
theorem bcas_ok {F : BFp} {B : BS} (w : World) (h : BSt w F B) (r n i : Nat) (o v : Int) (hv : 0 ≤ v ∧ v < 18446744073709551616) (hm : (r, n) ∈ B.sz) (hi : i < n) :
    Calls Tryz.prog 67 #[.pointer (some ⟨F.b0, 0, none⟩), .int .u64 r, .int .i64 i, .int .u64 o, .int .u64 v] w fun e w' => e = .returned (.tuple #[.bool (B.ws.getD (r + 1 + i) 0 == o), .nilIface]) ∧ BSt w' F (ex B (.cas r i o v)).2 ∧ Upd [F.a, F.r] w w' := by
  obtain ⟨x, hx, hg, hx0⟩ := h.word hm hi
  have H1 := Lib.hid (word_at w h r n i hm hi)
  have H2 := Lib.hid (cas_x F.a F.r B.ws ((r + 1 + i : Nat) : Int) o v x w h.ar (by omega) (by rw [Int.toNat_natCast]; exact hx))
  have HS := Lib.hid h
  have f := h.hdr.facts
  have HG := Lib.hid hg
  rw [hg]
  clear h hm hx hg
  go_enter Tryz.func67, Tryz.ntmps67
  go_wp2_with fail
  refine H1.out.mono ?_; rintro e w' ⟨rfl, rfl⟩
  go_wp2_with fail
  refine H2.out.mono ?_; rintro e w' ⟨rfl, ha, hu⟩
  go_wp2_with fail
  go_ret2
  refine ⟨rfl, ?_, hu⟩
  simp only [ex]
  rw [HG.out]
  rw [Int.toNat_natCast] at ha
  by_cases e : x = o
  · rw [if_pos e] at ha ⊢
    exact HS.out.words hu ha (by simp) (set_wd HS.out.wd hv)
  · rw [if_neg e] at ha ⊢
    exact HS.out.words hu ha rfl HS.out.wd
end Go.Proofs.YtkldpdldjalpeaaGreatDoor

namespace Go.Proofs.YtkldpdldjalpeaaGreatDoor
open Go.RowKit Go.Extern.Stop Go.Stop Go.Extern

theorem doingNoIs (v : Value) (xT : TypeId) (w : World) : (Instr.typeAssert (.iface 99 v) xT 110 true).run Tryz.prog w = .ok (.tuple #[.nilIface, .bool false]) w := run_typeAssert_lacksB Tryz.underlying110 (by kernel_rfl) (by kernel_rfl) v xT w
theorem doingHasUnwrap (v : Value) (xT : TypeId) (w : World) : (Instr.typeAssert (.iface 99 v) xT 113 true).run Tryz.prog w = .ok (.tuple #[.iface 99 v, .bool true]) w := run_typeAssert_hasB Tryz.underlying113 (by kernel_rfl) v xT w

theorem is_nil (b : Int) (w : World) :
    Calls Tryz.prog 33 #[.nilIface, .iface 65 (.int .i64 b)] w fun e w' => e = .returned (.bool false) ∧ w = w' := by
  have h8 := @run_callFunc_extern Tryz.prog 50 _ Extern.ReflectliteType.typeOf Tryz.func50 (by kernel_rfl) (by kernel_rfl) (by kernel_rfl) (by kernel_rfl)
  have heq : (binOp .eql 40 .nilIface (.iface 65 (.int .i64 b))).run Tryz.prog w = .ok (.bool false) w := by kernel_rfl
  go_enter Tryz.func33, Tryz.ntmps33
  go_wp2
  go_ret
  exact ⟨rfl, rfl⟩

/-- An error that is one: how often it is wrapped, its number; what wraps it lies in blocks from B on. -/
inductive ErW (w : World) (B : Nat) : Nat → Value → Int → Prop where
  | num (no : Int) (h : 1 ≤ no ∧ no ≤ 17) : ErW w B 0 (.iface 65 (.int .i64 no)) no
  | wrap (k : Nat) (g : Nat) (s v : Value) (no : Int) (hB : B ≤ g) (hb : Blk w g 101 #[s, v]) (h : ErW w B k v no) : ErW w B (k + 1) (.iface 99 (.pointer (some ⟨g, 0, none⟩))) no
theorem ErW.no_range {w : World} {B k : Nat} {v : Value} {no : Int} (h : ErW w B k v no) : 1 ≤ no ∧ no ≤ 17 := by
  induction h with
  | num no h => exact h
  | wrap k g s v no _ _ _ ih => exact ih
theorem ErW.upd {w w' : World} {B k : Nat} {v : Value} {no : Int} {S : List Nat} (h : ErW w B k v no) (hu : Upd S w w') (hS : ∀ x ∈ S, x < B) : ErW w' B k v no := by
  induction h with
  | num no h => exact .num no h
  | wrap k g s v no hB hb _ ih => exact .wrap k g s v no hB (hb.upd hu (fun hm => by have := hS g hm; omega)) ih
theorem ErW.base {w : World} {B B' k : Nat} {v : Value} {no : Int} (h : ErW w B k v no) (hb : B' ≤ B) : ErW w B' k v no := by
  induction h with
  | num no h => exact .num no h
  | wrap k g s v no hB hb _ ih => exact .wrap k g s v no (by omega) hb ih
/-- None, or one that is wrapped at most twice. -/
def Er (w : World) (B : Nat) (v : Value) (no : Int) : Prop := (v = .nilIface ∧ no = 0) ∨ ∃ k, k ≤ 2 ∧ ErW w B k v no
theorem Er.nil (w : World) (B : Nat) : Er w B .nilIface 0 := .inl ⟨rfl, rfl⟩

set_option maxHeartbeats 1000000 in
theorem is_doing1 (g : Nat) (s : Value) (a b : Int) (w : World) (hc : w.cell? ⟨g, 1, none⟩ = some (.iface 65 (.int .i64 a))) :
    Calls Tryz.prog 33 #[.iface 99 (.pointer (some ⟨g, 0, none⟩)), .iface 65 (.int .i64 b)] w fun e w' => e = .returned (.bool (a == b)) ∧ w = w' := by
  obtain ⟨i, hi, hcmp⟩ := Option.map_eq_some_iff.1 errnoComp
  have h8 := @run_callFunc_extern Tryz.prog 50 _ Extern.ReflectliteType.typeOf Tryz.func50 (by kernel_rfl) (by kernel_rfl) (by kernel_rfl) (by kernel_rfl)
  have h32 := @run_callFunc_extern Tryz.prog 115 _ cmpEntry Tryz.func115 (by kernel_rfl) (by kernel_rfl) (by kernel_rfl) (by kernel_rfl)
  have tT := errnoTypeOf
  have cT := errnoComparable
  have heq := run_eql_iface_int (P := Tryz.prog) w a b Tryz.underlying40 Tryz.underlying65 hi hcmp
  have hty := run_eql_iface_types (P := Tryz.prog) 99 65 (.pointer (some ⟨g, 0, none⟩)) (.int .i64 b) Tryz.underlying40 (by decide) w
  have n1 := errnoNoIs
  have n2 := errnoNoUnwrap
  have n3 := errnoNoUnwraps
  have m1 := doingNoIs
  have m2 := doingHasUnwrap
  by_cases hab : a = b
  · subst hab
    have hb : (a == a) = true := by simp
    go_enter Tryz.func33, Tryz.ntmps33
    go_wp2
    refine wp_loop_rounds 2 ?_
    rw [rounds_succ]
    go_wp2
    rw [rounds_succ]
    go_wp2
    go_ret
    exact ⟨by rw [hb]; rfl, rfl⟩
  · have hb : (a == b) = false := by simpa using hab
    clear hab
    go_enter Tryz.func33, Tryz.ntmps33
    go_wp2
    refine wp_loop_rounds 2 ?_
    rw [rounds_succ]
    go_wp2
    rw [rounds_succ]
    go_wp2
    go_ret
    exact ⟨by rw [hb]; rfl, rfl⟩

set_option maxHeartbeats 1000000 in
theorem is_doing2 (g g2 : Nat) (a b : Int) (w : World) (hc : w.cell? ⟨g, 1, none⟩ = some (.iface 99 (.pointer (some ⟨g2, 0, none⟩)))) (hc2 : w.cell? ⟨g2, 1, none⟩ = some (.iface 65 (.int .i64 a))) :
    Calls Tryz.prog 33 #[.iface 99 (.pointer (some ⟨g, 0, none⟩)), .iface 65 (.int .i64 b)] w fun e w' => e = .returned (.bool (a == b)) ∧ w = w' := by
  obtain ⟨i, hi, hcmp⟩ := Option.map_eq_some_iff.1 errnoComp
  have h8 := @run_callFunc_extern Tryz.prog 50 _ Extern.ReflectliteType.typeOf Tryz.func50 (by kernel_rfl) (by kernel_rfl) (by kernel_rfl) (by kernel_rfl)
  have h32 := @run_callFunc_extern Tryz.prog 115 _ cmpEntry Tryz.func115 (by kernel_rfl) (by kernel_rfl) (by kernel_rfl) (by kernel_rfl)
  have tT := errnoTypeOf
  have cT := errnoComparable
  have heq := run_eql_iface_int (P := Tryz.prog) w a b Tryz.underlying40 Tryz.underlying65 hi hcmp
  have hty := run_eql_iface_types (P := Tryz.prog) 99 65 (.pointer (some ⟨g, 0, none⟩)) (.int .i64 b) Tryz.underlying40 (by decide) w
  have hty2 := run_eql_iface_types (P := Tryz.prog) 99 65 (.pointer (some ⟨g2, 0, none⟩)) (.int .i64 b) Tryz.underlying40 (by decide) w
  have n1 := errnoNoIs
  have n2 := errnoNoUnwrap
  have n3 := errnoNoUnwraps
  have m1 := doingNoIs
  have m2 := doingHasUnwrap
  by_cases hab : a = b
  · subst hab
    have hb : (a == a) = true := by simp
    go_enter Tryz.func33, Tryz.ntmps33
    go_wp2
    refine wp_loop_rounds 3 ?_
    rw [rounds_succ]
    go_wp2
    rw [rounds_succ]
    go_wp2
    rw [rounds_succ]
    go_wp2
    go_ret
    exact ⟨by rw [hb]; rfl, rfl⟩
  · have hb : (a == b) = false := by simpa using hab
    clear hab
    go_enter Tryz.func33, Tryz.ntmps33
    go_wp2
    refine wp_loop_rounds 3 ?_
    rw [rounds_succ]
    go_wp2
    rw [rounds_succ]
    go_wp2
    rw [rounds_succ]
    go_wp2
    go_ret
    exact ⟨by rw [hb]; rfl, rfl⟩
theorem is_er {w : World} {B : Nat} {v : Value} {a : Int} (h : Er w B v a) (b : Int) (hb : b ≠ 0) :
    Calls Tryz.prog 33 #[v, .iface 65 (.int .i64 b)] w fun e w' => e = .returned (.bool (a == b)) ∧ w = w' := by
  rcases h with ⟨rfl, rfl⟩ | ⟨k, hk, h⟩
  · refine (is_nil b w).mono ?_
    rintro e w' ⟨rfl, rfl⟩
    refine ⟨?_, rfl⟩
    have : ((0 : Int) == b) = false := by simpa using fun e => hb e.symm
    rw [this]
  · cases h with
    | num no h => exact is_errno a b w
    | wrap k g s v no hB hbk h =>
      cases h with
      | num no h => exact is_doing1 g s a b w (by rw [hbk.cell]; rfl)
      | wrap k g2 s2 v no hB2 hbk2 h =>
        cases h with
        | num no h => exact is_doing2 g g2 a b w (by rw [hbk.cell]; rfl) (by rw [hbk2.cell]; rfl)
        | wrap => omega
set_option maxHeartbeats 400000 in
theorem no_er {w : World} {B : Nat} {v : Value} {a : Int} (h : Er w B v a) : Calls Tryz.prog 12 #[v] w fun e w' => e = .returned (.int .i64 a) ∧ w = w' := by
  have hh := h
  rcases h with ⟨rfl, rfl⟩ | ⟨k, hk, h⟩
  · exact no_nil w
  · obtain ⟨h1, h2⟩ := h.no_range
    have hv : ∃ t x, v = .iface t x := by cases h <;> exact ⟨_, _, rfl⟩
    obtain ⟨t, x, rfl⟩ := hv
    clear h hk
    have hE := Lib.hid hh
    clear hh
    go_enter Tryz.func12, Tryz.ntmps12
    go_wp2_with fail
    go_loop [3] (fun n => ∃ j : Int, 1 ≤ j ∧ j ≤ a ∧ n = .int .i64 j) (fun n => (17 - intOf n).toNat)
    case atStart => exact ⟨1, by omega, by omega, rfl⟩
    case round =>
      obtain ⟨j, hj1, hj2, rfl⟩ := hrel
      by_cases hjk : j = a
      · subst hjk
        go_wp2_with ((go_at_call 33); (refine (is_er hE.out _ (by omega)).mono ?_); (rintro e w' ⟨rfl, rfl⟩); (simp only [beq_self_eq_true]))
        go_ret
        exact ⟨rfl, rfl⟩
      · have hne : (a == j) = false := by simp; omega
        have hlt : j < a := by omega
        clear hjk hj2
        go_wp2_with ((go_at_call 33); (refine (is_er hE.out _ (by omega)).mono ?_); (rintro e w' ⟨rfl, rfl⟩); (simp only [hne]))
        go_round
        case rel => exact ⟨j + 1, by omega, by omega, rfl⟩
        case measure => simp [intOf]; omega
end Go.Proofs.YtkldpdldjalpeaaGreatDoor

namespace Go.Proofs.YtkldpdldjalpeaaGreatDoor
open Go.RowKit

/-- How a thing lies in cells. -/
structure Enc (α : Type) where
  c : α → List Value
  s : Nat
  len : ∀ a, (c a).length = s
  one : ∀ a, ∀ u ∈ c a, u.oneCell' = true
  pos : 0 < s
def flat {α : Type} (E : Enc α) (L : List α) : List Value := L.flatMap E.c
section
variable {α : Type} {E : Enc α} {L M : List α} {a : α} {k j : Nat}
theorem flat_nil : flat E [] = [] := rfl
theorem flat_cons : flat E (a :: L) = E.c a ++ flat E L := by unfold flat; rw [List.flatMap_cons]
theorem flat_append : flat E (L ++ M) = flat E L ++ flat E M := by unfold flat; rw [List.flatMap_append]
theorem flat_one_ : flat E [a] = E.c a := by unfold flat; simp
theorem flat_len : (flat E L).length = L.length * E.s := by
  induction L with
  | nil => simp [flat]
  | cons a L ih => rw [flat_cons, List.length_append, ih, E.len, List.length_cons, Nat.add_mul]; omega
theorem flat_cells : ∀ u ∈ flat E L, u.oneCell' = true := by
  intro u hu
  obtain ⟨a, _, h⟩ := List.mem_flatMap.1 hu
  exact E.one a u h
theorem flat_get (h : L[k]? = some a) (hj : j < E.s) : (flat E L)[k * E.s + j]? = (E.c a)[j]? := by
  induction L generalizing k with
  | nil => simp at h
  | cons b L ih =>
    rw [flat_cons]
    cases k with
    | zero =>
      simp at h
      subst h
      rw [Nat.zero_mul, Nat.zero_add, List.getElem?_append_left (by rw [E.len]; exact hj)]
    | succ k =>
      rw [List.getElem?_append_right (by rw [E.len, Nat.add_mul]; omega), E.len, show (k + 1) * E.s + j - E.s = k * E.s + j by rw [Nat.add_mul]; omega]
      exact ih (by simpa using h)
theorem flat_take (k : Nat) : flat E (L.take k) = (flat E L).take (k * E.s) := by
  induction L generalizing k with
  | nil => simp [flat]
  | cons a L ih =>
    cases k with
    | zero => simp [flat]
    | succ k =>
      rw [List.take_succ_cons, flat_cons, flat_cons, ih, List.take_append, E.len, List.take_of_length_le (l := E.c a) (by rw [E.len, Nat.add_mul]; omega), show (k + 1) * E.s - E.s = k * E.s by rw [Nat.add_mul]; omega]
theorem flat_drop (k : Nat) : flat E (L.drop k) = (flat E L).drop (k * E.s) := by
  induction L generalizing k with
  | nil => simp [flat]
  | cons a L ih =>
    cases k with
    | zero => simp [flat]
    | succ k =>
      have h0 : (E.c a).drop ((k + 1) * E.s) = [] := List.drop_eq_nil_of_le (by rw [E.len, Nat.add_mul]; omega)
      rw [List.drop_succ_cons, flat_cons, ih, List.drop_append, E.len, h0, show (k + 1) * E.s - E.s = k * E.s by rw [Nat.add_mul]; omega]
      rfl
end
/-- A slice value that reads as these things. -/
def Rd {α : Type} (E : Enc α) (w : World) (v : Value) (L : List α) : Prop := Src w E.s v L.length (flat E L)
/-- A slice value that owns these things, in a block from B on. -/
def Ow {α : Type} (E : Enc α) (e : TypeId) (w : World) (B : Nat) (v : Value) (L : List α) : Prop := w.ownsRow B e E.s v L.length (flat E L)
section
variable {α : Type} {E : Enc α} {L M : List α} {a : α} {k j B : Nat} {e : TypeId} {w w' : World} {v : Value} {S : List Nat}
theorem Rd.nil (E : Enc α) (w : World) (c : Nat) : Rd E w (.slice none 0 c) [] := ⟨by simp [flat], none, c, rfl, by simp [flat]⟩
theorem Ow.nil (E : Enc α) (e : TypeId) (w : World) (B : Nat) : Ow E e w B (.slice none 0 0) [] := own_nil _ _ _ _
theorem Ow.rd (h : Ow E e w B v L) : Rd E w v L := Src.of_own h
theorem Rd.upd (h : Rd E w v L) (hu : Upd S w w') (hS : ∀ b, v.ownBlock = some b → b ∉ S) : Rd E w' v L := Src.upd h hu hS
theorem Rd.upd0 (h : Rd E w v L) (hu : Upd [] w w') : Rd E w' v L := Src.upd0 h hu
theorem Ow.upd (h : Ow E e w B v L) (hu : Upd S w w') (hS : ∀ b, v.ownBlock = some b → b ∉ S) : Ow E e w' B v L := own_upd h hu hS
theorem Ow.upd0 (h : Ow E e w B v L) (hu : Upd [] w w') : Ow E e w' B v L := own_upd0 h hu
theorem Rd.form (h : Rd E w v L) : ∃ A c, v = .slice A L.length c := by
  obtain ⟨_, A, c, e, _⟩ := h
  exact ⟨A, c, e⟩
theorem Ow.form (h : Ow E e w B v L) : ∃ A c, v = .slice A L.length c ∧ L.length ≤ c ∧ c ≤ maxLen := own_slice h
/-- The cells of the k-th one. -/
theorem Rd.at_ {A : Option Addr} {n c : Nat} (h : Rd E w (.slice A n c) L) (hk : L[k]? = some a) : ∃ ad : Addr, A = some ad ∧ ad.block < w.heap.size ∧ ∀ j u, (E.c a)[j]? = some u → w.cell? (ad.add (k * E.s + j)) = some u := by
  obtain ⟨h1, A', c', he, h2⟩ := h
  injection he with hA _ _
  subst hA
  have h0 := E.pos
  have hl := E.len a
  obtain ⟨u, hu⟩ : ∃ u, (E.c a)[0]? = some u := ⟨_, List.getElem?_eq_getElem (by omega)⟩
  obtain ⟨ad, rfl, hb, _⟩ := h2 (k * E.s + 0) u ((flat_get hk h0).trans hu)
  refine ⟨ad, rfl, hb, fun j u hj => ?_⟩
  have hjl : j < E.s := by have := (List.getElem?_eq_some_iff.1 hj).1; omega
  obtain ⟨ad', e, _, hc⟩ := h2 (k * E.s + j) u ((flat_get hk hjl).trans hj)
  cases e
  exact hc
theorem Ow.at_ {g n c : Nat} (h : Ow E e w B (.slice (some ⟨g, 0, none⟩) n c) L) (hk : L[k]? = some a) : ∀ j u, (E.c a)[j]? = some u → w.cell? ⟨g, k * E.s + j, none⟩ = some u := by
  intro j u hj
  have hjl : j < E.s := by have := (List.getElem?_eq_some_iff.1 hj).1; rw [E.len] at this; exact this
  have hn : n = L.length := by
    obtain ⟨A, c', he, _⟩ := own_slice h
    injection he
  subst hn
  exact own_cell h _ u ((flat_get hk hjl).trans hj)
theorem Rd.take {A : Option Addr} {n c : Nat} (h : Rd E w (.slice A n c) L) (k : Nat) (hk : k ≤ L.length) (c' : Nat) : Rd E w (.slice A k c') (L.take k) := by
  have hn : n = L.length := by
    obtain ⟨_, A', c2, he, _⟩ := h
    injection he
  subst hn
  unfold Rd
  rw [flat_take, List.length_take, Nat.min_eq_left hk]
  exact Src.take h k hk c'
theorem Rd.drop {A : Option Addr} {n c : Nat} (h : Rd E w (.slice A n c) L) (k : Nat) (hk : k ≤ L.length) (hc : n ≤ c) (c' : Nat) : Rd E w (.slice (if c = k then A else A.map (·.add (k * E.s))) (n - k) c') (L.drop k) := by
  have hn : n = L.length := by
    obtain ⟨_, A', c2, he, _⟩ := h
    injection he
  subst hn
  unfold Rd
  rw [flat_drop, List.length_drop]
  exact Src.drop h k hk hc c'
end

/-- From w to w' only blocks of F, and new ones, have turned; F' are of F, or new. -/
structure Frm (F F' : List Nat) (w w' : World) : Prop where
  upd : Upd F w w'
  sub : ∀ k ∈ F', k ∈ F ∨ w.heap.size ≤ k
def Disj (F G : List Nat) : Prop := ∀ k ∈ F, k ∉ G
section
variable {F F' F'' G : List Nat} {w w' w0 w1 : World} {B : Nat}
theorem Frm.refl (F : List Nat) (w : World) : Frm F F w w := ⟨.refl _ _, fun _ h => .inl h⟩
theorem Frm.trans (h : Frm F F' w w1) (h' : Frm F' F'' w1 w') : Frm F F'' w w' :=
  ⟨h.upd.trans' h'.upd h.sub, fun k hk => (h'.sub k hk).elim (h.sub k) (fun g => .inr (Nat.le_trans h.upd.size g))⟩
theorem Frm.of0 (h : Upd [] w w') : Frm F F w w' := ⟨h.mono (by simp), fun _ h => .inl h⟩
theorem Frm.pre (h0 : Upd [] w0 w) (h : Frm F F' w w') : Frm F F' w0 w' := (Frm.of0 h0).trans h
theorem Frm.post (h : Frm F F' w w') (h0 : Upd [] w' w1) : Frm F F' w w1 := h.trans (.of0 h0)
theorem Disj.symm (h : Disj F G) : Disj G F := fun k hk hf => h k hf hk
theorem Frm.disj (h : Frm F F' w w') (hd : Disj F G) (hG : ∀ k ∈ G, k < w.heap.size) : Disj F' G := fun k hk hg => (h.sub k hk).elim (fun hf => hd k hf hg) (fun hs => by have := hG k hg; omega)
theorem Frm.base (h : Frm F F' w w') (hB : ∀ k ∈ F, B ≤ k) (hw : B ≤ w.heap.size) : ∀ k ∈ F', B ≤ k := fun k hk => (h.sub k hk).elim (hB k) (fun hs => Nat.le_trans hw hs)
/-- What the call made, and turns: the rest stays. -/
theorem Frm.rest (h : Frm F F' w w') (h0 : Upd [] w0 w) (hF : ∀ k ∈ F, w0.heap.size ≤ k) : Upd [] w0 w' := h0.trans' h.upd (fun k hk => .inr (hF k hk))
theorem Upd.rest (h : Upd F w w') (h0 : Upd [] w0 w) (hF : ∀ k ∈ F, w0.heap.size ≤ k) : Upd [] w0 w' := h0.trans' h (fun k hk => .inr (hF k hk))
end
end Go.Proofs.YtkldpdldjalpeaaGreatDoor

namespace Go.Proofs.YtkldpdldjalpeaaGreatDoor
open Go

/-- Operations that only compute, or read. -/
def lightOp : Op → Bool
  | .move _ | .assign _ | .pick .. | .load .. | .nilCheck _ | .binOp .. | .unOp .. | .fieldAddr .. | .field .. | .indexAddr .. | .index .. | .extract .. | .slice .. | .makeInterface .. | .lookup .. | .typeAssert .. | .convert .. | .makeFunc .. => true
  | .call { callee := .builtin .len, .. } | .call { callee := .builtin .cap, .. } | .call { callee := .builtin .min, .. } | .call { callee := .builtin .max, .. } => true
  | _ => false
/-- A copy that waits for nothing. -/
def isFloat (o : Oper) : Bool := (match o.op with | .move _ => true | _ => false) && o.guard.isNone && o.after.all (fun e => !Region.binds .any e)

/-- One light operation: it yields a value and leaves the world alone. -/
def litStep (r : Result Next) (w : World) (K : Value → Prop) : Prop :=
  match r with
  | .ok (.value v) w' => w' = w ∧ K v
  | _ => False
theorem litStep_value (v : Value) (w' w : World) (K : Value → Prop) : litStep (.ok (.value v) w') w K = (w' = w ∧ K v) := rfl

section
variable (P : Program) (ops : Array Oper) (Q : Exit → Act → World → Prop)
/-- These operations one behind the other. -/
def wpF : List Oper → Act → World → Prop
  | [], a, w => Q .normal a w
  | o :: l, a, w =>
    if Region.wanted o (yielded ops a.tmps) then (if lightOp o.op then litStep ((execOp a.eval o).run P w) w (fun v => wpF l (a.put o.dst v) w) else o.wp P a w (wpF l) Q) else wpF l (a.put o.dst undef) w
/-- The same by their numbers. -/
def wpI : List Nat → Act → World → Prop
  | [], a, w => Q .normal a w
  | i :: l, a, w => match ops[i]? with
    | none => False
    | some o => if Region.wanted o (yielded ops a.tmps) then (if lightOp o.op then litStep ((execOp a.eval o).run P w) w (fun v => wpI l (a.put o.dst v) w) else o.wp P a w (wpI l) Q) else wpI l (a.put o.dst undef) w
def dstOf (i : Nat) : Option Tmp := (ops[i]?).bind (·.dst)
def lookOf (i : Nat) : List Tmp := match ops[i]? with | some o => o.looksAt ops | none => []
def lightAt (i : Nat) : Bool := match ops[i]? with | some o => lightOp o.op | none => false
def depB (j x : Nat) : Bool := match ops[j]? with | some o => o.after.any (fun e => Region.binds .any e && e.on == x) | none => false
def depsBack (j : Nat) : Bool := match ops[j]? with | some o => o.after.all (fun e => !Region.binds .any e || decide (e.on < j)) | none => false
def pairOk (x j : Nat) : Bool :=
  (match dstOf ops x with | some d => (dstOf ops j != some d) && (!(lookOf ops j).contains d || depB ops j x) | none => true) &&
  (match dstOf ops j with | some d => !(lookOf ops x).contains d || depB ops j x | none => true)
/-- What is asked of the operations that are left when the copies are done. -/
def okR (R : List Nat) : Bool :=
  R.all (fun j => decide (j < ops.size) && depsBack ops j) &&
  R.all (fun h => lightAt ops h || R.all fun j => decide (j ≤ h) || R.any fun y => decide (h ≤ y) && depB ops j y) &&
  R.all (fun h => lightAt ops h || R.all fun x => decide (h ≤ x) || R.any fun y => decide (x < y) && decide (y ≤ h) && depB ops y x) &&
  R.all (fun j => !lightAt ops j || R.all fun x => !decide (x < j) || !lightAt ops x || pairOk ops x j)
def floats : List Nat := (List.range ops.size).filter fun i => ((ops[i]?).map isFloat).getD false
def others : List Nat := (List.range ops.size).filter fun i => !((ops[i]?).map isFloat).getD false
def markAll : List Nat → Array Bool → Array Bool
  | [], L => L
  | i :: l, L => markAll l (L.setIfInBounds i true)
def floatsOk : List Nat → Array Bool → Bool
  | [], _ => true
  | i :: l, L => (match ops[i]? with | some o => isFloat o | none => false) && Region.free .any ops L i && (Region.ready .any ops L).contains i && floatsOk l (L.setIfInBounds i true)
def forcedB : Bool := Region.noSelect ops && okR ops (others ops) && floatsOk ops (floats ops) (Array.replicate ops.size false)
end

section
variable {P : Program} {ops : Array Oper} {Q : Exit → Act → World → Prop}

theorem put_get_other {a : Act} {d : Option Tmp} {v : Value} {t : Tmp} (h : d ≠ some t) : (a.put d v).tmps[t]? = a.tmps[t]? := by
  cases d with
  | none => rfl
  | some e => simp only [Act.put]; rw [Array.getElem?_setIfInBounds_ne (fun he => h (by rw [he]))]
theorem put_size (a : Act) (d : Option Tmp) (v : Value) : (a.put d v).tmps.size = a.tmps.size := by
  cases d <;> simp [Act.put]
theorem put_get_same {a b : Act} {t : Tmp} {v : Value} (hs : a.tmps.size = b.tmps.size) : (a.put (some t) v).tmps[t]? = (b.put (some t) v).tmps[t]? := by
  simp only [Act.put, Array.getElem?_setIfInBounds_self]
  simp [hs]
def putX (ops : Array Oper) (V : Nat → Value) (X : Nat → Bool) : List Nat → Act → Act
  | [], a => a
  | i :: l, a => putX ops V X l (if X i then a.put (dstOf ops i) (V i) else a)
theorem putX_get {V : Nat → Value} {X Y : Nat → Bool} {t : Tmp} : ∀ (l : List Nat) (a b : Act), (∀ x ∈ l, dstOf ops x = some t → X x = Y x) → a.tmps[t]? = b.tmps[t]? → a.tmps.size = b.tmps.size → (putX ops V X l a).tmps[t]? = (putX ops V Y l b).tmps[t]?
  | [], _, _, _, h, _ => h
  | i :: l, a, b, hx, h, hs => by
    unfold putX
    refine putX_get l _ _ (fun x hm => hx x (List.mem_cons_of_mem _ hm)) ?_ ?_
    · by_cases hd : dstOf ops i = some t
      · rw [hx i (List.mem_cons_self ..) hd, hd]
        split
        · exact put_get_same hs
        · exact h
      · split <;> split <;> simp only [put_get_other hd, h]
    · split <;> split <;> simp only [put_size, hs]
theorem putX_congr {V V' : Nat → Value} {X Y : Nat → Bool} : ∀ (l : List Nat) (a : Act), (∀ x ∈ l, X x = Y x) → (∀ x ∈ l, V x = V' x) → putX ops V X l a = putX ops V' Y l a
  | [], _, _, _ => rfl
  | i :: l, a, hx, hv => by
    unfold putX
    rw [hx i (List.mem_cons_self ..), hv i (List.mem_cons_self ..)]
    exact putX_congr l _ (fun x hm => hx x (List.mem_cons_of_mem _ hm)) (fun x hm => hv x (List.mem_cons_of_mem _ hm))
theorem putX_none {V : Nat → Value} {X : Nat → Bool} : ∀ (l : List Nat) (a : Act), (∀ x ∈ l, X x = false) → putX ops V X l a = a
  | [], _, _ => rfl
  | i :: l, a, hx => by
    unfold putX
    rw [hx i (List.mem_cons_self ..)]
    exact putX_none l a fun x hm => hx x (List.mem_cons_of_mem _ hm)
theorem putX_out {V : Nat → Value} {X : Nat → Bool} {d : Option Tmp} {v : Value} : ∀ (l : List Nat) (a : Act), (∀ x ∈ l, ∀ t, d = some t → dstOf ops x ≠ some t) → putX ops V X l (a.put d v) = (putX ops V X l a).put d v
  | [], _, _ => rfl
  | i :: l, a, hx => by
    unfold putX
    split
    · rw [Act.put_comm a v (V i) (fun t ht => hx i (List.mem_cons_self ..) t ht)]
      exact putX_out l _ fun x hm => hx x (List.mem_cons_of_mem _ hm)
    · exact putX_out l _ fun x hm => hx x (List.mem_cons_of_mem _ hm)
theorem putX_add {V : Nat → Value} {X : Nat → Bool} {j : Nat} (hX : X j = false) : ∀ (l : List Nat) (a : Act), j ∈ l → l.Nodup → (∀ x ∈ l, x ≠ j → ∀ t, dstOf ops j = some t → dstOf ops x ≠ some t) →
    putX ops V (fun x => X x || x == j) l a = (putX ops V X l a).put (dstOf ops j) (V j)
  | [], _, hm, _, _ => by simp at hm
  | i :: l, a, hm, hn, hd => by
    rw [List.nodup_cons] at hn
    by_cases hij : i = j
    · subst hij
      unfold putX
      rw [hX]
      simp only [beq_self_eq_true, Bool.or_true, if_true, Bool.false_eq_true, if_false]
      rw [putX_congr (V' := V) (Y := X) l _ (fun x hx => by
        have : x ≠ i := fun e => hn.1 (e ▸ hx)
        simp [this]) (fun _ _ => rfl)]
      exact putX_out l a fun x hx t ht => hd x (List.mem_cons_of_mem _ hx) (fun e => hn.1 (e ▸ hx)) t ht
    · have hm' : j ∈ l := by
        rcases List.mem_cons.1 hm with h | h
        · exact absurd h.symm hij
        · exact h
      unfold putX
      rw [show (X i || i == j) = X i by simp [hij]]
      exact putX_add hX l _ hm' hn.2 fun x hx => hd x (List.mem_cons_of_mem _ hx)

/-- In the order of the text these light operations yield these values. -/
def segOK (P : Program) (ops : Array Oper) (w : World) (V : Nat → Value) (seg : List Nat) (a : Act) : Prop := ∀ j ∈ seg, ∀ o, ops[j]? = some o →
  (Region.wanted o (yielded ops (putX ops V (fun x => decide (x < j)) seg a).tmps) = true ∧ (execOp (putX ops V (fun x => decide (x < j)) seg a).eval o).run P w = .ok (.value (V j)) w) ∨
  (Region.wanted o (yielded ops (putX ops V (fun x => decide (x < j)) seg a).tmps) = false ∧ V j = undef)

theorem seg_of {w : World} {l' : List Nat} : ∀ (seg : List Nat) (a : Act), seg.Pairwise (· < ·) → (∀ x ∈ seg, lightAt ops x = true) → wpI P ops Q (seg ++ l') a w →
    ∃ V, segOK P ops w V seg a ∧ wpI P ops Q l' (putX ops V (fun _ => true) seg a) w
  | [], a, _, _, h => ⟨fun _ => undef, fun j hj => by simp at hj, h⟩
  | i :: seg, a, hp, hl, h => by
    rw [List.pairwise_cons] at hp
    have hli := hl i (List.mem_cons_self ..)
    rw [List.cons_append] at h
    unfold wpI at h
    unfold lightAt at hli
    cases hoi : ops[i]? with
    | none => rw [hoi] at h; exact h.elim
    | some o =>
      rw [hoi] at h hli
      simp only at h hli
      have key : ∀ v, wpI P ops Q (seg ++ l') (a.put o.dst v) w → ((Region.wanted o (yielded ops a.tmps) = true ∧ (execOp a.eval o).run P w = .ok (.value v) w) ∨ (Region.wanted o (yielded ops a.tmps) = false ∧ v = undef)) →
          ∃ V, segOK P ops w V (i :: seg) a ∧ wpI P ops Q l' (putX ops V (fun _ => true) (i :: seg) a) w := by
        intro v hv hy
        obtain ⟨V', hok, hw⟩ := seg_of seg (a.put o.dst v) hp.2 (fun x hx => hl x (List.mem_cons_of_mem _ hx)) hv
        have hd : dstOf ops i = o.dst := by simp [dstOf, hoi]
        have hVV : ∀ x ∈ seg, (fun x => if x = i then v else V' x) x = V' x := fun x hx => by
          have : x ≠ i := by have := hp.1 x hx; omega
          simp [this]
        refine ⟨fun x => if x = i then v else V' x, ?_, ?_⟩
        · intro j hj oj hoj
          rcases List.mem_cons.1 hj with rfl | hj
          · have e : putX ops (fun x => if x = j then v else V' x) (fun x => decide (x < j)) (j :: seg) a = a := putX_none _ _ (by
              intro x hx
              rcases List.mem_cons.1 hx with rfl | hx
              · simp
              · have := hp.1 x hx; simp; omega)
            rw [e]
            rw [hoi] at hoj
            cases hoj
            simpa using hy
          · have hij := hp.1 j hj
            have e : putX ops (fun x => if x = i then v else V' x) (fun x => decide (x < j)) (i :: seg) a = putX ops V' (fun x => decide (x < j)) seg (a.put o.dst v) := by
              conv => lhs; unfold putX
              simp only [decide_eq_true hij, if_true, hd]
              exact putX_congr _ _ (fun _ _ => rfl) hVV
            rw [e]
            have := hok j hj oj hoj
            have hne : j ≠ i := by omega
            simpa [hne] using this
        · have e : putX ops (fun x => if x = i then v else V' x) (fun _ => true) (i :: seg) a = putX ops V' (fun _ => true) seg (a.put o.dst v) := by
            conv => lhs; unfold putX
            simp only [if_true, hd]
            exact putX_congr _ _ (fun _ _ => rfl) hVV
          rw [e]
          exact hw
      cases hw : Region.wanted o (yielded ops a.tmps) with
      | true =>
        rw [hw] at h
        simp only [if_true, hli] at h
        unfold litStep at h
        cases hr : (execOp a.eval o).run P w with
        | ok n w' =>
          rw [hr] at h
          cases n with
          | value v =>
            obtain ⟨rfl, h⟩ := h
            exact key v h (.inl ⟨hw, hr⟩)
          | _ => exact h.elim
        | halt x w' => rw [hr] at h; exact h.elim
      | false =>
        rw [hw] at h
        simp only [Bool.false_eq_true, if_false] at h
        exact key undef h (.inr ⟨hw, rfl⟩)
end
end Go.Proofs.YtkldpdldjalpeaaGreatDoor

namespace Go.Proofs.YtkldpdldjalpeaaGreatDoor
open Go Go.RowKit

section
variable {P : Program} {ops : Array Oper} {Q : Exit → Act → World → Prop}

theorem look_congr {o : Oper} {a b : Act} (h : ∀ t ∈ o.looksAt ops, a.tmps[t]? = b.tmps[t]?) (hs : ∀ (cs : Array SelectCase) (b : Bool), o.op ≠ .select cs b) :
    execOp a.eval o = execOp b.eval o ∧ Region.wanted o (yielded ops a.tmps) = Region.wanted o (yielded ops b.tmps) := by
  constructor
  · refine execOp_congr o hs fun x hx => ?_
    cases x with
    | tmp t =>
      have := h t (List.mem_append_left _ (List.mem_filterMap.2 ⟨.tmp t, by simpa using hx, rfl⟩))
      simp only [Act.eval, Array.getD_eq_getD_getElem?, this]
    | _ => rfl
  · unfold Region.wanted
    cases hg : o.guard with
    | none => rfl
    | some p =>
      obtain ⟨g, want⟩ := p
      simp only
      unfold yielded
      cases hd : (ops[g]?).bind (·.dst) with
      | none => rfl
      | some t =>
        have := h t (List.mem_append_right _ (by rw [hg]; simp only; rw [hd]; simp))
        simp only [Option.bind_some, this]

theorem mem_ready {L : Array Bool} {j : Nat} : j ∈ Region.ready .any ops L ↔ j < ops.size ∧ L.getD j true = false ∧ ∀ x, depB ops j x = true → L.getD x false = true := by
  unfold Region.ready depB
  rw [List.mem_filter, List.mem_range]
  constructor
  · rintro ⟨hj, h⟩
    rw [Bool.and_eq_true] at h
    refine ⟨hj, by simpa using h.1, fun x hx => ?_⟩
    rw [Array.getElem?_eq_getElem hj] at h hx
    simp only [Option.map_some, Option.getD_some, Array.all_eq_true, Array.any_eq_true] at h hx
    obtain ⟨i, hi, he⟩ := hx
    rw [Bool.and_eq_true] at he
    have := h.2 i hi
    rw [Bool.or_eq_true] at this
    have hx : ops[j].after[i].on = x := by simpa using he.2
    rcases this with h1 | h1
    · rw [he.1] at h1; simp at h1
    · rwa [hx] at h1
  · rintro ⟨hj, h1, h2⟩
    refine ⟨hj, ?_⟩
    rw [Array.getElem?_eq_getElem hj] at h2 ⊢
    simp only [Option.map_some, Option.getD_some] at h2 ⊢
    rw [Bool.and_eq_true]
    refine ⟨by simp [h1], ?_⟩
    rw [Array.all_eq_true]
    intro i hi
    cases hb : Region.binds .any ops[j].after[i] with
    | false => simp
    | true =>
      have := h2 ops[j].after[i].on (by
        rw [Array.any_eq_true]
        exact ⟨i, hi, by simp [hb]⟩)
      simp [this]

structure Okay (ops : Array Oper) (R : List Nat) : Prop where
  lt : ∀ j ∈ R, j < ops.size
  back : ∀ j ∈ R, ∀ x, depB ops j x = true → x < j
  after : ∀ h ∈ R, lightAt ops h = false → ∀ j ∈ R, h < j → ∃ y ∈ R, h ≤ y ∧ depB ops j y = true
  ahead : ∀ h ∈ R, lightAt ops h = false → ∀ x ∈ R, x < h → ∃ y ∈ R, x < y ∧ y ≤ h ∧ depB ops y x = true
  pair : ∀ j ∈ R, lightAt ops j = true → ∀ x ∈ R, x < j → lightAt ops x = true → pairOk ops x j = true
  sorted : R.Pairwise (· < ·)

theorem okay_of {R : List Nat} (h : okR ops R = true) (hs : R.Pairwise (· < ·)) : Okay ops R := by
  unfold okR at h
  rw [Bool.and_eq_true, Bool.and_eq_true, Bool.and_eq_true] at h
  obtain ⟨⟨⟨h1, h2⟩, h3⟩, h4⟩ := h
  rw [List.all_eq_true] at h1 h2 h3 h4
  refine ⟨fun j hj => ?_, fun j hj x hx => ?_, fun h hh hl j hj hlt => ?_, fun h hh hl x hx hlt => ?_, fun j hj hl x hx hlt hlx => ?_, hs⟩
  · have := h1 j hj
    rw [Bool.and_eq_true] at this
    simpa using this.1
  · have := h1 j hj
    rw [Bool.and_eq_true] at this
    have h5 := this.2
    unfold depsBack at h5
    unfold depB at hx
    cases ho : ops[j]? with
    | none => rw [ho] at hx; simp at hx
    | some o =>
      rw [ho] at hx h5
      simp only [Array.all_eq_true, Array.any_eq_true] at hx h5
      obtain ⟨i, hi, he⟩ := hx
      rw [Bool.and_eq_true] at he
      have := h5 i hi
      rw [Bool.or_eq_true] at this
      have hxe : o.after[i].on = x := by simpa using he.2
      rcases this with h6 | h6
      · rw [he.1] at h6; simp at h6
      · rw [hxe] at h6; simpa using h6
  · have := h2 h hh
    rw [Bool.or_eq_true, hl] at this
    rcases this with h5 | h5
    · cases h5
    · rw [List.all_eq_true] at h5
      have := h5 j hj
      rw [Bool.or_eq_true] at this
      rcases this with h6 | h6
      · have : j ≤ h := by simpa using h6
        omega
      · rw [List.any_eq_true] at h6
        obtain ⟨y, hy, he⟩ := h6
        rw [Bool.and_eq_true] at he
        exact ⟨y, hy, by simpa using he.1, he.2⟩
  · have := h3 h hh
    rw [Bool.or_eq_true, hl] at this
    rcases this with h5 | h5
    · cases h5
    · rw [List.all_eq_true] at h5
      have := h5 x hx
      rw [Bool.or_eq_true] at this
      rcases this with h6 | h6
      · have : h ≤ x := by simpa using h6
        omega
      · rw [List.any_eq_true] at h6
        obtain ⟨y, hy, he⟩ := h6
        rw [Bool.and_eq_true, Bool.and_eq_true] at he
        exact ⟨y, hy, by simpa using he.1.1, by simpa using he.1.2, he.2⟩
  · have := h4 j hj
    rw [Bool.or_eq_true, hl] at this
    rcases this with h5 | h5
    · cases h5
    · rw [List.all_eq_true] at h5
      have := h5 x hx
      rw [Bool.or_eq_true, Bool.or_eq_true, hlx] at this
      rcases this with (h6 | h6) | h6
      · simp at h6; omega
      · cases h6
      · exact h6

theorem mem_takeWhile_true (p : Nat → Bool) : ∀ (l : List Nat) (a : Nat), a ∈ l.takeWhile p → p a = true
  | [], a, h => by simp at h
  | b :: l, a, h => by
    rw [List.takeWhile_cons] at h
    split at h
    · rcases List.mem_cons.1 h with rfl | h
      · assumption
      · exact mem_takeWhile_true p l a h
    · simp at h
theorem getD_size {L : Array Bool} {i : Nat} (h : i < L.size) (b c : Bool) : L.getD i b = L.getD i c := by
  simp [Array.getD_eq_getD_getElem?, Array.getElem?_eq_getElem h]

theorem forced_main {R : List Nat} (ok : Okay ops R) (hsel : ∀ (j : Nat) (o : Oper) (cs : Array SelectCase) (b : Bool), ops[j]? = some o → o.op ≠ .select cs b) : ∀ (fuel : Nat) (pre seg l' : List Nat) (X : Nat → Bool) (L : Array Bool) (a : Act) (w : World) (V : Nat → Value),
    R = pre ++ (seg ++ l') → (∀ x ∈ seg, lightAt ops x = true) → (∀ h l'', l' = h :: l'' → lightAt ops h = false) → L.size = ops.size →
    (∀ i, i < ops.size → (L.getD i true = false ↔ (i ∈ seg ∧ X i = false) ∨ i ∈ l')) →
    (∀ y x, y < ops.size → L.getD y true = true → depB ops y x = true → L.getD x false = true) →
    segOK P ops w V seg a → wpI P ops Q l' (putX ops V (fun _ => true) seg a) w →
    (seg.filter (fun x => !X x)).length + l'.length ≤ fuel → wpAny P .any ops Q fuel L (putX ops V X seg a) w := by
  intro fuel
  induction fuel with
  | zero =>
    intro pre seg l' X L a w V hR hlit hhv hsz hL hcl hseg hw hf
    have hl0 : l' = [] := List.length_eq_zero_iff.1 (by omega)
    have hf0 : seg.filter (fun x => !X x) = [] := List.length_eq_zero_iff.1 (by omega)
    have hX : ∀ x ∈ seg, X x = true := fun x hx => by
      rw [List.filter_eq_nil_iff] at hf0
      have := hf0 x hx
      simpa using this
    subst hl0
    refine ⟨?_, ?_⟩
    · rw [List.eq_nil_iff_forall_not_mem]
      intro j hj
      obtain ⟨hjn, hun, _⟩ := mem_ready.1 hj
      rcases (hL j hjn).1 hun with ⟨h1, h2⟩ | h
      · rw [hX j h1] at h2; cases h2
      · simp at h
    · unfold wpI at hw
      rwa [putX_congr (V' := V) (Y := fun _ => true) seg a hX (fun _ _ => rfl)]
  | succ fuel ih =>
    intro pre seg l' X L a w V hR hlit hhv hsz hL hcl hseg hw hf
    have hsorted := ok.sorted
    rw [hR, List.pairwise_append] at hsorted
    obtain ⟨_, hs2, _⟩ := hsorted
    rw [List.pairwise_append] at hs2
    obtain ⟨hs3, hs4, hs5⟩ := hs2
    have memR : ∀ x, x ∈ seg ∨ x ∈ l' → x ∈ R := fun x hx => by
      rw [hR]
      rcases hx with h | h
      · exact List.mem_append_right _ (List.mem_append_left _ h)
      · exact List.mem_append_right _ (List.mem_append_right _ h)
    have hnd : seg.Nodup := hs3.imp (fun h e => by omega)
    have hpre : ∀ x ∈ pre, ∀ y, y ∈ seg ∨ y ∈ l' → x < y := fun x hx y hy => by
      have := ok.sorted
      rw [hR, List.pairwise_append] at this
      refine this.2.2 x hx y ?_
      rcases hy with h | h
      · exact List.mem_append_left _ h
      · exact List.mem_append_right _ h
    have unl : ∀ x, x ∈ seg → X x = false → L.getD x true = false := fun x hx hX => (hL x (ok.lt x (memR x (.inl hx)))).2 (.inl ⟨hx, hX⟩)
    have unl' : ∀ x, x ∈ l' → L.getD x true = false := fun x hx => (hL x (ok.lt x (memR x (.inr hx)))).2 (.inr hx)
    have lis : ∀ x, x ∈ seg → L.getD x false = true → X x = true := fun x hx h => by
      cases hX : X x with
      | true => rfl
      | false =>
        have := unl x hx hX
        rw [getD_size (by rw [hsz]; exact ok.lt x (memR x (.inl hx))) true false, h] at this
        cases this
    have lis2 : ∀ x, x ∈ seg → X x = true → L.getD x true = true := fun x hx h => by
      cases hc : L.getD x true with
      | true => rfl
      | false =>
        rcases (hL x (ok.lt x (memR x (.inl hx)))).1 hc with ⟨_, h2⟩ | h2
        · rw [h] at h2; cases h2
        · have := hs5 x hx x h2; omega
    refine ⟨fun hr => ?_, fun j hj => ?_⟩
    · -- nothing is ready: nothing is left
      have hno : ∀ m, m < ops.size → L.getD m true = true := by
        intro m
        induction m using Nat.strongRecOn with
        | _ m ihm =>
          intro hm
          cases hc : L.getD m true with
          | true => rfl
          | false =>
            exfalso
            have hmR : m ∈ R := by
              rcases (hL m hm).1 hc with ⟨h, _⟩ | h
              · exact memR m (.inl h)
              · exact memR m (.inr h)
            have : m ∈ Region.ready .any ops L := mem_ready.2 ⟨hm, hc, fun x hx => by
              have hxm := ok.back m hmR x hx
              have := ihm x hxm (by omega)
              rwa [getD_size (by rw [hsz]; omega) true false] at this⟩
            rw [hr] at this
            simp at this
      have hl0 : l' = [] := by
        rw [List.eq_nil_iff_forall_not_mem]
        intro x hx
        have h1 := unl' x hx
        rw [hno x (ok.lt x (memR x (.inr hx)))] at h1
        cases h1
      have hX : ∀ x ∈ seg, X x = true := fun x hx => by
        cases hc : X x with
        | true => rfl
        | false =>
          have h1 := unl x hx hc
          rw [hno x (ok.lt x (memR x (.inl hx)))] at h1
          cases h1
      subst hl0
      unfold wpI at hw
      rwa [putX_congr (V' := V) (Y := fun _ => true) seg a hX (fun _ _ => rfl)]
    · obtain ⟨hjn, hun, hdep⟩ := mem_ready.1 hj
      obtain ⟨o, ho⟩ : ∃ o, ops[j]? = some o := ⟨_, Array.getElem?_eq_getElem hjn⟩
      have hsz' : (L.setIfInBounds j true).size = ops.size := by simpa using hsz
      have get' : ∀ i b, (L.setIfInBounds j true).getD i b = if i = j then true else L.getD i b := fun i b => by
        simp only [Array.getD_eq_getD_getElem?, Array.getElem?_setIfInBounds]
        by_cases h : j = i
        · subst h; simp [hsz, hjn]
        · rw [if_neg h, if_neg (fun e => h e.symm)]
      have hcl' : ∀ y x, y < ops.size → (L.setIfInBounds j true).getD y true = true → depB ops y x = true → (L.setIfInBounds j true).getD x false = true := by
        intro y x hy h1 h2
        rw [get'] at h1 ⊢
        by_cases hxj : x = j
        · rw [if_pos hxj]
        · rw [if_neg hxj]
          by_cases hyj : y = j
          · subst hyj; exact hdep x h2
          · rw [if_neg hyj] at h1
            exact hcl y x hy h1 h2
      rcases (hL j hjn).1 hun with ⟨hjs, hXj⟩ | hjl
      · -- a light one
        have hjR := memR j (.inl hjs)
        have hlj := hlit j hjs
        have agree : ∀ t ∈ o.looksAt ops, (putX ops V X seg a).tmps[t]? = (putX ops V (fun x => decide (x < j)) seg a).tmps[t]? := by
          intro t ht
          refine putX_get seg a a (fun x hx hd => ?_) rfl rfl
          have htj : (lookOf ops j).contains t = true := by unfold lookOf; rw [ho]; simpa using ht
          rcases Nat.lt_trichotomy x j with h | h | h
          · have hp := ok.pair j hjR hlj x (memR x (.inl hx)) h (hlit x hx)
            unfold pairOk at hp
            rw [hd] at hp
            simp only [Bool.and_eq_true, Bool.or_eq_true, htj, Bool.not_true, Bool.false_eq_true, false_or] at hp
            rw [lis x hx (hdep x hp.1.2), decide_eq_true h]
          · subst h
            rw [hXj]
            simp
          · have hp := ok.pair x (memR x (.inl hx)) (hlit x hx) j hjR h hlj
            unfold pairOk at hp
            rw [hd] at hp
            simp only [Bool.and_eq_true, Bool.or_eq_true, htj, Bool.not_true, Bool.false_eq_true, false_or] at hp
            have hxj := hp.2
            rw [decide_eq_false (by omega)]
            cases hc : X x with
            | false => rfl
            | true =>
              have h1 := hcl x j (ok.lt x (memR x (.inl hx))) (lis2 x hx hc) hxj
              rw [getD_size (by rw [hsz]; exact hjn) false true, hun] at h1
              cases h1
        obtain ⟨he, hwt⟩ := look_congr agree (fun cs b => hsel j o cs b ho)
        have hdj : dstOf ops j = o.dst := by simp [dstOf, ho]
        have hadd : putX ops V (fun x => X x || x == j) seg a = (putX ops V X seg a).put o.dst (V j) := by
          rw [← hdj]
          refine putX_add hXj seg a hjs hnd fun x hx hne t ht => ?_
          rcases Nat.lt_or_gt_of_ne hne with h | h
          · have hp := ok.pair j hjR hlj x (memR x (.inl hx)) h (hlit x hx)
            unfold pairOk at hp
            intro hd
            rw [hd] at hp
            simp only [Bool.and_eq_true, ht] at hp
            simp at hp
          · have hp := ok.pair x (memR x (.inl hx)) (hlit x hx) j hjR h hlj
            unfold pairOk at hp
            intro hd
            rw [ht] at hp
            simp only [Bool.and_eq_true, hd] at hp
            simp at hp
        have hlen : (seg.filter (fun x => !(X x || x == j))).length + 1 ≤ (seg.filter (fun x => !X x)).length := by
          have h1 : (seg.filter (fun x => !(X x || x == j))).length = ((seg.filter (fun x => !X x)).filter (fun x => x != j)).length := by
            rw [List.filter_filter]
            congr 1
            apply List.filter_congr
            intro x _
            cases X x <;> cases h : x == j <;> simp [bne, h]
          have hmem : j ∈ seg.filter (fun x => !X x) := List.mem_filter.2 ⟨hjs, by simp [hXj]⟩
          have h2 : ((seg.filter (fun x => !X x)).filter (fun x => x != j)).length < (seg.filter (fun x => !X x)).length := by
            rw [List.length_filter_lt_length_iff_exists]
            exact ⟨j, hmem, by simp⟩
          omega
        have next : wpAny P .any ops Q fuel (L.setIfInBounds j true) ((putX ops V X seg a).put o.dst (V j)) w := by
          rw [← hadd]
          refine ih pre seg l' (fun x => X x || x == j) (L.setIfInBounds j true) a w V hR hlit hhv hsz' (fun i hi => ?_) hcl' hseg hw (by omega)
          rw [get']
          by_cases hij : i = j
          · subst hij
            rw [if_pos rfl]
            constructor
            · intro h; cases h
            · rintro (⟨_, h⟩ | h)
              · simp at h
              · have := hs5 i hjs i h; omega
          · rw [if_neg hij, hL i hi]
            simp [hij]
        have hs := hseg j hjs o ho
        unfold wpOp
        rw [ho]
        simp only
        rw [hwt]
        rcases hs with ⟨h1, h2⟩ | ⟨h1, h2⟩
        · rw [h1]
          simp only [if_true]
          left
          unfold Oper.wp
          rw [he, h2]
          exact next
        · rw [h1]
          simp only [Bool.false_eq_true, if_false]
          rw [h2] at next
          exact next
      · -- behind the light ones
        obtain ⟨h, l'', rfl⟩ : ∃ h l'', l' = h :: l'' := by
          cases l' with
          | nil => simp at hjl
          | cons h l'' => exact ⟨h, l'', rfl⟩
        have hheavy := hhv h l'' rfl
        have hhR := memR h (.inr (List.mem_cons_self ..))
        rw [List.pairwise_cons] at hs4
        have ge_l : ∀ y ∈ R, h ≤ y → y ∈ h :: l'' := fun y hy hle => by
          rw [hR] at hy
          rcases List.mem_append.1 hy with h1 | h1
          · have := hpre y h1 h (.inr (List.mem_cons_self ..)); omega
          · rcases List.mem_append.1 h1 with h2 | h2
            · have := hs5 y h2 h (List.mem_cons_self ..); omega
            · exact h2
        obtain rfl : j = h := by
          rcases List.mem_cons.1 hjl with h1 | h1
          · exact h1
          · exfalso
            obtain ⟨y, hy, hle, hd⟩ := ok.after h hhR hheavy j (memR j (.inr hjl)) (hs4.1 j h1)
            have h2 := unl' y (ge_l y hy hle)
            have h3 := hdep y hd
            rw [getD_size (by rw [hsz]; exact ok.lt y hy) false true, h2] at h3
            cases h3
        have hXall : ∀ m x, x ∈ seg → j - x ≤ m → X x = true := by
          intro m
          induction m with
          | zero => intro x hx hm; have := hs5 x hx j (List.mem_cons_self ..); omega
          | succ m ihm =>
            intro x hx hm
            have hlt := hs5 x hx j (List.mem_cons_self ..)
            obtain ⟨y, hy, hxy, hyj, hd⟩ := ok.ahead j hhR hheavy x (memR x (.inl hx)) hlt
            rcases Nat.lt_or_eq_of_le hyj with h1 | h1
            · have hys : y ∈ seg := by
                rw [hR] at hy
                rcases List.mem_append.1 hy with h2 | h2
                · have := hpre y h2 x (.inl hx); omega
                · rcases List.mem_append.1 h2 with h3 | h3
                  · exact h3
                  · rcases List.mem_cons.1 h3 with h4 | h4
                    · omega
                    · have := hs4.1 y h4; omega
              have hXy := ihm y hys (by omega)
              exact lis x hx (hcl y x (ok.lt y hy) (lis2 y hys hXy) hd)
            · subst h1
              exact lis x hx (hdep x hd)
        have hXs : ∀ x ∈ seg, X x = true := fun x hx => hXall (j - x) x hx (Nat.le_refl _)
        rw [putX_congr (V' := V) (Y := fun _ => true) seg a hXs (fun _ _ => rfl)]
        generalize putX ops V (fun _ => true) seg a = b at hw
        have next : ∀ a' w', wpI P ops Q l'' a' w' → wpAny P .any ops Q fuel (L.setIfInBounds j true) a' w' := by
          intro a' w' h'
          have hsplit : l'' = l''.takeWhile (lightAt ops) ++ l''.dropWhile (lightAt ops) := (List.takeWhile_append_dropWhile (p := lightAt ops) (l := l'')).symm
          have hl1 : ∀ x ∈ l''.takeWhile (lightAt ops), lightAt ops x = true := fun x hx => by
            exact mem_takeWhile_true _ _ x hx
          have hs6 := hs4.2
          rw [hsplit] at hs6 h'
          obtain ⟨V', hseg', hw'⟩ := seg_of _ a' (List.pairwise_append.1 hs6).1 hl1 h'
          have e0 : putX ops V' (fun _ => false) (l''.takeWhile (lightAt ops)) a' = a' := putX_none _ _ (fun _ _ => rfl)
          rw [← e0]
          refine ih (pre ++ (seg ++ [j])) (l''.takeWhile (lightAt ops)) (l''.dropWhile (lightAt ops)) (fun _ => false) (L.setIfInBounds j true) a' w' V' ?_ hl1 ?_ hsz' (fun i hi => ?_) hcl' hseg' hw' ?_
          · rw [← hsplit, hR]; simp
          · intro h2 l3 e
            have := List.head_dropWhile_not (lightAt ops) (l := l'') (by rw [e]; simp)
            simp only [e, List.head_cons] at this
            exact this
          · rw [get']
            have hmem : (i ∈ l''.takeWhile (lightAt ops) ∧ (fun _ : Nat => false) i = false) ∨ i ∈ l''.dropWhile (lightAt ops) ↔ i ∈ l'' := by
              conv => rhs; rw [hsplit]
              rw [List.mem_append]
              simp
            rw [hmem]
            by_cases hij : i = j
            · subst hij
              rw [if_pos rfl]
              constructor
              · intro h; cases h
              · intro h; have := hs4.1 i h; omega
            · rw [if_neg hij, hL i hi]
              constructor
              · rintro (⟨h1, h2⟩ | h1)
                · rw [hXs i h1] at h2; cases h2
                · rcases List.mem_cons.1 h1 with h2 | h2
                  · exact absurd h2 hij
                  · exact h2
              · intro h1; exact .inr (List.mem_cons_of_mem _ h1)
          · have h1 : ((l''.takeWhile (lightAt ops)).filter (fun x => !(fun _ : Nat => false) x)).length = (l''.takeWhile (lightAt ops)).length := by simp
            rw [h1, ← List.length_append, ← hsplit]
            simp only [List.length_cons] at hf
            omega
        unfold wpI at hw
        rw [ho] at hw
        simp only at hw
        unfold lightAt at hheavy
        rw [ho] at hheavy
        simp only at hheavy
        unfold wpOp
        rw [ho]
        simp only
        split
        · rename_i hwt
          rw [hwt, hheavy] at hw
          simp only [if_true, Bool.false_eq_true, if_false] at hw
          exact .inl (Oper.wp_mono next hw)
        · rename_i hwt
          rw [if_neg hwt] at hw
          exact next _ _ hw

def putM (ops : Array Oper) : List Nat → Act → Act
  | [], a => a
  | i :: l, a => putM ops l (match ops[i]? with | some o => (match o.op with | .move x => a.put o.dst (a.eval x) | _ => a) | none => a)

theorem floats_first (hsel : Region.noSelect ops = true) (hQ : ∀ c a d v w, Q (.panic c) (Act.put a d v) w → Q (.panic c) a w) : ∀ (F : List Nat) (L : Array Bool) (a : Act) (w : World) (fuel : Nat), floatsOk ops F L = true →
    wpAny P .any ops Q fuel (markAll F L) (putM ops F a) w → wpAny P .any ops Q (fuel + F.length) L a w
  | [], L, a, w, fuel, _, h => h
  | i :: F, L, a, w, fuel, hok, h => by
    unfold floatsOk at hok
    simp only [Bool.and_eq_true] at hok
    obtain ⟨⟨⟨h1, h2⟩, h3⟩, h4⟩ := hok
    cases ho : ops[i]? with
    | none => rw [ho] at h1; cases h1
    | some o =>
      rw [ho] at h1
      simp only at h1
      unfold isFloat at h1
      simp only [Bool.and_eq_true] at h1
      obtain ⟨⟨h5, h6⟩, h7⟩ := h1
      cases hop : o.op with
      | move x =>
        refine wpAny_take (v := a.eval x) ho hsel h2 h3 (fun c b w h => hQ c b o.dst _ w h) (.inl ⟨?_, fun W => ?_⟩) ?_
        · unfold Region.wanted
          rw [Option.isNone_iff_eq_none.1 h6]
        · obtain ⟨dst, op, type, pos, after, guard⟩ := o
          simp only at hop
          subst hop
          rfl
        · refine floats_first hsel hQ F _ _ w fuel h4 ?_
          unfold markAll putM at h
          rw [ho] at h
          simp only [hop] at h
          exact h
      | _ => rw [hop] at h5; cases h5

theorem wpF_I : ∀ (l : List Oper) (r : List Nat) (a : Act) (w : World), r.map (fun i => ops[i]?) = l.map some → wpF P ops Q l a w → wpI P ops Q r a w
  | [], r, a, w, hr, h => by
    have : r = [] := by cases r with
      | nil => rfl
      | cons x r => simp at hr
    subst this
    exact h
  | o :: l, [], a, w, hr, h => by simp at hr
  | o :: l, i :: r, a, w, hr, h => by
    simp only [List.map_cons, List.cons.injEq] at hr
    unfold wpF at h
    unfold wpI
    rw [hr.1]
    simp only
    split
    · rename_i hw
      rw [if_pos hw] at h
      split
      · rename_i hl
        rw [if_pos hl] at h
        unfold litStep at h ⊢
        split
        · rename_i v w' hr'
          rw [hr'] at h
          exact ⟨h.1, wpF_I l r _ _ hr.2 h.2⟩
        · rename_i hno
          revert h
          split
          · rename_i v w' hr'
            exact absurd hr' (hno v w')
          · exact fun h => h
      · rename_i hl
        rw [if_neg hl] at h
        exact Oper.wp_mono (fun a' w' h' => wpF_I l r a' w' hr.2 h') h
    · rename_i hw
      rw [if_neg hw] at h
      exact wpF_I l r _ _ hr.2 h

/-- The copies first, then what is left, in the order of the text. -/
def ordered (l : List Oper) : List Oper := l.filter isFloat ++ l.filter (fun o => !isFloat o)

theorem wpF_floats (w : World) (l : List Oper) : ∀ (F : List Oper) (r : List Nat) (a : Act), r.map (fun i => ops[i]?) = F.map some → (∀ o ∈ F, isFloat o = true) → wpF P ops Q (F ++ l) a w → wpF P ops Q l (putM ops r a) w
  | [], r, a, hr, _, h => by
    have : r = [] := by cases r with
      | nil => rfl
      | cons x r => simp at hr
    subst this
    exact h
  | o :: F, [], a, hr, _, h => by simp at hr
  | o :: F, i :: r, a, hr, hF, h => by
    simp only [List.map_cons, List.cons.injEq] at hr
    have hf := hF o (List.mem_cons_self ..)
    unfold isFloat at hf
    simp only [Bool.and_eq_true] at hf
    obtain ⟨⟨h5, h6⟩, h7⟩ := hf
    rw [List.cons_append] at h
    unfold wpF at h
    unfold putM
    rw [hr.1]
    simp only
    have hw : Region.wanted o (yielded ops a.tmps) = true := by
      unfold Region.wanted
      rw [Option.isNone_iff_eq_none.1 h6]
    rw [hw] at h
    cases hop : o.op with
    | move x =>
      rw [hop] at h
      have he : (execOp a.eval o).run P w = .ok (.value (a.eval x)) w := by
        obtain ⟨dst, op, type, pos, after, guard⟩ := o
        simp only at hop
        subst hop
        rfl
      rw [he] at h
      simp only [lightOp, if_true] at h
      exact wpF_floats w l F r _ hr.2 (fun o' h' => hF o' (List.mem_cons_of_mem _ h')) h.2
    | _ => rw [hop] at h5; cases h5

theorem markAll_size : ∀ (F : List Nat) (L : Array Bool), (markAll F L).size = L.size
  | [], _ => rfl
  | i :: F, L => by unfold markAll; rw [markAll_size F]; simp
theorem markAll_get : ∀ (F : List Nat) (L : Array Bool) (i : Nat) (b : Bool), i < L.size → ((markAll F L).getD i b = true ↔ i ∈ F ∨ L.getD i b = true)
  | [], L, i, b, hi => by simp [markAll]
  | j :: F, L, i, b, hi => by
    unfold markAll
    rw [markAll_get F _ i b (by simpa using hi)]
    simp only [Array.getD_eq_getD_getElem?, Array.getElem?_setIfInBounds]
    by_cases h : j = i
    · subst h; simp [hi]
    · rw [if_neg h]
      have : ¬ i = j := fun e => h e.symm
      simp [this]
theorem filter_map_get (l : List Oper) (p : Oper → Bool) : ((List.range l.length).filter (fun i => ((l[i]?).map p).getD false)).map (fun i => l[i]?) = (l.filter p).map some := by
  induction l with
  | nil => rfl
  | cons o l ih =>
    rw [List.length_cons, List.range_succ_eq_map, List.filter_cons, List.filter_cons]
    have e : (List.filter (fun i => (Option.map p (o :: l)[i]?).getD false) (List.map Nat.succ (List.range l.length))).map (fun i => (o :: l)[i]?) = (l.filter p).map some := by
      rw [List.filter_map, List.map_map]
      rw [← ih]
      rfl
    simp only [List.getElem?_cons_zero, Option.map_some, Option.getD_some]
    split
    · rw [List.map_cons, List.map_cons, e]; rfl
    · exact e

theorem filter_len (p : Nat → Bool) : ∀ l : List Nat, (l.filter p).length + (l.filter (fun x => !p x)).length = l.length
  | [] => rfl
  | x :: l => by
    have := filter_len p l
    rw [List.filter_cons, List.filter_cons]
    cases p x <;> simp <;> omega
/-- The theorem: a region that draws its order does what it does in the order of the text, if that is forced. -/
theorem wp_region_forced {id : Nat} {l : List Oper} {a : Act} {w : World} (hm : P.follows .mixedOrders = true) (hc : forcedB l.toArray = true) (hQ : ∀ c a d v w, Q (.panic c) (Act.put a d v) w → Q (.panic c) a w)
    (h : wpF P l.toArray Q (ordered l) a w.drew) : (Code.region id l.toArray true).wp P Q a w := by
  unfold forcedB at hc
  simp only [Bool.and_eq_true] at hc
  obtain ⟨⟨h1, h2⟩, h3⟩ := hc
  refine wp_region_any hm ?_
  have hfl : (floats l.toArray).map (fun i => l.toArray[i]?) = (l.filter isFloat).map some := by
    have := filter_map_get l isFloat
    simpa [floats] using this
  have hol : (others l.toArray).map (fun i => l.toArray[i]?) = (l.filter (fun o => !isFloat o)).map some := by
    have h0 := filter_map_get l (fun o => !isFloat o)
    have e : others l.toArray = (List.range l.length).filter (fun i => ((l[i]?).map (fun o => !isFloat o)).getD false) := by
      unfold others
      simp only [List.size_toArray, List.getElem?_toArray]
      apply List.filter_congr
      intro i hi
      rw [List.getElem?_eq_getElem (by simpa using hi)]
      rfl
    rw [e]
    simpa using h0
  have hw : wpI P l.toArray Q (others l.toArray) (putM l.toArray (floats l.toArray) a) w.drew :=
    wpF_I _ _ _ _ hol (wpF_floats w.drew _ _ _ a hfl (fun o ho => (List.mem_filter.1 ho).2) h)
  have hsorted : (others l.toArray).Pairwise (· < ·) := List.Pairwise.filter _ List.pairwise_lt_range
  have ok := okay_of h2 hsorted
  have hnum : (floats l.toArray).length + (others l.toArray).length = l.toArray.size := by
    unfold floats others
    have := filter_len (fun i => ((l.toArray[i]?).map isFloat).getD false) (List.range l.toArray.size)
    rw [List.length_range] at this
    exact this
  rw [show l.toArray.size = (others l.toArray).length + (floats l.toArray).length by omega]
  rw [show (others l.toArray).length + (floats l.toArray).length = l.toArray.size by omega]
  conv => arg 5; rw [show l.toArray.size = (others l.toArray).length + (floats l.toArray).length by omega]
  refine floats_first h1 hQ _ _ _ _ _ h3 ?_
  generalize putM l.toArray (floats l.toArray) a = b at hw
  have hsplit : others l.toArray = (others l.toArray).takeWhile (lightAt l.toArray) ++ (others l.toArray).dropWhile (lightAt l.toArray) := (List.takeWhile_append_dropWhile (p := lightAt l.toArray)).symm
  have hl1 : ∀ x ∈ (others l.toArray).takeWhile (lightAt l.toArray), lightAt l.toArray x = true := fun x hx => mem_takeWhile_true _ _ x hx
  have hs6 := hsorted
  rw [hsplit] at hs6 hw
  obtain ⟨V', hseg', hw'⟩ := seg_of _ b (List.pairwise_append.1 hs6).1 hl1 hw
  have e0 : putX l.toArray V' (fun _ => false) ((others l.toArray).takeWhile (lightAt l.toArray)) b = b := putX_none _ _ (fun _ _ => rfl)
  have hrep : ∀ (i : Nat) (c : Bool), i < l.toArray.size → (Array.replicate l.toArray.size false).getD i c = false := fun i c hi => by
    simp only [Array.getD_eq_getD_getElem?, Array.getElem?_replicate, if_pos hi, Option.getD_some]
  rw [← e0]
  refine forced_main ok (Region.noSelect_spec h1) _ [] _ _ (fun _ => false) _ b w.drew V' (by rw [List.nil_append, ← hsplit]) hl1 ?_ ?_ ?_ ?_ hseg' hw' ?_
  · intro h2 l3 e
    have := List.head_dropWhile_not (lightAt l.toArray) (l := others l.toArray) (by rw [e]; simp)
    simp only [e, List.head_cons] at this
    exact this
  · rw [markAll_size]; simp
  · intro i hi
    have hmem : (i ∈ (others l.toArray).takeWhile (lightAt l.toArray) ∧ (fun _ : Nat => false) i = false) ∨ i ∈ (others l.toArray).dropWhile (lightAt l.toArray) ↔ i ∈ others l.toArray := by
      conv => rhs; rw [hsplit]
      rw [List.mem_append]
      simp
    rw [hmem]
    have hg := markAll_get (floats l.toArray) (Array.replicate l.toArray.size false) i true (by simpa using hi)
    rw [hrep i true hi] at hg
    have hfo : i ∈ others l.toArray ↔ ¬ i ∈ floats l.toArray := by
      unfold floats others
      rw [List.mem_filter, List.mem_filter, List.mem_range]
      simp only [hi, true_and]
      cases ((l.toArray[i]?).map isFloat).getD false <;> simp
    rw [hfo]
    constructor
    · intro h4 h5
      rw [hg.2 (.inl h5)] at h4
      cases h4
    · intro h4
      cases hc : (markAll (floats l.toArray) (Array.replicate l.toArray.size false)).getD i true with
      | false => rfl
      | true =>
        rcases hg.1 hc with h5 | h5
        · exact absurd h5 h4
        · cases h5
  · intro y x hy h4 h5
    have hg := markAll_get (floats l.toArray) (Array.replicate l.toArray.size false) y true (by simpa using hy)
    rw [hrep y true hy] at hg
    rcases hg.1 h4 with h6 | h6
    · -- a copy waits for nothing
      exfalso
      unfold floats at h6
      rw [List.mem_filter] at h6
      have h7 := h6.2
      unfold depB at h5
      cases ho : l.toArray[y]? with
      | none => rw [ho] at h5; cases h5
      | some o =>
        rw [ho] at h5 h7
        simp only [Option.map_some, Option.getD_some] at h5 h7
        unfold isFloat at h7
        simp only [Bool.and_eq_true, Array.all_eq_true] at h7
        rw [Array.any_eq_true] at h5
        obtain ⟨i, hi, he⟩ := h5
        have := h7.2 i hi
        rw [Bool.and_eq_true] at he
        rw [he.1] at this
        cases this
    · cases h6
  · have h1 : (((others l.toArray).takeWhile (lightAt l.toArray)).filter (fun x => !(fun _ : Nat => false) x)).length = ((others l.toArray).takeWhile (lightAt l.toArray)).length := by simp
    rw [h1, ← List.length_append, ← hsplit]
    exact Nat.le_refl _

/-- One light operation. -/
theorem wpF_light {o : Oper} {l : List Oper} {a : Act} {w : World} (hl : lightOp o.op = true)
    (h : ∀ K : Value → Prop, (∀ v, wpF P ops Q l (a.put o.dst v) w → K v) → if Region.wanted o (yielded ops a.tmps) then litStep ((execOp a.eval o).run P w) w K else K undef) : wpF P ops Q (o :: l) a w := by
  have := h (fun v => wpF P ops Q l (a.put o.dst v) w) (fun _ h => h)
  unfold wpF
  rw [hl]
  simpa using this
/-- One that is not. -/
theorem wpF_heavy {o : Oper} {l : List Oper} {a : Act} {w : World} (hl : lightOp o.op = false)
    (h : ∀ K : Act → World → Prop, (∀ a' w', wpF P ops Q l a' w' → K a' w') → if Region.wanted o (yielded ops a.tmps) then o.wp P a w K Q else K (a.put o.dst undef) w) : wpF P ops Q (o :: l) a w := by
  have := h (wpF P ops Q l) (fun _ _ h => h)
  unfold wpF
  rw [hl]
  simpa using this
theorem wpF_nil {a : Act} {w : World} (h : Q .normal a w) : wpF P ops Q [] a w := h
/-- As the walk uses it: the region is shown not to panic. -/
theorem wp_forced {id : Nat} {l : List Oper} {a : Act} {w : World} (hm : P.follows .mixedOrders = true) (hc : forcedB l.toArray = true) (h : wpF P l.toArray (NoPanic Q) (ordered l) a w.drew) : (Code.region id l.toArray true).wp P Q a w :=
  wp_region_noPanic (wp_region_forced hm hc (fun _ _ _ _ _ h => (h : False).elim) h)
theorem wpF_end {a : Act} {w : World} (h : Q .normal a w) : wpF P ops (NoPanic Q) [] a w := h
theorem wpF_call {o : Oper} {l : List Oper} {a : Act} {w : World} (hl : lightOp o.op = false) (hw : Region.wanted o (yielded ops a.tmps) = true)
    (h : ∀ K : Act → World → Prop, Hid (∀ a' w', wpF P ops Q l a' w' → K a' w') → o.wp P a w K Q) : wpF P ops Q (o :: l) a w :=
  wpF_heavy hl fun K hK => by rw [if_pos hw]; exact h K hK
theorem wpF_skip {o : Oper} {l : List Oper} {a : Act} {w : World} (hl : lightOp o.op = false) (hw : Region.wanted o (yielded ops a.tmps) = false)
    (h : wpF P ops Q l (a.put o.dst undef) w) : wpF P ops Q (o :: l) a w :=
  wpF_heavy hl fun K hK => by rw [if_neg (by rw [hw]; simp)]; exact hK _ _ h
theorem wpF_no {o : Oper} {l : List Oper} {a : Act} {w : World} (hw : Region.wanted o (yielded ops a.tmps) = false) (h : wpF P ops Q l (a.put o.dst undef) w) : wpF P ops Q (o :: l) a w := by
  unfold wpF
  rw [if_neg (by rw [hw]; simp)]
  exact h
end
end Go.Proofs.YtkldpdldjalpeaaGreatDoor

namespace Go.Proofs.YtkldpdldjalpeaaGreatDoor
open Go Go.RowKit

/-- What is asked of a region: the blocks that its chain of calls may turn, the world ahead of it, what holds behind so many links of the chain, what is said of the value of each operation that makes or calls something, which values it may have at all, which blocks that value owns, what an operation uses up, which operations are links; how many may float, and those behind all of them. -/
structure Inv where
  S : List Nat
  w0 : World
  K : Nat → World → Prop
  R : Nat → Value → World → Prop
  adm : Nat → Value → Prop
  fp : Nat → Value → List Nat
  con : Nat → List Nat
  ch : Nat → Bool
  nb : Nat
  tl : List Oper

section
variable (ops : Array Oper)
def maskOf (o : Oper) (M : List Nat) : Nat := o.after.toList.foldl (fun m e => if Region.binds .any e then m ||| ((1 <<< e.on) ||| M.getD e.on 0) else m) 0
def masksL : List Oper → List Nat → List Nat
  | [], M => M
  | o :: l, M => masksL l (M ++ [maskOf o M])
def ancB (j h : Nat) : Bool := ((masksL ops.toList []).getD j 0).testBit h
def availB (con : Nat → List Nat) (j h : Nat) : Bool := ancB ops j h && (List.range ops.size).all fun y => !(con y).contains h || y == j || ancB ops y j
def floatAt (j : Nat) : Bool := ((ops[j]?).map isFloat).getD false
def tailB (nb : Nat) : Bool := floatsOk ops (floats ops) (Array.replicate ops.size false) && (List.range ops.size).all fun j => decide (j < nb) || (!floatAt ops j && (List.range j).all fun x => floatAt ops x || ancB ops j x)
def endB (con : Nat → List Nat) (h : Nat) : Bool := (List.range ops.size).all fun y => !(con y).contains h
def invB (con : Nat → List Nat) (ch : Nat → Bool) : Bool :=
  Region.noSelect ops && (List.range ops.size).all (fun j => depsBack ops j && (List.range j).all (fun x => pairOk ops x j) && (!(lightAt ops j) || ((con j).isEmpty && !ch j)) &&
    (List.range j).all (fun x => !(ch x && ch j) || ancB ops j x) && (con j).all (fun h => decide (h < ops.size) && !lightAt ops h && ancB ops j h) && (List.range ops.size).all (fun y => y == j || (con j).all fun h => !(con y).contains h))
end

def factsV (I : Inv) (ok : Nat → Bool) : List (Nat × Value) → World → Prop
  | [], _ => True
  | p :: G, w => (ok p.1 = true → I.R p.1 p.2 w) ∧ factsV I ok G w
/-- The blocks that an operation uses up. -/
def usedV (I : Inv) (j : Nat) : List (Nat × Value) → List Nat
  | [] => []
  | p :: G => (if (I.con j).contains p.1 then I.fp p.1 p.2 else []) ++ usedV I j G
theorem usedV_none {I : Inv} {j : Nat} (h : I.con j = []) (G : List (Nat × Value)) : usedV I j G = [] := by
  induction G with
  | nil => rfl
  | cons p G ih => unfold usedV; rw [h, ih]; rfl
/-- What an operation that makes or calls something leaves behind. -/
def outV (I : Inv) (j s : Nat) (G : List (Nat × Value)) (w : World) (v : Value) (w' : World) : Prop :=
  I.R j v w' ∧ (∀ b ∈ I.fp j v, b ∈ usedV I j G ∨ (w.heap.size ≤ b ∧ b < w'.heap.size)) ∧ Upd (if I.ch j then I.S ++ usedV I j G else usedV I j G) w w' ∧ (I.ch j = true → I.K (s + 1) w')
def obL (P : Program) (ops : Array Oper) (I : Inv) (o : Oper) (j : Nat) (A : Act) (G : List (Nat × Value)) (v : Value) : Prop :=
  ∀ w, Upd I.S I.w0 w → factsV I (availB ops I.con j) G w → if Region.wanted o (yielded ops A.tmps) then litStep ((execOp A.eval o).run P w) w (· = v) else v = undef
def obH (P : Program) (ops : Array Oper) (I : Inv) (Q : Exit → Act → World → Prop) (o : Oper) (j s : Nat) (A : Act) (G : List (Nat × Value)) : Prop :=
  ∀ w, Upd I.S I.w0 w → (I.ch j = true → I.K s w) → factsV I (availB ops I.con j) G w →
    if Region.wanted o (yielded ops A.tmps) then o.wp P A w (fun A' w' => ∃ v, A' = A.put o.dst v ∧ outV I j s G w v w') Q else outV I j s G w undef w
/-- What stands behind all others, one behind the other. -/
def wpT (P : Program) (ops : Array Oper) (Q : Exit → Act → World → Prop) : List Oper → Act → World → Prop
  | [], a, w => Q .normal a w
  | o :: l, a, w => if Region.wanted o (yielded ops a.tmps) then o.wp P a w (wpT P ops Q l) Q else wpT P ops Q l (a.put o.dst undef) w
def obE (P : Program) (ops : Array Oper) (I : Inv) (Q : Exit → Act → World → Prop) (s : Nat) (A : Act) (G : List (Nat × Value)) : Prop :=
  ∀ w, Upd I.S I.w0 w → I.K s w → factsV I (endB ops I.con) G w → wpT P ops Q I.tl A w
/-- The operations, one behind the other in the text, each in every world in which it may come. -/
def wpV (P : Program) (ops : Array Oper) (I : Inv) (Q : Exit → Act → World → Prop) : List Oper → Nat → Nat → Act → List (Nat × Value) → Prop
  | [], _, s, A, G => obE P ops I Q s A G
  | o :: l, j, s, A, G =>
    if lightOp o.op then ∃ v, obL P ops I o j A G v ∧ wpV P ops I Q l (j + 1) s (A.put o.dst v) G
    else obH P ops I Q o j s A G ∧ ∀ v, I.adm j v → wpV P ops I Q l (j + 1) (if I.ch j then s + 1 else s) (A.put o.dst v) (G ++ [(j, v)])

section
theorem mask_spec (o : Oper) (M : List Nat) (h : Nat) : (maskOf o M).testBit h = o.after.any (fun e => Region.binds .any e && (e.on == h || (M.getD e.on 0).testBit h)) := by
  unfold maskOf
  rw [← Array.any_toList]
  have key : ∀ (l : List Edge) (m : Nat), (l.foldl (fun m e => if Region.binds .any e then m ||| ((1 <<< e.on) ||| M.getD e.on 0) else m) m).testBit h = (m.testBit h || l.any (fun e => Region.binds .any e && (e.on == h || (M.getD e.on 0).testBit h))) := by
    intro l
    induction l with
    | nil => intro m; simp
    | cons e l ih =>
      intro m
      rw [List.foldl_cons, ih, List.any_cons]
      cases hb : Region.binds .any e with
      | false => simp
      | true =>
        simp only [if_true, Bool.true_and, Nat.testBit_or, Nat.one_shiftLeft, Nat.testBit_two_pow]
        rw [Bool.or_assoc]
        congr 2
  rw [key]
  simp
theorem masks_pre : ∀ (l : List Oper) (M : List Nat) (i : Nat), i < M.length → (masksL l M).getD i 0 = M.getD i 0
  | [], _, _, _ => rfl
  | o :: l, M, i, h => by
    unfold masksL
    rw [masks_pre l _ i (by simp; omega)]
    simp [List.getD_eq_getElem?_getD, List.getElem?_append_left h]
theorem masks_at : ∀ (l : List Oper) (M : List Nat) (k : Nat) (o : Oper), l[k]? = some o → ∃ M', M'.length = M.length + k ∧ (masksL l M).getD (M.length + k) 0 = maskOf o M' ∧ ∀ i, i < M'.length → M'.getD i 0 = (masksL l M).getD i 0
  | [], _, _, _, h => by simp at h
  | o :: l, M, 0, o', h => by
    simp at h
    subst h
    refine ⟨M, rfl, ?_, fun i hi => (masks_pre _ M i hi).symm⟩
    unfold masksL
    rw [masks_pre l _ _ (by simp)]
    simp [List.getD_eq_getElem?_getD]
  | o :: l, M, k + 1, o', h => by
    obtain ⟨M', h1, h2, h3⟩ := masks_at l (M ++ [maskOf o M]) k o' (by simpa using h)
    unfold masksL
    refine ⟨M', by simp at h1; omega, ?_, h3⟩
    rw [← h2]
    congr 1
    simp; omega
variable {P : Program} {ops : Array Oper}
theorem anc_iff {j h : Nat} (hj : j < ops.size) (hb : depsBack ops j = true) : ancB ops j h = true ↔ ∃ x, depB ops j x = true ∧ (x = h ∨ ancB ops x h = true) := by
  obtain ⟨M', h1, h2, h3⟩ := masks_at ops.toList [] j ops[j] (by simp [hj])
  unfold ancB depB
  simp only [List.length_nil, Nat.zero_add] at h1 h2
  rw [h2, mask_spec, Array.getElem?_eq_getElem hj]
  unfold depsBack at hb
  rw [Array.getElem?_eq_getElem hj] at hb
  simp only [Array.all_eq_true, Array.any_eq_true, Bool.or_eq_true, Bool.and_eq_true, decide_eq_true_eq, Bool.not_eq_true', beq_iff_eq] at hb ⊢
  constructor
  · rintro ⟨i, hi, he, hh⟩
    refine ⟨_, ⟨i, hi, he, rfl⟩, hh.imp id fun h4 => ?_⟩
    rw [← h3 _ (by rw [h1]; exact (hb i hi).resolve_left (by rw [he]; simp))]
    exact h4
  · rintro ⟨x, ⟨i, hi, he, rfl⟩, hh⟩
    refine ⟨i, hi, he, hh.imp id fun h4 => ?_⟩
    rw [h3 _ (by rw [h1]; exact (hb i hi).resolve_left (by rw [he]; simp))]
    exact h4

structure InvOk (ops : Array Oper) (I : Inv) : Prop where
  sel : ∀ (j : Nat) (o : Oper) (cs : Array SelectCase) (b : Bool), ops[j]? = some o → o.op ≠ .select cs b
  back : ∀ j, j < ops.size → depsBack ops j = true
  pair : ∀ j, j < ops.size → ∀ x, x < j → pairOk ops x j = true
  light : ∀ j, j < ops.size → lightAt ops j = true → I.con j = [] ∧ I.ch j = false
  chain : ∀ j, j < ops.size → ∀ x, x < j → I.ch x = true → I.ch j = true → ancB ops j x = true
  con : ∀ j, j < ops.size → ∀ h ∈ I.con j, h < ops.size ∧ lightAt ops h = false ∧ ancB ops j h = true
  once : ∀ j, j < ops.size → ∀ y, y < ops.size → y ≠ j → ∀ h ∈ I.con j, h ∉ I.con y
theorem invOk_of {I : Inv} (h : invB ops I.con I.ch = true) : InvOk ops I := by
  unfold invB at h
  rw [Bool.and_eq_true, List.all_eq_true] at h
  obtain ⟨h0, h1⟩ := h
  have h2 : ∀ j, j < ops.size → _ := fun j hj => h1 j (List.mem_range.2 hj)
  simp only [Bool.and_eq_true, List.all_eq_true, List.mem_range, Bool.or_eq_true, Bool.not_eq_true', List.isEmpty_iff, decide_eq_true_eq, beq_iff_eq, Bool.and_eq_false_iff] at h2
  refine ⟨Region.noSelect_spec h0, fun j hj => (h2 j hj).1.1.1.1.1, fun j hj x hx => (h2 j hj).1.1.1.1.2 x hx, fun j hj hl => ?_, fun j hj x hx hx1 hj1 => ?_, fun j hj h hh => ?_, fun j hj y hy hne h hh hm => ?_⟩
  · rcases (h2 j hj).1.1.1.2 with h3 | h3
    · rw [hl] at h3; cases h3
    · exact h3
  · rcases (h2 j hj).1.1.2 x hx with h3 | h3
    · rw [hx1, hj1] at h3; rcases h3 with h3 | h3 <;> cases h3
    · exact h3
  · have := (h2 j hj).1.2 h hh
    exact ⟨this.1.1, this.1.2, this.2⟩
  · rcases (h2 j hj).2 y hy with h3 | h3
    · exact hne h3
    · have := h3 h hh
      simp at this
      exact this hm
theorem wp_transfer {o : Oper} {a b : Act} {w : World} {K' : Act → World → Prop} {Z : Value → World → Prop} {Q : Exit → Act → World → Prop} (he : execOp a.eval o = execOp b.eval o)
    (hK : ∀ v w', Z v w' → K' (b.put o.dst v) w') (hinj : ∀ v v' : Value, a.put o.dst v = a.put o.dst v' → b.put o.dst v = b.put o.dst v')
    (h : o.wp P a w (fun A' w' => ∃ v, A' = a.put o.dst v ∧ Z v w') (NoPanic Q)) : o.wp P b w K' (NoPanic Q) := by
  have key : ∀ v w', (∃ v', a.put o.dst v = a.put o.dst v' ∧ Z v' w') → K' (b.put o.dst v) w' := fun v w' ⟨v', e, hz⟩ => hinj v v' e ▸ hK v' w' hz
  unfold Oper.wp at h ⊢
  rw [← he]
  generalize (execOp a.eval o).run P w = r at h
  cases r with
  | ok n w' =>
    cases n with
    | value v => exact key v w' h
    | skip => exact key _ w' h
    | defer d =>
      obtain ⟨v', e, _⟩ := h
      exfalso
      have := congrArg Act.defers e
      cases hd : o.dst <;> rw [hd] at this <;> simp [Act.put] at this
    | enter f args =>
      refine Calls.mono h fun e w'' he => ?_
      cases e with
      | returned v => exact key v w'' he
      | panicked c => exact he
      | outgrown => exact he
    | row r args => exact Rows.mono h fun v w'' he => key v w'' he
    | _ => exact h
  | halt x w' => cases x <;> exact h
end
end Go.Proofs.YtkldpdldjalpeaaGreatDoor

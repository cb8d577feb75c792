/-
  concordref09.Lines.
-/
import Derived.Test.YtblfklnnojhadaaDoorRightW
import Derived.Test.YtblfklnnojhadaaDoorInvK
set_option linter.unusedVariables false
namespace Go.Proofs.YtblfklnnojhadaaDoor
open Go.RowKit

/-- Lines as they lie one behind the other, each ten cells. -/
def LinesR (w : World) (B : Nat) : List (Stm × Nat) → List Value → Prop
  | [], xs => xs = []
  | (.mk k coll reg ar an br bn bo el, d) :: l, xs => ∃ vb ve ys, xs = stmCells k coll reg ar an br bn vb ve ++ (.int .i64 d :: ys) ∧ Stms w B vb bo ∧ Stms w B ve el ∧ LinesR w B l ys
theorem LinesR.keep {w w' : World} {B : Nat} (hk : Below B w w') : ∀ {l : List (Stm × Nat)} {xs : List Value}, LinesR w B l xs → LinesR w' B l xs
  | [], _, h => h
  | (.mk .., d) :: l, xs, ⟨vb, ve, ys, h1, h2, h3, h4⟩ => ⟨vb, ve, ys, h1, h2.belowW hk, h3.belowW hk, LinesR.keep hk h4⟩
theorem LinesR.append {w : World} {B : Nat} : ∀ {l m : List (Stm × Nat)} {xs ys : List Value}, LinesR w B l xs → LinesR w B m ys → LinesR w B (l ++ m) (xs ++ ys)
  | [], m, xs, ys, h, h' => by cases h; exact h'
  | (.mk .., d) :: l, m, xs, ys, ⟨vb, ve, zs, h1, h2, h3, h4⟩, h' => ⟨vb, ve, zs ++ ys, by rw [h1]; simp, h2, h3, LinesR.append h4 h'⟩
theorem LinesR.len {w : World} {B : Nat} : ∀ {l : List (Stm × Nat)} {xs : List Value}, LinesR w B l xs → xs.length = l.length * 10
  | [], _, h => by cases h; rfl
  | (.mk .., d) :: l, xs, ⟨vb, ve, zs, h1, h2, h3, h4⟩ => by rw [h1]; simp [stmCells, LinesR.len h4]; omega
theorem snoc_app (p : List Value) (v : Value) (ys : List Value) : p ++ (v :: ys) = (p ++ [v]) ++ ys := by simp
theorem LinesR.get {w : World} {B : Nat} : ∀ {l : List (Stm × Nat)} {xs : List Value} {i : Nat} {k coll reg ar an br bn : Int} {bo el : List Stm} {d : Nat}, LinesR w B l xs → l[i]? = some (.mk k coll reg ar an br bn bo el, d) →
    ∃ vb ve, Stms w B vb bo ∧ Stms w B ve el ∧ ∀ j u, (stmCells k coll reg ar an br bn vb ve ++ [.int .i64 d])[j]? = some u → xs[i * 10 + j]? = some u
  | [], xs, i, _, _, _, _, _, _, _, _, _, _, _, h => by simp at h
  | (.mk .., d) :: l, xs, 0, _, _, _, _, _, _, _, _, _, _, ⟨vb, ve, ys, h1, h2, h3, h4⟩, h => by
    simp at h
    obtain ⟨⟨rfl, rfl, rfl, rfl, rfl, rfl, rfl, rfl, rfl⟩, rfl⟩ := h
    refine ⟨vb, ve, h2, h3, fun j u hj => ?_⟩
    rw [h1]
    have hj' := (List.getElem?_eq_some_iff.1 hj).1
    rw [snoc_app, List.getElem?_append_left (by omega)]
    rw [Nat.zero_mul, Nat.zero_add]
    exact hj
  | (.mk .., d) :: l, xs, i + 1, _, _, _, _, _, _, _, _, _, _, ⟨vb, ve, ys, h1, h2, h3, h4⟩, h => by
    obtain ⟨vb', ve', g1, g2, g3⟩ := LinesR.get h4 (by simpa using h)
    refine ⟨vb', ve', g1, g2, fun j u hj => ?_⟩
    rw [h1]
    rw [snoc_app, List.getElem?_append_right (by simp [stmCells]; omega)]
    rw [show ∀ p : List Value, p.length = 10 → (i + 1) * 10 + j - p.length = i * 10 + j from fun p hp => by omega]
    rotate_left
    · simp [stmCells]
    exact g3 j u hj

theorem line_elem : Elem Tryd.prog 33 42 10 112 := .mk' (z := ((Tryd.prog.info? 42).bind (·.zero)).getD undef) Tryd.underlying33 (by kernel_rfl) (by kernel_rfl) (by omega)

theorem stopped {p : Prop} (h : Hid p) : p := h.out
def LinesPost (B B' : Nat) (r : List (Stm × Nat)) (n : Nat) (xs : List Value) (vo : Value) (w : World) (e : Ending) (w' : World) : Prop :=
  ∃ v' ys, e = .returned v' ∧ w'.ownsRow B' 42 10 v' (n + r.length) (xs ++ ys) ∧ LinesR w' B r ys ∧ Upd vo.ownBlock.toList w w' ∧ (v'.ownBlock = vo.ownBlock ∨ ∃ g, v'.ownBlock = some g ∧ w.heap.size ≤ g)
theorem own_below {w w' : World} {B B' n s : Nat} {e : TypeId} {v : Value} {xs : List Value} (h : w.ownsRow B' e s v n xs) (hB : B ≤ B') (hz : B' ≤ w.heap.size) (hu : Upd v.ownBlock.toList w w') : Below B w w' :=
  hu.below (by omega) (fun x hx => by have := (own_lt h (b := x) (by simpa using hx)).1; omega)
theorem own_trans {w w1 w2 : World} {v v1 v2 : Value} (h1 : Upd v.ownBlock.toList w w1) (b1 : v1.ownBlock = v.ownBlock ∨ ∃ g, v1.ownBlock = some g ∧ w.heap.size ≤ g) (h2 : Upd v1.ownBlock.toList w1 w2) (b2 : v2.ownBlock = v1.ownBlock ∨ ∃ g, v2.ownBlock = some g ∧ w1.heap.size ≤ g) :
    Upd v.ownBlock.toList w w2 ∧ (v2.ownBlock = v.ownBlock ∨ ∃ g, v2.ownBlock = some g ∧ w.heap.size ≤ g) := by
  refine ⟨h1.trans' h2 (fun x hx => ?_), ?_⟩
  · rcases b1 with b | ⟨g, b, hg⟩
    · rw [b] at hx; exact .inl hx
    · rw [b] at hx; simp at hx; subst hx; exact .inr hg
  · rcases b2 with b | ⟨g, b, hg⟩
    · rw [b]; exact b1
    · exact .inr ⟨g, b, Nat.le_trans h1.size hg⟩
set_option maxRecDepth 100000 in
set_option maxHeartbeats 4000000 in
theorem lines_ok {B B' : Nat} (hBB : B ≤ B') : ∀ (m : Nat) (l : List Stm) (v vo : Value) (w : World) (d n : Nat) (xs : List Value), sizes l < m → Stms w B v l → w.ownsRow B' 42 10 vo n xs → B' ≤ w.heap.size → n + sizes l ≤ 900000 → d + sizes l ≤ 1000000 →
    Calls Tryd.prog 14 #[vo, v, .int .i64 d] w (LinesPost B B' (linesOf d l) n xs vo w) := by
  intro m
  induction m with
  | zero => intro l v vo w d n xs hm; omega
  | succ m ih =>
    intro l v vo w d n xs hm hl ho hB hn hd
    have HL := Lib.hid hl
    cases hl with
    | mk A nn c l vb ve hln hc hcm hcell hbb hee =>
    have hnn : nn ≤ 9223372036854775807 := by omega
    have HO := Lib.hid ho
    have HLN := Lib.hid hln
    have HCE := Lib.hid hcell
    have HBB := Lib.hid hbb
    have HEE := Lib.hid hee
    have IH := Lib.hid ih
    have HLL := Lib.hid (lines_sizes _ l d (Nat.le_refl _))
    clear hln hcell hbb hee ih ho
    go_enter Tryd.func14, Tryd.ntmps14
    go_wp2_with fail
    go_loopw [0, 7] (fun u0 i wr => ∃ (k : Nat) (ys : List Value), i = .int .i64 k ∧ k ≤ nn ∧ Hid (wr.ownsRow B' 42 10 u0 (n + sizes (l.take k)) (xs ++ ys)) ∧ Hid (LinesR wr B (linesOf d (l.take k)) ys) ∧ Hid (Upd vo.ownBlock.toList w wr) ∧ Hid (u0.ownBlock = vo.ownBlock ∨ ∃ g, u0.ownBlock = some g ∧ w.heap.size ≤ g)) (fun _ i _ => nn - (intOf i).toNat)
    case atStart => exact ⟨0, [], rfl, by omega, Lib.hid (by rw [List.append_nil]; exact HO.out), Lib.hid rfl, Lib.hid (.refl _ _), Lib.hid (.inl rfl)⟩
    case round =>
      obtain ⟨k, ys, rfl, hk, KO, KR, KU, KV⟩ := hrel
      have KL : Hid (Below B w wr) := Lib.hid (own_below HO.out hBB hB KU.out)
      have hz := KU.out.size
      by_cases hkn : k < nn
      · obtain ⟨x, hx⟩ : ∃ x, l[k]? = some x := ⟨_, List.getElem?_eq_getElem (by rw [HLN.out]; exact hkn)⟩
        obtain ⟨a1, a2, a3, a4, a5, a6, a7, bo, el⟩ := x
        obtain ⟨ad, rfl, hlt, hcc⟩ := HCE.out k a1 a2 a3 a4 a5 a6 a7 bo el hx
        have hsb := HBB.out k a1 a2 a3 a4 a5 a6 a7 bo el hx
        have hse := HEE.out k a1 a2 a3 a4 a5 a6 a7 bo el hx
        obtain ⟨Ab, nb, cb, hvb⟩ := hsb.slice
        obtain ⟨Ae, ne, ce, hve⟩ := hse.slice
        rw [hvb, hve] at hcc
        rw [hvb] at hsb
        rw [hve] at hse
        have cj : Hid (∀ W, Below B w W → W.cell? (ad.add (k * 9)) = some (.int .i64 a1) ∧ ∀ j u, (stmCells a1 a2 a3 a4 a5 a6 a7 (.slice Ab nb cb) (.slice Ae ne ce))[j + 1]? = some u → W.cell? ⟨(ad.add (k * 9)).block, (ad.add (k * 9)).off + (j + 1), none⟩ = some u) := Lib.hid (fun W hW => ⟨(hW.cell (by rw [block_add]; exact hlt)).trans (hcc 0 _ rfl), fun j u hu => by
          rw [← add_more]; exact (hW.cell (by rw [block_add]; exact hlt)).trans (hcc (j + 1) _ hu)⟩)
        have HSB := Lib.hid hsb
        have HSE := Lib.hid hse
        have hsz := sizes_get hx
        rw [size_mk] at hsz
        have hst := sizes_take hx
        rw [size_mk] at hst
        have htl := sizes_take_le l (k + 1)
        have HX := Lib.hid hx
        clear hvb hve hsb hse hcc hx
        obtain ⟨c0, cr⟩ := cj.out wr KL.out
        have c1 := cr 0 _ rfl
        have c2 := cr 1 _ rfl
        have c3 := cr 2 _ rfl
        have c4 := cr 3 _ rfl
        have c5 := cr 4 _ rfl
        have c6 := cr 5 _ rfl
        have c7 := cr 6 _ rfl
        have c8 := cr 7 _ rfl
        clear cr
        have LEN : Hid (n + sizes (l.take k) + 1 ≤ maxLen) := Lib.hid (by simp only [maxLen]; omega)
        have BYT : Hid ((n + sizes (l.take k) + 1) * 112 ≤ 140737488355328) := Lib.hid (by omega)
        have KOA : Hid (∀ o, (wr.alloc o).ownsRow B' 42 10 u0 (n + sizes (l.take k)) (xs ++ ys)) := Lib.hid (fun o => own_upd0 KO.out ((Upd.refl [] wr).alloc o))
        have BZ : Hid (B' ≤ wr.heap.size + 1) := Lib.hid (by omega)
        go_wp2_with (at_builtin; refine stopped ?_)
        refine Lib.hid ?_
        refine wpList_app _ (by rfl) (.tmp 14) (.tmp 21) _ (by rfl) line_elem u0 _ (by rfl) (by rfl) (KOA.out _) (Src.newAt (m := 1) rfl 1 rfl) (by intro u hu; simp at hu; rcases hu with rfl | rfl | rfl | rfl | rfl | rfl | rfl | rfl | rfl | rfl <;> rfl) LEN.out BYT.out (by simpa using BZ.out) ?_
        intro v1 w1 o1 u1 b1
        simp only [List.append_assoc] at o1
        obtain ⟨T1, T2⟩ := own_trans KU.out KV.out (((Upd.refl u0.ownBlock.toList wr).alloc (.cells #[.int .i64 a1, .int .i64 a2, .int .i64 a3, .int .i64 a4, .int .i64 a5, .int .i64 a6, .int .i64 a7, .slice Ab nb cb, .slice Ae ne ce, .int .i64 d] 42)).trans u1) (b1.imp id fun h => ⟨_, h, by simp⟩)
        have KB0 : Hid (Below B wr w1) := Lib.hid (own_below KO.out hBB (by omega) (((Upd.refl u0.ownBlock.toList wr).alloc (.cells #[.int .i64 a1, .int .i64 a2, .int .i64 a3, .int .i64 a4, .int .i64 a5, .int .i64 a6, .int .i64 a7, .slice Ab nb cb, .slice Ae ne ce, .int .i64 d] 42)).trans u1))
        have O1 := Lib.hid o1
        have U1 := Lib.hid T1
        have V1 := Lib.hid T2
        clear o1 u1 b1 T1 T2 c0 c1 c2 c3 c4 c5 c6 c7 c8
        have KL1 : Hid (Below B w w1) := Lib.hid (own_below HO.out hBB hB U1.out)
        have z1 := U1.out.size
        obtain ⟨_, cr⟩ := cj.out w1 KL1.out
        have c7 := cr 6 _ rfl
        clear cr
        go_wp2_with fail
        have hc := IH.out bo (.slice Ab nb cb) v1 w1 (d + 1) (n + sizes (l.take k) + 1) _ (by omega) (HSB.out.belowW KL1.out) O1.out (by omega) (by omega) (by omega)
        rw [show ((d + 1 : Nat) : Int) = (d : Int) + 1 by omega] at hc
        refine hc.mono ?_; clear hc; rintro e w2 ⟨v2, ys2, rfl, o2, r2, u2, b2⟩
        rw [lines_sizes _ bo (d + 1) (Nat.le_refl _)] at o2
        obtain ⟨T1, T2⟩ := own_trans U1.out V1.out u2 b2
        have O2 := Lib.hid o2
        have R2 := Lib.hid r2
        have U2 := Lib.hid T1
        have V2 := Lib.hid T2
        have KB2 : Hid (Below B w1 w2) := Lib.hid (own_below O1.out hBB (by omega) u2)
        clear o2 r2 u2 b2 T1 T2 c7
        have KL2 : Hid (Below B w w2) := Lib.hid (own_below HO.out hBB hB U2.out)
        have z2 := U2.out.size
        obtain ⟨_, cr⟩ := cj.out w2 KL2.out
        have c8 := cr 7 _ rfl
        clear cr
        go_wp2_with fail
        have hc := IH.out el (.slice Ae ne ce) v2 w2 (d + 1) (n + sizes (l.take k) + 1 + sizes bo) _ (by omega) (HSE.out.belowW KL2.out) O2.out (by omega) (by omega) (by omega)
        rw [show ((d + 1 : Nat) : Int) = (d : Int) + 1 by omega] at hc
        refine hc.mono ?_; clear hc; rintro e w3 ⟨v3, ys3, rfl, o3, r3, u3, b3⟩
        rw [lines_sizes _ el (d + 1) (Nat.le_refl _)] at o3
        obtain ⟨T1, T2⟩ := own_trans U2.out V2.out u3 b3
        have O3 := Lib.hid o3
        have R3 := Lib.hid r3
        have U3 := Lib.hid T1
        have V3 := Lib.hid T2
        have KL3 : Hid (Below B w w3) := Lib.hid (own_below HO.out hBB hB U3.out)
        have KB3 : Hid (Below B w2 w3) := Lib.hid (own_below O2.out hBB (by omega) u3)
        have KB1 : Hid (Below B wr w3) := Lib.hid ((KB0.out.trans KB2.out).trans KB3.out)
        clear o3 r3 u3 b3 T1 T2 c8
        go_wp2_with fail
        go_roundw
        case rel =>
          refine ⟨k + 1, ys ++ (stmCells a1 a2 a3 a4 a5 a6 a7 (.slice Ab nb cb) (.slice Ae ne ce) ++ [.int .i64 d]) ++ ys2 ++ ys3, by go_num, by omega, Lib.hid ?_, Lib.hid ?_, U3, V3⟩
          · rw [show n + sizes (l.take (k + 1)) = n + sizes (l.take k) + 1 + sizes bo + sizes el by omega]
            have := O3.out
            simp only [List.append_assoc] at this ⊢
            exact this
          · rw [lines_take d HX.out, line_mk]
            have h1 := (KR.out.keep KB1.out).append (LinesR.append (l := [(Stm.mk a1 a2 a3 a4 a5 a6 a7 bo el, d)]) ⟨_, _, [], rfl, HSB.out.belowW KL3.out, HSE.out.belowW KL3.out, rfl⟩ ((R2.out.keep KB3.out).append R3.out))
            simp only [List.append_assoc, List.cons_append, List.nil_append] at h1 ⊢
            exact h1
        case measure => simp [intOf]; omega
      · obtain rfl : nn = k := by omega
        go_wp2_with fail
        go_ret
        refine ⟨u0, ys, rfl, ?_, ?_, KU.out, KV.out⟩
        · rw [HLL.out]
          have := KO.out
          rw [List.take_of_length_le (by rw [HLN.out]; exact Nat.le_refl _)] at this
          exact this
        · have := KR.out
          rw [List.take_of_length_le (by rw [HLN.out]; exact Nat.le_refl _)] at this
          exact this
end Go.Proofs.YtblfklnnojhadaaDoor

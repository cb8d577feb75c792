/-
  snap.Merge.
-/
import Derived.Test.YthdjbflbhgbckaaDoorMergeS
import Derived.Test.YthdjbflbhgbckaaDoorHeapBStrs
import Derived.Test.YthdjbflbhgbckaaDoorHeapCStrs
import Derived.Deep.LoopGhost
import Derived.Deep.Cut
import Derived.Deep.CutRange
import Derived.BigQuiet
set_option linter.unusedVariables false
namespace Go.Proofs.YthdjbflbhgbckaaDoor
open Go.RowKit HeapPlain Stab Snap Mrg
attribute [local go_sem] litStep_value

def UniPost (L : List PL) (w : World) (e : Ending) (w' : World) : Prop := ∃ M sb, e = .returned (.pointer (some ⟨sb, 0, none⟩)) ∧ Uni L M ∧ SnapIs w.heap.size sb w' M ∧ Upd [] w w'
/-- The first loop: the lists below k have their streams. -/
structure M1 (w wr : World) (L : List PL) (p k : Nat) (ys : List Sm) : Prop where
  b : MB w wr L p (fun _ => 1) ys
  hp : Hp ltS ys.length ys
  h1 : ∀ y ∈ ys, ∃ n : Nat, y.n = n ∧ n < k ∧ ∃ rest, L.getD n [] = (y.k, y.v) :: rest
  h2 : ∀ n : Nat, n < k → (∀ y ∈ ys, y.n ≠ n) → L.getD n [] = []
  len : ys.length ≤ k
structure M2 (w wr : World) (L : List PL) (p ob : Nat) (T R : Nat → PL) (ys : List Sm) (vo : Value) (acc : PL) : Prop where
  b : MB w wr L p (fun n => (T n).length + 1) ys
  hp : Hp ltS ys.length ys
  mi : MInv L T R ys acc
  o : MO w wr ob vo acc
theorem M2.upd0 {w wr w1 : World} {L : List PL} {p ob : Nat} {T R : Nat → PL} {ys : List Sm} {vo : Value} {acc : PL} (h : M2 w wr L p ob T R ys vo acc) (hu : Upd [] wr w1) : M2 w w1 L p ob T R ys vo acc := ⟨h.b.upd0 hu, h.hp, h.mi, h.o.upd0 hu⟩
theorem M2.same {w wr w1 : World} {L : List PL} {p ob : Nat} {T R : Nat → PL} {ys : List Sm} {vo : Value} {acc : PL} (h : M2 w wr L p ob T R ys vo acc) (hs : StmSt w.heap.size p w1 ys) (f : FrS w.heap.size wr w1) : M2 w w1 L p ob T R ys vo acc :=
  ⟨h.b.heap f hs (fun z hz => ⟨z, hz, rfl, rfl⟩) h.b.nd h.b.nn, h.hp, h.mi, h.o.frs f⟩
theorem M1.start {w wr w1 : World} {L : List PL} {p k ob : Nat} {ys : List Sm} (h : M1 w wr L p k ys) (hk : L.length = k) (hs : ∀ r ∈ L, Assoc.Srt r) (hu : Upd [] wr w1) (hb : Blk w1 ob 55 #[.slice none 0 0, .bool true]) (hB : w.heap.size ≤ ob) :
    M2 w w1 L p ob (fun _ => []) (fun n => L.getD n []) ys (.slice none 0 0) [] :=
  ⟨h.b.upd0 hu, h.hp, .start hs (fun y hy => by obtain ⟨n, e, hn, r⟩ := h.h1 y hy; exact ⟨n, e, by omega, r⟩) (fun n hn hne => h.h2 n (by omega) hne) h.b.nn, hb, Ow.nil _ _ _ _, hB⟩
set_option maxRecDepth 100000 in
set_option maxHeartbeats 4000000 in
theorem s_merge (A : Option Addr) (n c : Nat) (os : List (Option Nat)) (L : List PL) (w : World) (h : Rd encSp w (.slice A n c) os) (hn : os.length = n) (hl : L.length = n) (hN : n ≤ 900) (hs : ∀ i, i < n → SnapV w (spV (os.getD i none)) (L.getD i [])) (hf : L.flatten.length ≤ 1000) :
    Calls Tryd.prog 22 #[.slice A n c] w fun e w' => UniPost L w e w' := by
  have H := Lib.hid h
  have HO := Lib.hid hn
  have HL := Lib.hid hl
  have HS := Lib.hid hs
  have HF := Lib.hid hf
  clear h hn hl hs hf
  go_enter Tryd.func22, Tryd.ntmps22
  go_wp2_with fail
  have hz : ∀ (W : World), FrS w.heap.size w W → w.heap.size ≤ W.heap.size := fun W f => f.size
  obtain ⟨p, hp⟩ : ∃ p, w.heap.size = p := ⟨_, rfl⟩
  have HP := Lib.hid hp
  have D0 : Hid (M1 w (w.alloc (.cells #[.slice none 0 0] 82)) L p 0 []) := Lib.hid
    ⟨⟨(Upd.refl [] w).alloc _, ⟨⟨_, by rw [← hp]; exact Blk.new w _ _, Ow.nil _ _ _ _⟩, by simp, by omega⟩, by simp, by simp, by simp⟩, fun k h1 h2 => by simp at h2, by simp, by intro n hn; omega, by simp⟩
  clear hz
  generalize (w.alloc (.cells #[.slice none 0 0] 82)) = w0 at *
  try rw [hp]
  go_loopg [18] n (fun g v wr => ∃ (k : Nat) (ys : List Sm), v = .int .i64 k ∧ g = n - k ∧ k ≤ n ∧ Hid (M1 w wr L p k ys))
  case atStart => exact ⟨0, [], rfl, rfl, Nat.zero_le _, D0⟩
  case round =>
    obtain ⟨k, ys, rfl, rfl, hk, D⟩ := hrel
    by_cases hlt : k < n
    · obtain ⟨o, ho⟩ : ∃ o, os[k]? = some o := ⟨_, List.getElem?_eq_getElem (by rw [HO.out]; exact hlt)⟩
      obtain ⟨ad, rfl, hadb, hc⟩ := (H.out.upd0 D.out.b.u).at_ ho
      have c0 : wr.cell? (ad.add k) = some (spV o) := by have := hc 0 _ rfl; rw [show k * encSp.s + 0 = k from Nat.mul_one k] at this; exact this
      clear hc
      have q1 : (k : Int) < (n : Int) := by omega
      go_wp2_with fail
      have SO : Hid (SnapV w (spV o) (L.getD k [])) := Lib.hid (by have := HS.out k hlt; rwa [List.getD_eq_getElem?_getD (l := os), ho] at this)
      clear c0 hadb ho
      refine (iter_any w (spV o) (L.getD k []) wr SO.out D.out.b.u).mono ?_
      rintro e w1 ⟨it, rfl, i1, n1, u1⟩
      obtain ⟨pa, hpa⟩ : ∃ x, it = .pointer x := by rcases i1 with ⟨h, _⟩ | ⟨_, _, _, h, _⟩ <;> exact ⟨_, h⟩
      subst hpa
      have I1 := Lib.hid i1
      have N1 := Lib.hid n1
      have U1 := Lib.hid u1
      have B1 := Lib.hid (D.out.b.upd0 u1)
      clear i1 n1 u1
      go_wp2_with fail
      refine (next_any w (.pointer pa) (L.getD k []) 0 w1 I1.out B1.out.u (Nat.zero_le _)).mono ?_
      rintro e w2 ⟨rfl, i2, u2⟩
      obtain ⟨hd, hhd⟩ : ∃ o, (L.getD k [])[0]? = o := ⟨_, rfl⟩
      rw [hhd]
      have U2 : Hid (Upd [] wr w2) := Lib.hid (U1.out.trans' u2 (fun x hx => .inr (N1.out x hx).1))
      cases hd with
      | none =>
        unfold toldP
        have HD : Hid (L.getD k [] = []) := Lib.hid (List.length_eq_zero_iff.1 (Nat.eq_zero_of_not_pos (fun h => by rw [List.getElem?_eq_getElem h] at hhd; cases hhd)))
        clear hhd i2 u2
        go_wp2_with fail
        go_roundg (n - (k + 1))
        case measure => omega
        case rel =>
          refine ⟨k + 1, ys, (by simp), rfl, by omega, Lib.hid ⟨D.out.b.upd0 (U2.out.alloc _), D.out.hp, fun y hy => ?_, fun m hm hne => ?_, by have := D.out.len; omega⟩⟩
          · obtain ⟨m, e, hm, r⟩ := D.out.h1 y hy
            exact ⟨m, e, by omega, r⟩
          · rcases Nat.lt_or_ge m k with h | h
            · exact D.out.h2 m h hne
            · obtain rfl : m = k := by omega
              exact HD.out
      | some q =>
        have hpos : 0 < (L.getD k []).length := by rw [List.getElem?_eq_some_iff] at hhd; exact hhd.1
        have HD : Hid (∃ rest, L.getD k [] = q :: rest) := Lib.hid (by
          cases hL : L.getD k [] with
          | nil => rw [hL] at hpos; simp at hpos
          | cons a l => rw [hL] at hhd; simp at hhd; subst hhd; exact ⟨l, rfl⟩)
        have e1 : nx (L.getD k []) 0 = 1 := by unfold nx; rw [if_pos hpos]
        rw [e1] at i2
        obtain ⟨ib, rfl⟩ : ∃ ib, pa = some ⟨ib, 0, none⟩ := by
          rcases i2 with ⟨_, h⟩ | ⟨_, k', _, h, _⟩
          · rw [h] at hpos; simp at hpos
          · injection h with h; exact ⟨k', h⟩
        have I3 := Lib.hid i2
        have NB : Hid (wr.heap.size ≤ ib ∧ ib < w1.heap.size) := Lib.hid (N1.out ib (by simp [itBlk]))
        unfold toldP
        clear hhd hpos e1 i2 u2 I1 N1 B1 U1
        go_wp2_with fail
        have A3 : Hid (Upd [] w2 (w2.alloc (.cells #[.int .i64 q.1, .int .i64 q.2] 39))) := Lib.hid ((Upd.refl [] w2).alloc _)
        generalize (w2.alloc (.cells #[.int .i64 q.1, .int .i64 q.2] 39)) = w3 at *
        have B3 := Lib.hid (D.out.b.upd0 (U2.out.trans A3.out))
        have LY : Hid (ys.length < 1000) := Lib.hid (by have := D.out.len; omega)
        refine (heap_push (str_heaped w.heap.size p) ord_s ys.length ys ⟨ib, q.1, q.2, (k : Nat)⟩ 85 (.agg #[.pointer (some ⟨ib, 0, none⟩), .int .i64 q.1, .int .i64 q.2, .int .i64 (k : Nat)]) w3 B3.out.st rfl D.out.hp (str_push w.heap.size p ys ⟨ib, q.1, q.2, (k : Nat)⟩ w3 B3.out.st LY.out B3.out.u.size)).mono ?_
        rintro e w4 ⟨rfl, zs, s4, p4, h4, f4⟩
        have B4 : Hid (MB w w4 L p (fun _ => 1) zs) := Lib.hid (B3.out.push (n := k) rfl (I3.out.upd0 A3.out) (fun y hy e => by
          obtain ⟨cs, hb⟩ := D.out.b.blk hy
          have h1 := hb.lt
          have h2 := NB.out.1
          have h3 : y.it = ib := e
          omega) (fun y hy e => by
          obtain ⟨m, e1, hm, _⟩ := D.out.h1 y hy
          have h3 : y.n = (k : Int) := e
          omega) f4 s4 p4)
        have P4 := Lib.hid p4
        have H4 := Lib.hid h4
        clear s4 p4 h4 f4
        go_wp2_with fail
        go_roundg (n - (k + 1))
        case measure => omega
        case rel =>
          have zl : zs.length = ys.length + 1 := by simpa using P4.out.length_eq
          refine ⟨k + 1, zs, (by simp), rfl, by omega, Lib.hid ⟨B4.out, by rw [zl]; exact H4.out, fun y hy => ?_, fun m hm hne => ?_, by have := D.out.len; omega⟩⟩
          · rcases List.mem_cons.1 (P4.out.mem_iff.1 hy) with rfl | hy
            · obtain ⟨rest, hr⟩ := HD.out
              exact ⟨k, rfl, by omega, rest, hr⟩
            · obtain ⟨m, e, hm, r⟩ := D.out.h1 y hy
              exact ⟨m, e, by omega, r⟩
          · rcases Nat.lt_or_ge m k with h | h
            · exact D.out.h2 m h (fun y hy => hne y (P4.out.mem_iff.2 (List.mem_cons_of_mem _ hy)))
            · obtain rfl : m = k := by omega
              exact absurd rfl (hne _ (P4.out.mem_iff.2 (List.mem_cons_self ..)))
    · have hkn : k = n := by omega
      subst hkn
      have HSr : Hid (∀ r ∈ L, Assoc.Srt r) := Lib.hid (fun r hr => by
        obtain ⟨i, hi, e⟩ := List.getElem_of_mem hr
        have := (HS.out i (by have := HL.out; omega)).srt.1
        rwa [List.getD_eq_getElem?_getD (l := L), List.getElem?_eq_getElem hi, Option.getD_some, e] at this)
      go_wp2_with fail
      obtain ⟨ob, hob⟩ : ∃ ob, wr.heap.size = ob := ⟨_, rfl⟩
      have D2 : Hid (M2 w (wr.alloc (.cells #[.slice none 0 0, .bool true] 55)) L p ob (fun _ => []) (fun n => L.getD n []) ys (.slice none 0 0) []) := Lib.hid (D.out.start HL.out HSr.out ((Upd.refl [] wr).alloc _) (by rw [← hob]; exact Blk.new wr _ _) (by rw [← hob]; exact D.out.b.u.size))
      generalize (wr.alloc (.cells #[.slice none 0 0, .bool true] 55)) = w1 at *
      try rw [hob]
      clear hob D D0 H HO HS hp hlt hk
      go_loopg [] (rem (fun n => L.getD n []) L.length) (fun g wr => ∃ (T R : Nat → PL) (ys : List Sm) (vo : Value) (acc : PL), Hid (g = rem R L.length) ∧ Hid (M2 w wr L p ob T R ys vo acc))
      case atStart => exact ⟨_, _, ys, _, [], Lib.hid rfl, D2⟩
      case round =>
        obtain ⟨T, R, zs, vo, acc, HG, D⟩ := hrel
        clear D2
        obtain ⟨N, hN⟩ : ∃ N, zs.length = N := ⟨_, rfl⟩
        have ZN := Lib.hid hN
        have hzs : N ≤ 1000 := by have := D.out.b.st.small; omega
        go_wp2_with fail
        refine (str_len w.heap.size p zs _ D.out.b.st).mono ?_
        rintro e w2 ⟨rfl, s2, f2⟩
        have D2 := Lib.hid (D.out.same s2 f2)
        rw [hN]
        clear s2 f2 D hN
        cases N with
        | zero =>
          obtain rfl : zs = [] := List.length_eq_zero_iff.1 ZN.out
          go_wp2_with fail
          go_ret
          obtain ⟨Ax, cx, hv, _, _⟩ := own_slice D2.out.o.ow
          subst hv
          exact ⟨acc, ob, rfl, D2.out.mi.done, ⟨D2.out.mi.asrt, Nat.le_trans (MInv.len D2.out.mi) HF.out, D2.out.o.oB, Ax, cx, D2.out.o.o, D2.out.o.ow⟩, D2.out.b.u⟩
        | succ m =>
          obtain ⟨y, ys, rfl⟩ : ∃ y ys, zs = y :: ys := by
            have := ZN.out
            cases zs with
            | nil => cases this
            | cons y ys => exact ⟨y, ys, rfl⟩
          obtain ⟨v, hb, ho⟩ := D2.out.b.st.obj
          obtain ⟨g, cg, cur, rfl, -⟩ := own_form ho (by have := ZN.out; omega)
          have f0 : w2.cell? ⟨p, 0, none⟩ = some (.slice (some ⟨g, 0, none⟩) (m + 1) cg) := by have := hb.cell 0; rwa [ZN.out] at this
          have hy0 : (y :: ys)[0]? = some y := rfl
          have g0 : w2.cell? ⟨g, 0, none⟩ = some (.pointer (some ⟨y.it, 0, none⟩)) := by have := ho.at_ hy0 0 _ rfl; simpa using this
          have g1 : w2.cell? ⟨g, 1, none⟩ = some (.int .i64 y.k) := by have := ho.at_ hy0 1 _ rfl; simpa using this
          have g2 : w2.cell? ⟨g, 2, none⟩ = some (.int .i64 y.v) := by have := ho.at_ hy0 2 _ rfl; simpa using this
          have g3 : w2.cell? ⟨g, 3, none⟩ = some (.int .i64 y.n) := by have := ho.at_ hy0 3 _ rfl; simpa using this
          obtain ⟨Ax, cx, hv, _, _⟩ := own_slice D2.out.o.ow
          subst hv
          obtain ⟨na, hna⟩ : ∃ na, acc.length = na := ⟨_, rfl⟩
          have NA := Lib.hid hna
          have o0 : w2.cell? ⟨ob, 0, none⟩ = some (.slice Ax na cx) := by have := D2.out.o.o.cell 0; rw [hna] at this; exact this
          have obl : ob < w2.heap.size := D2.out.o.o.lt
          have na1 : na ≤ 1000 := by have := MInv.len D2.out.mi; have := HF.out; omega
          clear hb ho hy0 hna
          have B4 := Lib.hid (D2.out.b.upd0 ((Upd.refl [] w2).alloc (.cells #[.pointer (some ⟨y.it, 0, none⟩), .int .i64 y.k, .int .i64 y.v, .int .i64 y.n] 85)))
          have O4 := Lib.hid (D2.out.o.upd0 ((Upd.refl [] w2).alloc (.cells #[.pointer (some ⟨y.it, 0, none⟩), .int .i64 y.k, .int .i64 y.v, .int .i64 y.n] 85)))
          have Y4 := Lib.hid (Blk.new w2 85 #[.pointer (some ⟨y.it, 0, none⟩), .int .i64 y.k, .int .i64 y.v, .int .i64 y.n])
          go_wp2_with fail
          clear f0 g0 g1 g2 g3 o0 obl
          obtain ⟨yb, hyb⟩ : ∃ yb, w2.heap.size = yb := ⟨_, rfl⟩
          rw [hyb] at Y4
          try rw [hyb]
          generalize (w2.alloc (.cells #[.pointer (some ⟨y.it, 0, none⟩), .int .i64 y.k, .int .i64 y.v, .int .i64 y.n] 85)) = w4 at *
          obtain ⟨ny, hny, hnl, rest, hR⟩ := D2.out.mi.heads y (List.mem_cons_self ..)
          have HNY := Lib.hid hny
          have HNL := Lib.hid hnl
          have HRY := Lib.hid hR
          clear hyb hny hnl hR
          go_cut [72] from 56 to 72 (fun t wx => ∃ b, t = .bool b ∧ Hid (b = !(Assoc.get acc y.k).isSome) ∧ Hid (Upd [] w4 wx))
          case first =>
            cases na with
            | zero =>
              have HB : Hid (true = !(Assoc.get acc y.k).isSome) := Lib.hid (by rw [List.length_eq_zero_iff.1 NA.out]; rfl)
              have CS : Hid (∀ W, Upd [] w4.drew W → W.cell? ⟨yb, 1, none⟩ = some (.int .i64 y.k)) := Lib.hid (fun W hW => (Y4.out.upd ((Upd.refl [] w4).drew.trans hW) (by simp)).cell 1)
              refine wp_invN [] [] (by kernel_rfl) (by kernel_rfl) (by kernel_rfl) trivial ?_
              with_reducible apply wpV_light
              · simp only [lightOp]
              · intro W hU hF
                have f0 := CS.out W hU
                clear hU hF
                go_simp
                exact rfl
              simp only [Act.put, List.setIfInBounds_toArray, List.set_cons_zero, List.set_cons_succ]
              with_reducible apply wpV_light
              · simp only [lightOp]
              · intro W hU hF
                have f0 := CS.out W hU
                clear hU hF
                go_simp
                exact rfl
              simp only [Act.put, List.setIfInBounds_toArray, List.set_cons_zero, List.set_cons_succ]
              with_reducible apply wpV_light
              · simp only [lightOp]
              · intro W hU hF
                have f0 := CS.out W hU
                clear hU hF
                go_simp
                exact rfl
              simp only [Act.put, List.setIfInBounds_toArray, List.set_cons_zero, List.set_cons_succ]
              refine wpV_skip (by rfl) (by simp only [lightOp]) ?_
              simp only [Act.put, List.setIfInBounds_toArray, List.set_cons_zero, List.set_cons_succ]
              refine wpV_skip (by rfl) (by simp only [lightOp]) ?_
              simp only [Act.put, List.setIfInBounds_toArray, List.set_cons_zero, List.set_cons_succ]
              refine wpV_skip (by rfl) (by simp only [lightOp]) ?_
              simp only [Act.put, List.setIfInBounds_toArray, List.set_cons_zero, List.set_cons_succ]
              refine wpV_skip (by rfl) (by simp only [lightOp]) ?_
              simp only [Act.put, List.setIfInBounds_toArray, List.set_cons_zero, List.set_cons_succ]
              refine wpV_skip (by rfl) (by simp only [lightOp]) ?_
              simp only [Act.put, List.setIfInBounds_toArray, List.set_cons_zero, List.set_cons_succ]
              refine wpV_skip (by rfl) (by simp only [lightOp]) ?_
              simp only [Act.put, List.setIfInBounds_toArray, List.set_cons_zero, List.set_cons_succ]
              refine wpV_skip (by rfl) (by simp only [lightOp]) ?_
              simp only [Act.put, List.setIfInBounds_toArray, List.set_cons_zero, List.set_cons_succ]
              refine wpV_skip (by rfl) (by simp only [lightOp]) ?_
              simp only [Act.put, List.setIfInBounds_toArray, List.set_cons_zero, List.set_cons_succ]
              refine wpV_skip (by rfl) (by simp only [lightOp]) ?_
              simp only [Act.put, List.setIfInBounds_toArray, List.set_cons_zero, List.set_cons_succ]
              refine wpV_skip (by rfl) (by simp only [lightOp]) ?_
              simp only [Act.put, List.setIfInBounds_toArray, List.set_cons_zero, List.set_cons_succ]
              refine wpV_skip (by rfl) (by simp only [lightOp]) ?_
              simp only [Act.put, List.setIfInBounds_toArray, List.set_cons_zero, List.set_cons_succ]
              refine wpV_skip (by rfl) (by simp only [lightOp]) ?_
              simp only [Act.put, List.setIfInBounds_toArray, List.set_cons_zero, List.set_cons_succ]
              refine wpV_skip (by rfl) (by simp only [lightOp]) ?_
              simp only [Act.put, List.setIfInBounds_toArray, List.set_cons_zero, List.set_cons_succ]
              with_reducible apply wpV_light
              · simp only [lightOp]
              · intro W hU hF
                have f0 := CS.out W hU
                clear hU hF
                go_simp
                exact rfl
              simp only [Act.put, List.setIfInBounds_toArray, List.set_cons_zero, List.set_cons_succ]
              refine wpV_end (fun W hU _ _ => ?_)
              have U5 : Hid (Upd [] w4 W) := Lib.hid ((Upd.refl [] w4).drew.trans hU)
              clear hU
              refine wpT_end ?_
              go_wp2_with fail
              go_meet
              exact ⟨_, rfl, HB, U5⟩
            | succ nl =>
              obtain ⟨q, hq⟩ : ∃ q, acc[nl]? = some q := ⟨_, List.getElem?_eq_getElem (by have := NA.out; omega)⟩
              have ow := O4.out.ow
              rw [NA.out] at ow
              obtain ⟨ga, ca, cur, e1, -⟩ := own_form ow (by have := NA.out; omega)
              injection e1 with e1 e2 e3
              subst e1 e3
              have CS : Hid (∀ W, Upd [] w4.drew W → W.cell? ⟨yb, 1, none⟩ = some (.int .i64 y.k) ∧ W.cell? ⟨ob, 0, none⟩ = some (.slice (some ⟨ga, 0, none⟩) (nl + 1) cx) ∧ W.cell? ⟨ga, nl * 2, none⟩ = some (.int .i64 q.1)) := Lib.hid (fun W hW => by
                have hu : Upd [] w4 W := (Upd.refl [] w4).drew.trans hW
                have h1 := O4.out.o
                rw [NA.out] at h1
                exact ⟨(Y4.out.upd hu (by simp)).cell 1, (h1.upd hu (by simp)).cell 0, (ow.upd0 hu).at_ hq 0 _ rfl⟩)
              have HB : Hid ((q.1 != y.k) = !(Assoc.get acc y.k).isSome) := Lib.hid (by
                have ht := D2.out.mi.there HRY.out
                have hl : acc.getLast? = some q := by rw [List.getLast?_eq_getElem?, NA.out]; exact hq
                rw [hl] at ht
                by_cases e : q.1 = y.k
                · rw [ht.2 ⟨q, rfl, e⟩]; simp [e]
                · have : ¬ ((Assoc.get acc y.k).isSome = true) := fun h => by
                    obtain ⟨p', hp', e'⟩ := ht.1 h
                    injection hp' with hp'
                    subst hp'
                    exact e e'
                  rw [Bool.eq_false_iff.2 this]; simp [e])
              have d1 : ((nl : Int) + 1 == 0) = false := by rw [beq_eq_false_iff_ne]; omega
              have t1 : ((nl + 1 : Nat) : Int) - 1 = (nl : Int) := by omega
              have t2 : (nl : Int) + 1 - 1 = (nl : Int) := by omega
              have t3 : (nl : Int) < (nl : Int) + 1 := by omega
              have t4 : IntKind.i64.wrap (nl : Int) = (nl : Int) := by rw [IntKind.wrap_i64]; omega
              clear ow e2 hq
              refine wp_invN [] [] (by kernel_rfl) (by kernel_rfl) (by kernel_rfl) trivial ?_
              with_reducible apply wpV_light
              · simp only [lightOp]
              · intro W hU hF
                have f0 := CS.out W hU
                clear hU hF
                go_simp
                exact rfl
              simp only [Act.put, List.setIfInBounds_toArray, List.set_cons_zero, List.set_cons_succ]
              with_reducible apply wpV_light
              · simp only [lightOp]
              · intro W hU hF
                have f0 := CS.out W hU
                clear hU hF
                go_simp
                exact rfl
              simp only [Act.put, List.setIfInBounds_toArray, List.set_cons_zero, List.set_cons_succ]
              with_reducible apply wpV_light
              · simp only [lightOp]
              · intro W hU hF
                have f0 := CS.out W hU
                clear hU hF
                go_simp
                exact rfl
              simp only [Act.put, List.setIfInBounds_toArray, List.set_cons_zero, List.set_cons_succ]
              with_reducible apply wpV_light
              · simp only [lightOp]
              · intro W hU hF
                have f0 := CS.out W hU
                clear hU hF
                go_simp
                exact rfl
              simp only [Act.put, List.setIfInBounds_toArray, List.set_cons_zero, List.set_cons_succ]
              with_reducible apply wpV_light
              · simp only [lightOp]
              · intro W hU hF
                have f0 := CS.out W hU
                clear hU hF
                go_simp
                exact rfl
              simp only [Act.put, List.setIfInBounds_toArray, List.set_cons_zero, List.set_cons_succ]
              with_reducible apply wpV_light
              · simp only [lightOp]
              · intro W hU hF
                have f0 := CS.out W hU
                clear hU hF
                go_simp
                exact rfl
              simp only [Act.put, List.setIfInBounds_toArray, List.set_cons_zero, List.set_cons_succ]
              with_reducible apply wpV_light
              · simp only [lightOp]
              · intro W hU hF
                have f0 := CS.out W hU
                clear hU hF
                go_simp
                exact rfl
              simp only [Act.put, List.setIfInBounds_toArray, List.set_cons_zero, List.set_cons_succ]
              with_reducible apply wpV_light
              · simp only [lightOp]
              · intro W hU hF
                have f0 := CS.out W hU
                clear hU hF
                go_simp
                exact rfl
              simp only [Act.put, List.setIfInBounds_toArray, List.set_cons_zero, List.set_cons_succ]
              with_reducible apply wpV_light
              · simp only [lightOp]
              · intro W hU hF
                have f0 := CS.out W hU
                clear hU hF
                go_simp
                exact rfl
              simp only [Act.put, List.setIfInBounds_toArray, List.set_cons_zero, List.set_cons_succ]
              with_reducible apply wpV_light
              · simp only [lightOp]
              · intro W hU hF
                have f0 := CS.out W hU
                clear hU hF
                go_simp
                exact rfl
              simp only [Act.put, List.setIfInBounds_toArray, List.set_cons_zero, List.set_cons_succ]
              with_reducible apply wpV_light
              · simp only [lightOp]
              · intro W hU hF
                have f0 := CS.out W hU
                clear hU hF
                go_simp
                exact rfl
              simp only [Act.put, List.setIfInBounds_toArray, List.set_cons_zero, List.set_cons_succ]
              with_reducible apply wpV_light
              · simp only [lightOp]
              · intro W hU hF
                have f0 := CS.out W hU
                clear hU hF
                go_simp
                exact rfl
              simp only [Act.put, List.setIfInBounds_toArray, List.set_cons_zero, List.set_cons_succ]
              with_reducible apply wpV_light
              · simp only [lightOp]
              · intro W hU hF
                have f0 := CS.out W hU
                clear hU hF
                go_simp
                exact rfl
              simp only [Act.put, List.setIfInBounds_toArray, List.set_cons_zero, List.set_cons_succ]
              with_reducible apply wpV_light
              · simp only [lightOp]
              · intro W hU hF
                have f0 := CS.out W hU
                clear hU hF
                go_simp
                exact rfl
              simp only [Act.put, List.setIfInBounds_toArray, List.set_cons_zero, List.set_cons_succ]
              with_reducible apply wpV_light
              · simp only [lightOp]
              · intro W hU hF
                have f0 := CS.out W hU
                clear hU hF
                go_simp
                exact rfl
              simp only [Act.put, List.setIfInBounds_toArray, List.set_cons_zero, List.set_cons_succ]
              with_reducible apply wpV_light
              · simp only [lightOp]
              · intro W hU hF
                have f0 := CS.out W hU
                clear hU hF
                go_simp
                exact rfl
              simp only [Act.put, List.setIfInBounds_toArray, List.set_cons_zero, List.set_cons_succ]
              with_reducible apply wpV_light
              · simp only [lightOp]
              · intro W hU hF
                have f0 := CS.out W hU
                clear hU hF
                go_simp
                exact rfl
              simp only [Act.put, List.setIfInBounds_toArray, List.set_cons_zero, List.set_cons_succ]
              refine wpV_end (fun W hU _ _ => ?_)
              have U5 : Hid (Upd [] w4 W) := Lib.hid ((Upd.refl [] w4).drew.trans hU)
              clear hU
              refine wpT_end ?_
              go_wp2_with fail
              go_meet
              exact ⟨_, rfl, HB, U5⟩
          case rest =>
            obtain ⟨b, rfl, HB, U5⟩ := hcut
            rename World => w5
            have B5 := Lib.hid (B4.out.upd0 U5.out)
            have O5 := Lib.hid (O4.out.upd0 U5.out)
            have Y5 := Lib.hid (Y4.out.upd U5.out (by simp))
            clear B4 O4 Y4 U5
            go_upto_if 72 with fail
            go_cut [] from 73 to 83 (fun wx => ∃ vo' acc', Hid (acc' = if (Assoc.get acc y.k).isSome then acc else acc ++ [(y.k, y.v)]) ∧ Hid (MB w wx L p (fun n => (T n).length + 1) (y :: ys)) ∧ Hid (MO w wx ob vo' acc') ∧ Hid (Blk wx yb 85 #[.pointer (some ⟨y.it, 0, none⟩), .int .i64 y.k, .int .i64 y.v, .int .i64 y.n]))
            case first =>
              cases b with
              | false =>
                have hs : (Assoc.get acc y.k).isSome = true := by have := HB.out; revert this; cases (Assoc.get acc y.k).isSome <;> simp
                go_wp2_with fail
                go_meet
                exact ⟨_, acc, Lib.hid (by rw [if_pos hs]), B5, O5, Y5⟩
              | true =>
                have hs : ¬ (Assoc.get acc y.k).isSome = true := by have := HB.out; revert this; cases (Assoc.get acc y.k).isSome <;> simp
                have HA : Hid (acc ++ [(y.k, y.v)] = if (Assoc.get acc y.k).isSome then acc else acc ++ [(y.k, y.v)]) := Lib.hid (by rw [if_neg hs])
                clear hs HB
                have ow := O5.out.ow
                unfold Ow at ow
                have hna := NA.out
                rw [hna] at ow
                have OW := Lib.hid ow
                have OB := O5.out.o
                rw [hna] at OB
                have OBH := Lib.hid OB
                have CS : Hid (∀ W, Upd [] w5.drew W → W.cell? ⟨yb, 1, none⟩ = some (.int .i64 y.k) ∧ W.cell? ⟨yb, 2, none⟩ = some (.int .i64 y.v) ∧ W.cell? ⟨ob, 0, none⟩ = some (.slice Ax na cx)) := Lib.hid (fun W hW => by
                  have hu : Upd [] w5 W := (Upd.refl [] w5).drew.trans hW
                  exact ⟨(Y5.out.upd hu (by simp)).cell 1, (Y5.out.upd hu (by simp)).cell 2, (OB.upd hu (by simp)).cell 0⟩)
                clear ow hna OB
                go_wp2_with fail
                refine wp_invNT 8 [(7, .lit 39 #[.int .i64 y.k, .int .i64 y.v] 1)] [] (by kernel_rfl) (by simp) (by kernel_rfl) (by kernel_rfl) ⟨lasts_lit _ _ _, trivial⟩ ?_
                simp only [List.take_succ_cons, List.take_zero, List.drop_succ_cons, List.drop_zero]
                with_reducible apply wpV_light
                · simp only [lightOp]
                · intro W hU hF
                  have f0 := CS.out W hU
                  clear hU hF
                  go_simp
                  exact rfl
                simp only [Act.put, List.setIfInBounds_toArray, List.set_cons_zero, List.set_cons_succ]
                with_reducible apply wpV_light
                · simp only [lightOp]
                · intro W hU hF
                  have f0 := CS.out W hU
                  clear hU hF
                  go_simp
                  exact rfl
                simp only [Act.put, List.setIfInBounds_toArray, List.set_cons_zero, List.set_cons_succ]
                with_reducible apply wpV_light
                · simp only [lightOp]
                · intro W hU hF
                  have f0 := CS.out W hU
                  clear hU hF
                  go_simp
                  exact rfl
                simp only [Act.put, List.setIfInBounds_toArray, List.set_cons_zero, List.set_cons_succ]
                with_reducible apply wpV_light
                · simp only [lightOp]
                · intro W hU hF
                  have f0 := CS.out W hU
                  clear hU hF
                  go_simp
                  exact rfl
                simp only [Act.put, List.setIfInBounds_toArray, List.set_cons_zero, List.set_cons_succ]
                with_reducible apply wpV_light
                · simp only [lightOp]
                · intro W hU hF
                  have f0 := CS.out W hU
                  clear hU hF
                  go_simp
                  exact rfl
                simp only [Act.put, List.setIfInBounds_toArray, List.set_cons_zero, List.set_cons_succ]
                with_reducible apply wpV_light
                · simp only [lightOp]
                · intro W hU hF
                  have f0 := CS.out W hU
                  clear hU hF
                  go_simp
                  exact rfl
                simp only [Act.put, List.setIfInBounds_toArray, List.set_cons_zero, List.set_cons_succ]
                with_reducible apply wpV_light
                · simp only [lightOp]
                · intro W hU hF
                  have f0 := CS.out W hU
                  clear hU hF
                  go_simp
                  exact rfl
                simp only [Act.put, List.setIfInBounds_toArray, List.set_cons_zero, List.set_cons_succ]
                refine wpV_heavy (by simp only [lightOp]) (by rfl) (fun W hU hk hF K hK => ?_) ?_
                · go_wp2_with fail
                  exact wpV_lit hK rfl rfl rfl
                rintro _ ⟨g', rfl⟩
                simp only [Act.put, List.setIfInBounds_toArray, List.set_cons_zero, List.set_cons_succ]
                refine wpV_end (fun W hU _ hF => ?_)
                have U6 : Hid (Upd [] w5 W) := Lib.hid ((Upd.refl [] w5).drew.trans hU)
                have LT : Hid (Blk W g' 39 #[.int .i64 y.k, .int .i64 y.v]) := Lib.hid (by
                  obtain ⟨g2, he, hb⟩ := hF.out.1 (by kernel_rfl)
                  injection he with he _ _
                  injection he with he
                  injection he with he
                  subst he
                  exact hb)
                clear hU hF
                refine wpT_op (by rfl) (fun K hK => ?_)
                refine wp_app W (.tmp 77) (.tmp 80) _ (by rfl) elem_pair (.slice Ax na cx) _ (by rfl) (by rfl) (own_upd0 OW.out U6.out) (.of_blk LT.out (m := 1) 1 rfl) (by intro u hu; simp at hu; rcases hu with rfl | rfl <;> rfl) (by simp only [maxLen]; omega) (by omega) (Nat.le_trans B5.out.u.size U6.out.size) ?_
                intro v7 w7 o7 u7 b7
                have O7 : Hid (Ow encPr 39 w7 w.heap.size v7 (acc ++ [(y.k, y.v)])) := Lib.hid (by unfold Ow; rw [List.length_append, NA.out, flat_append, flat_one_]; exact o7)
                have O6 := Lib.hid (O5.out.upd0 U6.out)
                have B6 := Lib.hid (B5.out.upd0 U6.out)
                have Y6 := Lib.hid (Y5.out.upd U6.out (by simp))
                have u7' : Upd (Value.slice Ax acc.length cx).ownBlock.toList W w7 := by rw [NA.out]; exact u7
                have O8 := Lib.hid (O6.out.push O7.out u7')
                have B8 := Lib.hid (B6.out.out O6.out (vo' := v7) u7')
                have Y7 := Lib.hid (Y6.out.upd u7' (fun hm => own_type O6.out.ow Y6.out (by decide) (by simpa using hm)))
                have OB7 : Hid (Blk w7 ob 55 #[.slice Ax na cx, .bool true]) := Lib.hid ((OBH.out.upd U6.out (by simp)).upd u7' (fun hm => own_type O6.out.ow O6.out.o (by decide) (by simpa using hm)))
                have Y8 : Hid (Blk (w7.setCell ⟨ob, 0, none⟩ v7) yb 85 #[.pointer (some ⟨y.it, 0, none⟩), .int .i64 y.k, .int .i64 y.v, .int .i64 y.n]) := Lib.hid (Y7.out.upd ((Upd.refl [ob] w7).setCell (.inl (by simp)) _) (by simpa using Blk.ne_ Y7.out OB7.out (by decide)))
                obtain ⟨A7, c7, rfl, _, _⟩ := own_slice o7
                refine hK.out _ _ ?_
                clear hK K o7 u7 b7 u7' O7
                simp only [Act.put, List.setIfInBounds_toArray, List.set_cons_zero, List.set_cons_succ]
                have f0 : w7.cell? ⟨ob, 0, none⟩ = some (.slice Ax na cx) := OB7.out.cell 0
                have f1 : w7.frozen? ⟨ob, 0, none⟩ = false := OB7.out.frozen 0
                have f2 : ob < w7.heap.size := OB7.out.lt
                refine wpT_op (by rfl) (fun K hK => ?_)
                go_wp2_with fail
                refine hK.out _ _ ?_
                clear hK K
                try simp only [Act.put, List.setIfInBounds_toArray, List.set_cons_zero, List.set_cons_succ]
                refine wpT_op (by rfl) (fun K hK => ?_)
                go_wp2_with fail
                refine hK.out _ _ ?_
                clear hK K
                try simp only [Act.put, List.setIfInBounds_toArray, List.set_cons_zero, List.set_cons_succ]
                refine wpT_op (by rfl) (fun K hK => ?_)
                go_wp2_with fail
                refine hK.out _ _ ?_
                clear hK K
                try simp only [Act.put, List.setIfInBounds_toArray, List.set_cons_zero, List.set_cons_succ]
                refine wpT_end ?_
                go_wp2_with fail
                go_meet
                exact ⟨_, _, HA, B8, O8, Y8⟩
            case rest =>
              obtain ⟨vo', acc', HA, B6, O6, Y6⟩ := hcut
              rename World => w6
              clear B5 O5 Y5
              have y0 : w6.cell? ⟨yb, 0, none⟩ = some (.pointer (some ⟨y.it, 0, none⟩)) := Y6.out.cell 0
              have LN : Hid (L.getD ny [] = T ny ++ (y.k, y.v) :: rest) := Lib.hid (by rw [D2.out.mi.cut ny, HRY.out])
              have IT : Hid (ItB w w6 (ptI y) (L.getD ny []) ((T ny).length + 1)) := Lib.hid (by
                obtain ⟨n', e, i⟩ := B6.out.its y (List.mem_cons_self ..)
                have : n' = ny := by have := HNY.out; omega
                subst this
                exact i)
              have HA6 := Lib.hid ((D2.out.hp).least ord_s ltS_irr)
              go_wp2_with fail
              refine (next_any w (ptI y) (L.getD ny []) ((T ny).length + 1) w6 IT.out B6.out.u (by rw [LN.out, List.length_append, List.length_cons]; omega)).mono ?_
              rintro e w7 ⟨rfl, i7, u7⟩
              have e7 : (L.getD ny [])[(T ny).length + 1]? = rest[0]? := by rw [LN.out, List.getElem?_append_right (by omega)]; simp
              rw [e7]
              have B7 := Lib.hid (B6.out.next (List.mem_cons_self ..) HNY.out i7 u7)
              have O7 := Lib.hid (O6.out.next (B6.out.blk (List.mem_cons_self ..)) u7)
              clear i7 u7 e7 y0 IT B6 O6 Y6
              have MIN : Hid (∀ z ∈ y :: ys, ltS z y = false) := Lib.hid (fun z hz => by
                obtain ⟨j, hj, e⟩ := List.getElem_of_mem hz
                have := HA6.out j hj
                rw [List.getD_eq_getElem?_getD, List.getElem?_eq_getElem hj, e] at this
                exact this)
              have NDN : Hid ((ys.map (·.n)).Nodup ∧ (∀ z ∈ ys, z.n ≠ y.n) ∧ (ys.map (·.it)).Nodup) := Lib.hid (by
                have h1 := B7.out.nn
                have h2 := B7.out.nd
                rw [List.map_cons, List.nodup_cons] at h1 h2
                exact ⟨h1.2, fun z hz e => h1.1 (List.mem_map.2 ⟨z, hz, e⟩), h2.2⟩)
              have OTH : Hid (∀ z ∈ ys, ∀ r, ∃ m : Nat, z.n = m ∧ m < L.length ∧ m ≠ ny ∧ ∃ rr, up R ny r m = (z.k, z.v) :: rr) := Lib.hid (fun z hz r => by
                obtain ⟨m, e, hm, rr, hr⟩ := D2.out.mi.heads z (List.mem_cons_of_mem _ hz)
                have hne : m ≠ ny := fun h => NDN.out.2.1 z hz (by rw [e, HNY.out, h])
                exact ⟨m, e, hm, hne, rr, by rw [up_ne _ _ hne]; exact hr⟩)
              clear HA6
              cases rest with
              | nil =>
                unfold toldP
                have A8 : Hid (Upd [] w7 (w7.alloc (.cells #[.int .i64 0, .int .i64 0] 39))) := Lib.hid ((Upd.refl [] w7).alloc _)
                go_wp2_with fail
                generalize (w7.alloc (.cells #[.int .i64 0, .int .i64 0] 39)) = w8 at *
                have B8 := Lib.hid (B7.out.upd0 A8.out)
                have O8 := Lib.hid (O7.out.upd0 A8.out)
                clear B7 O7
                refine (heap_pop (str_heaped w.heap.size p) ord_s m (y :: ys) (fun s => .iface 85 (.agg #[.pointer (some ⟨s.it, 0, none⟩), .int .i64 s.k, .int .i64 s.v, .int .i64 s.n])) w8 B8.out.st ZN.out (by have := D2.out.hp; rw [ZN.out] at this; exact this) (fun w ys hs hl => str_pop _ p ys m w hs hl)).mono ?_
                rintro e w9 ⟨rfl, zs, s9, p9, h9, f9⟩
                have P9 : Hid (zs.Perm ys) := Lib.hid (List.Perm.cons_inv p9)
                have B9 : Hid (MB w w9 L p (fun n => ((up T ny (T ny ++ [(y.k, y.v)])) n).length + 1) zs) := Lib.hid ((B8.out.heap f9 s9 (fun z hz => ⟨z, List.mem_cons_of_mem _ (P9.out.mem_iff.1 hz), rfl, rfl⟩) ((P9.out.map _).nodup_iff.2 NDN.out.2.2) ((P9.out.map _).nodup_iff.2 NDN.out.1)).congr (fun z hz n e => by
                  have : n ≠ ny := fun h => NDN.out.2.1 z (P9.out.mem_iff.1 hz) (by rw [e, HNY.out, h])
                  unfold upA
                  rw [if_neg this, up_ne _ _ this]))
                have H9 : Hid (Hp ltS zs.length zs) := Lib.hid (by
                  have h1 := P9.out.length_eq
                  have h2 := ZN.out
                  rw [List.length_cons] at h2
                  rw [show zs.length = m by omega]
                  exact h9)
                have O9 := Lib.hid (O8.out.frs f9)
                clear s9 p9 h9 f9 B8 O8
                go_wp2_with fail
                go_roundg (rem (up R ny []) L.length)
                case measure => rw [HG.out, rem_up HNL.out HRY.out]; omega
                case rel =>
                  refine ⟨_, up R ny [], zs, vo', acc', Lib.hid rfl, Lib.hid ⟨B9.out, H9.out, ?_, O9.out⟩⟩
                  rw [HA.out]
                  refine (D2.out.mi.step (List.mem_cons_self ..) HNY.out HNL.out HRY.out MIN.out (zs := ys) (fun z hz => ?_) (fun n hn => ?_) NDN.out.1).perm P9.out
                  · obtain ⟨m', e, h1, _, rr, hr⟩ := OTH.out z hz []
                    exact ⟨m', e, h1, rr, hr⟩
                  · by_cases e : n = ny
                    · rw [e, up_at]
                    · rw [up_ne _ _ e]
                      refine D2.out.mi.others n (fun z hz => ?_)
                      rcases List.mem_cons.1 hz with rfl | hz
                      · rw [HNY.out]; omega
                      · exact hn z hz
              | cons q rest =>
                unfold toldP
                have A8 : Hid (Upd [] w7 (w7.alloc (.cells #[.int .i64 q.1, .int .i64 q.2] 39))) := Lib.hid ((Upd.refl [] w7).alloc _)
                have Q8 : Hid (Blk (w7.alloc (.cells #[.int .i64 q.1, .int .i64 q.2] 39)) w7.heap.size 39 #[.int .i64 q.1, .int .i64 q.2]) := Lib.hid (Blk.new w7 _ _)
                go_wp2_with fail
                obtain ⟨qb, hqb⟩ : ∃ qb, w7.heap.size = qb := ⟨_, rfl⟩
                rw [hqb] at Q8
                try rw [hqb]
                generalize (w7.alloc (.cells #[.int .i64 q.1, .int .i64 q.2] 39)) = w8 at *
                have B8 := Lib.hid (B7.out.upd0 A8.out)
                have O8 := Lib.hid (O7.out.upd0 A8.out)
                clear B7 O7 hqb A8
                obtain ⟨v, hb, ho⟩ := B8.out.st.obj
                obtain ⟨g, cg, cur, rfl, hBg, hgb, -⟩ := own_form ho (by have := ZN.out; omega)
                have OWS := ho
                unfold Ow at OWS
                rw [ZN.out] at hb OWS
                have HG2 := Lib.hid hgb
                have HBG := Lib.hid hBg
                have OS := Lib.hid OWS
                have PB := Lib.hid hb
                clear OWS hb ho hgb hBg
                have CS : Hid (∀ W, Upd [] w8.drew W → W.cell? ⟨p, 0, none⟩ = some (.slice (some ⟨g, 0, none⟩) (m + 1) cg) ∧ W.cell? ⟨qb, 0, none⟩ = some (.int .i64 q.1) ∧ W.cell? ⟨qb, 1, none⟩ = some (.int .i64 q.2)) := Lib.hid (fun W hW => by
                  have hu : Upd [] w8 W := (Upd.refl [] w8).drew.trans hW
                  exact ⟨(PB.out.upd hu (by simp)).cell 0, (Q8.out.upd hu (by simp)).cell 0, (Q8.out.upd hu (by simp)).cell 1⟩)
                refine wp_invNT 7 [] [] (by kernel_rfl) (by simp) (by kernel_rfl) (by kernel_rfl) trivial ?_
                simp only [List.take_succ_cons, List.take_zero, List.drop_succ_cons, List.drop_zero]
                with_reducible apply wpV_light
                · simp only [lightOp]
                · intro W hU hF
                  have f0 := CS.out W hU
                  clear hU hF
                  go_simp
                  exact rfl
                simp only [Act.put, List.setIfInBounds_toArray, List.set_cons_zero, List.set_cons_succ]
                with_reducible apply wpV_light
                · simp only [lightOp]
                · intro W hU hF
                  have f0 := CS.out W hU
                  clear hU hF
                  go_simp
                  exact rfl
                simp only [Act.put, List.setIfInBounds_toArray, List.set_cons_zero, List.set_cons_succ]
                with_reducible apply wpV_light
                · simp only [lightOp]
                · intro W hU hF
                  have f0 := CS.out W hU
                  clear hU hF
                  go_simp
                  exact rfl
                simp only [Act.put, List.setIfInBounds_toArray, List.set_cons_zero, List.set_cons_succ]
                with_reducible apply wpV_light
                · simp only [lightOp]
                · intro W hU hF
                  have f0 := CS.out W hU
                  clear hU hF
                  go_simp
                  exact rfl
                simp only [Act.put, List.setIfInBounds_toArray, List.set_cons_zero, List.set_cons_succ]
                with_reducible apply wpV_light
                · simp only [lightOp]
                · intro W hU hF
                  have f0 := CS.out W hU
                  clear hU hF
                  go_simp
                  exact rfl
                simp only [Act.put, List.setIfInBounds_toArray, List.set_cons_zero, List.set_cons_succ]
                with_reducible apply wpV_light
                · simp only [lightOp]
                · intro W hU hF
                  have f0 := CS.out W hU
                  clear hU hF
                  go_simp
                  exact rfl
                simp only [Act.put, List.setIfInBounds_toArray, List.set_cons_zero, List.set_cons_succ]
                with_reducible apply wpV_light
                · simp only [lightOp]
                · intro W hU hF
                  have f0 := CS.out W hU
                  clear hU hF
                  go_simp
                  exact rfl
                simp only [Act.put, List.setIfInBounds_toArray, List.set_cons_zero, List.set_cons_succ]
                refine wpV_end (fun W hU _ _ => ?_)
                have U9 : Hid (Upd [] w8 W) := Lib.hid ((Upd.refl [] w8).drew.trans hU)
                clear hU
                have B9 := Lib.hid (B8.out.upd0 U9.out)
                have O9 := Lib.hid (O8.out.upd0 U9.out)
                have OS9 := Lib.hid (own_upd0 OS.out U9.out)
                have PB9 := Lib.hid (PB.out.upd U9.out (by simp))
                have GB9 := Lib.hid (HG2.out.upd U9.out (by simp))
                have fz : ∀ k, W.frozen? ⟨g, k, none⟩ = false := own_frozen OS9.out
                have fl : g < W.heap.size := (own_lt OS9.out rfl).2
                have g1 : W.cell? ⟨g, 1, none⟩ = some (.int .i64 y.k) := by have := own_cell OS9.out 1 (.int .i64 y.k) rfl; exact this
                have g2 : W.cell? ⟨g, 2, none⟩ = some (.int .i64 y.v) := by have := own_cell OS9.out 2 (.int .i64 y.v) rfl; exact this
                clear B8 O8 OS PB CS
                refine wpT_op (by rfl) (fun K hK => ?_)
                go_wp2_with fail
                refine hK.out _ _ ?_
                clear hK K
                try simp only [Act.put, List.setIfInBounds_toArray, List.set_cons_zero, List.set_cons_succ]
                clear g1 g2 fz fl
                refine wpT_end ?_
                have UW : Hid (Upd [g] W ((W.setCell ⟨g, 1, none⟩ (.int .i64 q.1)).setCell ⟨g, 2, none⟩ (.int .i64 q.2))) := Lib.hid (((Upd.refl [g] W).setCell (.inl (by simp)) _).setCell (.inl (by simp)) _)
                have FW : Hid (FrS w.heap.size W ((W.setCell ⟨g, 1, none⟩ (.int .i64 q.1)).setCell ⟨g, 2, none⟩ (.int .i64 q.2))) := Lib.hid (.of_upd UW.out (fun x hx => by simp at hx; subst hx; exact ⟨HBG.out, .inr ⟨_, _, GB9.out, .inr rfl⟩⟩))
                have ST : Hid (StmSt w.heap.size p ((W.setCell ⟨g, 1, none⟩ (.int .i64 q.1)).setCell ⟨g, 2, none⟩ (.int .i64 q.2)) (⟨y.it, q.1, q.2, y.n⟩ :: ys)) := Lib.hid ⟨⟨_, PB9.out.upd UW.out (by simpa using Blk.ne_ PB9.out GB9.out (by decide)), by
                  unfold Ow
                  have e1 := ZN.out
                  rw [List.length_cons] at e1
                  rw [List.length_cons, e1]
                  exact own_set (own_set OS9.out 1 (.int .i64 q.1)) 2 (.int .i64 q.2)⟩, by have := ZN.out; rw [List.length_cons] at this ⊢; omega, B9.out.st.bp⟩
                generalize ((W.setCell ⟨g, 1, none⟩ (.int .i64 q.1)).setCell ⟨g, 2, none⟩ (.int .i64 q.2)) = W2 at *
                go_wp2_with fail
                have L2 : (({ it := y.it, k := q.1, v := q.2, n := y.n } : Sm) :: ys).length = m + 1 := by have := ZN.out; simpa using this
                refine (heap_fix (str_heaped w.heap.size p) ord_s (m + 1) 0 (⟨y.it, q.1, q.2, y.n⟩ :: ys) W2 ST.out L2 (by omega) (ex_set (xs := y :: ys) (by have := D2.out.hp; rw [ZN.out] at this; exact this))).mono ?_
                rintro e w9 ⟨rfl, zs, s9, p9, h9, f9⟩
                have P9 := Lib.hid p9
                have NZ : Hid (∀ z ∈ zs, ∃ y' ∈ y :: ys, z.it = y'.it ∧ z.n = y'.n) := Lib.hid (fun z hz => by
                  rcases List.mem_cons.1 (P9.out.mem_iff.1 hz) with rfl | hz
                  · exact ⟨y, List.mem_cons_self .., rfl, rfl⟩
                  · exact ⟨z, List.mem_cons_of_mem _ hz, rfl, rfl⟩)
                have BW : Hid (MB w w9 L p (fun n => ((up T ny (T ny ++ [(y.k, y.v)])) n).length + 1) zs) := Lib.hid ((B9.out.heap (FW.out.trans f9) s9 NZ.out ((P9.out.map _).nodup_iff.2 B9.out.nd) ((P9.out.map _).nodup_iff.2 B9.out.nn)).congr (fun z hz n e => by
                  unfold upA
                  by_cases h : n = ny
                  · rw [if_pos h, h, up_at]
                    unfold nx
                    rw [LN.out]
                    simp
                  · rw [if_neg h, up_ne _ _ h]))
                have O10 := Lib.hid (O9.out.frs (FW.out.trans f9))
                have H9 : Hid (Hp ltS zs.length zs) := Lib.hid (by
                  have h1 := P9.out.length_eq
                  rw [L2] at h1
                  rw [h1]
                  exact h9)
                clear s9 p9 h9 f9 ST L2
                go_wp2_with fail
                go_roundg (rem (up R ny (q :: rest)) L.length)
                case measure => rw [HG.out, rem_up HNL.out HRY.out]; omega
                case rel =>
                  refine ⟨_, up R ny (q :: rest), zs, vo', acc', Lib.hid rfl, Lib.hid ⟨BW.out, H9.out, ?_, O10.out⟩⟩
                  rw [HA.out]
                  refine (D2.out.mi.step (List.mem_cons_self ..) HNY.out HNL.out HRY.out MIN.out (zs := ⟨y.it, q.1, q.2, y.n⟩ :: ys) (fun z hz => ?_) (fun n hn => ?_) ?_).perm P9.out
                  · rcases List.mem_cons.1 hz with rfl | hz
                    · exact ⟨ny, HNY.out, HNL.out, rest, by rw [up_at]⟩
                    · obtain ⟨m', e, h1, _, rr, hr⟩ := OTH.out z hz (q :: rest)
                      exact ⟨m', e, h1, rr, hr⟩
                  · by_cases e : n = ny
                    · exact absurd (show (⟨y.it, q.1, q.2, y.n⟩ : Sm).n = (n : Int) from HNY.out.trans (by rw [e])) (hn ⟨y.it, q.1, q.2, y.n⟩ (List.mem_cons_self ..))
                    · rw [up_ne _ _ e]
                      refine D2.out.mi.others n (fun z hz => ?_)
                      rcases List.mem_cons.1 hz with rfl | hz
                      · rw [HNY.out]; omega
                      · exact hn z (List.mem_cons_of_mem _ hz)
                  · rw [List.map_cons, List.nodup_cons]
                    exact ⟨fun hm => by obtain ⟨z, hz, e⟩ := List.mem_map.1 hm; exact NDN.out.2.1 z hz e, NDN.out.1⟩
end Go.Proofs.YthdjbflbhgbckaaDoor

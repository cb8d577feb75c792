/-
  order.Sort: the places, sorted.
-/
import Derived.Test.YtegpfhldbdegbaaDoorPile3
import Derived.Test.YtegpfhldbdegbaaDoorSortPlain
set_option linter.unusedVariables false
namespace Go.Proofs.YtegpfhldbdegbaaDoor
open Go.RowKit HeapPlain

theorem orL_cmp (a b : Int) (l : List Int) : orL (cmpI a b :: l) < 0 ↔ a < b ∨ a = b ∧ orL l < 0 := by
  show (if cmpI a b = 0 then orL l else cmpI a b) < 0 ↔ _
  unfold cmpI
  by_cases h : a < b
  · simp [h]
  · by_cases h2 : b < a
    · simp [h, h2]; omega
    · simp [h, h2]; omega
theorem ahd_iff (L : List Att) (i j : Nat) : ahd L i j = true ↔ (L.getD i default).st < (L.getD j default).st ∨ (L.getD i default).st = (L.getD j default).st ∧ (rk (L.getD i default).wr < rk (L.getD j default).wr ∨ rk (L.getD i default).wr = rk (L.getD j default).wr ∧
    ((L.getD i default).en < (L.getD j default).en ∨ (L.getD i default).en = (L.getD j default).en ∧ i < j)) := by
  unfold ahd
  simp only [decide_eq_true_eq, orL_cmp]
  simp only [orL]
  omega
theorem ahd_tot (L : List Att) : Tot (ahd L) where
  irr a := by
    cases h : ahd L a a with
    | false => rfl
    | true => rw [ahd_iff] at h; omega
  trans a b c h1 h2 := by rw [ahd_iff] at *; omega
  tri a b h := by rw [ahd_iff, ahd_iff]; omega

section
variable {w0 : World} {p g : Nat} {A : Option Addr} {n c : Nat} {L : List Att}
theorem heaped_push : Heaped Nat 22 59 62 (.pointer (some ⟨p, 0, none⟩)) (ahd L) (fun w xs => ∃ v, PileV w0 p g A n c L v w xs) (fun _ _ => True) where
  refl _ := trivial
  trans _ _ _ _ _ := trivial
  len w xs h := by
    obtain ⟨v, h⟩ := h
    exact h.len_ok.mono fun e w' ⟨a, b, _⟩ => ⟨a, ⟨v, b⟩, trivial⟩
  less w xs i j h hi hj := by
    obtain ⟨v, h⟩ := h
    exact (h.less_ok i j hi hj).mono fun e w' ⟨a, b, _⟩ => ⟨a, ⟨v, b⟩, trivial⟩
  swap w xs i j h hi hj := by
    obtain ⟨v, h⟩ := h
    exact (h.swap_ok i j hi hj).mono fun e w' ⟨a, b, _⟩ => ⟨a, ⟨v, b⟩, trivial⟩
  small w xs h := by
    obtain ⟨v, h⟩ := h
    have := h.small
    omega
theorem heaped_pop (ob : Option Nat) : Heaped Nat 22 59 62 (.pointer (some ⟨p, 0, none⟩)) (ahd L) (fun w xs => ∃ v, v.ownBlock = ob ∧ PileV w0 p g A n c L v w xs) (fun w w' => Upd (p :: ob.toList) w w') where
  refl _ := .refl _ _
  trans _ _ _ a b := a.trans b
  len w xs h := by
    obtain ⟨v, hv, h⟩ := h
    exact h.len_ok.mono fun e w' ⟨a, b, u⟩ => ⟨a, ⟨v, hv, b⟩, u.mono (by simp)⟩
  less w xs i j h hi hj := by
    obtain ⟨v, hv, h⟩ := h
    exact (h.less_ok i j hi hj).mono fun e w' ⟨a, b, u⟩ => ⟨a, ⟨v, hv, b⟩, u.mono (by simp)⟩
  swap w xs i j h hi hj := by
    obtain ⟨v, hv, h⟩ := h
    exact (h.swap_ok i j hi hj).mono fun e w' ⟨a, b, u⟩ => ⟨a, ⟨v, hv, b⟩, u.mono (by rw [hv]; intro x hx; exact .inl (List.mem_cons_of_mem _ hx))⟩
  small w xs h := by
    obtain ⟨v, hv, h⟩ := h
    have := h.small
    omega
end

def sliceLen : Value → Nat
  | .slice _ n _ => n
  | _ => 0
set_option maxRecDepth 100000 in
set_option maxHeartbeats 2000000 in
theorem sort_ok (A : Option Addr) (n c : Nat) (L : List Att) (w : World) (hA : Atts w A L) (hn : L.length = n) (h60 : n ≤ 100) :
    Calls Tryd.prog 9 #[.slice A n c] w fun e w' => ∃ v, e = .returned v ∧ w'.ownsRow w.heap.size 3 1 v n (ints (srt (ahd L) (List.range n))) ∧ Upd [] w w' := by
  obtain ⟨i0, hi0, hz0, hz1, hz2⟩ := info_parts int_info
  have start : PileV w (w.heap.size + 1) w.heap.size A n c L (.slice none 0 0) ((w.alloc (.cells #[.slice A n c] 22)).alloc (.cells #[.slice none 0 0, lessF w.heap.size] 42)) [] :=
    { pb := by have := Blk.new (w.alloc (.cells #[.slice A n c] 22)) 42 #[.slice none 0 0, lessF w.heap.size]; simpa using this
      own := own_nil _ _ _ _
      gb := (Blk.new w _ _).alloc _
      bel := ((Upd.refl [] w).alloc _ |>.alloc _).below (Nat.le_refl _) (by simp)
      pn := by omega, gn := by omega, small := by simp, all := by simp, atts := hA, len := hn, base := by simp; omega }
  have ST := Lib.hid start
  have HN := Lib.hid hn
  clear start hA hn
  go_enter Tryd.func9, Tryd.ntmps9
  go_wp2_with fail
  go_loopw [11] (fun u wr => ∃ (k : Nat) (ys : List Nat), u = .int .i64 k ∧ k ≤ n ∧ Hid (∃ v, PileV w (w.heap.size + 1) w.heap.size A n c L v wr ys) ∧ Hid (ys.Perm (List.range k)) ∧ Hid (Hp (ahd L) k ys)) (fun u _ => n - (intOf u).toNat)
  case atStart => exact ⟨0, [], rfl, by omega, Lib.hid ⟨_, ST.out⟩, Lib.hid (by simp), Lib.hid (by intro k hk hk2; omega)⟩
  case round =>
    obtain ⟨k, ys, rfl, hk, HY, HP, HH⟩ := hrel
    by_cases hlt : k < n
    · go_wp2_with fail
      have HL : Hid (ys.length = k) := Lib.hid (by have := HP.out.length_eq; simpa using this)
      refine (heap_push heaped_push (ahd_tot L).ord k ys k 3 (.int .i64 k) wr HY.out HL.out HH.out ?_).mono ?_
      · obtain ⟨v, h⟩ := HY.out
        exact (h.push_ok k (by rw [HN.out]; exact hlt) (by rw [HL.out]; omega)).mono fun e w' ⟨a, v', b⟩ => ⟨a, ⟨v', b⟩, trivial⟩
      rintro e w1 ⟨rfl, zs, s1, p1, h1, -⟩
      have S1 := Lib.hid s1
      have H1 := Lib.hid h1
      have P1 : Hid (zs.Perm (List.range (k + 1))) := Lib.hid (by
        rw [List.range_succ]
        exact (p1.trans (List.Perm.cons k HP.out)).trans (List.perm_append_comm (l₁ := [k]) (l₂ := List.range k)))
      clear s1 p1 h1
      go_wp2_with fail
      go_roundw
      case rel => exact ⟨k + 1, zs, by go_num, by omega, S1, P1, H1⟩
      case measure => simp [intOf]; omega
    · obtain rfl : n = k := by omega
      obtain ⟨v0, pv⟩ := HY.out
      have PV := Lib.hid pv
      clear pv
      obtain ⟨ob, hob⟩ : ∃ ob, v0.ownBlock = ob := ⟨_, rfl⟩
      have OB := Lib.hid hob
      clear hlt hk HY hob
      go_wp2_with fail
      go_loopw [5] (fun u ws => ∃ (k : Nat) (ys os : List Nat), k ≤ n ∧ Hid (sliceLen u = k) ∧ Hid (∃ v, v.ownBlock = ob ∧ PileV w (w.heap.size + 1) w.heap.size A n c L v ws ys) ∧ Hid (Hp (ahd L) (n - k) ys) ∧ Hid (ys.length = n - k) ∧ Hid ((os ++ ys).Perm (List.range n)) ∧
          Hid (os.Pairwise (fun a b => ahd L a b = true)) ∧ Hid (∀ a ∈ os, ∀ b ∈ ys, ahd L a b = true) ∧ Hid (ws.ownsRow w.heap.size 3 1 u k (ints os)) ∧ Hid (∀ b, u.ownBlock = some b → b ≠ w.heap.size + 1 ∧ ob ≠ some b)) (fun u _ => n - sliceLen u)
      case atStart => exact ⟨0, ys, [], by omega, Lib.hid rfl, Lib.hid ⟨v0, OB.out, PV.out⟩, HH, Lib.hid (by have := HP.out.length_eq; simpa using this), HP, Lib.hid .nil, Lib.hid (by simp), Lib.hid (own_nil _ _ _ _), Lib.hid (by simp [Value.ownBlock])⟩
      case round =>
        obtain ⟨k, ys, os, hk, KS, KY, KH, KL, KP, KO, KA, KU, KB⟩ := hrel
        by_cases hlt : k < n
        · obtain ⟨m, hm⟩ : ∃ m, n - k = m + 1 := ⟨n - k - 1, by omega⟩
          obtain ⟨v, hv, P0⟩ := KY.out
          have LY : Hid (ys.length = m + 1) := Lib.hid (KL.out.trans hm)
          have KH1 : Hid (Hp (ahd L) (m + 1) ys) := Lib.hid (hm ▸ KH.out)
          have HV := Lib.hid hv
          have Q0 := Lib.hid P0
          have hmn : m ≤ 100 := by omega
          clear hv P0 KY KH KL
          go_wp2_with fail
          have hc := Q0.out.len_ok
          rw [LY.out] at hc
          have hq : ((m + 1 : Nat) : Int) = (m : Int) + 1 := by omega
          rw [hq] at hc
          clear hq
          refine hc.mono ?_; clear hc; rintro e w1 ⟨rfl, p1, u1⟩
          have hown := p1.own
          rw [LY.out] at hown
          obtain ⟨a, cap, cur, rfl, ha, hb, hc1, hc2, _⟩ := own_form hown (by omega)
          have f0 : w1.cell? ⟨w.heap.size + 1, 0, none⟩ = some (.slice (some ⟨a, 0, none⟩) (m + 1) cap) := by rw [p1.pb.cell]; rfl
          have f1 : w1.cell? ⟨a, 0, none⟩ = some (.int .i64 (ys.getD 0 default : Nat)) := own_cell hown 0 _ (ints_get ys 0 (by rw [LY.out]; omega))
          have O1 := Lib.hid (own_upd0 KU.out u1)
          have OA := Lib.hid (own_upd0 O1.out ((Upd.refl [] w1).alloc (.cells #[.int .i64 (ys.getD 0 default : Nat)] 3)))
          have P1 := Lib.hid p1
          have hz : w.heap.size + 2 ≤ w1.heap.size := by have := p1.pb.lt; omega
          clear p1 u1 hown hb ha hc1 hc2 KU Q0
          go_wp2_with (first
            | (at_builtin; refine wpList_append_lies _ rfl (.tmp 23) (.tmp 30) _ rfl w.heap.size 3 i0 _ 1 8 Tryd.underlying24 hi0 hz0 hz1 hz2 rfl (by omega) u5 k (ints os) rfl OA.out ⟨w1.heap.size, 0, none⟩ 1 1 [.int .i64 (ys.getD 0 default : Nat)] rfl (by simp) (news_of_blk (Blk.new w1 3 #[.int .i64 (ys.getD 0 default : Nat)])) (by intro u hu; simp only [List.mem_singleton] at hu; subst hu; rfl) (by omega) (by simp only [maxLen]; omega) (by omega) (by simp; omega) (w1.heap.size + 1) (by simp) ?_
               intro g2 cap2 w2 hown2 hg2 hat2 hlt2
               have O2 := Lib.hid hown2
               have U2 := Lib.hid (((Upd.refl u5.ownBlock.toList w1).alloc (.cells #[.int .i64 (ys.getD 0 default : Nat)] 3)).grown hg2 (fun k hk => .inl (by rw [hk]; simp)))
               have T2 := Lib.hid hat2
               clear hown2 hg2 hat2 hlt2))
          have B2 : Hid (∀ x, u5.ownBlock = some x → w.heap.size ≤ x ∧ x ≠ w.heap.size + 1 ∧ x ≠ w.heap.size ∧ ob ≠ some x) := Lib.hid fun x hx =>
            ⟨(own_lt O1.out hx).1, (KB.out x hx).1, fun e => own_type O1.out P1.out.gb (by decide) (e ▸ hx), (KB.out x hx).2⟩
          have P2 : PileV w (w.heap.size + 1) w.heap.size A n c L (.slice (some ⟨a, 0, none⟩) (m + 1) cap) w2 ys := P1.out.upd U2.out (by
            intro x hx
            rw [HV.out]
            exact B2.out x (by simpa using hx))
          have G2 : Hid (g2 ≠ w.heap.size + 1 ∧ ob ≠ some g2) := Lib.hid (by
            rcases T2.out with h | h
            · exact ⟨(B2.out _ h).2.1, (B2.out _ h).2.2.2⟩
            · refine ⟨by omega, fun e => ?_⟩
              have := (own_lt P1.out.own (HV.out.trans e)).2
              omega)
          refine (heap_pop (heaped_pop ob) (ahd_tot L).ord m ys (fun (x : Nat) => .iface 3 (.int .i64 x)) w2 ⟨_, HV.out, P2⟩ LY.out KH1.out ?_).mono ?_
          · intro w3 zs ⟨v3, h3, p3⟩ hl3
            refine (p3.pop_ok m hl3).mono ?_
            rintro e w4 ⟨rfl, v4, h4, p4, u4⟩
            exact ⟨rfl, ⟨v4, h4.trans h3, p4⟩, u4.mono (by simp)⟩
          rintro e w3 ⟨rfl, zs, s3, q3, h3, u3⟩
          have S3 := Lib.hid s3
          have Q3 := Lib.hid q3
          have H3 := Lib.hid h3
          have U3 := Lib.hid u3
          clear s3 q3 h3 u3 P2
          go_wp2_with fail
          go_roundw
          case rel =>
            have hmk : n - (k + 1) = m := by omega
            have hst := sort_step (ahd_tot L) KP.out List.nodup_range Q3.out (fun x hx => by
              obtain ⟨j, hj, rfl⟩ := List.getElem_of_mem hx
              have := KH1.out.least (ahd_tot L).ord (ahd_tot L).irr j (by rw [← LY.out]; exact hj)
              simpa [List.getElem?_eq_getElem hj] using this) KO.out KA.out
            refine ⟨k + 1, zs, os ++ [ys.getD 0 default], by omega, Lib.hid rfl, S3, Lib.hid (hmk ▸ H3.out), Lib.hid ?_, Lib.hid hst.1, Lib.hid hst.2.1, Lib.hid hst.2.2, Lib.hid ?_, Lib.hid ?_⟩
            · have := Q3.out.length_eq
              rw [LY.out] at this
              simp at this
              omega
            · rw [ints_snoc]
              refine own_upd O2.out U3.out ?_
              intro b hb
              simp only [Value.ownBlock, Option.some.injEq] at hb
              subst hb
              simp only [List.mem_cons, Option.mem_toList, not_or]
              exact ⟨G2.out.1, G2.out.2⟩
            · intro b hb
              simp only [Value.ownBlock, Option.some.injEq] at hb
              subst hb
              exact G2.out
          case measure =>
            show n - (k + 1) < n - sliceLen u5
            rw [KS.out]; omega
        · obtain rfl : n = k := by omega
          have LY : Hid (ys.length = 0) := Lib.hid (by have := KL.out; omega)
          obtain ⟨v, hv, P0⟩ := KY.out
          have Q0 := Lib.hid P0
          clear hv P0 KY hlt
          go_wp2_with fail
          have hc := Q0.out.len_ok
          rw [LY.out] at hc
          refine hc.mono ?_; clear hc; rintro e w1 ⟨rfl, p1, u1⟩
          have P1 := Lib.hid p1
          have U1 := Lib.hid u1
          clear p1 u1
          go_wp2_with fail
          go_ret
          refine ⟨_, rfl, ?_, ?_⟩
          · have hy : ys = [] := List.length_eq_zero_iff.1 LY.out
            have hp := KP.out
            rw [hy, List.append_nil] at hp
            rw [← srt_eq (ahd_tot L) hp KO.out]
            exact own_upd0 KU.out U1.out
          · exact Upd.of_below P1.out.bel (Nat.le_refl _)
end Go.Proofs.YtegpfhldbdegbaaDoor

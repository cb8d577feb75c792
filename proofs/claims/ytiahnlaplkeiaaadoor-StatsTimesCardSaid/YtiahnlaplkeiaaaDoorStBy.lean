/-
  stats.By.
-/
import Derived.Test.YtiahnlaplkeiaaaDoorStBars
import Derived.Test.YtiahnlaplkeiaaaDoorStB
import Derived.Test.YtiahnlaplkeiaaaDoorLayS
import Derived.Test.YtiahnlaplkeiaaaDoorIMap
import Derived.Test.YtiahnlaplkeiaaaDoorAppV
import Derived.Maps.Range
set_option linter.unusedVariables false
namespace Go.Proofs.YtiahnlaplkeiaaaDoor
open Go.RowKit St Go.Shelf Go.WideElems Go.MapKept Go.Maps Go.WideShapes
attribute [local go_sem] litStep_value

theorem sortsI (m : Nat) : AnyZI.SortsIn Tryd.prog sortedI_lay_ren Fence.wide m :=
  ⟨fun blk off cap ss W hH hblk hsz => callsIn_wide.2 (AnyM.slices_Sort_int sortI_lay blk off cap ss W hH hblk hsz),
   fun p cap W => callsIn_wide.2 (AnyM.slices_Sort_int_none sortI_lay p cap W)⟩
theorem keysM (mb : Option Nat) (w : World) : Calls Tryd.prog 24 #[.map mb] w fun e w' => e = .returned (.func (.func 38) #[] #[.pointer (some ⟨w.heap.size, 0, none⟩)]) ∧ w.alloc (.cells #[.map mb] 48) = w' := by
  go_enter Tryd.func24, Tryd.ntmps24
  go_wp2_with fail
  go_ret
  exact ⟨rfl, rfl⟩
def R0 : Value → Option (DataW Unit × List MemPlace) := fun _ => some (.nil, [])
theorem keyOf_int {x : Int} (h : (Lit.int .i64 x).wf = true) : keyOf Tryd.prog 3 (.int .i64 x) = some (.int .i64 x) := by
  unfold keyOf
  rw [Tryd.underlying3]
  simp [mapKey, Tryd.underlying3, h]
theorem findI_some {L : List IEnt} {k : Int} : (findI L k).isSome = true ↔ k ∈ L.map (·.1) := by
  unfold findI
  rw [Option.isSome_map, List.find?_isSome]
  simp only [List.mem_map, beq_iff_eq]
theorem sort_rising {l ss : List Int} (hs : l.Pairwise (· < ·)) (hp : ss.Perm l) : ss.mergeSort (fun x y => decide (x ≤ y)) = l := by
  refine List.Perm.eq_of_pairwise (le := fun x y => x ≤ y) ?_ ?_ ?_ ((List.mergeSort_perm _ _).trans hp)
  · intro a b _ _ h1 h2; omega
  · have := List.pairwise_mergeSort (le := fun (x y : Int) => decide (x ≤ y)) (fun a b c h1 h2 => by simp at *; omega) (fun a b => by simp; omega) ss
    exact this.imp (fun h => by simpa using h)
  · exact hs.imp (fun h => by omega)
/-- The map as the shelf's kit knows it. -/
theorem owns_of {w : World} {m : Nat} {f : Int → Option Value} {ks : List Int} (h : IMap w .i64 m f ks.length) (hf : ∀ k, (f k).isSome = true ↔ k ∈ ks) (hs : ks.Pairwise (· < ·)) (hk : ∀ k ∈ ks, (Lit.int .i64 k).wf = true) (hl : ks.length ≤ 200) :
    ∃ D0 : DataW Unit, w.ownsMap Tryd.prog 3 R0 m ks.length D0 ∧ Maps.size D0 ≤ 200 ∧ (intKeys D0).Perm ks := by
  obtain ⟨L, c, hr, hfi, hn⟩ := h
  have hkp : (L.map (·.1)).Perm ks := (List.perm_ext_iff_of_nodup hr.keys (hs.imp (fun h => by omega))).2 fun k => by rw [← findI_some, ← hfi k, hf]
  have hwf : ∀ p ∈ L, (Lit.int .i64 p.1).wf = true := fun p hp => hk _ (hkp.mem_iff.1 (List.mem_map.2 ⟨p, hp, rfl⟩))
  have hrg : ∀ p ∈ L, rg Tryd.prog 3 R0 (ent .i64 p) = (.int .i64 p.1, .nil) := fun p hp => by
    unfold rg rd ent R0
    simp [keyOf_int (hwf p hp)]
  have he : ((L.map (ent .i64)).toArray.toList.map (rg Tryd.prog 3 R0)) = L.map (fun p => (Lit.int .i64 p.1, (DataW.nil : DataW Unit))) := by
    generalize rg Tryd.prog 3 R0 = f at hrg ⊢
    show (L.map (ent .i64)).map f = _
    rw [List.map_map]
    exact List.map_congr_left fun p hp => hrg p hp
  refine ⟨_, ⟨_, c, hr.blk, ⟨?_, ⟨?_, ?_, ?_⟩, ?_⟩, ?_, rfl⟩, ?_, ?_⟩
  · simp [maxLen]; omega
  · intro x hx
    simp only [List.mem_map] at hx
    obtain ⟨p, hp, rfl⟩ := hx
    exact hr.lt p hp
  · simp only [List.map_map]
    exact hr.stamps
  · simp only [List.map_map]
    have : (Value.int IntKind.i64 ∘ fun (p : IEnt) => p.1) = (MapEntry.key ∘ ent .i64) := rfl
    rw [← this, ← List.map_map]
    exact List.Pairwise.map _ (fun a b h e => h (by injection e)) hr.keys
  · intro x hx
    simp only [List.mem_map] at hx
    obtain ⟨p, hp, rfl⟩ := hx
    exact ⟨(.int .i64 p.1, .nil), by unfold rd ent R0; simp [keyOf_int (hwf p hp)]⟩
  · simp [hn]
  · rw [he]
    show (List.foldr DataW.insert [] _).length ≤ 200
    rw [(sorted_perm _).length_eq, List.length_map, hn]
    exact hl
  · rw [he]
    unfold intKeys
    refine ((sorted_perm _).map _).trans ?_
    rw [List.map_map]
    exact hkp
def KeysPost (ks : List Int) (w : World) (e : Ending) (w' : World) : Prop := ∃ v, e = .returned v ∧ OwI w' w.heap.size v ks.length ks ∧ Upd [] w w'
theorem sortedKeys (Bm m : Nat) (f : Int → Option Value) (ks : List Int) (w : World) (hb : Blk w Bm 48 #[.map (some m)]) (h : IMap w .i64 m f ks.length) (hf : ∀ k, (f k).isSome = true ↔ k ∈ ks) (hs : ks.Pairwise (· < ·)) (hk : ∀ k ∈ ks, (Lit.int .i64 k).wf = true) (hl : ks.length ≤ 200) :
    Calls Tryd.prog 23 #[.func (.func 38) #[] #[.pointer (some ⟨Bm, 0, none⟩)]] w fun e w' => KeysPost ks w e w' := by
  obtain ⟨D0, hown, hsz, hp⟩ := owns_of h hf hs hk hl
  have hseq : SeqGives Fence.wide 2 Tryd.prog 38 #[.pointer (some ⟨Bm, 0, none⟩)] encZ (fun ss => ss.Perm (intKeys D0)) (Maps.size D0) w :=
    AnyZI.keys_gives (ρ := keysM_lay_ren) { keysM_lay with } Fence.wide _ trivial rfl (by omega) Bm m ks.length D0 _ hb.lt (hb.cell 0) hown
  have cS := AnyZI.sorted_in sortedI_lay Fence.wide 5 trivial trivial trivial trivial rfl (by omega) (sortsI _) (enters_of Tryd.func25 (by kernel_rfl) rfl) 38 #[.pointer (some ⟨Bm, 0, none⟩)] trivial (enters_of Tryd.func38 (by kernel_rfl) rfl) _ _ (by simp only [maxLen]; omega) (by omega) _ hseq
  refine (callsIn_wide (n := 5)).1 (show CallsIn Fence.wide 5 Tryd.prog 23 _ w _ from cS.mono ?_)
  rintro e w' ⟨v, ss, rfl, hS, hrow, _, hbl⟩
  have hpp := hS.trans hp
  rw [sort_rising hs hpp] at hrow
  refine ⟨v, rfl, ?_, Upd.of_below (S := []) hbl (Nat.le_refl _)⟩
  rw [← hpp.length_eq]
  exact hrow
theorem IMap.drewN {w : World} {q : IntKind} {b : Nat} {f : Int → Option Value} {c : Nat} (h : IMap w q b f c) (n : Nat) : IMap (w.drewN n) q b f c := by
  obtain ⟨L, c, h, h1, h2⟩ := h
  exact ⟨L, c, ⟨h.blk, h.keys, h.stamps, h.lt⟩, h1, h2⟩
/-- What the map has. -/
def byV (l : List En) (k : Int) : Option Value := (byF l k).map talV
theorem byV_is (l : List En) (k : Int) : (byV l k).isSome = true ↔ k ∈ thr l := by unfold byV; rw [Option.isSome_map, byF_is]; simp
theorem byV_step {w : World} {m : Nat} {l : List En} {x : En} (h : IMap w .i64 m (putI (byV l) x.th (talV (join (ofL (ofT l x.th)) (St.one x)))) (if (byV l x.th).isSome then (thr l).length else (thr l).length + 1)) : IMap w .i64 m (byV (l ++ [x])) (thr (l ++ [x])).length := by
  rw [thr_len_snoc]
  unfold byV at h
  rw [Option.isSome_map] at h
  refine h.congr fun k => ?_
  unfold putI byV
  rw [byF_snoc, byF_old]
  by_cases e : k = x.th
  · rw [if_pos e, if_pos e]; rfl
  · rw [if_neg e, if_neg e]
theorem elem_tal : Elem Tryd.prog 30 26 8 64 := .mk' (z := ((Tryd.prog.info? 26).bind (·.zero)).getD undef) Tryd.underlying30 (by kernel_rfl) (by kernel_rfl) (by decide)
def talCs (t : Tal) : List Value := [.int .i64 t.dn, .int .i64 t.ab, .int .i64 t.bl, .int .i64 t.cp, .int .i64 t.fl, .int .i64 t.wo, .int .i64 t.tm, .int .i64 t.lg]
def encT : Enc Tal := ⟨talCs, 8, fun _ => rfl, by intro a u hu; simp [talCs] at hu; rcases hu with rfl | rfl | rfl | rfl | rfl | rfl | rfl | rfl <;> rfl, by omega⟩
/-- The counts, thread by thread. -/
def tals (l : List En) : List Tal := (thr l).map fun k => ofL (ofT l k)
def ByPost (l : List En) (w : World) (e : Ending) (w' : World) : Prop := ∃ v u, e = .returned (.tuple #[v, u]) ∧ OwI w' w.heap.size v (thr l).length (thr l) ∧ Ow encT 26 w' w.heap.size u (tals l) ∧ Upd [] w w'
set_option maxRecDepth 100000 in
set_option maxHeartbeats 4000000 in
theorem by_ok (A : Option Addr) (n c : Nat) (L : List En) (w : World) (h : Rd encE w (.slice A n c) L) (hn : L.length = n) (hl : n ≤ 200) (he : ∀ x ∈ L, EB x) (hw : ∀ x ∈ L, inK .i64 x.th) :
    Calls Tryd.prog 10 #[.slice A n c] w fun e w' => ByPost L w e w' := by
  have H := Lib.hid h
  have HN := Lib.hid hn
  have HE := Lib.hid he
  have HW := Lib.hid hw
  clear h hn he hw
  have hmm : ∀ w, (Instr.makeMap 48 none).run Tryd.prog w = .ok (.map (some w.heap.size)) (w.alloc (.map #[] 0)) := fun _ => by kernel_rfl
  obtain ⟨m, hm⟩ : ∃ m, w.heap.size = m := ⟨_, rfl⟩
  have M0 : Hid (IMap (w.alloc (.map #[] 0)) .i64 m (byV (L.take 0)) (thr (L.take 0)).length) := Lib.hid (by rw [← hm]; exact (IMap.new w .i64).congr fun k => by unfold byV; rw [List.take_zero, byF_nil]; rfl)
  have U0 : Hid (Upd [] w (w.alloc (.map #[] 0))) := Lib.hid ((Upd.refl [] w).alloc _)
  have HM := Lib.hid hm
  go_enter Tryd.func10, Tryd.ntmps10
  go_wp2_with fail
  clear hm hmm
  generalize (w.alloc (.map #[] 0)) = w1 at *
  go_loopw [14] (fun v wr => ∃ k : Nat, v = .int .i64 k ∧ k ≤ n ∧ Hid (IMap wr .i64 m (byV (L.take k)) (thr (L.take k)).length) ∧ Hid (Upd [] w wr)) (fun v _ => n - (intOf v).toNat)
  case atStart => exact ⟨0, rfl, by omega, M0, U0⟩
  case round =>
    obtain ⟨k, rfl, hk, KM, KU⟩ := hrel
    by_cases hkn : k < n
    · obtain ⟨x, hx⟩ : ∃ x, L[k]? = some x := ⟨_, List.getElem?_eq_getElem (by rw [HN.out]; exact hkn)⟩
      have EX := Lib.hid (HE.out _ (List.mem_of_getElem? hx))
      have HT := Lib.hid (take_snoc hx)
      have SM : Hid (Sm (ofL (ofT (L.take k) x.th)) (ofT (L.take k) x.th).length ∧ (ofT (L.take k) x.th).length ≤ 1000) := Lib.hid ⟨sm_ofL (fun y hy => HE.out y (List.mem_of_mem_take (List.mem_filter.1 hy).1)), by
        have h1 : (ofT (L.take k) x.th).length ≤ (L.take k).length := List.length_filter_le _ _
        have h2 : (L.take k).length ≤ L.length := List.length_take_le' _ _
        have := HN.out
        omega⟩
      obtain ⟨ad, rfl, hlt, e0, e1, e2, e3, e4, e5, e6, e7, e8⟩ := en_cells (H.out.upd0 KU.out) hx
      obtain ⟨th, ix, st, wr', be, en, kd, er, ta, tn, tc⟩ := x
      simp only at SM
      obtain ⟨τ, hτ⟩ : ∃ τ, ofL (ofT (L.take k) th) = τ := ⟨_, rfl⟩
      have HTA := Lib.hid hτ
      rw [hτ] at SM
      have q1 : (0 : Int) ≤ (k : Int) := by omega
      have q2 : (k : Int) < (n : Int) := by omega
      clear hx hτ
      go_wp2_with fail
      obtain ⟨xb, hxb⟩ : ∃ xb, wr.heap.size = xb := ⟨_, rfl⟩
      have X1 : Hid (Blk (wr.alloc (.cells #[.int .i64 th, .int .i64 ix, .int .i64 st, .bool wr', .int .i64 be, .int .i64 en, .int .i64 kd, .slice ta tn tc, .int .i64 er] 45)) xb 45 #[.int .i64 th, .int .i64 ix, .int .i64 st, .bool wr', .int .i64 be, .int .i64 en, .int .i64 kd, .slice ta tn tc, .int .i64 er]) := Lib.hid (by rw [← hxb]; exact Blk.new _ _ _)
      have U1 : Hid (Upd [] w (wr.alloc (.cells #[.int .i64 th, .int .i64 ix, .int .i64 st, .bool wr', .int .i64 be, .int .i64 en, .int .i64 kd, .slice ta tn tc, .int .i64 er] 45))) := Lib.hid (KU.out.alloc _)
      have M1 := Lib.hid (KM.out.upd ((Upd.refl [] wr).alloc (.cells #[.int .i64 th, .int .i64 ix, .int .i64 st, .bool wr', .int .i64 be, .int .i64 en, .int .i64 kd, .slice ta tn tc, .int .i64 er] 45)) (by simp))
      rw [hxb]
      generalize (wr.alloc (.cells #[.int .i64 th, .int .i64 ix, .int .i64 st, .bool wr', .int .i64 be, .int .i64 en, .int .i64 kd, .slice ta tn tc, .int .i64 er] 45)) = w5 at *
      have CS : Hid (∀ W, Upd [] w5.drew W → (W.cell? ⟨xb, 0, none⟩ = some (.int .i64 th) ∧ W.cell? ⟨xb, 1, none⟩ = some (.int .i64 ix) ∧ W.cell? ⟨xb, 2, none⟩ = some (.int .i64 st) ∧ W.cell? ⟨xb, 3, none⟩ = some (.bool wr') ∧ W.cell? ⟨xb, 4, none⟩ = some (.int .i64 be) ∧ W.cell? ⟨xb, 5, none⟩ = some (.int .i64 en) ∧ W.cell? ⟨xb, 6, none⟩ = some (.int .i64 kd) ∧ W.cell? ⟨xb, 7, none⟩ = some (.slice ta tn tc) ∧ W.cell? ⟨xb, 8, none⟩ = some (.int .i64 er)) ∧ (Instr.lookup 48 (.map (some m)) (.int .i64 th) false).run Tryd.prog W = .ok (talV τ) W) := Lib.hid (fun W hW => by
        have hu : Upd [] w5 W := (Upd.refl [] w5).drew.trans hW
        have hb := X1.out.upd hu (by simp)
        refine ⟨⟨hb.cell 0, hb.cell 1, hb.cell 2, hb.cell 3, hb.cell 4, hb.cell 5, hb.cell 6, hb.cell 7, hb.cell 8⟩, ?_⟩
        have hr := run_lookup_int' (P := Tryd.prog) (z := talV St.zero) (mt := 48) Tryd.underlying48 Tryd.underlying3 (w := W) (by kernel_rfl) (M1.out.upd hu (by simp)) th
        rw [hr, ← HTA.out, ← byF_old]
        unfold byV
        cases byF (L.take k) th <;> rfl)
      clear e0 e1 e2 e3 e4 e5 e6 e7 e8 hxb
      refine wp_invNT 11 [(10, .det (talV (join τ (St.one ⟨th, ix, st, wr', be, en, kd, er, ta, tn, tc⟩))))] [] (by kernel_rfl) (by simp) (by kernel_rfl) (by kernel_rfl) ⟨lasts_det _, trivial⟩ ?_
      simp only [List.take_succ_cons, List.take_zero, List.drop_succ_cons, List.drop_zero]
      with_reducible apply wpV_light
      · simp only [lightOp]
      · intro W hU hF
        have f0 := CS.out W hU
        clear hU hF
        go_simp
        exact rfl
      simp only [Act.put, List.setIfInBounds_toArray, List.set_cons_zero, List.set_cons_succ]
      with_reducible apply wpV_light
      · simp only [lightOp]
      · intro W hU hF
        have f0 := CS.out W hU
        clear hU hF
        go_simp
        exact rfl
      simp only [Act.put, List.setIfInBounds_toArray, List.set_cons_zero, List.set_cons_succ]
      with_reducible apply wpV_light
      · simp only [lightOp]
      · intro W hU hF
        have f0 := CS.out W hU
        clear hU hF
        go_simp
        exact rfl
      simp only [Act.put, List.setIfInBounds_toArray, List.set_cons_zero, List.set_cons_succ]
      with_reducible apply wpV_light
      · simp only [lightOp]
      · intro W hU hF
        have f0 := CS.out W hU
        clear hU hF
        go_simp
        exact rfl
      simp only [Act.put, List.setIfInBounds_toArray, List.set_cons_zero, List.set_cons_succ]
      with_reducible apply wpV_light
      · simp only [lightOp]
      · intro W hU hF
        have f0 := CS.out W hU
        clear hU hF
        go_simp
        exact rfl
      simp only [Act.put, List.setIfInBounds_toArray, List.set_cons_zero, List.set_cons_succ]
      with_reducible apply wpV_light
      · simp only [lightOp]
      · intro W hU hF
        have f0 := CS.out W hU
        clear hU hF
        go_simp
        exact rfl
      simp only [Act.put, List.setIfInBounds_toArray, List.set_cons_zero, List.set_cons_succ]
      with_reducible apply wpV_light
      · simp only [lightOp]
      · intro W hU hF
        have f0 := CS.out W hU
        clear hU hF
        go_simp
        exact rfl
      simp only [Act.put, List.setIfInBounds_toArray, List.set_cons_zero, List.set_cons_succ]
      with_reducible apply wpV_light
      · simp only [lightOp]
      · intro W hU hF
        have f0 := CS.out W hU
        clear hU hF
        go_simp
        exact rfl
      simp only [Act.put, List.setIfInBounds_toArray, List.set_cons_zero, List.set_cons_succ]
      with_reducible apply wpV_light
      · simp only [lightOp]
      · intro W hU hF
        have f0 := CS.out W hU
        clear hU hF
        go_simp
        exact rfl
      simp only [Act.put, List.setIfInBounds_toArray, List.set_cons_zero, List.set_cons_succ]
      with_reducible apply wpV_light
      · simp only [lightOp]
      · intro W hU hF
        have f0 := CS.out W hU
        clear hU hF
        go_simp
        exact rfl
      simp only [Act.put, List.setIfInBounds_toArray, List.set_cons_zero, List.set_cons_succ]
      refine wpV_heavy (by simp only [lightOp]) (by rfl) (fun W hU hk hF K hK => ?_) ?_
      · go_wp2_with fail
        refine (add_ok τ ⟨th, ix, st, wr', be, en, kd, er, ta, tn, tc⟩ _ W SM.out.1 SM.out.2 EX.out).mono ?_
        rintro e w6 ⟨rfl, u6⟩
        go_wp2_with fail
        exact hK.out _ _ (outV_new rfl rfl (by intro b hb; cases hb) u6)
      rintro _ rfl
      simp only [Act.put, List.setIfInBounds_toArray, List.set_cons_zero, List.set_cons_succ]
      refine wpV_end (fun W hU _ hF => ?_)
      have U6 : Hid (Upd [] w W) := Lib.hid (U1.out.trans ((Upd.refl [] w5).drew.trans hU))
      have M6 := M1.out.upd ((Upd.refl [] w5).drew.trans hU) (by simp)
      obtain ⟨W3, r3, m3, u3⟩ := run_mapUpdate_int (P := Tryd.prog) (mt := 48) Tryd.underlying48 Tryd.underlying3 M6 th (talV (join τ (St.one ⟨th, ix, st, wr', be, en, kd, er, ta, tn, tc⟩)))
      have M7 : Hid (IMap W3 .i64 m (byV (L.take (k + 1))) (thr (L.take (k + 1))).length) := Lib.hid (by
        rw [HT.out]
        rw [← HTA.out] at m3
        exact byV_step m3)
      have U7 : Hid (Upd [] w W3) := Lib.hid (U6.out.trans' u3 (by simp; rw [← HM.out]; omega))
      clear hU hF M6 m3 u3
      refine wpT_op (by rfl) (fun K hK => ?_)
      go_wp2_with fail
      refine hK.out _ _ ?_
      clear hK K
      try simp only [Act.put, List.setIfInBounds_toArray, List.set_cons_zero, List.set_cons_succ]
      refine wpT_end ?_
      clear r3
      go_wp2_with fail
      go_roundw
      case rel => exact ⟨k + 1, by go_num, by omega, M7, U7⟩
      case measure => simp [intOf]; omega
    · obtain rfl : k = n := by omega
      have FT : Hid (L.take k = L) := Lib.hid (List.take_of_length_le (by rw [HN.out]; exact Nat.le_refl _))
      have KR := Lib.hid (thr_ris L)
      have KL : Hid ((thr L).length ≤ 200) := Lib.hid (by have := thr_len L; have := HN.out; omega)
      rw [FT.out] at KM
      obtain ⟨ks, hks⟩ : ∃ ks, thr L = ks := ⟨_, rfl⟩
      have HKS := Lib.hid hks
      have KW : Hid (∀ k ∈ ks, (Lit.int .i64 k).wf = true) := Lib.hid (fun k hk => by
        rw [← hks, mem_thr] at hk
        obtain ⟨x, hx, rfl⟩ := hk
        exact HW.out x hx)
      rw [hks] at KM KR KL
      clear hks
      go_wp2_with fail
      refine (keysM (some m) wr).mono ?_; rintro e w2 ⟨rfl, rfl⟩
      have U2 : Hid (Upd [] w (wr.alloc (.cells #[.map (some m)] 48))) := Lib.hid (KU.out.alloc _)
      have Y2 : Hid (Blk (wr.alloc (.cells #[.map (some m)] 48)) wr.heap.size 48 #[.map (some m)]) := Lib.hid (Blk.new wr _ _)
      have M2 := Lib.hid (KM.out.upd ((Upd.refl [] wr).alloc (.cells #[.map (some m)] 48)) (by simp))
      go_wp2_with fail
      generalize (wr.alloc (.cells #[.map (some m)] 48)) = w2 at *
      refine (sortedKeys wr.heap.size m (byV L) ks w2 Y2.out M2.out (fun k => by rw [byV_is, HKS.out]) KR.out KW.out KL.out).mono ?_
      rintro e w3 ⟨v, rfl, o3, u3⟩
      have U3 := Lib.hid (U2.out.trans u3)
      have M3 := Lib.hid (M2.out.upd u3 (by simp))
      have O3 : Hid (OwI w3 w.heap.size v ks.length ks) := Lib.hid (own_base o3 U2.out.size)
      clear o3 u3 Y2 U2 M2 KM
      obtain ⟨q, hq⟩ : ∃ q, ks.length = q := ⟨_, rfl⟩
      have HQ := Lib.hid hq
      obtain ⟨Av, cv, rfl, hnc, _⟩ := own_slice O3.out
      have q100 : q ≤ 200 := hq ▸ KL.out
      rw [hq] at O3 M3 hnc ⊢
      clear hq KL
      go_wp2_with fail
      go_loopw [8, 35] (fun vl vj wr => ∃ j : Nat, vj = .int .i64 j ∧ j ≤ q ∧ Hid (Ow encT 26 wr w3.heap.size vl ((tals L).take j) ∧ Upd [] w3 wr)) (fun _ v _ => q - (intOf v).toNat)
      case atStart => exact ⟨0, rfl, by omega, Lib.hid ⟨Ow.nil _ _ _ _, .refl _ _⟩⟩
      case round =>
        obtain ⟨j, rfl, hj, HJ⟩ := hrel
        obtain ⟨ho, hu⟩ := HJ.out
        rename World => wi
        obtain ⟨Al, cl, rfl, _, _⟩ := own_slice ho
        have TL : (tals L).length = q := by unfold tals; rw [List.length_map, HKS.out, HQ.out]
        obtain ⟨i, hi⟩ : ∃ i, ((tals L).take j).length = i := ⟨_, rfl⟩
        have hij : i = j := by rw [← hi, List.length_take, TL]; omega
        subst hij
        have O1 : Hid (wi.ownsRow w3.heap.size 26 8 (.slice Al i cl) i (flat encT ((tals L).take i))) := Lib.hid (by have := ho; unfold Ow at this; rw [hi] at this; exact this)
        have HUI := Lib.hid hu
        have HTL := Lib.hid TL
        rw [hi]
        clear HJ ho hu hi TL
        by_cases hjq : i < q
        · obtain ⟨y, hy⟩ : ∃ y, ks[i]? = some y := ⟨_, List.getElem?_eq_getElem (by rw [HQ.out]; exact hjq)⟩
          have YM : y ∈ thr L := by rw [HKS.out]; exact List.mem_of_getElem? hy
          obtain ⟨⟨dn, wo, ab, bl, cp, fl, tm, lg⟩, hτ⟩ : ∃ τ, ofL (ofT L y) = τ := ⟨_, rfl⟩
          have ty : (tals L)[i]? = some ⟨dn, wo, ab, bl, cp, fl, tm, lg⟩ := by unfold tals; rw [List.getElem?_map, HKS.out, hy, ← hτ]; rfl
          have HT := Lib.hid (take_snoc ty)
          obtain ⟨g, cg, cur, eg, hg, _⟩ := own_form O3.out (by omega)
          injection eg with eg _ eg'
          subst eg eg'
          have e0 : wi.cell? ⟨g, i, none⟩ = some (.int .i64 y) := own_cell (own_upd0 O3.out HUI.out) i _ (by rw [List.getElem?_map, hy]; rfl)
          have l0 : (Instr.lookup 48 (.map (some m)) (.int .i64 y) false).run Tryd.prog wi = .ok (.agg #[.int .i64 dn, .int .i64 ab, .int .i64 bl, .int .i64 cp, .int .i64 fl, .int .i64 wo, .int .i64 tm, .int .i64 lg]) wi := by
            have hr := run_lookup_int' (P := Tryd.prog) (z := talV St.zero) (mt := 48) Tryd.underlying48 Tryd.underlying3 (w := wi) (by kernel_rfl) (M3.out.upd HUI.out (by simp)) y
            rw [hr]
            unfold byV byF
            rw [if_pos YM, hτ]
            rfl
          have q1 : (0 : Int) ≤ (i : Int) := by omega
          have q2 : (i : Int) < (q : Int) := by omega
          clear hy ty hτ YM
          go_wp2_with (at_builtin; refine stopped ?_)
          refine Lib.hid ?_
          refine wpList_app _ (by rfl) (.tmp 39) (.tmp 43) _ (by rfl) elem_tal (.slice Al i cl) _ (by rfl) (by rfl) (own_upd0 O1.out ((Upd.refl [] wi).alloc _)) (.of_blk (Blk.new _ _ _) (m := 1) 1 rfl) (by intro u hu; simp at hu; rcases hu with rfl | rfl | rfl | rfl | rfl | rfl | rfl | rfl <;> rfl) (by simp only [maxLen]; omega) (by omega) (Nat.le_trans HUI.out.size (by simp)) ?_
          intro v5 w5 o5 u5 b5
          obtain ⟨A5, c5, rfl, _, _⟩ := own_slice o5
          have U5' : Hid (Upd [] w3 w5) := Lib.hid (HUI.out.trans' (((Upd.refl _ wi).alloc _).trans u5) (fun k hk => .inr (own_lt O1.out (by simpa using hk)).1))
          have O5 : Hid (Ow encT 26 w5 w3.heap.size (.slice A5 (i + 1) c5) ((tals L).take (i + 1))) := Lib.hid (by
            rw [HT.out]
            have e1 : flat encT ((tals L).take i) ++ #[Value.int .i64 dn, .int .i64 ab, .int .i64 bl, .int .i64 cp, .int .i64 fl, .int .i64 wo, .int .i64 tm, .int .i64 lg].toList = flat encT ((tals L).take i ++ [⟨dn, wo, ab, bl, cp, fl, tm, lg⟩]) := by rw [flat_append]; rfl
            rw [e1] at o5
            unfold Ow
            rw [List.length_append, List.length_take, HTL.out, Nat.min_eq_left (by omega)]
            exact o5)
          clear o5 u5 b5
          go_wp2_with fail
          go_roundw
          case rel => exact ⟨i + 1, by go_num, by omega, Lib.hid ⟨O5.out, U5'.out⟩⟩
          case measure => simp [intOf]; omega
        · obtain rfl : i = q := by omega
          go_wp2_with fail
          go_ret2
          unfold ByPost
          rw [HKS.out]
          refine ⟨_, _, rfl, ?_, ?_, U3.out.trans HUI.out⟩
          · have := own_upd0 O3.out HUI.out
            rw [HQ.out]
            exact this
          · have := own_base O1.out U3.out.size
            rw [List.take_of_length_le (by rw [HTL.out]; exact Nat.le_refl _)] at this
            unfold Ow
            rw [HTL.out]
            exact this
end Go.Proofs.YtiahnlaplkeiaaaDoor

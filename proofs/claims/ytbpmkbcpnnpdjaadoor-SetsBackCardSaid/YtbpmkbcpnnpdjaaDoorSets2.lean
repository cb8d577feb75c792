/-
  sets.Sets: Get, Version, Write, Mark.
-/
import Derived.Test.YtbpmkbcpnnpdjaaDoorSets
set_option linter.unusedVariables false
namespace Go.Proofs.YtbpmkbcpnnpdjaaDoor
open Go.RowKit Assoc SP
attribute [local go_sem] litStep_value

theorem run_len_int {P : Program} {w : World} {q : IntKind} {b n : Nat} {f : Int → Option Value} {mt kt et : TypeId} (hm : P.underlying mt = some (.map kt et)) (h : IMap w q b f n) (ty : TypeId) : (Builtin.len_ #[mt] ty #[.map (some b)]).run P w = .ok (.int .i64 n) w := by
  obtain ⟨L, c, h, _, hn⟩ := h
  simp [Builtin.len_, run_underlying hm, run_getObj_blk h.blk, goInt, Result.andThen, hn]
theorem s_get (B sb am wm : Nat) (F : List Nat) (s : SS) (c : Int) (w : World) (h : Sets B sb am wm F w s) :
    Calls Tryd.prog 34 #[.pointer (some ⟨sb, 0, none⟩), .int .u64 c] w fun e w' => e = .returned (.tuple #[.int .u64 ((get s.W c).getD 0), .bool (get s.W c).isSome]) ∧ w = w' := by
  have H := Lib.hid h
  obtain ⟨g, vr, vl, vk, hF, h⟩ := h
  have c2 : w.cell? ⟨sb, 2, none⟩ = some (.map (some wm)) := h.box.cell 2
  obtain ⟨ov, hov⟩ : ∃ ov, (get s.W c).getD 0 = ov := ⟨_, rfl⟩
  obtain ⟨is, his⟩ : ∃ is, (get s.W c).isSome = is := ⟨_, rfl⟩
  have l0 : (Instr.lookup 58 (.map (some wm)) (.int .u64 c) true).run Tryd.prog w = .ok (.tuple #[.int .u64 ov, .bool is]) w := by
    have hr := run_lookup_int (P := Tryd.prog) (z := .int .u64 0) (mt := 58) Tryd.underlying58 Tryd.underlying38 (w := w) (by kernel_rfl) h.m c
    rw [hr]
    unfold mapW
    rw [← hov, ← his]
    cases get s.W c <;> rfl
  rw [hov, his]
  clear hov his h hF g
  go_enter Tryd.func34, Tryd.ntmps34
  go_wp2_with fail
  refine (s_made B sb am wm F s w H.out).mono ?_; rintro e w2 ⟨rfl, rfl⟩
  go_wp2_with fail
  go_ret2
  exact ⟨rfl, rfl⟩

/-- The version of a cell, and whether there is one. -/
def verR (R : List (Int × Int)) (c : Int) : Int × Bool := match posR R c with | some i => ((R.getD i (0, 0)).2, true) | none => (0, false)
theorem s_version (B sb am wm : Nat) (F : List Nat) (s : SS) (c : Int) (w : World) (h : Sets B sb am wm F w s) :
    Calls Tryd.prog 36 #[.pointer (some ⟨sb, 0, none⟩), .int .u64 c] w fun e w' => e = .returned (.tuple #[.int .i64 (verR s.R c).1, .bool (verR s.R c).2]) ∧ w = w' := by
  have H := Lib.hid h
  obtain ⟨g, vr, vl, vk, hF, h⟩ := h
  have HS := Lib.hid h
  obtain ⟨A, cr, rfl, hnc, hcm⟩ := own_slice h.r
  obtain ⟨N, hN⟩ : ∃ N, s.R.length = N := ⟨_, rfl⟩
  have HN := Lib.hid hN
  rw [hN] at hnc
  have c0 : w.cell? ⟨sb, 0, none⟩ = some (.slice A N cr) := by have := h.box.cell 0; rw [hN] at this; exact this
  have c1 : w.cell? ⟨sb, 1, none⟩ = some (.map (some am)) := h.box.cell 1
  have rb := @posR_some s.R c
  have lk := run_lookup_int (P := Tryd.prog) (z := .int .i64 0) (mt := 57) Tryd.underlying57 Tryd.underlying38 (w := w) (by kernel_rfl) h.a c
  have HL := Lib.hid lk
  clear lk g hF h hN
  go_enter Tryd.func36, Tryd.ntmps36
  go_wp2_with fail
  refine (s_made B sb am wm F s w H.out).mono ?_; rintro e w2 ⟨rfl, rfl⟩
  cases hp : posR s.R c with
  | some i =>
    obtain ⟨y, hy⟩ := rb hp
    have hi : i < N := by have := (List.getElem?_eq_some_iff.1 hy).1; rwa [HN.out] at this
    have l0 : (Instr.lookup 57 (.map (some am)) (.int .u64 c) true).run Tryd.prog w = .ok (.tuple #[.int .i64 i, .bool true]) w := by
      have hr := HL.out
      unfold mapR at hr
      rw [hp] at hr
      exact hr
    obtain ⟨gr, cg, cur, e1, _⟩ := own_form HS.out.r (by rw [HN.out]; omega)
    injection e1 with e1 _ e1'
    subst e1 e1'
    have e0 : w.cell? ⟨gr, i * 2 + 1, none⟩ = some (.int .i64 y) := own_cell HS.out.r _ _ ((flat_get hy (j := 1) (by decide)).trans rfl)
    have HP : Hid (verR s.R c = (y, true)) := Lib.hid (by
      unfold verR
      rw [hp]
      simp only
      rw [List.getD_eq_getElem?_getD, hy]
      rfl)
    have q1 : (0 : Int) ≤ (i : Int) := by omega
    have q2 : (i : Int) < (N : Int) := by omega
    clear hp hy rb
    go_wp2_with fail
    go_ret2
    rw [HP.out]
    exact ⟨rfl, rfl⟩
  | none =>
    have l0 : (Instr.lookup 57 (.map (some am)) (.int .u64 c) true).run Tryd.prog w = .ok (.tuple #[.int .i64 0, .bool false]) w := by
      have hr := HL.out
      unfold mapR at hr
      rw [hp] at hr
      exact hr
    have HP : Hid (verR s.R c = (0, false)) := Lib.hid (by
      unfold verR
      rw [hp])
    clear hp rb
    go_wp2_with fail
    go_ret2
    rw [HP.out]
    exact ⟨rfl, rfl⟩

theorem imap_put {w : World} {wm : Nat} {W : AL} {c x : Int} (hs : Srt W) (h : IMap w .u64 wm (putI (mapW W) c (.int .u64 x)) (if (mapW W c).isSome then W.length else W.length + 1)) : IMap w .u64 wm (mapW (put W c x)) (put W c x).length := by
  have e : (mapW W c).isSome = (get W c).isSome := by unfold mapW; cases get W c <;> rfl
  rw [e] at h
  rw [len_put hs]
  exact h.congr (fun k => by rw [mapW_put hs])
def WritePost (B sb am wm : Nat) (F : List Nat) (s : SS) (c x : Int) (w : World) (e : Ending) (w' : World) : Prop := ∃ v F', e = .returned v ∧ ErrV w' v (wErr s.W c) 0 ∧ Sets B sb am wm F' w' (sWrite s c x) ∧ Frm F F' w w'
set_option maxRecDepth 100000 in
set_option maxHeartbeats 4000000 in
theorem s_write (B sb am wm : Nat) (F : List Nat) (s : SS) (c x : Int) (w : World) (h : Sets B sb am wm F w s) (hBw : B ≤ w.heap.size) (hll : s.log.length ≤ 1000) :
    Calls Tryd.prog 16 #[.pointer (some ⟨sb, 0, none⟩), .int .u64 c, .int .u64 x] w fun e w' => WritePost B sb am wm F s c x w e w' := by
  have H := Lib.hid h
  obtain ⟨g, vr, vl, vk, hF, h⟩ := h
  have HF := Lib.hid hF
  have HS := Lib.hid h
  have HG := Lib.hid g
  obtain ⟨Al, cl, rfl, hnl, hcl⟩ := own_slice h.l
  obtain ⟨Ak, ck, rfl, hnk, hck⟩ := own_slice h.k
  obtain ⟨N, hN⟩ : ∃ N, s.log.length = N := ⟨_, rfl⟩
  obtain ⟨M, hM⟩ : ∃ M, s.marks.length = M := ⟨_, rfl⟩
  obtain ⟨NW, hNW⟩ : ∃ NW, s.W.length = NW := ⟨_, rfl⟩
  have HN := Lib.hid hN
  have HM := Lib.hid hM
  have HNW := Lib.hid hNW
  have hW5 : NW ≤ 500 := hNW ▸ g.wl
  rw [hN] at hnl hll
  have c2 : w.cell? ⟨sb, 2, none⟩ = some (.map (some wm)) := h.box.cell 2
  have c3 : w.cell? ⟨sb, 3, none⟩ = some (.slice Al N cl) := by have := h.box.cell 3; rw [hN] at this; exact this
  have c4 : w.cell? ⟨sb, 4, none⟩ = some (.slice Ak M ck) := by have := h.box.cell 4; rw [hM] at this; exact this
  obtain ⟨ov, hov⟩ : ∃ ov, (get s.W c).getD 0 = ov := ⟨_, rfl⟩
  obtain ⟨is, his⟩ : ∃ is, (get s.W c).isSome = is := ⟨_, rfl⟩
  have HO := Lib.hid hov
  have HI := Lib.hid his
  have l0 : (Instr.lookup 58 (.map (some wm)) (.int .u64 c) true).run Tryd.prog w = .ok (.tuple #[.int .u64 ov, .bool is]) w := by
    have hr := run_lookup_int (P := Tryd.prog) (z := .int .u64 0) (mt := 58) Tryd.underlying58 Tryd.underlying38 (w := w) (by kernel_rfl) h.m c
    rw [hr]
    unfold mapW
    rw [← hov, ← his]
    cases get s.W c <;> rfl
  have ln : (Builtin.len_ #[58] 3 #[.map (some wm)]).run Tryd.prog w = .ok (.int .i64 NW) w := hNW ▸ run_len_int Tryd.underlying58 h.m _
  have HE : Hid (wErr s.W c = if is = false ∧ 500 ≤ NW then 8 else 0) := Lib.hid (by unfold wErr; rw [his, hNW])
  clear g hF h hN hM hNW hov his
  go_enter Tryd.func16, Tryd.ntmps16
  go_wp2_with fail
  refine (s_made B sb am wm F s w H.out).mono ?_; rintro e w2 ⟨rfl, rfl⟩
  cases is with
  | true =>
    have HE0 : Hid (wErr s.W c = 0) := Lib.hid (by rw [HE.out, if_neg (by simp; try omega)])
    by_cases hm0 : M = 0
    · have HMN : Hid (s.marks = []) := Lib.hid (List.eq_nil_of_length_eq_zero (by rw [HM.out, hm0]))
      have HP : Hid (sWrite s c x = { s with W := put s.W c x }) := Lib.hid (by unfold sWrite; rw [if_pos HE0.out, HMN.out]; rfl)
      subst hm0
      obtain ⟨W3, r3, m3, u3⟩ := run_mapUpdate_int (P := Tryd.prog) (mt := 58) Tryd.underlying58 Tryd.underlying38 HS.out.m c (.int .u64 x)
      have M3 := Lib.hid m3
      have U3 := Lib.hid u3
      clear m3 u3
      go_wp2_with fail
      go_ret
      unfold WritePost
      have GW := good_write HG.out c x
      rw [HP.out] at GW
      rw [HE0.out, HP.out]
      refine ⟨_, F, rfl, ErrV.nil _, ⟨GW, vr, _, _, HF.out, ?_⟩, ?_⟩
      · refine HS.out.turn U3.out (HS.out.box.upd U3.out (by simp; exact HS.out.na.2)) (.inr ⟨rfl, rfl, fun b hb => by simp; exact (HS.out.nr hb).2.2.1⟩) (.inr ⟨rfl, rfl, fun b hb => by simp; exact (HS.out.nl hb).2.2.1⟩) (.inr ⟨rfl, rfl, fun b hb => by simp; exact (HS.out.nk hb).2.2.1⟩) (.inr ⟨rfl, by simp; exact HS.out.ne⟩) (.inl ?_)
        exact imap_put HG.out.srt M3.out
      · rw [HF.out]
        exact frm_fp U3.out (by intro k hk; simp at hk; subst hk; exact .inl (by unfold fpS; simp)) (fun b hb => .inl hb) (fun b hb => .inl hb) (fun b hb => .inl hb)
    · have d : decide ((0 : Int) < (M : Int)) = true := by simp; omega
      have HP : Hid (sWrite s c x = { s with log := s.log ++ [⟨c, ov, true⟩], W := put s.W c x }) := Lib.hid (by
        unfold sWrite
        have hne : s.marks.isEmpty = false := by
          cases hmk : s.marks with
          | nil => exact absurd (by rw [← HM.out, hmk]; rfl) hm0
          | cons _ _ => rfl
        rw [if_pos HE0.out, hne, HO.out, HI.out]
        rfl)
      have O0 : Hid (w.ownsRow B 75 3 (.slice Al N cl) N (flat encU s.log)) := Lib.hid (by have := HS.out.l; unfold Ow at this; rw [HN.out] at this; exact this)
      go_wp2_with (at_builtin; refine stopped ?_)
      refine Lib.hid ?_
      refine wpList_app _ (by rfl) (.tmp 43) (.tmp 48) _ (by rfl) elem_undo (.slice Al N cl) _ (by rfl) (by rfl) (own_upd0 O0.out ((Upd.refl [] w).alloc _)) (.of_blk (Blk.new _ _ _) (m := 1) 1 rfl) (by intro u hu; simp at hu; rcases hu with rfl | rfl | rfl <;> rfl) (by simp only [maxLen]; omega) (by omega) (Nat.le_trans hBw (by simp)) ?_
      intro v5 w5 o5 u5 b5
      obtain ⟨A5, c5, rfl, _, _⟩ := own_slice o5
      have U5 : Hid (Upd ((Value.slice Al N cl).ownBlock.toList) w w5) := Lib.hid (((Upd.refl _ w).alloc _).trans u5)
      have B5 : Hid (∀ b, (Value.slice A5 (N + 1) c5).ownBlock = some b → (Value.slice Al s.log.length cl).ownBlock = some b ∨ w.heap.size ≤ b) := Lib.hid (fun b hb => by
        rcases b5 with b5 | b5
        · exact .inl (by rw [HN.out]; exact b5 ▸ hb)
        · rw [b5] at hb
          injection hb with hb
          simp at hb
          exact .inr (by omega))
      have O5 : Hid (Ow encU 75 w5 B (.slice A5 (N + 1) c5) (s.log ++ [⟨c, ov, true⟩])) := Lib.hid (by
        have e1 : flat encU s.log ++ #[Value.int .u64 c, Value.int .u64 ov, Value.bool true].toList = flat encU (s.log ++ [⟨c, ov, true⟩]) := by rw [flat_append]; rfl
        have e2 : N + 1 = (s.log ++ [⟨c, ov, true⟩] : List U).length := by rw [List.length_append, HN.out]; rfl
        rw [e1] at o5
        unfold Ow
        rw [← e2]
        exact o5)
      have NS : Hid (∀ b, (Value.slice Al N cl).ownBlock = some b → b ≠ sb ∧ b ≠ am ∧ b ≠ wm ∧ vr.ownBlock ≠ some b ∧ (Value.slice Ak s.marks.length ck).ownBlock ≠ some b) := Lib.hid (fun b hb => HS.out.nl (b := b) (by rw [HN.out]; exact hb))
      have H5 : Hid (Blk w5 sb 62 #[vr, .map (some am), .map (some wm), .slice Al N cl, .slice Ak M ck]) := Lib.hid (by
        have h1 := HS.out.box
        rw [HN.out, HM.out] at h1
        exact h1.upd U5.out (by intro hm; exact (NS.out sb (by simpa using hm)).1 rfl))
      have M5 : Hid (IMap w5 .u64 wm (mapW s.W) s.W.length) := Lib.hid (HS.out.m.upd U5.out (by intro hm; exact (NS.out wm (by simpa using hm)).2.2.1 rfl))
      clear o5 u5 b5 c2 c3 c4 l0 ln
      have x0 : w5.cell? ⟨sb, 3, none⟩ = some (.slice Al N cl) := H5.out.cell 3
      have x1 : w5.frozen? ⟨sb, 3, none⟩ = false := H5.out.frozen 3
      have x2 : sb < w5.heap.size := H5.out.lt
      have x3 : w5.cell? ⟨sb, 2, none⟩ = some (.map (some wm)) := H5.out.cell 2
      have UF : Hid (Upd [sb] w5 (w5.setCell ⟨sb, 3, none⟩ (.slice A5 (N + 1) c5))) := Lib.hid ((Upd.refl [sb] w5).setCell (.inl (by simp)) _)
      obtain ⟨W7, r7, m7, u7⟩ := run_mapUpdate_int (P := Tryd.prog) (mt := 58) Tryd.underlying58 Tryd.underlying38 (M5.out.upd UF.out (by simp; exact HS.out.na.2.symm)) c (.int .u64 x)
      have M7 := Lib.hid m7
      have U7 := Lib.hid u7
      clear m7 u7
      go_wp2_with fail
      go_ret
      unfold WritePost
      have GW := good_write HG.out c x
      rw [HP.out] at GW
      rw [HE0.out, HP.out]
      have UT : Upd (sb :: wm :: (Value.slice Al N cl).ownBlock.toList) w W7 := ((U5.out.mono (by intro y hy; exact .inl (by simp at hy ⊢; exact .inr (.inr hy)))).trans (UF.out.mono (by simp))).trans (U7.out.mono (by simp))
      refine ⟨.nilIface, fpS sb am wm vr (.slice A5 (N + 1) c5) (.slice Ak s.marks.length ck), rfl, ErrV.nil _, ⟨GW, vr, _, _, rfl, ?_⟩, ?_⟩
      · have HB7 := (H5.out.set_eq (i := 3) (u := .slice A5 (N + 1) c5) rfl).upd U7.out (by simp; exact HS.out.na.2)
        rw [← HM.out] at HB7
        refine HS.out.turn UT HB7 (.inr ⟨rfl, rfl, fun b hb => ?_⟩) (.inl ((O5.out.upd UF.out ?_).upd U7.out ?_)) (.inr ⟨rfl, rfl, fun b hb => ?_⟩) (.inr ⟨rfl, ?_⟩) (.inl ?_)
        · have h1 := HS.out.nr hb
          rw [HN.out] at h1
          simp
          exact ⟨h1.1, h1.2.2.1, h1.2.2.2.1⟩
        · intro b hb
          simp
          rintro rfl
          exact own_type O5.out H5.out (by decide) hb
        · intro b hb
          simp
          rintro rfl
          exact own_map O5.out M5.out hb
        · have h1 := HS.out.nk hb
          rw [HN.out] at h1
          simp
          exact ⟨h1.1, h1.2.2.1, h1.2.2.2.2⟩
        · simp
          refine ⟨fun e => HS.out.na.1 e.symm, HS.out.ne, fun hb => ?_⟩
          exact (NS.out am hb).2.1 rfl
        · exact imap_put HG.out.srt M7.out
      · rw [HF.out]
        refine frm_fp UT (by intro k hk; rw [← HN.out] at hk; exact .inl (by unfold fpS; simp at hk ⊢; rcases hk with rfl | rfl | hk <;> simp [*])) (fun b hb => .inl hb) B5.out (fun b hb => .inl hb)
  | false =>
    by_cases h5 : 500 ≤ NW
    · have d : decide ((500 : Int) ≤ (NW : Int)) = true := by simp; omega
      have HE8 : Hid (wErr s.W c = 8) := Lib.hid (by rw [HE.out, if_pos ⟨rfl, h5⟩])
      go_wp2_with fail
      go_ret
      unfold WritePost
      rw [HE8.out]
      refine ⟨_, _, rfl, ErrV.errno _ 8 (by omega) (by omega), ?_, .refl _ _⟩
      unfold sWrite
      rw [if_neg (by rw [HE8.out]; omega)]
      exact H.out
    · have d5 : decide ((500 : Int) ≤ (NW : Int)) = false := by simp; omega
      have HE0 : Hid (wErr s.W c = 0) := Lib.hid (by rw [HE.out, if_neg (by simp; try omega)])
      by_cases hm0 : M = 0
      · have HMN : Hid (s.marks = []) := Lib.hid (List.eq_nil_of_length_eq_zero (by rw [HM.out, hm0]))
        have HP : Hid (sWrite s c x = { s with W := put s.W c x }) := Lib.hid (by unfold sWrite; rw [if_pos HE0.out, HMN.out]; rfl)
        subst hm0
        obtain ⟨W3, r3, m3, u3⟩ := run_mapUpdate_int (P := Tryd.prog) (mt := 58) Tryd.underlying58 Tryd.underlying38 HS.out.m c (.int .u64 x)
        have M3 := Lib.hid m3
        have U3 := Lib.hid u3
        clear m3 u3
        go_wp2_with fail
        go_ret
        unfold WritePost
        have GW := good_write HG.out c x
        rw [HP.out] at GW
        rw [HE0.out, HP.out]
        refine ⟨_, F, rfl, ErrV.nil _, ⟨GW, vr, _, _, HF.out, ?_⟩, ?_⟩
        · refine HS.out.turn U3.out (HS.out.box.upd U3.out (by simp; exact HS.out.na.2)) (.inr ⟨rfl, rfl, fun b hb => by simp; exact (HS.out.nr hb).2.2.1⟩) (.inr ⟨rfl, rfl, fun b hb => by simp; exact (HS.out.nl hb).2.2.1⟩) (.inr ⟨rfl, rfl, fun b hb => by simp; exact (HS.out.nk hb).2.2.1⟩) (.inr ⟨rfl, by simp; exact HS.out.ne⟩) (.inl ?_)
          exact imap_put HG.out.srt M3.out
        · rw [HF.out]
          exact frm_fp U3.out (by intro k hk; simp at hk; subst hk; exact .inl (by unfold fpS; simp)) (fun b hb => .inl hb) (fun b hb => .inl hb) (fun b hb => .inl hb)
      · have d : decide ((0 : Int) < (M : Int)) = true := by simp; omega
        have HP : Hid (sWrite s c x = { s with log := s.log ++ [⟨c, ov, false⟩], W := put s.W c x }) := Lib.hid (by
          unfold sWrite
          have hne : s.marks.isEmpty = false := by
            cases hmk : s.marks with
            | nil => exact absurd (by rw [← HM.out, hmk]; rfl) hm0
            | cons _ _ => rfl
          rw [if_pos HE0.out, hne, HO.out, HI.out]
          rfl)
        have O0 : Hid (w.ownsRow B 75 3 (.slice Al N cl) N (flat encU s.log)) := Lib.hid (by have := HS.out.l; unfold Ow at this; rw [HN.out] at this; exact this)
        go_wp2_with (at_builtin; refine stopped ?_)
        refine Lib.hid ?_
        refine wpList_app _ (by rfl) (.tmp 43) (.tmp 48) _ (by rfl) elem_undo (.slice Al N cl) _ (by rfl) (by rfl) (own_upd0 O0.out ((Upd.refl [] w).alloc _)) (.of_blk (Blk.new _ _ _) (m := 1) 1 rfl) (by intro u hu; simp at hu; rcases hu with rfl | rfl | rfl <;> rfl) (by simp only [maxLen]; omega) (by omega) (Nat.le_trans hBw (by simp)) ?_
        intro v5 w5 o5 u5 b5
        obtain ⟨A5, c5, rfl, _, _⟩ := own_slice o5
        have U5 : Hid (Upd ((Value.slice Al N cl).ownBlock.toList) w w5) := Lib.hid (((Upd.refl _ w).alloc _).trans u5)
        have B5 : Hid (∀ b, (Value.slice A5 (N + 1) c5).ownBlock = some b → (Value.slice Al s.log.length cl).ownBlock = some b ∨ w.heap.size ≤ b) := Lib.hid (fun b hb => by
          rcases b5 with b5 | b5
          · exact .inl (by rw [HN.out]; exact b5 ▸ hb)
          · rw [b5] at hb
            injection hb with hb
            simp at hb
            exact .inr (by omega))
        have O5 : Hid (Ow encU 75 w5 B (.slice A5 (N + 1) c5) (s.log ++ [⟨c, ov, false⟩])) := Lib.hid (by
          have e1 : flat encU s.log ++ #[Value.int .u64 c, Value.int .u64 ov, Value.bool false].toList = flat encU (s.log ++ [⟨c, ov, false⟩]) := by rw [flat_append]; rfl
          have e2 : N + 1 = (s.log ++ [⟨c, ov, false⟩] : List U).length := by rw [List.length_append, HN.out]; rfl
          rw [e1] at o5
          unfold Ow
          rw [← e2]
          exact o5)
        have NS : Hid (∀ b, (Value.slice Al N cl).ownBlock = some b → b ≠ sb ∧ b ≠ am ∧ b ≠ wm ∧ vr.ownBlock ≠ some b ∧ (Value.slice Ak s.marks.length ck).ownBlock ≠ some b) := Lib.hid (fun b hb => HS.out.nl (b := b) (by rw [HN.out]; exact hb))
        have H5 : Hid (Blk w5 sb 62 #[vr, .map (some am), .map (some wm), .slice Al N cl, .slice Ak M ck]) := Lib.hid (by
          have h1 := HS.out.box
          rw [HN.out, HM.out] at h1
          exact h1.upd U5.out (by intro hm; exact (NS.out sb (by simpa using hm)).1 rfl))
        have M5 : Hid (IMap w5 .u64 wm (mapW s.W) s.W.length) := Lib.hid (HS.out.m.upd U5.out (by intro hm; exact (NS.out wm (by simpa using hm)).2.2.1 rfl))
        clear o5 u5 b5 c2 c3 c4 l0 ln
        have x0 : w5.cell? ⟨sb, 3, none⟩ = some (.slice Al N cl) := H5.out.cell 3
        have x1 : w5.frozen? ⟨sb, 3, none⟩ = false := H5.out.frozen 3
        have x2 : sb < w5.heap.size := H5.out.lt
        have x3 : w5.cell? ⟨sb, 2, none⟩ = some (.map (some wm)) := H5.out.cell 2
        have UF : Hid (Upd [sb] w5 (w5.setCell ⟨sb, 3, none⟩ (.slice A5 (N + 1) c5))) := Lib.hid ((Upd.refl [sb] w5).setCell (.inl (by simp)) _)
        obtain ⟨W7, r7, m7, u7⟩ := run_mapUpdate_int (P := Tryd.prog) (mt := 58) Tryd.underlying58 Tryd.underlying38 (M5.out.upd UF.out (by simp; exact HS.out.na.2.symm)) c (.int .u64 x)
        have M7 := Lib.hid m7
        have U7 := Lib.hid u7
        clear m7 u7
        go_wp2_with fail
        go_ret
        unfold WritePost
        have GW := good_write HG.out c x
        rw [HP.out] at GW
        rw [HE0.out, HP.out]
        have UT : Upd (sb :: wm :: (Value.slice Al N cl).ownBlock.toList) w W7 := ((U5.out.mono (by intro y hy; exact .inl (by simp at hy ⊢; exact .inr (.inr hy)))).trans (UF.out.mono (by simp))).trans (U7.out.mono (by simp))
        refine ⟨.nilIface, fpS sb am wm vr (.slice A5 (N + 1) c5) (.slice Ak s.marks.length ck), rfl, ErrV.nil _, ⟨GW, vr, _, _, rfl, ?_⟩, ?_⟩
        · have HB7 := (H5.out.set_eq (i := 3) (u := .slice A5 (N + 1) c5) rfl).upd U7.out (by simp; exact HS.out.na.2)
          rw [← HM.out] at HB7
          refine HS.out.turn UT HB7 (.inr ⟨rfl, rfl, fun b hb => ?_⟩) (.inl ((O5.out.upd UF.out ?_).upd U7.out ?_)) (.inr ⟨rfl, rfl, fun b hb => ?_⟩) (.inr ⟨rfl, ?_⟩) (.inl ?_)
          · have h1 := HS.out.nr hb
            rw [HN.out] at h1
            simp
            exact ⟨h1.1, h1.2.2.1, h1.2.2.2.1⟩
          · intro b hb
            simp
            rintro rfl
            exact own_type O5.out H5.out (by decide) hb
          · intro b hb
            simp
            rintro rfl
            exact own_map O5.out M5.out hb
          · have h1 := HS.out.nk hb
            rw [HN.out] at h1
            simp
            exact ⟨h1.1, h1.2.2.1, h1.2.2.2.2⟩
          · simp
            refine ⟨fun e => HS.out.na.1 e.symm, HS.out.ne, fun hb => ?_⟩
            exact (NS.out am hb).2.1 rfl
          · exact imap_put HG.out.srt M7.out
        · rw [HF.out]
          refine frm_fp UT (by intro k hk; rw [← HN.out] at hk; exact .inl (by unfold fpS; simp at hk ⊢; rcases hk with rfl | rfl | hk <;> simp [*])) (fun b hb => .inl hb) B5.out (fun b hb => .inl hb)
end Go.Proofs.YtbpmkbcpnnpdjaaDoor

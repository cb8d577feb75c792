/-
  model.State: Get, Size, Put, Del.
-/
import Derived.Test.YtjlpogmoebmkdaaDoorMdl
set_option linter.unusedVariables false
namespace Go.Proofs.YtjlpogmoebmkdaaDoor
open Go.RowKit Assoc MP
attribute [local go_sem] litStep_value

def GetPost (s : MS) (c k : Int) (w : World) (e : Ending) (w' : World) : Prop := ∃ v, e = .returned (.tuple #[.int .i64 (if isC s c then (get (coll s c.toNat) k).getD 0 else 0), .bool (if isC s c then (get (coll s c.toNat) k).isSome else false), v]) ∧ ErrV w' v (if isC s c then 0 else 3) (if isC s c then 0 else c) ∧ Upd [] w w'
set_option maxRecDepth 100000 in
set_option maxHeartbeats 2000000 in
theorem m_get (B sb : Nat) (F : List Nat) (s : MS) (c k : Int) (w : World) (h : Mdl B sb F w s) :
    Calls Tryd.prog 20 #[.pointer (some ⟨sb, 0, none⟩), .int .i64 c, .int .i64 k] w fun e w' => GetPost s c k w e w' := by
  have H := Lib.hid h
  obtain ⟨g, vk, gc, cc, ms, hF, h⟩ := h
  have HF := Lib.hid hF
  have HS := Lib.hid h
  have HG := Lib.hid g
  have K8 := Lib.hid (show s.L.length ≤ 8 by have := g.k8; rw [g.kl] at this; exact this)
  clear g hF h
  go_enter Tryd.func20, Tryd.ntmps20
  go_wp2_with fail
  refine (m_coll B sb vk gc cc ms s c w HS.out K8.out).mono ?_
  rintro e w1 (⟨hc, rfl, i, m, rfl, hi, hm, rfl⟩ | ⟨hc, u1, gf, rfl, bf⟩)
  ·
    obtain ⟨m', hm', him⟩ := HS.out.at_ hi
    obtain rfl : m' = m := by rw [hm] at hm'; exact (Option.some.inj hm').symm
    obtain ⟨ov, hov⟩ : ∃ ov, (get (coll s i) k).getD 0 = ov := ⟨_, rfl⟩
    obtain ⟨is, his⟩ : ∃ is, (get (coll s i) k).isSome = is := ⟨_, rfl⟩
    have l0 : (Instr.lookup 59 (.map (some m')) (.int .i64 k) true).run Tryd.prog w = .ok (.tuple #[.int .i64 ov, .bool is]) w := by
      have hr := run_lookup_int (P := Tryd.prog) (z := .int .i64 0) (mt := 59) Tryd.underlying59 Tryd.underlying3 (w := w) (by kernel_rfl) him k
      rw [hr]
      unfold mapI
      rw [← hov, ← his]
      cases get (coll s i) k <;> rfl
    have HR : Hid ((get (coll s i) k).getD 0 = ov ∧ (get (coll s i) k).isSome = is) := Lib.hid ⟨hov, his⟩
    have HI := Lib.hid hc
    have HIM := Lib.hid him
    have HM := Lib.hid hm
    have HII := Lib.hid hi
    clear hov his hm hm' hi hc him
    go_wp2_with fail
    go_ret3
    unfold GetPost
    rw [HI.out, Int.toNat_natCast, HR.out.1, HR.out.2]
    exact ⟨_, rfl, ErrV.nil _, .refl _ _⟩
  · have U1 := Lib.hid u1
    have BF := Lib.hid bf
    have HI := Lib.hid hc
    clear u1 bf hc
    go_wp2_with fail
    go_ret3
    unfold GetPost
    rw [HI.out]
    exact ⟨_, rfl, ErrV.fault (no := 3) (at_ := c) BF.out (by omega) (by omega), U1.out⟩
def SizePost (s : MS) (c : Int) (w : World) (e : Ending) (w' : World) : Prop := ∃ v, e = .returned (.tuple #[.int .i64 (if isC s c then ((coll s c.toNat).length : Int) else 0), v]) ∧ ErrV w' v (if isC s c then 0 else 3) (if isC s c then 0 else c) ∧ Upd [] w w'
set_option maxRecDepth 100000 in
set_option maxHeartbeats 2000000 in
theorem m_size (B sb : Nat) (F : List Nat) (s : MS) (c : Int) (w : World) (h : Mdl B sb F w s) :
    Calls Tryd.prog 10 #[.pointer (some ⟨sb, 0, none⟩), .int .i64 c] w fun e w' => SizePost s c w e w' := by
  have ln0 : ∀ W, (Builtin.len_ #[59] 3 #[.map none]).run Tryd.prog W = .ok (.int .i64 0) W := fun W => by kernel_rfl
  have H := Lib.hid h
  obtain ⟨g, vk, gc, cc, ms, hF, h⟩ := h
  have HF := Lib.hid hF
  have HS := Lib.hid h
  have HG := Lib.hid g
  have K8 := Lib.hid (show s.L.length ≤ 8 by have := g.k8; rw [g.kl] at this; exact this)
  clear g hF h
  go_enter Tryd.func10, Tryd.ntmps10
  go_wp2_with fail
  refine (m_coll B sb vk gc cc ms s c w HS.out K8.out).mono ?_
  rintro e w1 (⟨hc, rfl, i, m, rfl, hi, hm, rfl⟩ | ⟨hc, u1, gf, rfl, bf⟩)
  · obtain ⟨m', hm', him⟩ := HS.out.at_ hi
    obtain rfl : m' = m := by rw [hm] at hm'; exact (Option.some.inj hm').symm
    obtain ⟨N, hN⟩ : ∃ N, (coll s i).length = N := ⟨_, rfl⟩
    have ln : (Builtin.len_ #[59] 3 #[.map (some m')]).run Tryd.prog w = .ok (.int .i64 N) w := hN ▸ run_len_int Tryd.underlying59 him _
    have HI := Lib.hid hc
    have HNN := Lib.hid hN
    clear hm hm' hi hc him hN
    go_wp2_with fail
    go_ret2
    unfold SizePost
    rw [HI.out, Int.toNat_natCast, HNN.out]
    exact ⟨_, rfl, ErrV.nil _, .refl _ _⟩
  · have U1 := Lib.hid u1
    have BF := Lib.hid bf
    have HI := Lib.hid hc
    clear u1 bf hc
    go_wp2_with fail
    go_ret2
    unfold SizePost
    rw [HI.out]
    exact ⟨_, rfl, ErrV.fault (no := 3) (at_ := c) BF.out (by omega) (by omega), U1.out⟩
def MPutPost (B sb : Nat) (F : List Nat) (s : MS) (c k v : Int) (w : World) (e : Ending) (w' : World) : Prop := ∃ u, e = .returned u ∧ ErrV w' u (if isC s c then putE (coll s c.toNat) k else 3) (if isC s c then 0 else c) ∧ Mdl B sb F w' (if isC s c then mPut s c.toNat k v else s) ∧ Upd F w w'
set_option maxRecDepth 100000 in
set_option maxHeartbeats 4000000 in
theorem m_put (B sb : Nat) (F : List Nat) (s : MS) (c k v : Int) (w : World) (h : Mdl B sb F w s) (hkb : kB k) :
    Calls Tryd.prog 21 #[.pointer (some ⟨sb, 0, none⟩), .int .i64 c, .int .i64 k, .int .i64 v] w fun e w' => MPutPost B sb F s c k v w e w' := by
  have HKB := Lib.hid hkb
  clear hkb
  have H := Lib.hid h
  obtain ⟨g, vk, gc, cc, ms, hF, h⟩ := h
  have HF := Lib.hid hF
  have HS := Lib.hid h
  have HG := Lib.hid g
  have K8 := Lib.hid (show s.L.length ≤ 8 by have := g.k8; rw [g.kl] at this; exact this)
  clear g hF h
  go_enter Tryd.func21, Tryd.ntmps21
  go_wp2_with fail
  refine (m_coll B sb vk gc cc ms s c w HS.out K8.out).mono ?_
  rintro e w1 (⟨hc, rfl, i, m, rfl, hi, hm, rfl⟩ | ⟨hc, u1, gf, rfl, bf⟩)
  ·
    obtain ⟨m', hm', him⟩ := HS.out.at_ hi
    obtain rfl : m' = m := by rw [hm] at hm'; exact (Option.some.inj hm').symm
    obtain ⟨ov, hov⟩ : ∃ ov, (get (coll s i) k).getD 0 = ov := ⟨_, rfl⟩
    obtain ⟨is, his⟩ : ∃ is, (get (coll s i) k).isSome = is := ⟨_, rfl⟩
    have l0 : (Instr.lookup 59 (.map (some m')) (.int .i64 k) true).run Tryd.prog w = .ok (.tuple #[.int .i64 ov, .bool is]) w := by
      have hr := run_lookup_int (P := Tryd.prog) (z := .int .i64 0) (mt := 59) Tryd.underlying59 Tryd.underlying3 (w := w) (by kernel_rfl) him k
      rw [hr]
      unfold mapI
      rw [← hov, ← his]
      cases get (coll s i) k <;> rfl
    have HR : Hid ((get (coll s i) k).getD 0 = ov ∧ (get (coll s i) k).isSome = is) := Lib.hid ⟨hov, his⟩
    have HI := Lib.hid hc
    have HIM := Lib.hid him
    have HM := Lib.hid hm
    have HII := Lib.hid hi
    obtain ⟨N, hN⟩ : ∃ N, (coll s i).length = N := ⟨_, rfl⟩
    have ln : (Builtin.len_ #[59] 3 #[.map (some m')]).run Tryd.prog w = .ok (.int .i64 N) w := hN ▸ run_len_int Tryd.underlying59 him _
    have HE : Hid (putE (coll s i) k = if is = false ∧ 100 ≤ N then 8 else 0) := Lib.hid (by unfold putE; rw [his, hN])
    have SR : Hid (Srt (coll s i)) := Lib.hid (HG.out.srt _ (coll_mem hi))
    obtain ⟨Ak, ck, rfl, hnk, _⟩ := own_slice HS.out.k
    obtain ⟨NK, hNK⟩ : ∃ NK, s.K.length = NK := ⟨_, rfl⟩
    have hik : i < NK := by rw [← hNK, HG.out.kl]; exact hi
    have OK : Hid (w.ownsRow B 3 1 (.slice Ak NK ck) NK (flat encK s.K)) := Lib.hid (by have := HS.out.k; unfold Ow at this; rw [hNK] at this; exact this)
    obtain ⟨gk, cg, cur, e1, _⟩ := own_form OK.out (by omega)
    injection e1 with e1 _ e1'
    subst e1 e1'
    obtain ⟨y, hy⟩ : ∃ y, s.K[i]? = some y := ⟨_, List.getElem?_eq_getElem (by rw [hNK]; exact hik)⟩
    have e0 : w.cell? ⟨gk, i, none⟩ = some (.int .i64 y) := by
      have := own_cell OK.out _ _ ((flat_get (E := encK) hy (j := 0) (by decide)).trans rfl)
      rwa [show i * encK.s + 0 = i by simp [encI]] at this
    have c0 : w.cell? ⟨sb, 0, none⟩ = some (.slice (some ⟨gk, 0, none⟩) NK ck) := by rw [← hNK]; exact HS.out.box.cell 0
    have q1 : (0 : Int) ≤ (i : Int) := by omega
    have q2 : (i : Int) < (NK : Int) := by omega
    have HV : Hid (putV s i v = if y = 2 then 1 else v) := Lib.hid (by unfold putV; rw [List.getD_eq_getElem?_getD, hy]; rfl)
    clear hov his hm hm' hi hc him hN hNK hy
    cases is with
    | true =>
      have HE0 : Hid (putE (coll s i) k = 0) := Lib.hid (by rw [HE.out, if_neg (by simp; try omega)])
      by_cases hy2 : y = 2
      · have d2 : (y == 2) = true := by simpa using hy2
        have HVV : Hid (putV s i v = 1) := Lib.hid (by rw [HV.out, if_pos hy2])
        clear hy2
        obtain ⟨W3, r3, m3, u3⟩ := run_mapUpdate_int (P := Tryd.prog) (mt := 59) Tryd.underlying59 Tryd.underlying3 HIM.out k (.int .i64 1)
        have M3 := Lib.hid (imapI_put SR.out m3)
        have U3 := Lib.hid u3
        clear m3 u3
        go_wp2_with fail
        go_ret
        unfold MPutPost
        rw [HI.out, Int.toNat_natCast, HE0.out]
        have GP := good_put HG.out HII.out k v HKB.out
        have EP : mPut s i k v = setC s i (put (coll s i) k 1) := by unfold mPut; rw [HE0.out, HVV.out]; rfl
        rw [EP] at GP ⊢
        refine ⟨_, rfl, ErrV.nil _, ⟨GP, _, gc, cc, ms, HF.out, HS.out.turn HII.out HM.out U3.out M3.out⟩, ?_⟩
        rw [HF.out]
        exact U3.out.mono (by intro y hy; simp at hy; subst hy; exact .inl (by unfold fpM; simp [List.mem_of_getElem? HM.out]))
      · have d2 : (y == 2) = false := by simpa using hy2
        have HVV : Hid (putV s i v = v) := Lib.hid (by rw [HV.out, if_neg hy2])
        clear hy2
        obtain ⟨W3, r3, m3, u3⟩ := run_mapUpdate_int (P := Tryd.prog) (mt := 59) Tryd.underlying59 Tryd.underlying3 HIM.out k (.int .i64 v)
        have M3 := Lib.hid (imapI_put SR.out m3)
        have U3 := Lib.hid u3
        clear m3 u3
        go_wp2_with fail
        go_ret
        unfold MPutPost
        rw [HI.out, Int.toNat_natCast, HE0.out]
        have GP := good_put HG.out HII.out k v HKB.out
        have EP : mPut s i k v = setC s i (put (coll s i) k v) := by unfold mPut; rw [HE0.out, HVV.out]; rfl
        rw [EP] at GP ⊢
        refine ⟨_, rfl, ErrV.nil _, ⟨GP, _, gc, cc, ms, HF.out, HS.out.turn HII.out HM.out U3.out M3.out⟩, ?_⟩
        rw [HF.out]
        exact U3.out.mono (by intro y hy; simp at hy; subst hy; exact .inl (by unfold fpM; simp [List.mem_of_getElem? HM.out]))
    | false =>
      by_cases h5 : 100 ≤ N
      · have d : decide ((100 : Int) ≤ (N : Int)) = true := by simp; omega
        have HE8 : Hid (putE (coll s i) k = 8) := Lib.hid (by rw [HE.out, if_pos ⟨rfl, h5⟩])
        go_wp2_with fail
        go_ret
        unfold MPutPost
        rw [HI.out, Int.toNat_natCast, HE8.out]
        refine ⟨_, rfl, ErrV.errno _ 8 (by omega) (by omega), ?_, .refl _ _⟩
        have EP : mPut s i k v = s := by unfold mPut; rw [HE8.out]; rfl
        rw [EP]
        exact H.out
      · have d5 : decide ((100 : Int) ≤ (N : Int)) = false := by simp; omega
        have HE0 : Hid (putE (coll s i) k = 0) := Lib.hid (by rw [HE.out, if_neg (by simp; try omega)])
        by_cases hy2 : y = 2
        · have d2 : (y == 2) = true := by simpa using hy2
          have HVV : Hid (putV s i v = 1) := Lib.hid (by rw [HV.out, if_pos hy2])
          clear hy2
          obtain ⟨W3, r3, m3, u3⟩ := run_mapUpdate_int (P := Tryd.prog) (mt := 59) Tryd.underlying59 Tryd.underlying3 HIM.out k (.int .i64 1)
          have M3 := Lib.hid (imapI_put SR.out m3)
          have U3 := Lib.hid u3
          clear m3 u3
          go_wp2_with fail
          go_ret
          unfold MPutPost
          rw [HI.out, Int.toNat_natCast, HE0.out]
          have GP := good_put HG.out HII.out k v HKB.out
          have EP : mPut s i k v = setC s i (put (coll s i) k 1) := by unfold mPut; rw [HE0.out, HVV.out]; rfl
          rw [EP] at GP ⊢
          refine ⟨_, rfl, ErrV.nil _, ⟨GP, _, gc, cc, ms, HF.out, HS.out.turn HII.out HM.out U3.out M3.out⟩, ?_⟩
          rw [HF.out]
          exact U3.out.mono (by intro y hy; simp at hy; subst hy; exact .inl (by unfold fpM; simp [List.mem_of_getElem? HM.out]))
        · have d2 : (y == 2) = false := by simpa using hy2
          have HVV : Hid (putV s i v = v) := Lib.hid (by rw [HV.out, if_neg hy2])
          clear hy2
          obtain ⟨W3, r3, m3, u3⟩ := run_mapUpdate_int (P := Tryd.prog) (mt := 59) Tryd.underlying59 Tryd.underlying3 HIM.out k (.int .i64 v)
          have M3 := Lib.hid (imapI_put SR.out m3)
          have U3 := Lib.hid u3
          clear m3 u3
          go_wp2_with fail
          go_ret
          unfold MPutPost
          rw [HI.out, Int.toNat_natCast, HE0.out]
          have GP := good_put HG.out HII.out k v HKB.out
          have EP : mPut s i k v = setC s i (put (coll s i) k v) := by unfold mPut; rw [HE0.out, HVV.out]; rfl
          rw [EP] at GP ⊢
          refine ⟨_, rfl, ErrV.nil _, ⟨GP, _, gc, cc, ms, HF.out, HS.out.turn HII.out HM.out U3.out M3.out⟩, ?_⟩
          rw [HF.out]
          exact U3.out.mono (by intro y hy; simp at hy; subst hy; exact .inl (by unfold fpM; simp [List.mem_of_getElem? HM.out]))
  · have U1 := Lib.hid u1
    have BF := Lib.hid bf
    have HI := Lib.hid hc
    clear u1 bf hc
    go_wp2_with fail
    go_ret
    unfold MPutPost
    rw [HI.out]
    exact ⟨_, rfl, ErrV.fault (no := 3) (at_ := c) BF.out (by omega) (by omega), H.out.upd0 U1.out, U1.out.mono (by simp)⟩
def MDelPost (B sb : Nat) (F : List Nat) (s : MS) (c k : Int) (w : World) (e : Ending) (w' : World) : Prop := ∃ u, e = .returned u ∧ ErrV w' u (if isC s c then 0 else 3) (if isC s c then 0 else c) ∧ Mdl B sb F w' (if isC s c then mDel s c.toNat k else s) ∧ Upd F w w'
set_option maxRecDepth 100000 in
set_option maxHeartbeats 4000000 in
theorem m_del (B sb : Nat) (F : List Nat) (s : MS) (c k : Int) (w : World) (h : Mdl B sb F w s) :
    Calls Tryd.prog 24 #[.pointer (some ⟨sb, 0, none⟩), .int .i64 c, .int .i64 k] w fun e w' => MDelPost B sb F s c k w e w' := by
  have H := Lib.hid h
  obtain ⟨g, vk, gc, cc, ms, hF, h⟩ := h
  have HF := Lib.hid hF
  have HS := Lib.hid h
  have HG := Lib.hid g
  have K8 := Lib.hid (show s.L.length ≤ 8 by have := g.k8; rw [g.kl] at this; exact this)
  clear g hF h
  go_enter Tryd.func24, Tryd.ntmps24
  go_wp2_with fail
  refine (m_coll B sb vk gc cc ms s c w HS.out K8.out).mono ?_
  rintro e w1 (⟨hc, rfl, i, m, rfl, hi, hm, rfl⟩ | ⟨hc, u1, gf, rfl, bf⟩)
  · obtain ⟨m', hm', him⟩ := HS.out.at_ hi
    obtain rfl : m' = m := by rw [hm] at hm'; exact (Option.some.inj hm').symm
    obtain ⟨W3, r3, m3, u3⟩ := run_delete_int (P := Tryd.prog) (ats := #[59, 3]) (ty := 0) rfl Tryd.underlying59 Tryd.underlying3 him k
    have M3 := Lib.hid (imapI_del (HG.out.srt _ (coll_mem hi)) m3)
    have U3 := Lib.hid u3
    have HI := Lib.hid hc
    have HM := Lib.hid hm
    have HII := Lib.hid hi
    clear hm hm' hi hc him m3 u3
    go_wp2_with fail
    go_ret
    unfold MDelPost
    rw [HI.out, Int.toNat_natCast]
    refine ⟨_, rfl, ErrV.nil _, ⟨good_del HG.out HII.out k, vk, gc, cc, ms, HF.out, HS.out.turn HII.out HM.out U3.out M3.out⟩, ?_⟩
    rw [HF.out]
    exact U3.out.mono (by intro y hy; simp at hy; subst hy; exact .inl (by unfold fpM; simp [List.mem_of_getElem? HM.out]))
  · have U1 := Lib.hid u1
    have BF := Lib.hid bf
    have HI := Lib.hid hc
    clear u1 bf hc
    go_wp2_with fail
    go_ret
    unfold MDelPost
    rw [HI.out]
    exact ⟨_, rfl, ErrV.fault (no := 3) (at_ := c) BF.out (by omega) (by omega), H.out.upd0 U1.out, U1.out.mono (by simp)⟩
end Go.Proofs.YtjlpogmoebmkdaaDoor

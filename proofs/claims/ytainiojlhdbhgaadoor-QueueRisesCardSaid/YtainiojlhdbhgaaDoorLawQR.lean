/-
  QueueRises, the walk.
-/
import Derived.Test.YtainiojlhdbhgaaDoorTwoQ
set_option linter.unusedVariables false
namespace Go.Proofs.YtainiojlhdbhgaaDoor
open Go.RowKit HeapPlain
attribute [local go_sem] litStep_value

theorem wrapI {n : Int} (h : -1000 ≤ n) (h2 : n ≤ 1000) : IntKind.i64.wrap n = n := by rw [IntKind.wrap_i64]; omega
/-- What was told, by rising times, and what is still there. -/
structure Rise (al us : List Tm) (N : Nat) : Prop where
  len : al.length + us.length = N
  nd : (idsT (al ++ us)).Nodup
  s : SrtT al
  x : ∀ a ∈ al, ∀ b ∈ us, ltT a b = true
theorem Rise.start {us : List Tm} (h : (idsT us).Nodup) : Rise [] us us.length := ⟨by simp, by simpa using h, .nil, by simp⟩
theorem ids_app {a b : List Tm} : idsT (a ++ b) = idsT a ++ idsT b := List.map_append ..
theorem Rise.due {al us out us' : List Tm} {N : Nat} (h : Rise al us N) (hp : (out ++ us').Perm us) (ho : out.Pairwise (fun a b => ltT b a = false)) (hb : ∀ a ∈ out, ∀ b ∈ us', ltT b a = false) : Rise (al ++ out) us' N := by
  have hn := h.nd
  rw [ids_app, List.nodup_append] at hn
  have hn2 : (idsT (out ++ us')).Nodup := (hp.map (·.id)).nodup_iff.2 hn.2.1
  have hn3 := nodup_of_ids hn2
  rw [List.nodup_append] at hn3
  have hno : (idsT out).Nodup := by rw [ids_app, List.nodup_append] at hn2; exact hn2.1
  refine ⟨?_, ?_, ?_, ?_⟩
  · have := hp.length_eq
    have := h.len
    simp only [List.length_append] at *
    omega
  · rw [List.append_assoc]
    exact ((hp.append_left al).map (·.id)).nodup_iff.2 h.nd
  · exact List.pairwise_append.2 ⟨h.s, strict_of hno ho, fun a ha b hb' => h.x a ha b (hp.mem_iff.1 (by simp [hb']))⟩
  · intro a ha b hb'
    rcases List.mem_append.1 ha with ha | ha
    · exact h.x a ha b (hp.mem_iff.1 (by simp [hb']))
    · rcases ltT_tot.tri a b (hn3.2.2 a ha b hb') with h1 | h1
      · exact h1
      · rw [hb a ha b hb'] at h1; cases h1

structure RiseSt (B qb p mb : Nat) (w0 w : World) (v : Value) (al us : List Tm) (N : Nat) : Prop where
  q : QSt B qb p mb w us
  own : w.ownsRow B 29 2 v al.length (flatT al)
  off : ∀ b, v.ownBlock = some b → ¬ ownT p mb w b
  u : Upd [] w0 w
  r : Rise al us N
section
variable {B qb p mb : Nat} {w0 w w' : World} {v vd : Value} {al us out us' : List Tm} {N : Nat}
theorem RiseSt.upd0 (h : RiseSt B qb p mb w0 w v al us N) (hu : Upd [] w w') : RiseSt B qb p mb w0 w' v al us N := by
  have hk := h.q.tim.keep (O := fun _ => False) (.of_upd hu (by simp)) (fun _ _ h => h)
  exact ⟨(h.q.upd0 hu).1, own_upd0 h.own hu, fun b hb ho => h.off b hb ((hk.2 b).1 ho), h.u.trans hu, h.r⟩
theorem RiseSt.next (h : RiseSt B qb p mb w0 w v al us N) (hq : QSt B qb p mb w' us) (hf : FrT p mb w w') (hB : w0.heap.size ≤ B) : RiseSt B qb p mb w0 w' v al us N :=
  ⟨hq, own_updP h.own hf.1 h.off, fun b hb ho => (hf.2 b ho).elim (h.off b hb) (fun h' => by have := (own_lt h.own hb).2; omega), h.q.rest hB h.u hf, h.r⟩
/-- While what is due is taken over, one by one. -/
structure InSt (B qb p mb : Nat) (w0 w : World) (Bd : Nat) (v vd : Value) (al out us : List Tm) (j : Nat) : Prop where
  q : QSt B qb p mb w us
  own : w.ownsRow B 29 2 v (al ++ out.take j).length (flatT (al ++ out.take j))
  off : ∀ b, v.ownBlock = some b → ¬ ownT p mb w b
  dn : w.ownsRow Bd 29 2 vd out.length (flatT out)
  ap : ∀ b, v.ownBlock = some b → vd.ownBlock ≠ some b
  u : Upd [] w0 w
theorem RiseSt.inn {now : Int} (h : RiseSt B qb p mb w0 w v al us N) (hd : DueSt B qb p mb us now w w' vd out us') (hB : w0.heap.size ≤ B) : InSt B qb p mb w0 w' w.heap.size v vd al out us' 0 := by
  refine ⟨hd.q, ?_, fun b hb ho => (hd.fr.2 b ho).elim (h.off b hb) (fun h' => by have := (own_lt h.own hb).2; omega), hd.own, fun b hb hb' => ?_, h.q.rest hB h.u hd.fr⟩
  · simpa using own_updP h.own hd.fr.1 h.off
  · have := (own_lt h.own hb).2
    have := (own_lt hd.own hb').1
    omega
theorem InSt.upd0 {Bd j : Nat} (h : InSt B qb p mb w0 w Bd v vd al out us j) (hu : Upd [] w w') : InSt B qb p mb w0 w' Bd v vd al out us j := by
  have hk := h.q.tim.keep (O := fun _ => False) (.of_upd hu (by simp)) (fun _ _ h => h)
  exact ⟨(h.q.upd0 hu).1, own_upd0 h.own hu, fun b hb ho => h.off b hb ((hk.2 b).1 ho), own_upd0 h.dn hu, h.ap, h.u.trans hu⟩
theorem InSt.app {Bd j : Nat} {v' : Value} {x : Tm} (h : InSt B qb p mb w0 w Bd v vd al out us j) (hB : w0.heap.size ≤ B) (hx : out[j]? = some x) (hu : Upd v.ownBlock.toList w w') (ho : w'.ownsRow B 29 2 v' ((al ++ out.take j).length + 1) (flatT (al ++ out.take j) ++ [.int .i64 x.wn, .int .i64 x.id]))
    (hb : ∀ b, v'.ownBlock = some b → v.ownBlock = some b ∨ w.heap.size ≤ b) : InSt B qb p mb w0 w' Bd v' vd al out us (j + 1) := by
  have UP : UpdP (fun k => v.ownBlock = some k) w w' := .of_upd hu (fun y hy => .inl (by simpa using hy))
  have hk := h.q.tim.keep UP (fun k hk e => h.off k e hk)
  have e1 : al ++ out.take (j + 1) = (al ++ out.take j) ++ [x] := by rw [List.take_add_one, hx]; simp
  refine ⟨⟨h.q.box.updP UP (fun e => own_type h.own h.q.box (by decide) e), hk.1, h.q.hp, h.q.bq⟩, ?_, fun b hb' ho' => ?_, own_updP h.dn UP (fun b hb' e => h.ap b e hb'), fun b hb' hd => ?_, h.u.trans' hu (fun k hk => .inr (Nat.le_trans hB (own_lt h.own (by simpa using hk)).1))⟩
  · rw [e1, flatT_append, List.length_append]
    exact ho
  · have h3 := (hk.2 b).1 ho'
    rcases hb b hb' with h4 | h4
    · exact h.off b h4 h3
    · have := (h.q.tim.own_lt h3).2; omega
  · rcases hb b hb' with h4 | h4
    · exact h.ap b h4 hd
    · have := (own_lt h.dn hd).2; omega
theorem InSt.fin {now : Int} {wd : World} {Bd : Nat} (h : InSt B qb p mb w0 w Bd v vd al out us' out.length) (hr : Rise al us N) (hp : (out ++ us').Perm us) (ho : out.Pairwise (fun a b => ltT b a = false)) (hb : ∀ a ∈ out, ∀ b ∈ us', ltT b a = false) : RiseSt B qb p mb w0 w v (al ++ out) us' N := by
  have e := h.own
  rw [List.take_of_length_le (Nat.le_refl _)] at e
  exact ⟨h.q, e, h.off, h.u, hr.due hp ho hb⟩
end

set_option maxRecDepth 100000 in
set_option maxHeartbeats 8000000 in
theorem law_qrises (A : Option Addr) (n c : Nat) (L : List Tm) (A2 : Option Addr) (n2 c2 : Nat) (L2 : List Int) (w : World) (hA : Rd encT w (.slice A n c) L) (hn : L.length = n) (hnc : n ≤ c) (hcm : c ≤ maxLen) (hA2 : Rd (encI .i64) w (.slice A2 n2 c2) L2) (hn2 : L2.length = n2) (hnc2 : n2 ≤ c2) (hcm2 : c2 ≤ maxLen) (hg : Typed w) :
    Calls Tryd.prog 4 #[.slice A n c, .slice A2 n2 c2] w fun e w' => e = .returned (.bool true) ∧ Upd [] w w' := by
  have HG := Lib.hid hg
  have HA := Lib.hid hA
  have HN := Lib.hid hn
  have HA2 := Lib.hid hA2
  have HN2 := Lib.hid hn2
  unfold maxLen at hcm hcm2
  clear hg hA hn hA2 hn2
  go_enter Tryd.func4, Tryd.ntmps4
  go_wp2_with fail
  refine (q_new w w.heap.size (Nat.le_refl _)).mono ?_; rintro e w1 ⟨qb, p, mb, rfl, q1, u1, _, _, _⟩
  have Q1 := Lib.hid q1
  have U1 := Lib.hid u1
  clear q1 u1
  by_cases h60 : 60 < n
  · have d : decide ((60 : Int) < (n : Int)) = true := by simp; omega
    go_wp2_with fail
    refine (alive_ok _ (HG.out.upd U1.out (by simp))).mono ?_; rintro e w2 ⟨rfl, u2⟩
    have U2 := Lib.hid (U1.out.trans u2)
    clear u2
    go_wp2_with fail
    go_ret
    exact ⟨rfl, U2.out⟩
  have d : decide ((60 : Int) < (n : Int)) = false := by simp; omega
  by_cases h30 : 30 < n2
  · have d2 : decide ((30 : Int) < (n2 : Int)) = true := by simp; omega
    go_wp2_with fail
    refine (alive_ok _ (HG.out.upd U1.out (by simp))).mono ?_; rintro e w2 ⟨rfl, u2⟩
    have U2 := Lib.hid (U1.out.trans u2)
    clear u2
    go_wp2_with fail
    go_ret
    exact ⟨rfl, U2.out⟩
  have d2 : decide ((30 : Int) < (n2 : Int)) = false := by simp; omega
  go_wp2_with fail
  go_loopw [6, 39] (fun vn v wr => ∃ (k : Nat) (ts : List Tm), vn = .int .i64 ts.length ∧ v = .int .i64 k ∧ k ≤ n ∧ ts.length ≤ k ∧ Hid (QSt w.heap.size qb p mb wr ts ∧ Upd [] w wr)) (fun _ v _ => n - (intOf v).toNat)
  case atStart => exact ⟨0, [], rfl, rfl, by omega, by simp, Lib.hid ⟨Q1.out, U1.out⟩⟩
  case round =>
    obtain ⟨k, ts, rfl, rfl, hk, hl, HK⟩ := hrel
    have Q := Lib.hid HK.out.1
    have U := Lib.hid HK.out.2
    clear HK
    rename World => wi
    obtain ⟨m, hm⟩ : ∃ m, ts.length = m := ⟨_, rfl⟩
    have HM := Lib.hid hm
    rw [hm] at hl ⊢
    clear hm
    by_cases hkn : k < n
    · obtain ⟨⟨xw, xi⟩, hx⟩ : ∃ x, L[k]? = some x := ⟨_, List.getElem?_eq_getElem (by rw [HN.out]; exact hkn)⟩
      obtain ⟨ad, rfl, hlt, hcells⟩ := (HA.out.upd0 U.out).at_ hx
      have e0 : wi.cell? (ad.add (k * 2)) = some (.int .i64 xw) := hcells 0 _ rfl
      have e1 : wi.cell? ⟨(ad.add (k * 2)).block, (ad.add (k * 2)).off + 1, none⟩ = some (.int .i64 xi) := by have := hcells 1 _ rfl; rwa [show k * encT.s + 1 = k * 2 + (0 + 1) from rfl, add_more] at this
      have q1 : (0 : Int) ≤ (k : Int) := by omega
      have q2 : (k : Int) < (n : Int) := by omega
      clear hx hcells
      go_wp2_with fail
      have UA : Hid (Upd [] wi (wi.alloc (.cells #[.int .i64 xw, .int .i64 xi] 29))) := Lib.hid ((Upd.refl [] wi).alloc _)
      generalize (wi.alloc (.cells #[.int .i64 xw, .int .i64 xi] 29)) = w5 at *
      have U5 := Lib.hid (U.out.trans UA.out)
      refine (q_push w.heap.size qb p mb ts ⟨xw, xi⟩ w5 (Q.out.upd0 UA.out).1 (by rw [HM.out]; omega) U5.out.size).mono ?_
      rintro e w6 ⟨va, ts6, rfl, ea, q6, p6, f6⟩
      have EA := Lib.hid ea
      have Q6 := Lib.hid q6
      have P6 := Lib.hid p6
      have U6 := Lib.hid ((Q.out.upd0 UA.out).1.rest (Nat.le_refl _) U5.out f6)
      clear ea q6 p6 f6 e0 e1
      go_wp2_with fail
      refine (no_err EA.out).mono ?_; rintro e w' ⟨rfl, rfl⟩
      obtain ⟨pe, hpe⟩ : ∃ pe, pushE ts ⟨xw, xi⟩ = pe := ⟨_, rfl⟩
      rw [hpe]
      have HPE := Lib.hid hpe
      clear hpe
      by_cases hz : pe = 0
      · subst hz
        have PL : Hid (ts6.length = m + 1) := Lib.hid (by have := P6.out; rw [HPE.out, if_pos rfl] at this; rw [this.length_eq, ← HM.out]; rfl)
        go_wp2_with fail
        go_roundw
        case rel => exact ⟨k + 1, ts6, by rw [PL.out]; go_num, by go_num, by omega, by rw [PL.out]; omega, Lib.hid ⟨Q6.out, U6.out⟩⟩
        case measure => simp [intOf]; omega
      · have hz1 : (pe == 0) = false := by simpa using hz
        have PL : Hid (ts6 = ts) := Lib.hid (by have := P6.out; rw [HPE.out, if_neg hz] at this; exact this)
        have Q7 := Lib.hid (PL.out ▸ Q6.out)
        go_wp2_with fail
        go_roundw
        case rel => exact ⟨k + 1, ts, by rw [HM.out], by go_num, by omega, by rw [HM.out]; omega, Lib.hid ⟨Q7.out, U6.out⟩⟩
        case measure => simp [intOf]; omega
    · have hN60 : m ≤ 60 := by omega
      have R0 : Hid (RiseSt w.heap.size qb p mb w wi (.slice none 0 0) [] ts m) := Lib.hid ⟨Q.out, own_nil _ _ _ _, by intro b hb; simp [Value.ownBlock] at hb, U.out, by rw [← HM.out]; exact Rise.start Q.out.tim.nd⟩
      clear hl hk
      go_wp2_with fail
      go_loopw [9, 10, 53] (fun v vn vk wr => ∃ (k : Nat) (now : Int), vn = .int .i64 now ∧ vk = .int .i64 k ∧ k ≤ n2 ∧ Hid (∃ al us, RiseSt w.heap.size qb p mb w wr v al us m)) (fun _ _ v _ => n2 - (intOf v).toNat)
      case atStart => exact ⟨0, 0, rfl, rfl, by omega, Lib.hid ⟨_, _, R0.out⟩⟩
      case round =>
        obtain ⟨k, now, rfl, rfl, hk, HK⟩ := hrel
        obtain ⟨al, us, hr⟩ := HK.out
        have R := Lib.hid hr
        clear HK hr
        rename World => wi
        obtain ⟨Aa, ca, hv, _, _⟩ := own_slice R.out.own
        subst hv
        by_cases hk2 : k < n2
        · obtain ⟨y, hy⟩ : ∃ y, L2[k]? = some y := ⟨_, List.getElem?_eq_getElem (by rw [HN2.out]; exact hk2)⟩
          obtain ⟨ad2, rfl, hlt, hcells⟩ := (HA2.out.upd0 R.out.u).at_ hy
          have e0 : wi.cell? (ad2.add k) = some (.int .i64 y) := by have := hcells 0 _ rfl; rwa [show k * (encI .i64).s + 0 = k by simp [encI]] at this
          have q1 : (0 : Int) ≤ (k : Int) := by omega
          have q2 : (k : Int) < (n2 : Int) := by omega
          clear hy hcells
          by_cases hk0 : k = 0
          · have d0 : decide ((0 : Int) < (k : Int)) = false := by simp; omega
            have d00 : ¬ 0 < k := by omega
            clear hk0
            go_wp2_with fail
            refine (q_due w.heap.size qb p mb us y wi R.out.q).mono ?_; rintro e w2 ⟨vd, out, us', rfl, hd, hl⟩
            have D := Lib.hid hd
            have DL := Lib.hid hl
            obtain ⟨Ad, cd, hvd, _, _⟩ := own_slice hd.own
            subst hvd
            have I0 := Lib.hid (R.out.inn D.out (Nat.le_refl _))
            obtain ⟨o, ho⟩ : ∃ o, out.length = o := ⟨_, rfl⟩
            have HO := Lib.hid ho
            have ho60 : o ≤ 60 := by
              have h1 := D.out.perm.length_eq
              have h2 := R.out.r.len
              rw [List.length_append, ho] at h1
              omega
            rw [ho]
            clear hd hl ho e0
            go_wp2_with fail
            go_loopw [9, 71] (fun v vj wr => ∃ j : Nat, vj = .int .i64 j ∧ j ≤ o ∧ Hid (InSt w.heap.size qb p mb w wr wi.heap.size v (.slice Ad out.length cd) al out us' j)) (fun _ v _ => o - (intOf v).toNat)
            case atStart => exact ⟨0, rfl, by omega, I0⟩
            case round =>
              obtain ⟨j, rfl, hj, HI⟩ := hrel
              rename World => wj
              obtain ⟨Ab, cb, hvb, _, _⟩ := own_slice HI.out.own
              subst hvb
              obtain ⟨ql, hql⟩ : ∃ ql, (al ++ out.take j).length = ql := ⟨_, rfl⟩
              have HQL := Lib.hid hql
              rw [hql] at HI
              rw [hql]
              have OW : Hid (wj.ownsRow w.heap.size 29 2 (.slice Ab ql cb) ql (flatT (al ++ out.take j))) := Lib.hid (by have := HI.out.own; rw [hql] at this; exact this)
              have hal : ql ≤ 120 := by
                have h2 := R.out.r.len
                rw [← hql, List.length_append, List.length_take]
                omega
              clear hql
              by_cases hjo : j < o
              · obtain ⟨⟨xw, xi⟩, hx⟩ : ∃ x, out[j]? = some x := ⟨_, List.getElem?_eq_getElem (by rw [HO.out]; exact hjo)⟩
                obtain ⟨gd, cg, cur, e1, _⟩ := own_form HI.out.dn (by rw [HO.out]; omega)
                injection e1 with e1 _ e1'
                subst e1 e1'
                have HX := Lib.hid hx
                have x0 : wj.cell? ⟨gd, j * 2, none⟩ = some (.int .i64 xw) := own_cell HI.out.dn _ _ (flatT_get out j _ hx).1
                have x1 : wj.cell? ⟨gd, j * 2 + 1, none⟩ = some (.int .i64 xi) := own_cell HI.out.dn _ _ (flatT_get out j _ hx).2
                have xl : xw ≤ y := D.out.low ⟨xw, xi⟩ (List.mem_of_getElem? hx)
                have xd : decide (y < xw) = false := by simp; omega
                have q3 : (0 : Int) ≤ (j : Int) := by omega
                have q4 : (j : Int) < (o : Int) := by omega
                clear hx
                go_wp2_with (at_builtin; refine stopped ?_)
                refine Lib.hid ?_
                refine wpList_app _ (by rfl) (.tmp 79) (.tmp 81) _ (by rfl) tim_elem (.slice Ab ql cb) (.slice (some ⟨wj.heap.size + 1, 0, none⟩) 1 1) (by rfl) (by rfl) (own_upd0 OW.out (((Upd.refl [] wj).alloc _).alloc _)) (.of_blk (Blk.newAt 29 #[.int .i64 xw, .int .i64 xi] (by simp)) (m := 1) 1 rfl) (by intro u hu; simp at hu; rcases hu with rfl | rfl <;> rfl) (by simp only [maxLen]; omega) (by omega) (Nat.le_trans HI.out.u.size (by simp; omega)) ?_
                intro v4 w4 o4 u4 b4
                have I4 := Lib.hid (HI.out.app (Nat.le_refl _) HX.out ((((Upd.refl _ wj).alloc _).alloc _).trans u4) (by rw [HQL.out]; exact o4) (fun b hb => by
                  rcases b4 with b4 | b4
                  · exact .inl (b4 ▸ hb)
                  · rw [b4] at hb
                    injection hb with hb
                    simp at hb
                    exact .inr (by omega)))
                clear o4 u4 b4 x0 x1
                go_wp2_with fail
                go_roundw
                case rel => exact ⟨j + 1, by go_num, by omega, I4⟩
                case measure => simp [intOf]; omega
              · have hjo2 : j = out.length := by have := HO.out; omega
                have R3 : Hid (RiseSt w.heap.size qb p mb w wj (.slice Ab ql cb) (al ++ out) us' m) := Lib.hid (by
                  subst hjo2
                  exact HI.out.fin (now := y) (wd := wj) R.out.r D.out.perm D.out.srt D.out.bef)
                have hjeq : ¬ ((j : Int) < (o : Int)) := by omega
                go_wp2_with fail
                refine (q_next w.heap.size qb p mb us' wj R3.out.q).mono ?_
                rintro e w7 ⟨rfl, q7, f7⟩
                have R7 := Lib.hid (R3.out.next q7 f7 (Nat.le_refl _))
                clear q7 f7
                obtain ⟨u, hu⟩ : ∃ u, us'.length = u := ⟨_, rfl⟩
                have HU := Lib.hid hu
                rw [hu]
                clear hu
                unfold vT
                by_cases hu0 : u = 0
                · subst hu0
                  simp only [if_true, ne_eq, not_true_eq_false, decide_false]
                  go_wp2_with fail
                  have R8 := Lib.hid (R7.out.upd0 ((Upd.refl [] w7).alloc (.cells #[.int .i64 0, .int .i64 0] 29)))
                  go_roundw
                  case rel => exact ⟨k + 1, y, rfl, by go_num, by omega, Lib.hid ⟨_, _, R8.out⟩⟩
                  case measure => simp [intOf]; omega
                · obtain ⟨⟨yw, yi⟩, hyx⟩ : ∃ x, us'.getD 0 default = x := ⟨_, rfl⟩
                  have hlow : y < yw := by
                    have h1 : us'.getD 0 default ∈ us' := by
                      rw [List.getD_eq_getElem?_getD, List.getElem?_eq_getElem (by have := HU.out; omega)]
                      exact List.getElem_mem _
                    have h2 := DL.out _ h1
                    rw [hyx] at h2
                    exact h2
                  rw [if_neg hu0, hyx]
                  have hd : decide (u ≠ 0) = true := by simpa using hu0
                  rw [hd]
                  have yd : decide (yw ≤ y) = false := by simp; omega
                  clear hyx hd
                  go_wp2_with fail
                  have R8 := Lib.hid (R7.out.upd0 ((Upd.refl [] w7).alloc (.cells #[.int .i64 yw, .int .i64 yi] 29)))
                  go_roundw
                  case rel => exact ⟨k + 1, y, rfl, by go_num, by omega, Lib.hid ⟨_, _, R8.out⟩⟩
                  case measure => simp [intOf]; omega
          · have d0 : decide ((0 : Int) < (k : Int)) = true := by simp; omega
            have d00 : 0 < k := by omega
            by_cases hyn : y < now
            · have d1 : decide (y < now) = true := by simpa using hyn
              go_wp2_with fail
              refine (q_due w.heap.size qb p mb us now wi R.out.q).mono ?_; rintro e w2 ⟨vd, out, us', rfl, hd, hl⟩
              have D := Lib.hid hd
              have DL := Lib.hid hl
              obtain ⟨Ad, cd, hvd, _, _⟩ := own_slice hd.own
              subst hvd
              have I0 := Lib.hid (R.out.inn D.out (Nat.le_refl _))
              obtain ⟨o, ho⟩ : ∃ o, out.length = o := ⟨_, rfl⟩
              have HO := Lib.hid ho
              have ho60 : o ≤ 60 := by
                have h1 := D.out.perm.length_eq
                have h2 := R.out.r.len
                rw [List.length_append, ho] at h1
                omega
              rw [ho]
              clear hd hl ho e0
              go_wp2_with fail
              go_loopw [9, 71] (fun v vj wr => ∃ j : Nat, vj = .int .i64 j ∧ j ≤ o ∧ Hid (InSt w.heap.size qb p mb w wr wi.heap.size v (.slice Ad out.length cd) al out us' j)) (fun _ v _ => o - (intOf v).toNat)
              case atStart => exact ⟨0, rfl, by omega, I0⟩
              case round =>
                obtain ⟨j, rfl, hj, HI⟩ := hrel
                rename World => wj
                obtain ⟨Ab, cb, hvb, _, _⟩ := own_slice HI.out.own
                subst hvb
                obtain ⟨ql, hql⟩ : ∃ ql, (al ++ out.take j).length = ql := ⟨_, rfl⟩
                have HQL := Lib.hid hql
                rw [hql] at HI
                rw [hql]
                have OW : Hid (wj.ownsRow w.heap.size 29 2 (.slice Ab ql cb) ql (flatT (al ++ out.take j))) := Lib.hid (by have := HI.out.own; rw [hql] at this; exact this)
                have hal : ql ≤ 120 := by
                  have h2 := R.out.r.len
                  rw [← hql, List.length_append, List.length_take]
                  omega
                clear hql
                by_cases hjo : j < o
                · obtain ⟨⟨xw, xi⟩, hx⟩ : ∃ x, out[j]? = some x := ⟨_, List.getElem?_eq_getElem (by rw [HO.out]; exact hjo)⟩
                  obtain ⟨gd, cg, cur, e1, _⟩ := own_form HI.out.dn (by rw [HO.out]; omega)
                  injection e1 with e1 _ e1'
                  subst e1 e1'
                  have HX := Lib.hid hx
                  have x0 : wj.cell? ⟨gd, j * 2, none⟩ = some (.int .i64 xw) := own_cell HI.out.dn _ _ (flatT_get out j _ hx).1
                  have x1 : wj.cell? ⟨gd, j * 2 + 1, none⟩ = some (.int .i64 xi) := own_cell HI.out.dn _ _ (flatT_get out j _ hx).2
                  have xl : xw ≤ now := D.out.low ⟨xw, xi⟩ (List.mem_of_getElem? hx)
                  have xd : decide (now < xw) = false := by simp; omega
                  have q3 : (0 : Int) ≤ (j : Int) := by omega
                  have q4 : (j : Int) < (o : Int) := by omega
                  clear hx
                  go_wp2_with (at_builtin; refine stopped ?_)
                  refine Lib.hid ?_
                  refine wpList_app _ (by rfl) (.tmp 79) (.tmp 81) _ (by rfl) tim_elem (.slice Ab ql cb) (.slice (some ⟨wj.heap.size + 1, 0, none⟩) 1 1) (by rfl) (by rfl) (own_upd0 OW.out (((Upd.refl [] wj).alloc _).alloc _)) (.of_blk (Blk.newAt 29 #[.int .i64 xw, .int .i64 xi] (by simp)) (m := 1) 1 rfl) (by intro u hu; simp at hu; rcases hu with rfl | rfl <;> rfl) (by simp only [maxLen]; omega) (by omega) (Nat.le_trans HI.out.u.size (by simp; omega)) ?_
                  intro v4 w4 o4 u4 b4
                  have I4 := Lib.hid (HI.out.app (Nat.le_refl _) HX.out ((((Upd.refl _ wj).alloc _).alloc _).trans u4) (by rw [HQL.out]; exact o4) (fun b hb => by
                    rcases b4 with b4 | b4
                    · exact .inl (b4 ▸ hb)
                    · rw [b4] at hb
                      injection hb with hb
                      simp at hb
                      exact .inr (by omega)))
                  clear o4 u4 b4 x0 x1
                  go_wp2_with fail
                  go_roundw
                  case rel => exact ⟨j + 1, by go_num, by omega, I4⟩
                  case measure => simp [intOf]; omega
                · have hjo2 : j = out.length := by have := HO.out; omega
                  have R3 : Hid (RiseSt w.heap.size qb p mb w wj (.slice Ab ql cb) (al ++ out) us' m) := Lib.hid (by
                    subst hjo2
                    exact HI.out.fin (now := now) (wd := wj) R.out.r D.out.perm D.out.srt D.out.bef)
                  have hjeq : ¬ ((j : Int) < (o : Int)) := by omega
                  go_wp2_with fail
                  refine (q_next w.heap.size qb p mb us' wj R3.out.q).mono ?_
                  rintro e w7 ⟨rfl, q7, f7⟩
                  have R7 := Lib.hid (R3.out.next q7 f7 (Nat.le_refl _))
                  clear q7 f7
                  obtain ⟨u, hu⟩ : ∃ u, us'.length = u := ⟨_, rfl⟩
                  have HU := Lib.hid hu
                  rw [hu]
                  clear hu
                  unfold vT
                  by_cases hu0 : u = 0
                  · subst hu0
                    simp only [if_true, ne_eq, not_true_eq_false, decide_false]
                    go_wp2_with fail
                    have R8 := Lib.hid (R7.out.upd0 ((Upd.refl [] w7).alloc (.cells #[.int .i64 0, .int .i64 0] 29)))
                    go_roundw
                    case rel => exact ⟨k + 1, now, rfl, by go_num, by omega, Lib.hid ⟨_, _, R8.out⟩⟩
                    case measure => simp [intOf]; omega
                  · obtain ⟨⟨yw, yi⟩, hyx⟩ : ∃ x, us'.getD 0 default = x := ⟨_, rfl⟩
                    have hlow : now < yw := by
                      have h1 : us'.getD 0 default ∈ us' := by
                        rw [List.getD_eq_getElem?_getD, List.getElem?_eq_getElem (by have := HU.out; omega)]
                        exact List.getElem_mem _
                      have h2 := DL.out _ h1
                      rw [hyx] at h2
                      exact h2
                    rw [if_neg hu0, hyx]
                    have hd : decide (u ≠ 0) = true := by simpa using hu0
                    rw [hd]
                    have yd : decide (yw ≤ now) = false := by simp; omega
                    clear hyx hd
                    go_wp2_with fail
                    have R8 := Lib.hid (R7.out.upd0 ((Upd.refl [] w7).alloc (.cells #[.int .i64 yw, .int .i64 yi] 29)))
                    go_roundw
                    case rel => exact ⟨k + 1, now, rfl, by go_num, by omega, Lib.hid ⟨_, _, R8.out⟩⟩
                    case measure => simp [intOf]; omega
            · have d1 : decide (y < now) = false := by simpa using hyn
              go_wp2_with fail
              refine (q_due w.heap.size qb p mb us y wi R.out.q).mono ?_; rintro e w2 ⟨vd, out, us', rfl, hd, hl⟩
              have D := Lib.hid hd
              have DL := Lib.hid hl
              obtain ⟨Ad, cd, hvd, _, _⟩ := own_slice hd.own
              subst hvd
              have I0 := Lib.hid (R.out.inn D.out (Nat.le_refl _))
              obtain ⟨o, ho⟩ : ∃ o, out.length = o := ⟨_, rfl⟩
              have HO := Lib.hid ho
              have ho60 : o ≤ 60 := by
                have h1 := D.out.perm.length_eq
                have h2 := R.out.r.len
                rw [List.length_append, ho] at h1
                omega
              rw [ho]
              clear hd hl ho e0
              go_wp2_with fail
              go_loopw [9, 71] (fun v vj wr => ∃ j : Nat, vj = .int .i64 j ∧ j ≤ o ∧ Hid (InSt w.heap.size qb p mb w wr wi.heap.size v (.slice Ad out.length cd) al out us' j)) (fun _ v _ => o - (intOf v).toNat)
              case atStart => exact ⟨0, rfl, by omega, I0⟩
              case round =>
                obtain ⟨j, rfl, hj, HI⟩ := hrel
                rename World => wj
                obtain ⟨Ab, cb, hvb, _, _⟩ := own_slice HI.out.own
                subst hvb
                obtain ⟨ql, hql⟩ : ∃ ql, (al ++ out.take j).length = ql := ⟨_, rfl⟩
                have HQL := Lib.hid hql
                rw [hql] at HI
                rw [hql]
                have OW : Hid (wj.ownsRow w.heap.size 29 2 (.slice Ab ql cb) ql (flatT (al ++ out.take j))) := Lib.hid (by have := HI.out.own; rw [hql] at this; exact this)
                have hal : ql ≤ 120 := by
                  have h2 := R.out.r.len
                  rw [← hql, List.length_append, List.length_take]
                  omega
                clear hql
                by_cases hjo : j < o
                · obtain ⟨⟨xw, xi⟩, hx⟩ : ∃ x, out[j]? = some x := ⟨_, List.getElem?_eq_getElem (by rw [HO.out]; exact hjo)⟩
                  obtain ⟨gd, cg, cur, e1, _⟩ := own_form HI.out.dn (by rw [HO.out]; omega)
                  injection e1 with e1 _ e1'
                  subst e1 e1'
                  have HX := Lib.hid hx
                  have x0 : wj.cell? ⟨gd, j * 2, none⟩ = some (.int .i64 xw) := own_cell HI.out.dn _ _ (flatT_get out j _ hx).1
                  have x1 : wj.cell? ⟨gd, j * 2 + 1, none⟩ = some (.int .i64 xi) := own_cell HI.out.dn _ _ (flatT_get out j _ hx).2
                  have xl : xw ≤ y := D.out.low ⟨xw, xi⟩ (List.mem_of_getElem? hx)
                  have xd : decide (y < xw) = false := by simp; omega
                  have q3 : (0 : Int) ≤ (j : Int) := by omega
                  have q4 : (j : Int) < (o : Int) := by omega
                  clear hx
                  go_wp2_with (at_builtin; refine stopped ?_)
                  refine Lib.hid ?_
                  refine wpList_app _ (by rfl) (.tmp 79) (.tmp 81) _ (by rfl) tim_elem (.slice Ab ql cb) (.slice (some ⟨wj.heap.size + 1, 0, none⟩) 1 1) (by rfl) (by rfl) (own_upd0 OW.out (((Upd.refl [] wj).alloc _).alloc _)) (.of_blk (Blk.newAt 29 #[.int .i64 xw, .int .i64 xi] (by simp)) (m := 1) 1 rfl) (by intro u hu; simp at hu; rcases hu with rfl | rfl <;> rfl) (by simp only [maxLen]; omega) (by omega) (Nat.le_trans HI.out.u.size (by simp; omega)) ?_
                  intro v4 w4 o4 u4 b4
                  have I4 := Lib.hid (HI.out.app (Nat.le_refl _) HX.out ((((Upd.refl _ wj).alloc _).alloc _).trans u4) (by rw [HQL.out]; exact o4) (fun b hb => by
                    rcases b4 with b4 | b4
                    · exact .inl (b4 ▸ hb)
                    · rw [b4] at hb
                      injection hb with hb
                      simp at hb
                      exact .inr (by omega)))
                  clear o4 u4 b4 x0 x1
                  go_wp2_with fail
                  go_roundw
                  case rel => exact ⟨j + 1, by go_num, by omega, I4⟩
                  case measure => simp [intOf]; omega
                · have hjo2 : j = out.length := by have := HO.out; omega
                  have R3 : Hid (RiseSt w.heap.size qb p mb w wj (.slice Ab ql cb) (al ++ out) us' m) := Lib.hid (by
                    subst hjo2
                    exact HI.out.fin (now := y) (wd := wj) R.out.r D.out.perm D.out.srt D.out.bef)
                  have hjeq : ¬ ((j : Int) < (o : Int)) := by omega
                  go_wp2_with fail
                  refine (q_next w.heap.size qb p mb us' wj R3.out.q).mono ?_
                  rintro e w7 ⟨rfl, q7, f7⟩
                  have R7 := Lib.hid (R3.out.next q7 f7 (Nat.le_refl _))
                  clear q7 f7
                  obtain ⟨u, hu⟩ : ∃ u, us'.length = u := ⟨_, rfl⟩
                  have HU := Lib.hid hu
                  rw [hu]
                  clear hu
                  unfold vT
                  by_cases hu0 : u = 0
                  · subst hu0
                    simp only [if_true, ne_eq, not_true_eq_false, decide_false]
                    go_wp2_with fail
                    have R8 := Lib.hid (R7.out.upd0 ((Upd.refl [] w7).alloc (.cells #[.int .i64 0, .int .i64 0] 29)))
                    go_roundw
                    case rel => exact ⟨k + 1, y, rfl, by go_num, by omega, Lib.hid ⟨_, _, R8.out⟩⟩
                    case measure => simp [intOf]; omega
                  · obtain ⟨⟨yw, yi⟩, hyx⟩ : ∃ x, us'.getD 0 default = x := ⟨_, rfl⟩
                    have hlow : y < yw := by
                      have h1 : us'.getD 0 default ∈ us' := by
                        rw [List.getD_eq_getElem?_getD, List.getElem?_eq_getElem (by have := HU.out; omega)]
                        exact List.getElem_mem _
                      have h2 := DL.out _ h1
                      rw [hyx] at h2
                      exact h2
                    rw [if_neg hu0, hyx]
                    have hd : decide (u ≠ 0) = true := by simpa using hu0
                    rw [hd]
                    have yd : decide (yw ≤ y) = false := by simp; omega
                    clear hyx hd
                    go_wp2_with fail
                    have R8 := Lib.hid (R7.out.upd0 ((Upd.refl [] w7).alloc (.cells #[.int .i64 yw, .int .i64 yi] 29)))
                    go_roundw
                    case rel => exact ⟨k + 1, y, rfl, by go_num, by omega, Lib.hid ⟨_, _, R8.out⟩⟩
                    case measure => simp [intOf]; omega
        · obtain ⟨a, ha⟩ : ∃ a, al.length = a := ⟨_, rfl⟩
          have HAL := Lib.hid ha
          have ha60 : a ≤ 60 := by have := R.out.r.len; omega
          rw [ha]
          clear ha
          have hk2i : ¬ ((k : Int) < (n2 : Int)) := by omega
          have HKE := Lib.hid hk2
          clear hk2
          go_wp2_with fail
          go_loopw [99] (fun v wr => ∃ j : Nat, v = .int .i64 j ∧ j ≤ a ∧ Hid (RiseSt w.heap.size qb p mb w wr (.slice Aa al.length ca) al us m)) (fun v _ => a - (intOf v).toNat)
          case atStart => exact ⟨0, rfl, by omega, R⟩
          case round =>
            obtain ⟨j, rfl, hj, HJ⟩ := hrel
            rename World => wj
            by_cases hja : j < a
            · have q5 : (0 : Int) ≤ (j : Int) := by omega
              have q6 : (j : Int) < (a : Int) := by omega
              by_cases hj0 : j = 0
              · have d0 : decide ((0 : Int) < (j : Int)) = false := by simp; omega
                have d00 : ¬ 0 < j := by omega
                clear hj0
                go_wp2_with fail
                refine wp_invN [] [] (by kernel_rfl) (by kernel_rfl) (by kernel_rfl) trivial ?_
                with_reducible apply wpV_light
                · simp only [lightOp]
                · intro W hU hF
                  clear hU hF
                  go_simp
                  exact rfl
                simp only [Act.put, List.setIfInBounds_toArray, List.set_cons_zero, List.set_cons_succ]
                with_reducible apply wpV_light
                · simp only [lightOp]
                · intro W hU hF
                  clear hU hF
                  go_simp
                  exact rfl
                simp only [Act.put, List.setIfInBounds_toArray, List.set_cons_zero, List.set_cons_succ]
                with_reducible apply wpV_light
                · simp only [lightOp]
                · intro W hU hF
                  clear hU hF
                  go_simp
                  exact rfl
                simp only [Act.put, List.setIfInBounds_toArray, List.set_cons_zero, List.set_cons_succ]
                refine wpV_skip (by rfl) (by simp only [lightOp]) ?_
                simp only [Act.put, List.setIfInBounds_toArray, List.set_cons_zero, List.set_cons_succ]
                refine wpV_skip (by rfl) (by simp only [lightOp]) ?_
                simp only [Act.put, List.setIfInBounds_toArray, List.set_cons_zero, List.set_cons_succ]
                refine wpV_skip (by rfl) (by simp only [lightOp]) ?_
                simp only [Act.put, List.setIfInBounds_toArray, List.set_cons_zero, List.set_cons_succ]
                refine wpV_skip (by rfl) (by simp only [lightOp]) ?_
                simp only [Act.put, List.setIfInBounds_toArray, List.set_cons_zero, List.set_cons_succ]
                refine wpV_skip (by rfl) (by simp only [lightOp]) ?_
                simp only [Act.put, List.setIfInBounds_toArray, List.set_cons_zero, List.set_cons_succ]
                refine wpV_skip (by rfl) (by simp only [lightOp]) ?_
                simp only [Act.put, List.setIfInBounds_toArray, List.set_cons_zero, List.set_cons_succ]
                refine wpV_skip (by rfl) (by simp only [lightOp]) ?_
                simp only [Act.put, List.setIfInBounds_toArray, List.set_cons_zero, List.set_cons_succ]
                refine wpV_skip (by rfl) (by simp only [lightOp]) ?_
                simp only [Act.put, List.setIfInBounds_toArray, List.set_cons_zero, List.set_cons_succ]
                refine wpV_skip (by rfl) (by simp only [lightOp]) ?_
                simp only [Act.put, List.setIfInBounds_toArray, List.set_cons_zero, List.set_cons_succ]
                refine wpV_heavySkip (by simp only [lightOp]) (by rfl) (fun W hU hk => outV_new rfl trivial (by intro b hb; cases hb) (.refl _ _)) ?_
                rintro _ trivial
                simp only [Act.put, List.setIfInBounds_toArray, List.set_cons_zero, List.set_cons_succ]
                refine wpV_skip (by rfl) (by simp only [lightOp]) ?_
                simp only [Act.put, List.setIfInBounds_toArray, List.set_cons_zero, List.set_cons_succ]
                with_reducible apply wpV_light
                · simp only [lightOp]
                · intro W hU hF
                  clear hU hF
                  go_simp
                  exact rfl
                simp only [Act.put, List.setIfInBounds_toArray, List.set_cons_zero, List.set_cons_succ]
                refine wpV_end (fun W hU _ _ => ?_)
                have RW := Lib.hid (HJ.out.upd0 ((Upd.refl [] _).drew.trans hU))
                clear hU
                refine wpT_end ?_
                go_wp2_with fail
                go_roundw
                case rel => exact ⟨j + 1, by go_num, by omega, RW⟩
                case measure => simp [intOf]; omega
              · obtain ⟨i, hi⟩ : ∃ i, j = i + 1 := ⟨j - 1, by omega⟩
                obtain ⟨⟨xw, xi⟩, hx⟩ : ∃ x, al[i]? = some x := ⟨_, List.getElem?_eq_getElem (by rw [HAL.out]; omega)⟩
                obtain ⟨⟨yw, yi⟩, hy⟩ : ∃ x, al[j]? = some x := ⟨_, List.getElem?_eq_getElem (by rw [HAL.out]; omega)⟩
                obtain ⟨ga, cg, cur, e1, _⟩ := own_form HJ.out.own (by rw [HAL.out]; omega)
                injection e1 with e1 _ e1'
                subst e1 e1'
                have HLT : Hid (ltT ⟨xw, xi⟩ ⟨yw, yi⟩ = true) := Lib.hid (by
                  have hs := List.pairwise_iff_getElem.1 R.out.r.s i j (List.getElem?_eq_some_iff.1 hx).1 (List.getElem?_eq_some_iff.1 hy).1 (by omega)
                  rwa [(List.getElem?_eq_some_iff.1 hx).2, (List.getElem?_eq_some_iff.1 hy).2] at hs)
                have CS : Hid (∀ W, Upd [] wj.drew W → W.cell? ⟨ga, i * 2, none⟩ = some (.int .i64 xw) ∧ W.cell? ⟨ga, i * 2 + 1, none⟩ = some (.int .i64 xi) ∧ W.cell? ⟨ga, j * 2, none⟩ = some (.int .i64 yw) ∧ W.cell? ⟨ga, j * 2 + 1, none⟩ = some (.int .i64 yi)) := Lib.hid (fun W hW => by
                  have ho := own_upd0 HJ.out.own ((Upd.refl [] wj).drew.trans hW)
                  exact ⟨own_cell ho _ _ (flatT_get al i _ hx).1, own_cell ho _ _ (flatT_get al i _ hx).2, own_cell ho _ _ (flatT_get al j _ hy).1, own_cell ho _ _ (flatT_get al j _ hy).2⟩)
                have d0 : decide ((0 : Int) < (j : Int)) = true := by simp; omega
                have d00 : 0 < j := by omega
                have q7 : (j : Int) - 1 = (i : Int) := by omega
                have q8 : (0 : Int) ≤ (i : Int) := by omega
                have q9 : (i : Int) < (a : Int) := by omega
                have qw : IntKind.i64.wrap (i : Int) = (i : Int) := wrapI (by omega) (by omega)
                clear hx hy hi hj0
                go_wp2_with fail
                refine wp_invN [(12, .det (.bool true))] [] (by kernel_rfl) (by kernel_rfl) (by kernel_rfl) ⟨lasts_det _, trivial⟩ ?_
                with_reducible apply wpV_light
                · simp only [lightOp]
                · intro W hU hF
                  have f0 := CS.out W hU
                  clear hU hF
                  go_simp
                  exact rfl
                simp only [Act.put, List.setIfInBounds_toArray, List.set_cons_zero, List.set_cons_succ]
                with_reducible apply wpV_light
                · simp only [lightOp]
                · intro W hU hF
                  have f0 := CS.out W hU
                  clear hU hF
                  go_simp
                  exact rfl
                simp only [Act.put, List.setIfInBounds_toArray, List.set_cons_zero, List.set_cons_succ]
                with_reducible apply wpV_light
                · simp only [lightOp]
                · intro W hU hF
                  have f0 := CS.out W hU
                  clear hU hF
                  go_simp
                  exact rfl
                simp only [Act.put, List.setIfInBounds_toArray, List.set_cons_zero, List.set_cons_succ]
                with_reducible apply wpV_light
                · simp only [lightOp]
                · intro W hU hF
                  have f0 := CS.out W hU
                  clear hU hF
                  go_simp
                  exact rfl
                simp only [Act.put, List.setIfInBounds_toArray, List.set_cons_zero, List.set_cons_succ]
                with_reducible apply wpV_light
                · simp only [lightOp]
                · intro W hU hF
                  have f0 := CS.out W hU
                  clear hU hF
                  go_simp
                  exact rfl
                simp only [Act.put, List.setIfInBounds_toArray, List.set_cons_zero, List.set_cons_succ]
                with_reducible apply wpV_light
                · simp only [lightOp]
                · intro W hU hF
                  have f0 := CS.out W hU
                  clear hU hF
                  go_simp
                  exact rfl
                simp only [Act.put, List.setIfInBounds_toArray, List.set_cons_zero, List.set_cons_succ]
                with_reducible apply wpV_light
                · simp only [lightOp]
                · intro W hU hF
                  have f0 := CS.out W hU
                  clear hU hF
                  go_simp
                  exact rfl
                simp only [Act.put, List.setIfInBounds_toArray, List.set_cons_zero, List.set_cons_succ]
                with_reducible apply wpV_light
                · simp only [lightOp]
                · intro W hU hF
                  have f0 := CS.out W hU
                  clear hU hF
                  go_simp
                  exact rfl
                simp only [Act.put, List.setIfInBounds_toArray, List.set_cons_zero, List.set_cons_succ]
                with_reducible apply wpV_light
                · simp only [lightOp]
                · intro W hU hF
                  have f0 := CS.out W hU
                  clear hU hF
                  go_simp
                  exact rfl
                simp only [Act.put, List.setIfInBounds_toArray, List.set_cons_zero, List.set_cons_succ]
                with_reducible apply wpV_light
                · simp only [lightOp]
                · intro W hU hF
                  have f0 := CS.out W hU
                  clear hU hF
                  go_simp
                  exact rfl
                simp only [Act.put, List.setIfInBounds_toArray, List.set_cons_zero, List.set_cons_succ]
                with_reducible apply wpV_light
                · simp only [lightOp]
                · intro W hU hF
                  have f0 := CS.out W hU
                  clear hU hF
                  go_simp
                  exact rfl
                simp only [Act.put, List.setIfInBounds_toArray, List.set_cons_zero, List.set_cons_succ]
                with_reducible apply wpV_light
                · simp only [lightOp]
                · intro W hU hF
                  have f0 := CS.out W hU
                  clear hU hF
                  go_simp
                  exact rfl
                simp only [Act.put, List.setIfInBounds_toArray, List.set_cons_zero, List.set_cons_succ]
                refine wpV_heavy (by simp only [lightOp]) (by rfl) (fun W hU hk hF K hK => ?_) ?_
                · go_wp2_with fail
                  refine (rahead_ok ⟨xw, xi⟩ ⟨yw, yi⟩ _).mono ?_; rintro e w2 ⟨rfl, u2⟩
                  rw [HLT.out]
                  go_wp2_with fail
                  exact hK.out _ _ (outV_new rfl rfl (by intro b hb; cases hb) u2)
                rintro _ rfl
                simp only [Act.put, List.setIfInBounds_toArray, List.set_cons_zero, List.set_cons_succ]
                with_reducible apply wpV_light
                · simp only [lightOp]
                · intro W hU hF
                  have f0 := CS.out W hU
                  clear hU hF
                  go_simp
                  exact rfl
                simp only [Act.put, List.setIfInBounds_toArray, List.set_cons_zero, List.set_cons_succ]
                with_reducible apply wpV_light
                · simp only [lightOp]
                · intro W hU hF
                  have f0 := CS.out W hU
                  clear hU hF
                  go_simp
                  exact rfl
                simp only [Act.put, List.setIfInBounds_toArray, List.set_cons_zero, List.set_cons_succ]
                refine wpV_end (fun W hU _ _ => ?_)
                have RW := Lib.hid (HJ.out.upd0 ((Upd.refl [] _).drew.trans hU))
                clear hU
                refine wpT_end ?_
                go_wp2_with fail
                go_roundw
                case rel => exact ⟨j + 1, by go_num, by omega, RW⟩
                case measure => simp [intOf]; omega
            · have hja2 : ¬ ((j : Int) < (a : Int)) := by omega
              have HJA := Lib.hid hja
              clear hja
              go_wp2_with fail
              refine (q_all w.heap.size qb p mb us wj HJ.out.q).mono ?_; rintro e w3 ⟨vr, rfl, hor, hur⟩
              have R3 := Lib.hid (HJ.out.upd0 hur)
              obtain ⟨Ar, cr, hvr, _, _⟩ := own_slice hor
              subst hvr
              obtain ⟨b, hb⟩ : ∃ b, us.length = b := ⟨_, rfl⟩
              have HBL := Lib.hid hb
              rw [hb] at hor ⊢
              have OR := Lib.hid hor
              have hsum : a + b = m := by have := R3.out.r.len; rw [HAL.out, hb] at this; exact this
              have dn : ((a : Int) + (b : Int) == (m : Int)) = true := by simp; omega
              have dn2 : decide ((a : Int) + (b : Int) = (m : Int)) = true := by simp; omega
              clear hb hor hur
              by_cases ha0 : a = 0
              · subst ha0
                have dm : ((b : Int) == (m : Int)) = true := by simp; omega
                have qw : IntKind.i64.wrap (b : Int) = (m : Int) := by rw [wrapI (by omega) (by omega)]; omega
                go_wp2_with fail
                refine wp_invN [(30, .det (.bool true))] [] (by kernel_rfl) (by kernel_rfl) (by kernel_rfl) ⟨lasts_det _, trivial⟩ ?_
                with_reducible apply wpV_light
                · simp only [lightOp]
                · intro W hU hF
                  clear hU hF
                  go_simp
                  exact rfl
                simp only [Act.put, List.setIfInBounds_toArray, List.set_cons_zero, List.set_cons_succ]
                with_reducible apply wpV_light
                · simp only [lightOp]
                · intro W hU hF
                  clear hU hF
                  go_simp
                  exact rfl
                simp only [Act.put, List.setIfInBounds_toArray, List.set_cons_zero, List.set_cons_succ]
                with_reducible apply wpV_light
                · simp only [lightOp]
                · intro W hU hF
                  clear hU hF
                  go_simp
                  exact rfl
                simp only [Act.put, List.setIfInBounds_toArray, List.set_cons_zero, List.set_cons_succ]
                with_reducible apply wpV_light
                · simp only [lightOp]
                · intro W hU hF
                  clear hU hF
                  go_simp
                  exact rfl
                simp only [Act.put, List.setIfInBounds_toArray, List.set_cons_zero, List.set_cons_succ]
                with_reducible apply wpV_light
                · simp only [lightOp]
                · intro W hU hF
                  clear hU hF
                  go_simp
                  exact rfl
                simp only [Act.put, List.setIfInBounds_toArray, List.set_cons_zero, List.set_cons_succ]
                with_reducible apply wpV_light
                · simp only [lightOp]
                · intro W hU hF
                  clear hU hF
                  go_simp
                  exact rfl
                simp only [Act.put, List.setIfInBounds_toArray, List.set_cons_zero, List.set_cons_succ]
                with_reducible apply wpV_light
                · simp only [lightOp]
                · intro W hU hF
                  clear hU hF
                  go_simp
                  exact rfl
                simp only [Act.put, List.setIfInBounds_toArray, List.set_cons_zero, List.set_cons_succ]
                with_reducible apply wpV_light
                · simp only [lightOp]
                · intro W hU hF
                  clear hU hF
                  go_simp
                  exact rfl
                simp only [Act.put, List.setIfInBounds_toArray, List.set_cons_zero, List.set_cons_succ]
                with_reducible apply wpV_light
                · simp only [lightOp]
                · intro W hU hF
                  clear hU hF
                  go_simp
                  exact rfl
                simp only [Act.put, List.setIfInBounds_toArray, List.set_cons_zero, List.set_cons_succ]
                with_reducible apply wpV_light
                · simp only [lightOp]
                · intro W hU hF
                  clear hU hF
                  go_simp
                  exact rfl
                simp only [Act.put, List.setIfInBounds_toArray, List.set_cons_zero, List.set_cons_succ]
                with_reducible apply wpV_light
                · simp only [lightOp]
                · intro W hU hF
                  clear hU hF
                  go_simp
                  exact rfl
                simp only [Act.put, List.setIfInBounds_toArray, List.set_cons_zero, List.set_cons_succ]
                with_reducible apply wpV_light
                · simp only [lightOp]
                · intro W hU hF
                  clear hU hF
                  go_simp
                  exact rfl
                simp only [Act.put, List.setIfInBounds_toArray, List.set_cons_zero, List.set_cons_succ]
                refine wpV_skip (by rfl) (by simp only [lightOp]) ?_
                simp only [Act.put, List.setIfInBounds_toArray, List.set_cons_zero, List.set_cons_succ]
                refine wpV_skip (by rfl) (by simp only [lightOp]) ?_
                simp only [Act.put, List.setIfInBounds_toArray, List.set_cons_zero, List.set_cons_succ]
                refine wpV_skip (by rfl) (by simp only [lightOp]) ?_
                simp only [Act.put, List.setIfInBounds_toArray, List.set_cons_zero, List.set_cons_succ]
                with_reducible apply wpV_light
                · simp only [lightOp]
                · intro W hU hF
                  clear hU hF
                  go_simp
                  exact rfl
                simp only [Act.put, List.setIfInBounds_toArray, List.set_cons_zero, List.set_cons_succ]
                with_reducible apply wpV_light
                · simp only [lightOp]
                · intro W hU hF
                  clear hU hF
                  go_simp
                  exact rfl
                simp only [Act.put, List.setIfInBounds_toArray, List.set_cons_zero, List.set_cons_succ]
                refine wpV_skip (by rfl) (by simp only [lightOp]) ?_
                simp only [Act.put, List.setIfInBounds_toArray, List.set_cons_zero, List.set_cons_succ]
                refine wpV_skip (by rfl) (by simp only [lightOp]) ?_
                simp only [Act.put, List.setIfInBounds_toArray, List.set_cons_zero, List.set_cons_succ]
                refine wpV_skip (by rfl) (by simp only [lightOp]) ?_
                simp only [Act.put, List.setIfInBounds_toArray, List.set_cons_zero, List.set_cons_succ]
                refine wpV_skip (by rfl) (by simp only [lightOp]) ?_
                simp only [Act.put, List.setIfInBounds_toArray, List.set_cons_zero, List.set_cons_succ]
                refine wpV_skip (by rfl) (by simp only [lightOp]) ?_
                simp only [Act.put, List.setIfInBounds_toArray, List.set_cons_zero, List.set_cons_succ]
                refine wpV_skip (by rfl) (by simp only [lightOp]) ?_
                simp only [Act.put, List.setIfInBounds_toArray, List.set_cons_zero, List.set_cons_succ]
                refine wpV_skip (by rfl) (by simp only [lightOp]) ?_
                simp only [Act.put, List.setIfInBounds_toArray, List.set_cons_zero, List.set_cons_succ]
                refine wpV_skip (by rfl) (by simp only [lightOp]) ?_
                simp only [Act.put, List.setIfInBounds_toArray, List.set_cons_zero, List.set_cons_succ]
                refine wpV_skip (by rfl) (by simp only [lightOp]) ?_
                simp only [Act.put, List.setIfInBounds_toArray, List.set_cons_zero, List.set_cons_succ]
                refine wpV_heavySkip (by simp only [lightOp]) (by rfl) (fun W hU hk => outV_new rfl trivial (by intro b hb; cases hb) (.refl _ _)) ?_
                rintro _ trivial
                simp only [Act.put, List.setIfInBounds_toArray, List.set_cons_zero, List.set_cons_succ]
                with_reducible apply wpV_light
                · simp only [lightOp]
                · intro W hU hF
                  clear hU hF
                  go_simp
                  exact rfl
                simp only [Act.put, List.setIfInBounds_toArray, List.set_cons_zero, List.set_cons_succ]
                with_reducible apply wpV_light
                · simp only [lightOp]
                · intro W hU hF
                  clear hU hF
                  go_simp
                  exact rfl
                simp only [Act.put, List.setIfInBounds_toArray, List.set_cons_zero, List.set_cons_succ]
                with_reducible apply wpV_light
                · simp only [lightOp]
                · intro W hU hF
                  clear hU hF
                  go_simp
                  exact rfl
                simp only [Act.put, List.setIfInBounds_toArray, List.set_cons_zero, List.set_cons_succ]
                refine wpV_heavy (by simp only [lightOp]) (by rfl) (fun W hU hk hF K hK => ?_) ?_
                · go_wp2_with fail
                  refine (alive_ok _ (HG.out.upd (R3.out.u.trans ((Upd.refl [] _).drew.trans hU)) (by simp))).mono ?_; rintro e w2 ⟨rfl, u2⟩
                  go_wp2_with fail
                  exact hK.out _ _ (outV_new rfl rfl (by intro b hb; cases hb) u2)
                rintro _ rfl
                simp only [Act.put, List.setIfInBounds_toArray, List.set_cons_zero, List.set_cons_succ]
                with_reducible apply wpV_light
                · simp only [lightOp]
                · intro W hU hF
                  clear hU hF
                  go_simp
                  exact rfl
                simp only [Act.put, List.setIfInBounds_toArray, List.set_cons_zero, List.set_cons_succ]
                with_reducible apply wpV_light
                · simp only [lightOp]
                · intro W hU hF
                  clear hU hF
                  go_simp
                  exact rfl
                simp only [Act.put, List.setIfInBounds_toArray, List.set_cons_zero, List.set_cons_succ]
                refine wpV_end (fun W hU _ _ => ?_)
                have UW := Lib.hid (R3.out.u.trans ((Upd.refl [] _).drew.trans hU))
                clear hU
                refine wpT_end ?_
                go_wp2_with fail
                go_ret
                exact ⟨rfl, UW.out⟩
              · have da : ((a : Int) == 0) = false := by simp; omega
                have da1 : decide ((a : Int) = 0) = false := by simp; omega
                by_cases hb0 : b = 0
                · subst hb0
                  have dm : ((a : Int) == (m : Int)) = true := by simp; omega
                  have qw : IntKind.i64.wrap (a : Int) = (m : Int) := by rw [wrapI (by omega) (by omega)]; omega
                  go_wp2_with fail
                  refine wp_invN [(30, .det (.bool true))] [] (by kernel_rfl) (by kernel_rfl) (by kernel_rfl) ⟨lasts_det _, trivial⟩ ?_
                  with_reducible apply wpV_light
                  · simp only [lightOp]
                  · intro W hU hF
                    clear hU hF
                    go_simp
                    exact rfl
                  simp only [Act.put, List.setIfInBounds_toArray, List.set_cons_zero, List.set_cons_succ]
                  with_reducible apply wpV_light
                  · simp only [lightOp]
                  · intro W hU hF
                    clear hU hF
                    go_simp
                    exact rfl
                  simp only [Act.put, List.setIfInBounds_toArray, List.set_cons_zero, List.set_cons_succ]
                  with_reducible apply wpV_light
                  · simp only [lightOp]
                  · intro W hU hF
                    clear hU hF
                    go_simp
                    exact rfl
                  simp only [Act.put, List.setIfInBounds_toArray, List.set_cons_zero, List.set_cons_succ]
                  with_reducible apply wpV_light
                  · simp only [lightOp]
                  · intro W hU hF
                    clear hU hF
                    go_simp
                    exact rfl
                  simp only [Act.put, List.setIfInBounds_toArray, List.set_cons_zero, List.set_cons_succ]
                  with_reducible apply wpV_light
                  · simp only [lightOp]
                  · intro W hU hF
                    clear hU hF
                    go_simp
                    exact rfl
                  simp only [Act.put, List.setIfInBounds_toArray, List.set_cons_zero, List.set_cons_succ]
                  with_reducible apply wpV_light
                  · simp only [lightOp]
                  · intro W hU hF
                    clear hU hF
                    go_simp
                    exact rfl
                  simp only [Act.put, List.setIfInBounds_toArray, List.set_cons_zero, List.set_cons_succ]
                  with_reducible apply wpV_light
                  · simp only [lightOp]
                  · intro W hU hF
                    clear hU hF
                    go_simp
                    exact rfl
                  simp only [Act.put, List.setIfInBounds_toArray, List.set_cons_zero, List.set_cons_succ]
                  with_reducible apply wpV_light
                  · simp only [lightOp]
                  · intro W hU hF
                    clear hU hF
                    go_simp
                    exact rfl
                  simp only [Act.put, List.setIfInBounds_toArray, List.set_cons_zero, List.set_cons_succ]
                  with_reducible apply wpV_light
                  · simp only [lightOp]
                  · intro W hU hF
                    clear hU hF
                    go_simp
                    exact rfl
                  simp only [Act.put, List.setIfInBounds_toArray, List.set_cons_zero, List.set_cons_succ]
                  with_reducible apply wpV_light
                  · simp only [lightOp]
                  · intro W hU hF
                    clear hU hF
                    go_simp
                    exact rfl
                  simp only [Act.put, List.setIfInBounds_toArray, List.set_cons_zero, List.set_cons_succ]
                  with_reducible apply wpV_light
                  · simp only [lightOp]
                  · intro W hU hF
                    clear hU hF
                    go_simp
                    exact rfl
                  simp only [Act.put, List.setIfInBounds_toArray, List.set_cons_zero, List.set_cons_succ]
                  with_reducible apply wpV_light
                  · simp only [lightOp]
                  · intro W hU hF
                    clear hU hF
                    go_simp
                    exact rfl
                  simp only [Act.put, List.setIfInBounds_toArray, List.set_cons_zero, List.set_cons_succ]
                  with_reducible apply wpV_light
                  · simp only [lightOp]
                  · intro W hU hF
                    clear hU hF
                    go_simp
                    exact rfl
                  simp only [Act.put, List.setIfInBounds_toArray, List.set_cons_zero, List.set_cons_succ]
                  with_reducible apply wpV_light
                  · simp only [lightOp]
                  · intro W hU hF
                    clear hU hF
                    go_simp
                    exact rfl
                  simp only [Act.put, List.setIfInBounds_toArray, List.set_cons_zero, List.set_cons_succ]
                  with_reducible apply wpV_light
                  · simp only [lightOp]
                  · intro W hU hF
                    clear hU hF
                    go_simp
                    exact rfl
                  simp only [Act.put, List.setIfInBounds_toArray, List.set_cons_zero, List.set_cons_succ]
                  with_reducible apply wpV_light
                  · simp only [lightOp]
                  · intro W hU hF
                    clear hU hF
                    go_simp
                    exact rfl
                  simp only [Act.put, List.setIfInBounds_toArray, List.set_cons_zero, List.set_cons_succ]
                  with_reducible apply wpV_light
                  · simp only [lightOp]
                  · intro W hU hF
                    clear hU hF
                    go_simp
                    exact rfl
                  simp only [Act.put, List.setIfInBounds_toArray, List.set_cons_zero, List.set_cons_succ]
                  refine wpV_skip (by rfl) (by simp only [lightOp]) ?_
                  simp only [Act.put, List.setIfInBounds_toArray, List.set_cons_zero, List.set_cons_succ]
                  refine wpV_skip (by rfl) (by simp only [lightOp]) ?_
                  simp only [Act.put, List.setIfInBounds_toArray, List.set_cons_zero, List.set_cons_succ]
                  refine wpV_skip (by rfl) (by simp only [lightOp]) ?_
                  simp only [Act.put, List.setIfInBounds_toArray, List.set_cons_zero, List.set_cons_succ]
                  refine wpV_skip (by rfl) (by simp only [lightOp]) ?_
                  simp only [Act.put, List.setIfInBounds_toArray, List.set_cons_zero, List.set_cons_succ]
                  refine wpV_skip (by rfl) (by simp only [lightOp]) ?_
                  simp only [Act.put, List.setIfInBounds_toArray, List.set_cons_zero, List.set_cons_succ]
                  refine wpV_skip (by rfl) (by simp only [lightOp]) ?_
                  simp only [Act.put, List.setIfInBounds_toArray, List.set_cons_zero, List.set_cons_succ]
                  refine wpV_skip (by rfl) (by simp only [lightOp]) ?_
                  simp only [Act.put, List.setIfInBounds_toArray, List.set_cons_zero, List.set_cons_succ]
                  refine wpV_skip (by rfl) (by simp only [lightOp]) ?_
                  simp only [Act.put, List.setIfInBounds_toArray, List.set_cons_zero, List.set_cons_succ]
                  refine wpV_skip (by rfl) (by simp only [lightOp]) ?_
                  simp only [Act.put, List.setIfInBounds_toArray, List.set_cons_zero, List.set_cons_succ]
                  refine wpV_heavySkip (by simp only [lightOp]) (by rfl) (fun W hU hk => outV_new rfl trivial (by intro b hb; cases hb) (.refl _ _)) ?_
                  rintro _ trivial
                  simp only [Act.put, List.setIfInBounds_toArray, List.set_cons_zero, List.set_cons_succ]
                  with_reducible apply wpV_light
                  · simp only [lightOp]
                  · intro W hU hF
                    clear hU hF
                    go_simp
                    exact rfl
                  simp only [Act.put, List.setIfInBounds_toArray, List.set_cons_zero, List.set_cons_succ]
                  with_reducible apply wpV_light
                  · simp only [lightOp]
                  · intro W hU hF
                    clear hU hF
                    go_simp
                    exact rfl
                  simp only [Act.put, List.setIfInBounds_toArray, List.set_cons_zero, List.set_cons_succ]
                  with_reducible apply wpV_light
                  · simp only [lightOp]
                  · intro W hU hF
                    clear hU hF
                    go_simp
                    exact rfl
                  simp only [Act.put, List.setIfInBounds_toArray, List.set_cons_zero, List.set_cons_succ]
                  refine wpV_heavy (by simp only [lightOp]) (by rfl) (fun W hU hk hF K hK => ?_) ?_
                  · go_wp2_with fail
                    refine (alive_ok _ (HG.out.upd (R3.out.u.trans ((Upd.refl [] _).drew.trans hU)) (by simp))).mono ?_; rintro e w2 ⟨rfl, u2⟩
                    go_wp2_with fail
                    exact hK.out _ _ (outV_new rfl rfl (by intro b hb; cases hb) u2)
                  rintro _ rfl
                  simp only [Act.put, List.setIfInBounds_toArray, List.set_cons_zero, List.set_cons_succ]
                  with_reducible apply wpV_light
                  · simp only [lightOp]
                  · intro W hU hF
                    clear hU hF
                    go_simp
                    exact rfl
                  simp only [Act.put, List.setIfInBounds_toArray, List.set_cons_zero, List.set_cons_succ]
                  with_reducible apply wpV_light
                  · simp only [lightOp]
                  · intro W hU hF
                    clear hU hF
                    go_simp
                    exact rfl
                  simp only [Act.put, List.setIfInBounds_toArray, List.set_cons_zero, List.set_cons_succ]
                  refine wpV_end (fun W hU _ _ => ?_)
                  have UW := Lib.hid (R3.out.u.trans ((Upd.refl [] _).drew.trans hU))
                  clear hU
                  refine wpT_end ?_
                  go_wp2_with fail
                  go_ret
                  exact ⟨rfl, UW.out⟩
                · have db : ((b : Int) == 0) = false := by simp; omega
                  obtain ⟨i, hi⟩ : ∃ i, a = i + 1 := ⟨a - 1, by omega⟩
                  obtain ⟨⟨xw, xi⟩, hx⟩ : ∃ x, al[i]? = some x := ⟨_, List.getElem?_eq_getElem (by rw [HAL.out]; omega)⟩
                  obtain ⟨⟨yw, yi⟩, hy⟩ : ∃ x, (sortL us)[0]? = some x := ⟨_, List.getElem?_eq_getElem (by rw [(sortL_perm us).length_eq, HBL.out]; omega)⟩
                  obtain ⟨ga, cg, cur, e1, _⟩ := own_form R3.out.own (by rw [HAL.out]; omega)
                  injection e1 with e1 _ e1'
                  subst e1 e1'
                  obtain ⟨gb, cgb, curb, e2, _⟩ := own_form OR.out (by omega)
                  injection e2 with e2 _ e2'
                  subst e2 e2'
                  have HLT : Hid (ltT ⟨xw, xi⟩ ⟨yw, yi⟩ = true) := Lib.hid (R3.out.r.x _ (List.mem_of_getElem? hx) _ ((sortL_perm us).mem_iff.1 (List.mem_of_getElem? hy)))
                  have CS : Hid (∀ W, Upd [] w3.drew W → W.cell? ⟨ga, i * 2, none⟩ = some (.int .i64 xw) ∧ W.cell? ⟨ga, i * 2 + 1, none⟩ = some (.int .i64 xi) ∧ W.cell? ⟨gb, 0, none⟩ = some (.int .i64 yw) ∧ W.cell? ⟨gb, 1, none⟩ = some (.int .i64 yi)) := Lib.hid (fun W hW => by
                    have hu := (Upd.refl [] w3).drew.trans hW
                    have ho := own_upd0 R3.out.own hu
                    have ho2 := own_upd0 OR.out hu
                    exact ⟨own_cell ho _ _ (flatT_get al i _ hx).1, own_cell ho _ _ (flatT_get al i _ hx).2, own_cell ho2 _ _ (flatT_get _ 0 _ hy).1, own_cell ho2 _ _ (flatT_get _ 0 _ hy).2⟩)
                  have q7 : (a : Int) - 1 = (i : Int) := by omega
                  have q8 : (0 : Int) ≤ (i : Int) := by omega
                  have q9 : (i : Int) < (a : Int) := by omega
                  have g0 : (0 : Int) < (b : Int) := by omega
                  have g0n : 0 < b := by omega
                  have qw : IntKind.i64.wrap (i : Int) = (i : Int) := wrapI (by omega) (by omega)
                  have qs : IntKind.i64.wrap ((a : Int) + (b : Int)) = (m : Int) := by rw [wrapI (by omega) (by omega)]; omega
                  clear hx hy hi
                  go_wp2_with fail
                  refine wp_invN [(26, .det (.bool true)), (30, .det (.bool true))] [] (by kernel_rfl) (by kernel_rfl) (by kernel_rfl) ⟨lasts_det _, lasts_det _, trivial⟩ ?_
                  with_reducible apply wpV_light
                  · simp only [lightOp]
                  · intro W hU hF
                    have f0 := CS.out W hU
                    clear hU hF
                    go_simp
                    exact rfl
                  simp only [Act.put, List.setIfInBounds_toArray, List.set_cons_zero, List.set_cons_succ]
                  with_reducible apply wpV_light
                  · simp only [lightOp]
                  · intro W hU hF
                    have f0 := CS.out W hU
                    clear hU hF
                    go_simp
                    exact rfl
                  simp only [Act.put, List.setIfInBounds_toArray, List.set_cons_zero, List.set_cons_succ]
                  with_reducible apply wpV_light
                  · simp only [lightOp]
                  · intro W hU hF
                    have f0 := CS.out W hU
                    clear hU hF
                    go_simp
                    exact rfl
                  simp only [Act.put, List.setIfInBounds_toArray, List.set_cons_zero, List.set_cons_succ]
                  with_reducible apply wpV_light
                  · simp only [lightOp]
                  · intro W hU hF
                    have f0 := CS.out W hU
                    clear hU hF
                    go_simp
                    exact rfl
                  simp only [Act.put, List.setIfInBounds_toArray, List.set_cons_zero, List.set_cons_succ]
                  with_reducible apply wpV_light
                  · simp only [lightOp]
                  · intro W hU hF
                    have f0 := CS.out W hU
                    clear hU hF
                    go_simp
                    exact rfl
                  simp only [Act.put, List.setIfInBounds_toArray, List.set_cons_zero, List.set_cons_succ]
                  with_reducible apply wpV_light
                  · simp only [lightOp]
                  · intro W hU hF
                    have f0 := CS.out W hU
                    clear hU hF
                    go_simp
                    exact rfl
                  simp only [Act.put, List.setIfInBounds_toArray, List.set_cons_zero, List.set_cons_succ]
                  with_reducible apply wpV_light
                  · simp only [lightOp]
                  · intro W hU hF
                    have f0 := CS.out W hU
                    clear hU hF
                    go_simp
                    exact rfl
                  simp only [Act.put, List.setIfInBounds_toArray, List.set_cons_zero, List.set_cons_succ]
                  with_reducible apply wpV_light
                  · simp only [lightOp]
                  · intro W hU hF
                    have f0 := CS.out W hU
                    clear hU hF
                    go_simp
                    exact rfl
                  simp only [Act.put, List.setIfInBounds_toArray, List.set_cons_zero, List.set_cons_succ]
                  with_reducible apply wpV_light
                  · simp only [lightOp]
                  · intro W hU hF
                    have f0 := CS.out W hU
                    clear hU hF
                    go_simp
                    exact rfl
                  simp only [Act.put, List.setIfInBounds_toArray, List.set_cons_zero, List.set_cons_succ]
                  with_reducible apply wpV_light
                  · simp only [lightOp]
                  · intro W hU hF
                    have f0 := CS.out W hU
                    clear hU hF
                    go_simp
                    exact rfl
                  simp only [Act.put, List.setIfInBounds_toArray, List.set_cons_zero, List.set_cons_succ]
                  with_reducible apply wpV_light
                  · simp only [lightOp]
                  · intro W hU hF
                    have f0 := CS.out W hU
                    clear hU hF
                    go_simp
                    exact rfl
                  simp only [Act.put, List.setIfInBounds_toArray, List.set_cons_zero, List.set_cons_succ]
                  with_reducible apply wpV_light
                  · simp only [lightOp]
                  · intro W hU hF
                    have f0 := CS.out W hU
                    clear hU hF
                    go_simp
                    exact rfl
                  simp only [Act.put, List.setIfInBounds_toArray, List.set_cons_zero, List.set_cons_succ]
                  with_reducible apply wpV_light
                  · simp only [lightOp]
                  · intro W hU hF
                    have f0 := CS.out W hU
                    clear hU hF
                    go_simp
                    exact rfl
                  simp only [Act.put, List.setIfInBounds_toArray, List.set_cons_zero, List.set_cons_succ]
                  with_reducible apply wpV_light
                  · simp only [lightOp]
                  · intro W hU hF
                    have f0 := CS.out W hU
                    clear hU hF
                    go_simp
                    exact rfl
                  simp only [Act.put, List.setIfInBounds_toArray, List.set_cons_zero, List.set_cons_succ]
                  with_reducible apply wpV_light
                  · simp only [lightOp]
                  · intro W hU hF
                    have f0 := CS.out W hU
                    clear hU hF
                    go_simp
                    exact rfl
                  simp only [Act.put, List.setIfInBounds_toArray, List.set_cons_zero, List.set_cons_succ]
                  with_reducible apply wpV_light
                  · simp only [lightOp]
                  · intro W hU hF
                    have f0 := CS.out W hU
                    clear hU hF
                    go_simp
                    exact rfl
                  simp only [Act.put, List.setIfInBounds_toArray, List.set_cons_zero, List.set_cons_succ]
                  with_reducible apply wpV_light
                  · simp only [lightOp]
                  · intro W hU hF
                    have f0 := CS.out W hU
                    clear hU hF
                    go_simp
                    exact rfl
                  simp only [Act.put, List.setIfInBounds_toArray, List.set_cons_zero, List.set_cons_succ]
                  with_reducible apply wpV_light
                  · simp only [lightOp]
                  · intro W hU hF
                    have f0 := CS.out W hU
                    clear hU hF
                    go_simp
                    exact rfl
                  simp only [Act.put, List.setIfInBounds_toArray, List.set_cons_zero, List.set_cons_succ]
                  with_reducible apply wpV_light
                  · simp only [lightOp]
                  · intro W hU hF
                    have f0 := CS.out W hU
                    clear hU hF
                    go_simp
                    exact rfl
                  simp only [Act.put, List.setIfInBounds_toArray, List.set_cons_zero, List.set_cons_succ]
                  with_reducible apply wpV_light
                  · simp only [lightOp]
                  · intro W hU hF
                    have f0 := CS.out W hU
                    clear hU hF
                    go_simp
                    exact rfl
                  simp only [Act.put, List.setIfInBounds_toArray, List.set_cons_zero, List.set_cons_succ]
                  with_reducible apply wpV_light
                  · simp only [lightOp]
                  · intro W hU hF
                    have f0 := CS.out W hU
                    clear hU hF
                    go_simp
                    exact rfl
                  simp only [Act.put, List.setIfInBounds_toArray, List.set_cons_zero, List.set_cons_succ]
                  with_reducible apply wpV_light
                  · simp only [lightOp]
                  · intro W hU hF
                    have f0 := CS.out W hU
                    clear hU hF
                    go_simp
                    exact rfl
                  simp only [Act.put, List.setIfInBounds_toArray, List.set_cons_zero, List.set_cons_succ]
                  with_reducible apply wpV_light
                  · simp only [lightOp]
                  · intro W hU hF
                    have f0 := CS.out W hU
                    clear hU hF
                    go_simp
                    exact rfl
                  simp only [Act.put, List.setIfInBounds_toArray, List.set_cons_zero, List.set_cons_succ]
                  with_reducible apply wpV_light
                  · simp only [lightOp]
                  · intro W hU hF
                    have f0 := CS.out W hU
                    clear hU hF
                    go_simp
                    exact rfl
                  simp only [Act.put, List.setIfInBounds_toArray, List.set_cons_zero, List.set_cons_succ]
                  with_reducible apply wpV_light
                  · simp only [lightOp]
                  · intro W hU hF
                    have f0 := CS.out W hU
                    clear hU hF
                    go_simp
                    exact rfl
                  simp only [Act.put, List.setIfInBounds_toArray, List.set_cons_zero, List.set_cons_succ]
                  with_reducible apply wpV_light
                  · simp only [lightOp]
                  · intro W hU hF
                    have f0 := CS.out W hU
                    clear hU hF
                    go_simp
                    exact rfl
                  simp only [Act.put, List.setIfInBounds_toArray, List.set_cons_zero, List.set_cons_succ]
                  refine wpV_heavy (by simp only [lightOp]) (by rfl) (fun W hU hk hF K hK => ?_) ?_
                  · go_wp2_with fail
                    refine (rahead_ok ⟨xw, xi⟩ ⟨yw, yi⟩ _).mono ?_; rintro e w2 ⟨rfl, u2⟩
                    rw [HLT.out]
                    go_wp2_with fail
                    exact hK.out _ _ (outV_new rfl rfl (by intro b hb; cases hb) u2)
                  rintro _ rfl
                  simp only [Act.put, List.setIfInBounds_toArray, List.set_cons_zero, List.set_cons_succ]
                  with_reducible apply wpV_light
                  · simp only [lightOp]
                  · intro W hU hF
                    have f0 := CS.out W hU
                    clear hU hF
                    go_simp
                    exact rfl
                  simp only [Act.put, List.setIfInBounds_toArray, List.set_cons_zero, List.set_cons_succ]
                  with_reducible apply wpV_light
                  · simp only [lightOp]
                  · intro W hU hF
                    have f0 := CS.out W hU
                    clear hU hF
                    go_simp
                    exact rfl
                  simp only [Act.put, List.setIfInBounds_toArray, List.set_cons_zero, List.set_cons_succ]
                  with_reducible apply wpV_light
                  · simp only [lightOp]
                  · intro W hU hF
                    have f0 := CS.out W hU
                    clear hU hF
                    go_simp
                    exact rfl
                  simp only [Act.put, List.setIfInBounds_toArray, List.set_cons_zero, List.set_cons_succ]
                  refine wpV_heavy (by simp only [lightOp]) (by rfl) (fun W hU hk hF K hK => ?_) ?_
                  · go_wp2_with fail
                    refine (alive_ok _ (HG.out.upd (R3.out.u.trans ((Upd.refl [] _).drew.trans hU)) (by simp))).mono ?_; rintro e w2 ⟨rfl, u2⟩
                    go_wp2_with fail
                    exact hK.out _ _ (outV_new rfl rfl (by intro b hb; cases hb) u2)
                  rintro _ rfl
                  simp only [Act.put, List.setIfInBounds_toArray, List.set_cons_zero, List.set_cons_succ]
                  with_reducible apply wpV_light
                  · simp only [lightOp]
                  · intro W hU hF
                    have f0 := CS.out W hU
                    clear hU hF
                    go_simp
                    exact rfl
                  simp only [Act.put, List.setIfInBounds_toArray, List.set_cons_zero, List.set_cons_succ]
                  with_reducible apply wpV_light
                  · simp only [lightOp]
                  · intro W hU hF
                    have f0 := CS.out W hU
                    clear hU hF
                    go_simp
                    exact rfl
                  simp only [Act.put, List.setIfInBounds_toArray, List.set_cons_zero, List.set_cons_succ]
                  refine wpV_end (fun W hU _ _ => ?_)
                  have UW := Lib.hid (R3.out.u.trans ((Upd.refl [] _).drew.trans hU))
                  clear hU
                  refine wpT_end ?_
                  go_wp2_with fail
                  go_ret
                  exact ⟨rfl, UW.out⟩
end Go.Proofs.YtainiojlhdbhgaaDoor

/-
  A region that draws its order, each of whose operations does what it does in whatever order: the induction over the orders. No program in sight.
  The rule for drawn regions, as walks use it. No program in sight.
  append onto a slice that was there ahead of a drawn region, amid its other operations. No program in sight.
  slices.Contains of ints.
-/
import Derived.Test.YteddiknlcdbhjaaGreatTsB7
import Derived.Test.YteddiknlcdbhjaaGreatTsB0
import Derived.Test.YteddiknlcdbhjaaGreatTsB4
set_option linter.unusedVariables false
namespace Go.Proofs.YteddiknlcdbhjaaGreat.Vk
open Go Go.RowKit

section
variable {P : Program} {ops : Array Oper} {I : Inv} {Q : Exit → Act → World → Prop} {a : Act}

theorem getD_set {L : Array Bool} {j : Nat} (hj : j < L.size) (i : Nat) (b : Bool) : (L.setIfInBounds j true).getD i b = if i = j then true else L.getD i b := by
  simp only [Array.getD_eq_getD_getElem?, Array.getElem?_setIfInBounds]
  by_cases h : j = i
  · subst h; simp [hj]
  · rw [if_neg h, if_neg (fun e => h e.symm)]
theorem anc_listed (ok : InvOk ops I) {L : Array Bool} (cl : ∀ y x, y < ops.size → L.getD y false = true → depB ops y x = true → L.getD x false = true) : ∀ (m j : Nat), j < m → j < ops.size → (∀ x, depB ops j x = true → L.getD x false = true) → ∀ h, ancB ops j h = true → L.getD h false = true
  | 0, j, hm, _, _, h, _ => by omega
  | m + 1, j, hm, hj, hd, h, ha => by
    obtain ⟨x, hx, hh⟩ := (anc_iff hj (ok.back j hj)).1 ha
    have hxl := hd x hx
    rcases hh with rfl | hh
    · exact hxl
    · have hxj : x < j := by
        have := ok.back j hj
        unfold depsBack at this
        unfold depB at hx
        rw [Array.getElem?_eq_getElem hj] at this hx
        simp only [Array.all_eq_true, Array.any_eq_true, Bool.or_eq_true, Bool.and_eq_true, decide_eq_true_eq, Bool.not_eq_true', beq_iff_eq] at this hx
        obtain ⟨i, hi, he, rfl⟩ := hx
        exact (this i hi).resolve_left (by rw [he]; simp)
      exact anc_listed ok cl m x (by omega) (by omega) (fun y hy => cl x y (by omega) hxl hy) h hh
theorem anc_trans (ok : InvOk ops I) {j x h : Nat} (hj : j < ops.size) (hx : depB ops j x = true) (hh : ancB ops x h = true) : ancB ops j h = true := (anc_iff hj (ok.back j hj)).2 ⟨x, hx, .inr hh⟩
theorem anc_dep (ok : InvOk ops I) {j x : Nat} (hj : j < ops.size) (hx : depB ops j x = true) : ancB ops j x = true := (anc_iff hj (ok.back j hj)).2 ⟨x, hx, .inl rfl⟩
theorem dep_lt (ok : InvOk ops I) {j x : Nat} (hj : j < ops.size) (hx : depB ops j x = true) : x < j := by
  have := ok.back j hj
  unfold depsBack at this
  unfold depB at hx
  rw [Array.getElem?_eq_getElem hj] at this hx
  simp only [Array.all_eq_true, Array.any_eq_true, Bool.or_eq_true, Bool.and_eq_true, decide_eq_true_eq, Bool.not_eq_true', beq_iff_eq] at this hx
  obtain ⟨i, hi, he, rfl⟩ := hx
  exact (this i hi).resolve_left (by rw [he]; simp)

/-- What an operation looks at reads the same in any two frames that agree on what it waits for. -/
theorem look_same (ok : InvOk ops I) {j : Nat} {o : Oper} (ho : ops[j]? = some o) {V V' : Nat → Value} {X Y : Nat → Bool}
    (hX : ∀ x, x < ops.size → depB ops j x = true → X x = true ∧ Y x = true ∧ V x = V' x) (hno : ∀ x, x < ops.size → (x = j ∨ depB ops x j = true) → X x = false ∧ Y x = false) :
    ∀ t ∈ o.looksAt ops, (putX ops V X (List.range ops.size) a).tmps[t]? = (putX ops V' Y (List.range ops.size) a).tmps[t]? := by
  intro t ht
  have hj : j < ops.size := (Array.getElem?_eq_some_iff.1 ho).1
  have htj : (lookOf ops j).contains t = true := by unfold lookOf; rw [ho]; simpa using ht
  have cls : ∀ x, x < ops.size → dstOf ops x = some t → depB ops j x = true ∨ x = j ∨ depB ops x j = true := by
    intro x hx hd
    rcases Nat.lt_trichotomy x j with h | h | h
    · have hp := ok.pair j hj x h
      unfold pairOk at hp
      rw [hd] at hp
      simp only [Bool.and_eq_true, Bool.or_eq_true, htj, Bool.not_true, Bool.false_eq_true, false_or] at hp
      exact .inl hp.1.2
    · exact .inr (.inl h)
    · have hp := ok.pair x hx j h
      unfold pairOk at hp
      rw [hd] at hp
      simp only [Bool.and_eq_true, Bool.or_eq_true, htj, Bool.not_true, Bool.false_eq_true, false_or] at hp
      exact .inr (.inr hp.2)
  -- through one frame that has only what it waits for
  have e1 : (putX ops V X (List.range ops.size) a).tmps[t]? = (putX ops V (fun x => depB ops j x) (List.range ops.size) a).tmps[t]? :=
    putX_get _ a a (fun x hx hd => by
      have hxn := List.mem_range.1 hx
      rcases cls x hxn hd with h | h
      · rw [(hX x hxn h).1, h]
      · rw [(hno x hxn h).1]
        cases hc : depB ops j x with
        | false => rfl
        | true => have := (hno x hxn h).1; rw [(hX x hxn hc).1] at this; cases this) rfl rfl
  have e2 : (putX ops V' Y (List.range ops.size) a).tmps[t]? = (putX ops V' (fun x => depB ops j x) (List.range ops.size) a).tmps[t]? :=
    putX_get _ a a (fun x hx hd => by
      have hxn := List.mem_range.1 hx
      rcases cls x hxn hd with h | h
      · rw [(hX x hxn h).2.1, h]
      · rw [(hno x hxn h).2]
        cases hc : depB ops j x with
        | false => rfl
        | true => have := (hno x hxn h).2; rw [(hX x hxn hc).2.1] at this; cases this) rfl rfl
  rw [e1, e2, putX_congr' (V' := V') _ _ (fun _ _ => rfl) (fun x hx hd => (hX x (List.mem_range.1 hx) hd).2.2)]

/-- The frame as it is has what is listed. -/
def Bat (ops : Array Oper) (a : Act) (u : Nat → Value) (L : Array Bool) : Act := putX ops u (fun x => L.getD x false) (List.range ops.size) a
theorem Bat_set (ok : InvOk ops I) {L : Array Bool} {j : Nat} {o : Oper} (ho : ops[j]? = some o) (hsz : L.size = ops.size) (hun : L.getD j false = false) (u : Nat → Value) (v : Value) :
    (Bat ops a u L).put o.dst v = Bat ops a (fun x => if x = j then v else u x) (L.setIfInBounds j true) := by
  have hj : j < ops.size := (Array.getElem?_eq_some_iff.1 ho).1
  have hd : dstOf ops j = o.dst := by simp [dstOf, ho]
  unfold Bat
  rw [putX_congr' (V' := fun x => if x = j then v else u x) (Y := fun x => L.getD x false) (List.range ops.size) a (fun _ _ => rfl) (fun x _ hx => by
    have : x ≠ j := fun e => by subst e; rw [hun] at hx; cases hx
    simp [this])]
  have := putX_add (ops := ops) (V := fun x => if x = j then v else u x) (X := fun x => L.getD x false) (j := j) hun (List.range ops.size) a (List.mem_range.2 hj) List.nodup_range (fun x hx hne t ht => ok.distinct hj (List.mem_range.1 hx) hne t ht)
  simp only [if_true, hd] at this
  rw [← this]
  refine putX_congr _ _ (fun x _ => ?_) (fun _ _ => rfl)
  rw [getD_set (by omega)]
  by_cases h : x = j
  · subst h; simp
  · simp [h]

/-- What stands behind all others, in whatever order: one behind the other. -/
theorem tail_main (ok : InvOk ops I) {nb : Nat} (tb : ∀ j, j < ops.size → nb ≤ j → floatAt ops j = false ∧ ∀ x, x < j → floatAt ops x = false → ancB ops j x = true) : ∀ (k j fuel : Nat) (L : Array Bool) (b : Act) (w : World), j + k = ops.size → nb ≤ j → L.size = ops.size → (∀ x, x < ops.size → L.getD x false = decide (x < j)) → k ≤ fuel →
    wpT P ops (NoPanic Q) (ops.toList.drop j) b w → wpAny P .any ops (NoPanic Q) fuel L b w
  | 0, j, fuel, L, b, w, hk, hj, hsz, hL, hf, h => by
    have hr : Region.ready .any ops L = [] := by
      rw [List.eq_nil_iff_forall_not_mem]
      intro i hi
      obtain ⟨hin, hun, _⟩ := mem_ready.1 hi
      rw [getD_size (by rw [hsz]; exact hin) true false, hL i hin] at hun
      simp at hun
      omega
    rw [List.drop_eq_nil_of_le (by simp; omega)] at h
    exact wpAny_done hr h fuel
  | k + 1, j, 0, L, b, w, hk, hj, hsz, hL, hf, h => by omega
  | k + 1, j, fuel + 1, L, b, w, hk, hj, hsz, hL, hf, h => by
    have hjn : j < ops.size := by omega
    have cl : ∀ y x, y < ops.size → L.getD y false = true → depB ops y x = true → L.getD x false = true := by
      intro y x hy h1 h2
      rw [hL y hy] at h1
      have := dep_lt ok hy h2
      rw [hL x (by omega)]
      simp at h1 ⊢
      omega
    have hr : ∀ i ∈ Region.ready .any ops L, i = j := by
      intro i hi
      obtain ⟨hin, hun, hdep⟩ := mem_ready.1 hi
      rw [getD_size (by rw [hsz]; exact hin) true false, hL i hin] at hun
      simp at hun
      rcases Nat.lt_or_eq_of_le hun with h1 | h1
      · have h2 := anc_listed ok cl (i + 1) i (by omega) hin hdep j ((tb i hin (by omega)).2 j h1 (tb j hjn hj).1)
        rw [hL j hjn] at h2
        simp at h2
      · exact h1.symm
    have hjr : j ∈ Region.ready .any ops L := mem_ready.2 ⟨hjn, by rw [getD_size (by rw [hsz]; exact hjn) true false, hL j hjn]; simp, fun x hx => by
      have := dep_lt ok hjn hx
      rw [hL x (by omega)]
      simpa using this⟩
    refine ⟨fun h0 => by rw [h0] at hjr; simp at hjr, fun i hi => ?_⟩
    obtain rfl := hr i hi
    obtain ⟨o, ho⟩ : ∃ o, ops[i]? = some o := ⟨_, Array.getElem?_eq_getElem hjn⟩
    have hd : ops.toList.drop i = o :: ops.toList.drop (i + 1) := by
      rw [List.drop_eq_getElem_cons (by simpa using hjn)]
      congr 1
      have := (Array.getElem?_eq_some_iff.1 ho).2
      simpa using this
    rw [hd] at h
    unfold wpT at h
    have next : ∀ b' w', wpT P ops (NoPanic Q) (ops.toList.drop (i + 1)) b' w' → wpAny P .any ops (NoPanic Q) fuel (L.setIfInBounds i true) b' w' := fun b' w' h' =>
      tail_main ok tb k (i + 1) fuel _ b' w' (by omega) (by omega) (by simpa using hsz) (fun x hx => by
        rw [getD_set (by omega), hL x hx]
        by_cases hxi : x = i
        · subst hxi; simp
        · rw [if_neg hxi]
          by_cases h2 : x < i
          · simp [h2]; omega
          · simp [h2]; omega) (by omega) h'
    unfold wpOp
    rw [ho]
    simp only
    split
    · rename_i hw
      rw [if_pos hw] at h
      exact .inl (Oper.wp_mono next h)
    · rename_i hw
      rw [if_neg hw] at h
      exact next _ _ h

theorem inv_main (ok : InvOk ops I) (hnb : I.nb ≤ ops.size) (htl : I.tl = ops.toList.drop I.nb) (htb : tailB ops I.nb = true) (hS : ∀ b ∈ I.S, b < I.w0.heap.size)
    (hR : ∀ j v (w w' : World) T, Upd I.S I.w0 w → I.R j v w → Upd T w w' → (∀ b ∈ T, b ∉ I.fp j v) → (∀ b ∈ T, b ∈ I.S ∨ I.w0.heap.size ≤ b) → ((∀ j, I.con j = [] ∧ I.ch j = false) → T = []) → I.R j v w')
    (hkd : KdOk ops I) (hKu : ∀ s (u u' : Nat → Value) w, (∀ j, j < I.nb → I.ch j = true → sat I j < s → ∀ h ∈ I.kd j, u h = u' h) → I.K u s w → I.K u' s w) (hK : ∀ u s (w w' : World) T, I.K u s w → Upd T w w' → (∀ b ∈ T, I.w0.heap.size ≤ b) → I.K u s w')
    (hadm : ∀ j v w, I.R j v w → I.adm j v) (hflat : ∀ e : Nat → Value, (∀ h, lightAt ops h = false → I.adm h (e h)) → ∃ V, (∀ h, h < I.nb → lightAt ops h = false → V h = e h) ∧ Flat P ops I (NoPanic Q) a V) :
    ∀ (fuel : Nat) (L : Array Bool) (u : Nat → Value) (w : World), StI P ops I (NoPanic Q) a L u w → ((List.range ops.size).filter (fun x => !L.getD x false)).length ≤ fuel → wpAny P .any ops (NoPanic Q) fuel L (Bat ops a u L) w := by
  intro fuel
  have tb : ∀ j, j < ops.size → I.nb ≤ j → floatAt ops j = false ∧ ∀ x, x < j → floatAt ops x = false → ancB ops j x = true := by
    intro j hj hjn
    unfold tailB at htb
    rw [Bool.and_eq_true] at htb
    have := List.all_eq_true.1 htb.2 j (List.mem_range.2 hj)
    simp only [Bool.or_eq_true, Bool.and_eq_true, decide_eq_true_eq, List.all_eq_true, List.mem_range, Bool.not_eq_true'] at this
    rcases this with h | h
    · omega
    · exact ⟨h.1, fun x hx hf => (h.2 x hx).resolve_left (by rw [hf]; simp)⟩
  have last : ∀ (fuel : Nat) (L : Array Bool) (u : Nat → Value) (w : World), StI P ops I (NoPanic Q) a L u w → (∀ m, m < I.nb → L.getD m false = true) → ops.size - I.nb ≤ fuel → wpAny P .any ops (NoPanic Q) fuel L (Bat ops a u L) w := by
    intro fuel L u w st hall hfu
    obtain ⟨V, hV, hf, he⟩ := hflat u st.i7
    have hVu : ∀ x, x < I.nb → V x = u x := fun x hx => by
      cases hl : lightAt ops x with
      | false => exact hV x hx hl
      | true => exact st.i6 x hx hl (hall x hx) V ⟨hf, he⟩ fun h hh hhl _ => hV h hh hhl
    have hL : ∀ x, x < ops.size → L.getD x false = decide (x < I.nb) := fun x hx => by
      by_cases h : x < I.nb
      · rw [hall x h]; simp [h]
      · rw [st.tl x (by omega)]; simp [h]
    have hb : Bat ops a u L = Aat ops a V I.nb := by
      unfold Bat Aat
      exact putX_congr' _ _ (fun x hx => hL x (List.mem_range.1 hx)) (fun x hx hx2 => (hVu x (by rw [hL x (List.mem_range.1 hx)] at hx2; simpa using hx2)).symm)
    rw [hb]
    refine tail_main ok tb (ops.size - I.nb) I.nb fuel L _ w (by omega) (Nat.le_refl _) st.sz hL hfu ?_
    rw [← htl]
    refine he w st.i1 ?_ (facts_of _ fun p hp hok => ?_) (fun p hp q hq hne hp1 hq1 b hb hb2 => ?_)
    · have : (List.range I.nb).filter (fun x => I.ch x && L.getD x false) = (List.range I.nb).filter I.ch := List.filter_congr fun x hx => by rw [hall x (List.mem_range.1 hx), Bool.and_true]
      have h2 := st.i2
      rw [this] at h2
      exact hKu _ u _ w (fun j hj hc _ h hh => by rw [look_Gat (Nat.lt_of_le_of_lt (hkd.le j hj hc h hh) hj) (hkd.heavy j hj hc h hh), hVu _ (Nat.lt_of_le_of_lt (hkd.le j hj hc h hh) hj)]) h2
    · obtain ⟨h1, h2, h3⟩ := mem_Gat hp
      rw [h3, hVu _ h1]
      refine st.i3 _ ⟨h1, h2, hall _ h1, fun y hy _ => ?_⟩
      unfold endB at hok
      have := List.all_eq_true.1 hok y (List.mem_range.2 (by omega))
      simpa using this
    · obtain ⟨h1, h2, h3⟩ := mem_Gat hp
      obtain ⟨g1, g2, g3⟩ := mem_Gat hq
      rw [h3, hVu _ h1] at hb
      rw [g3, hVu _ g1] at hb2
      have lv : ∀ x, x < I.nb → lightAt ops x = false → endB ops I.con x = true → Live ops I L x := fun x a b c => ⟨a, b, hall _ a, fun y hy _ => by
        unfold endB at c
        have := List.all_eq_true.1 c y (List.mem_range.2 (by omega))
        simpa using this⟩
      exact st.i5 _ _ (lv _ h1 h2 hp1) (lv _ g1 g2 hq1) hne b hb hb2
  induction fuel with
  | zero =>
    intro L u w st hf
    have hno : ∀ x, x < ops.size → L.getD x false = true := by
      intro x hx
      have h0 : (List.range ops.size).filter (fun x => !L.getD x false) = [] := List.length_eq_zero_iff.1 (by omega)
      rw [List.filter_eq_nil_iff] at h0
      have := h0 x (List.mem_range.2 hx)
      simpa using this
    refine last 0 L u w st (fun m hm => hno m (by omega)) ?_
    rcases Nat.lt_or_ge I.nb ops.size with h | h
    · have h1 := hno I.nb h
      rw [st.tl I.nb (Nat.le_refl _)] at h1
      cases h1
    · omega
  | succ fuel ih =>
    intro L u w st hf
    by_cases hbody : ∀ m, m < I.nb → L.getD m false = true
    · refine last (fuel + 1) L u w st hbody (Nat.le_trans ?_ hf)
      have h1 : List.range ops.size = List.range I.nb ++ (List.range (ops.size - I.nb)).map (I.nb + ·) := by
        rw [← List.range_add]; congr 1; omega
      have h2 : ((List.range (ops.size - I.nb)).map (I.nb + ·)).filter (fun x => !L.getD x false) = (List.range (ops.size - I.nb)).map (I.nb + ·) := List.filter_eq_self.2 (fun x hx => by
        obtain ⟨y, _, rfl⟩ := List.mem_map.1 hx
        show (!L.getD (I.nb + y) false) = true
        rw [st.tl _ (by omega)]; rfl)
      rw [h1, List.filter_append, List.length_append, h2]
      simp
    refine ⟨fun hr => ?_, fun j hj => ?_⟩
    · exfalso
      apply hbody
      intro m
      induction m using Nat.strongRecOn with
      | _ m ihm =>
        intro hm
        cases hc : L.getD m false with
        | true => rfl
        | false =>
          exfalso
          have : m ∈ Region.ready .any ops L := mem_ready.2 ⟨by omega, by rw [getD_size (by rw [st.sz]; omega) true false]; exact hc, fun x hx => ihm x (dep_lt ok (by omega) hx) (by have := dep_lt ok (j := m) (by omega) hx; omega)⟩
          rw [hr] at this
          simp at this
    obtain ⟨hjn, hun0, hdep⟩ := mem_ready.1 hj
    have hun : L.getD j false = false := by rw [getD_size (by rw [st.sz]; exact hjn) false true]; exact hun0
    obtain ⟨o, ho⟩ : ∃ o, ops[j]? = some o := ⟨_, Array.getElem?_eq_getElem hjn⟩
    have hla := lightAt_some ho
    obtain ⟨V, hV, hF⟩ := hflat u st.i7
    have ancl := anc_listed ok st.cl (j + 1) j (by omega) hjn hdep
    have hjb : j < I.nb := by
      rcases Nat.lt_or_ge j I.nb with h | h
      · exact h
      · exfalso
        refine hbody fun x hx => ?_
        cases hfx : floatAt ops x with
        | true => exact st.fl x hfx
        | false => exact ancl x ((tb j hjn h).2 x (by omega) hfx)
    have ancl' : ∀ y, y < ops.size → L.getD y false = true → ∀ h, ancB ops y h = true → L.getD h false = true := fun y hy hyl => anc_listed ok st.cl (y + 1) y (by omega) hy (fun x hx => st.cl y x hy hyl hx)
    have hxb : ∀ x, L.getD x false = true → x < I.nb := fun x hx => by
      rcases Nat.lt_or_ge x I.nb with h | h
      · exact h
      · rw [st.tl x h] at hx; cases hx
    have hVu : ∀ x, x < ops.size → L.getD x false = true → V x = u x := fun x hx hxl => by
      cases hl : lightAt ops x with
      | false => exact hV x (hxb x hxl) hl
      | true => exact st.i6 x (hxb x hxl) hl hxl V hF fun h hh hhl _ => hV h hh hhl
    have noAnc : ∀ y, y < ops.size → ancB ops y j = true → L.getD y false = false := fun y hy ha => by
      cases hc : L.getD y false with
      | false => rfl
      | true => have := ancl' y hy hc j ha; rw [hun] at this; cases this
    have later : ∀ x, x < ops.size → (x = j ∨ depB ops x j = true) → L.getD x false = false := fun x hx h => by
      rcases h with rfl | h
      · exact hun
      · exact noAnc x hx (anc_dep ok hx h)
    have notlt : ∀ x, x < ops.size → (x = j ∨ depB ops x j = true) → ¬ x < j := fun x hx h => by
      rcases h with rfl | h
      · omega
      · have := dep_lt ok hx h; omega
    have agree := look_same (a := a) ok ho (V := V) (V' := u) (X := fun x => decide (x < j)) (Y := fun x => L.getD x false)
      (fun x hx hd => ⟨by simpa using dep_lt ok hjn hd, hdep x hd, hVu x hx (hdep x hd)⟩) (fun x hx h => ⟨by simpa using notlt x hx h, later x hx h⟩)
    obtain ⟨hex, hwt⟩ := look_congr agree (fun cs b => ok.sel j o cs b ho)
    change execOp (Aat ops a V j).eval o = execOp (Bat ops a u L).eval o at hex
    change Region.wanted o (yielded ops (Aat ops a V j).tmps) = Region.wanted o (yielded ops (Bat ops a u L).tmps) at hwt
    have live_of : ∀ (V' : Nat → Value), (∀ h, h < I.nb → lightAt ops h = false → ancB ops j h = true → V' h = u h) → factsV I (availB ops I.con j) (Gat ops V' j) w := by
      intro V' hV'
      refine facts_of _ fun p hp hok => ?_
      obtain ⟨h1, h2, h3⟩ := mem_Gat hp
      unfold availB at hok
      rw [Bool.and_eq_true, List.all_eq_true] at hok
      rw [h3, hV' _ (by omega) h2 hok.1]
      refine st.i3 _ ⟨by omega, h2, ancl _ hok.1, fun y hy hyl hm => ?_⟩
      have := hok.2 y (List.mem_range.2 (by omega))
      simp only [Bool.or_eq_true, Bool.not_eq_true', beq_iff_eq] at this
      rcases this with (h4 | h4) | h4
      · simp at h4; exact h4 hm
      · subst h4; rw [hun] at hyl; cases hyl
      · rw [noAnc y (by omega) h4] at hyl; cases hyl
    have hfacts := live_of V (fun h hh hhl _ => hV h hh hhl)
    have hOb := hF.1 j hjb o ho
    have hsz' : (L.setIfInBounds j true).size = ops.size := by simpa using st.sz
    have hjL : j < L.size := by rw [st.sz]; exact hjn
    have cl' : ∀ y x, y < ops.size → (L.setIfInBounds j true).getD y false = true → depB ops y x = true → (L.setIfInBounds j true).getD x false = true := by
      intro y x hy h1 h2
      rw [getD_set hjL] at h1 ⊢
      by_cases hxj : x = j
      · rw [if_pos hxj]
      · rw [if_neg hxj]
        by_cases hyj : y = j
        · subst hyj; exact hdep x h2
        · rw [if_neg hyj] at h1
          exact st.cl y x hy h1 h2
    have hfuel : ((List.range ops.size).filter (fun x => !(L.setIfInBounds j true).getD x false)).length ≤ fuel := by
      have h1 : (List.range ops.size).filter (fun x => !(L.setIfInBounds j true).getD x false) = ((List.range ops.size).filter (fun x => !L.getD x false)).filter (fun x => x != j) := by
        rw [List.filter_filter]
        apply List.filter_congr
        intro x _
        rw [getD_set hjL]
        by_cases h : x = j
        · subst h; simp
        · simp [h]
      have hmem : j ∈ (List.range ops.size).filter (fun x => !L.getD x false) := List.mem_filter.2 ⟨List.mem_range.2 hjn, by simp [hun]⟩
      have h2 : (((List.range ops.size).filter (fun x => !L.getD x false)).filter (fun x => x != j)).length < ((List.range ops.size).filter (fun x => !L.getD x false)).length := by
        rw [List.length_filter_lt_length_iff_exists]
        exact ⟨j, hmem, by simp⟩
      rw [h1]
      omega
    have i6' : ∀ v, (lightAt ops j = true → ∀ V', Flat P ops I (NoPanic Q) a V' → (∀ h, h < I.nb → lightAt ops h = false → ancB ops j h = true → V' h = u h) → V' j = v) →
        ∀ i, i < I.nb → lightAt ops i = true → (L.setIfInBounds j true).getD i false = true → ∀ V', Flat P ops I (NoPanic Q) a V' → (∀ h, h < I.nb → lightAt ops h = false → ancB ops i h = true → V' h = (if h = j then v else u h)) → V' i = (if i = j then v else u i) := by
      intro v hv i hi hil hl V' hV' hag
      rw [getD_set hjL] at hl
      by_cases hij : i = j
      · subst hij
        rw [if_pos rfl]
        refine hv hil V' hV' fun h hh hhl ha => ?_
        have := hag h hh hhl ha
        rwa [if_neg (fun e => by subst e; rw [hil] at hhl; cases hhl)] at this
      · rw [if_neg hij] at hl ⊢
        refine st.i6 i hi hil hl V' hV' fun h hh hhl ha => ?_
        have := hag h hh hhl ha
        rwa [if_neg (fun e => by subst e; have := ancl' i (by omega) hl h ha; rw [hun] at this; cases this)] at this
    cases hlo : lightOp o.op with
    | true =>
      rw [hlo] at hOb hla
      simp only [if_true] at hOb
      have hcj := ok.light j hjn hla
      have hrun := hOb w st.i1 hfacts
      have hlive : ∀ h, Live ops I (L.setIfInBounds j true) h → Live ops I L h ∧ h ≠ j := by
        rintro h ⟨h1, h2, h3, h4⟩
        have hne : h ≠ j := fun e => by subst e; rw [hla] at h2; cases h2
        rw [getD_set hjL, if_neg hne] at h3
        refine ⟨⟨h1, h2, h3, fun y hy hyl => h4 y hy ?_⟩, hne⟩
        rw [getD_set hjL]
        split
        · rfl
        · exact hyl
      have next : wpAny P .any ops (NoPanic Q) fuel (L.setIfInBounds j true) ((Bat ops a u L).put o.dst (V j)) w := by
        rw [Bat_set ok ho st.sz hun]
        refine ih _ _ w ⟨hsz', cl', st.i1, ?_, fun h hh => ?_, fun h hh => ?_, fun h h' hh hh' => ?_, fun h hl => by simp only [if_neg (fun (e : h = j) => by subst e; rw [hla] at hl; cases hl)]; exact st.i7 h hl, fun i hi => by rw [getD_set hjL, if_neg (by omega)]; exact st.tl i hi, fun i hi => by rw [getD_set hjL]; split; (· rfl); (· exact st.fl i hi), i6' (V j) ?_⟩ hfuel
        · have : (List.range I.nb).filter (fun x => I.ch x && (L.setIfInBounds j true).getD x false) = (List.range I.nb).filter (fun x => I.ch x && L.getD x false) := List.filter_congr fun x _ => by
            rw [getD_set hjL]
            by_cases h : x = j
            · subst h; simp [hcj.2]
            · rw [if_neg h]
          have h2 := st.i2
          rw [← this] at h2
          refine hKu _ u _ w (fun j' hj' hc' hs' h hh => ?_) h2
          show u h = if h = j then V j else u h
          rw [if_neg (fun e => by
            subst e
            have := hkd.heavy j' hj' hc' h hh
            rw [hla] at this; cases this)]
        · obtain ⟨h1, h2⟩ := hlive h hh
          simp only [if_neg h2]
          exact st.i3 h h1
        · obtain ⟨h1, h2⟩ := hlive h hh
          simp only [if_neg h2]
          exact st.i4 h h1
        · obtain ⟨h1, h2⟩ := hlive h hh
          obtain ⟨h3, h4⟩ := hlive h' hh'
          simp only [if_neg h2, if_neg h4]
          exact st.i5 h h' h1 h3
        · intro _ V' hV' hag
          have hrun' := hV'.1 j hjb o ho
          rw [hlo] at hrun'
          simp only [if_true] at hrun'
          have hrun' := hrun' w st.i1 (live_of V' hag)
          have hVV : ∀ x, x < ops.size → depB ops j x = true → V' x = V x := fun x hx hd => by
            rw [hVu x hx (hdep x hd)]
            cases hl : lightAt ops x with
            | false => exact hag x (hxb x (hdep x hd)) hl (anc_dep ok hjn hd)
            | true => exact st.i6 x (hxb x (hdep x hd)) hl (hdep x hd) V' hV' fun h hh hhl ha => hag h hh hhl (anc_trans ok hjn hd ha)
          have agree' := look_same (a := a) ok ho (V := V') (V' := V) (X := fun x => decide (x < j)) (Y := fun x => decide (x < j))
            (fun x hx hd => ⟨by simpa using dep_lt ok hjn hd, by simpa using dep_lt ok hjn hd, hVV x hx hd⟩) (fun x hx h => ⟨by simpa using notlt x hx h, by simpa using notlt x hx h⟩)
          obtain ⟨hex', hwt'⟩ := look_congr agree' (fun cs b => ok.sel j o cs b ho)
          change execOp (Aat ops a V' j).eval o = execOp (Aat ops a V j).eval o at hex'
          change Region.wanted o (yielded ops (Aat ops a V' j).tmps) = Region.wanted o (yielded ops (Aat ops a V j).tmps) at hwt'
          rw [hex', hwt'] at hrun'
          cases hw : Region.wanted o (yielded ops (Aat ops a V j).tmps) with
          | false =>
            rw [hw] at hrun hrun'
            simp only [Bool.false_eq_true, if_false] at hrun hrun'
            rw [hrun, hrun']
          | true =>
            rw [hw] at hrun hrun'
            simp only [if_true] at hrun hrun'
            unfold litStep at hrun hrun'
            cases hr : (execOp (Aat ops a V j).eval o).run P w with
            | ok n w' =>
              rw [hr] at hrun hrun'
              cases n with
              | value v => exact hrun'.2.symm.trans hrun.2
              | _ => exact hrun.elim
            | halt x w' => rw [hr] at hrun; exact hrun.elim
      unfold wpOp
      rw [ho]
      simp only
      rw [← hwt]
      cases hw : Region.wanted o (yielded ops (Aat ops a V j).tmps) with
      | false =>
        rw [hw] at hrun
        simp only [Bool.false_eq_true, if_false] at hrun ⊢
        rw [hrun] at next
        exact next
      | true =>
        rw [hw] at hrun
        simp only [if_true] at hrun ⊢
        left
        unfold litStep at hrun
        unfold Oper.wp
        rw [← hex]
        cases hr : (execOp (Aat ops a V j).eval o).run P w with
        | ok n w' =>
          rw [hr] at hrun
          cases n with
          | value v =>
            obtain ⟨rfl, rfl⟩ := hrun
            exact next
          | _ => exact hrun.elim
        | halt x w' => rw [hr] at hrun; exact hrun.elim
    | false =>
      rw [hlo] at hOb hla
      simp only [Bool.false_eq_true, if_false] at hOb
      have hcnt : I.ch j = true → ((List.range I.nb).filter (fun x => I.ch x && L.getD x false)).length = sat I j := by
        intro hc
        unfold sat
        have h1 : (List.range I.nb).filter (fun x => I.ch x && L.getD x false) = (List.range I.nb).filter (fun x => I.ch x && decide (x < j)) := List.filter_congr fun x hx => by
          cases hcx : I.ch x with
          | false => rfl
          | true =>
            simp only [Bool.true_and]
            have hxn := List.mem_range.1 hx
            rcases Nat.lt_trichotomy x j with h | h | h
            · rw [ancl x (ok.chain j hjn x h hcx hc)]
              simpa using h
            · subst h; rw [hun]; simp
            · rw [noAnc x (by omega) (ok.chain x (by omega) j h hc hcx)]
              simp; omega
        rw [h1]
        have h2 : List.range I.nb = List.range j ++ (List.range (I.nb - j)).map (j + ·) := by
          rw [← List.range_add]; congr 1; omega
        rw [h2, List.filter_append, List.length_append]
        have h3 : ((List.range (I.nb - j)).map (j + ·)).filter (fun x => I.ch x && decide (x < j)) = [] := by
          rw [List.filter_eq_nil_iff]
          intro x hx
          obtain ⟨y, _, rfl⟩ := List.mem_map.1 hx
          simp
        rw [h3]
        simp only [List.length_nil, Nat.add_zero]
        congr 1
        apply List.filter_congr
        intro x hx
        rw [decide_eq_true (List.mem_range.1 hx), Bool.and_true]
      have hob := hOb w st.i1 (fun hc => by
        refine hKu _ u _ w (fun j' hj' hc' hs' h hh => ?_) (by rw [← hcnt hc]; exact st.i2)
        have hlt : j' < j := by
          rcases Nat.lt_or_ge j' j with e | e
          · exact e
          · have := sat_mono (I := I) e; omega
        have hle := hkd.le j' hj' hc' h hh
        rw [look_Gat (by omega) (hkd.heavy j' hj' hc' h hh), hV _ (by omega) (hkd.heavy j' hj' hc' h hh)]) hfacts
      -- what is used up
      have used : ∀ b ∈ usedV I j (Gat ops V j), ∃ h, h ∈ I.con j ∧ Live ops I L h ∧ b ∈ I.fp h (u h) := by
        intro b hb
        obtain ⟨p, hp, hc, hbp⟩ := mem_used hb
        obtain ⟨h1, h2, h3⟩ := mem_Gat hp
        obtain ⟨c1, c2, c3⟩ := ok.con j hjn _ hc
        refine ⟨p.1, hc, ⟨hxb _ (ancl _ c3), c2, ancl _ c3, fun y hy hyl hm => ?_⟩, ?_⟩
        · exact ok.once j hjn y (by omega) (fun e => by subst e; rw [hun] at hyl; cases hyl) _ hc hm
        · rw [h3, hV _ (hxb _ (ancl _ c3)) c2] at hbp
          exact hbp
      have uge : ∀ b ∈ usedV I j (Gat ops V j), I.w0.heap.size ≤ b ∧ b < w.heap.size := fun b hb => by
        obtain ⟨h, _, hl, hbf⟩ := used b hb
        exact st.i4 h hl b hbf
      have next : ∀ v w', outV I j (sat I j) (Gat ops V j) w v w' → wpAny P .any ops (NoPanic Q) fuel (L.setIfInBounds j true) ((Bat ops a u L).put o.dst v) w' := by
        rintro v w' ⟨r1, r2, r3, r4⟩
        have hT : ∀ b ∈ (if I.ch j = true then I.S ++ usedV I j (Gat ops V j) else usedV I j (Gat ops V j)), b ∈ I.S ∨ I.w0.heap.size ≤ b := by
          intro b hb
          split at hb
          · rcases List.mem_append.1 hb with h | h
            · exact .inl h
            · exact .inr (uge b h).1
          · exact .inr (uge b hb).1
        have hT2 : ∀ b ∈ (if I.ch j = true then I.S ++ usedV I j (Gat ops V j) else usedV I j (Gat ops V j)), b ∈ usedV I j (Gat ops V j) ∨ b ∈ I.S := by
          intro b hb
          split at hb
          · exact (List.mem_append.1 hb).symm
          · exact .inl hb
        have hlive : ∀ h, Live ops I (L.setIfInBounds j true) h → h = j ∨ (Live ops I L h ∧ h ≠ j ∧ h ∉ I.con j) := by
          rintro h ⟨h1, h2, h3, h4⟩
          by_cases hne : h = j
          · exact .inl hne
          · rw [getD_set hjL, if_neg hne] at h3
            refine .inr ⟨⟨h1, h2, h3, fun y hy hyl => h4 y hy ?_⟩, hne, h4 j hjb (by rw [getD_set hjL, if_pos rfl])⟩
            rw [getD_set hjL]
            split
            · rfl
            · exact hyl
        have apart : ∀ h, Live ops I L h → h ∉ I.con j → ∀ b ∈ usedV I j (Gat ops V j), b ∉ I.fp h (u h) := by
          intro h hl hnc b hb
          obtain ⟨h', hc', hl', hbf⟩ := used b hb
          exact st.i5 h' h hl' hl (fun e => by subst e; exact hnc hc') b hbf
        rw [Bat_set ok ho st.sz hun]
        refine ih _ _ w' ⟨hsz', cl', st.i1.trans' r3 hT, ?_, fun h hh => ?_, fun h hh => ?_, fun h h' hh hh' hne => ?_, fun h hl => ?_, fun i hi => by rw [getD_set hjL, if_neg (by omega)]; exact st.tl i hi, fun i hi => by rw [getD_set hjL]; split; (· rfl); (· exact st.fl i hi), i6' v ?_⟩ hfuel
        · cases hc : I.ch j with
          | true =>
            have : ((List.range I.nb).filter (fun x => I.ch x && (L.setIfInBounds j true).getD x false)).length = ((List.range I.nb).filter (fun x => I.ch x && L.getD x false)).length + 1 := by
              have h2 : List.range I.nb = List.range j ++ j :: (List.range (I.nb - j - 1)).map (j + 1 + ·) := by
                have e1 : List.range I.nb = List.range (j + 1) ++ (List.range (I.nb - j - 1)).map (j + 1 + ·) := by
                  rw [← List.range_add]; congr 1; omega
                rw [e1, List.range_succ, List.append_assoc]; rfl
              rw [h2]
              simp only [List.filter_append, List.filter_cons, List.length_append]
              rw [getD_set hjL, if_pos rfl, hc, hun]
              simp only [Bool.and_true, if_true, Bool.and_false, Bool.false_eq_true, if_false, List.length_cons]
              have h3 : ∀ (l : List Nat), j ∉ l → l.filter (fun x => I.ch x && (L.setIfInBounds j true).getD x false) = l.filter (fun x => I.ch x && L.getD x false) := fun l hl => List.filter_congr fun x hx => by
                rw [getD_set hjL, if_neg (fun (e : x = j) => hl (e ▸ hx))]
              rw [h3 _ (by simp), h3 _ (by simp; omega)]
              omega
            rw [this, hcnt hc]
            refine hKu _ _ _ w' (fun j' hj' hc' hs' h hh => ?_) (r4 hc)
            have hlt : j' ≤ j := by
              rcases Nat.lt_or_ge j j' with e | e
              · have h1 := sat_mono (I := I) (i := j + 1) e
                rw [sat_succ, if_pos hc] at h1
                omega
              · exact e
            have hle := hkd.le j' hj' hc' h hh
            show look _ h = if h = j then v else u h
            by_cases hj0 : h = j
            · subst hj0
              rw [if_pos rfl, look_snoc (fun p hp => by have := (mem_Gat hp).1; omega)]
            · rw [if_neg hj0, look_left hj0, look_Gat (by omega) (hkd.heavy j' hj' hc' h hh), hV _ (by omega) (hkd.heavy j' hj' hc' h hh)]
          | false =>
            have : (List.range I.nb).filter (fun x => I.ch x && (L.setIfInBounds j true).getD x false) = (List.range I.nb).filter (fun x => I.ch x && L.getD x false) := List.filter_congr fun x _ => by
              rw [getD_set hjL]
              by_cases h : x = j
              · subst h; simp [hc]
              · rw [if_neg h]
            rw [this]
            rw [hc] at r3
            simp only [Bool.false_eq_true, if_false] at r3
            refine hKu _ u _ w' (fun j' hj' hc' hs' h hh => ?_) (hK _ _ _ _ _ st.i2 r3 fun b hb => (uge b hb).1)
            show u h = if h = j then v else u h
            rw [if_neg]
            intro e
            subst e
            have hun' : L.getD j' false = false := by
              cases hl' : L.getD j' false with
              | false => rfl
              | true =>
                rcases hkd.anc j' hj' hc' h hh with e | e
                · subst e; rw [hc] at hc'; cases hc'
                · have := anc_listed ok st.cl (j' + 1) j' (by omega) (by omega) (fun x hx => st.cl j' x (by omega) hl' hx) h e
                  rw [hun] at this; cases this
            have hcle : ((List.range I.nb).filter (fun x => I.ch x && L.getD x false)).length ≤ sat I j' := by
              have e1 : List.range I.nb = List.range j' ++ (List.range (I.nb - j')).map (j' + ·) := by
                rw [← List.range_add]; congr 1; omega
              have e2 : ((List.range (I.nb - j')).map (j' + ·)).filter (fun x => I.ch x && L.getD x false) = [] := by
                rw [List.filter_eq_nil_iff]
                intro x hx
                obtain ⟨y, hy, rfl⟩ := List.mem_map.1 hx
                have hy' := List.mem_range.1 hy
                cases hcx : I.ch (j' + y) with
                | false => simp
                | true =>
                  cases hlx : L.getD (j' + y) false with
                  | false => simp
                  | true =>
                    rcases Nat.eq_zero_or_pos y with h0 | h0
                    · subst h0; rw [Nat.add_zero, hun'] at hlx; cases hlx
                    · have := anc_listed ok st.cl (j' + y + 1) (j' + y) (by omega) (by omega) (fun x hx => st.cl (j' + y) x (by omega) hlx hx) j' (ok.chain (j' + y) (by omega) j' (by omega) hc' hcx)
                      rw [hun'] at this; cases this
              rw [e1, List.filter_append, e2, List.append_nil]
              unfold sat
              refine List.Sublist.length_le ?_
              rw [show (List.range j').filter (fun x => I.ch x && L.getD x false) = ((List.range j').filter I.ch).filter (fun x => L.getD x false) from by rw [List.filter_filter]; exact List.filter_congr fun x _ => Bool.and_comm ..]
              exact List.filter_sublist
            omega
        · rcases hlive h hh with rfl | ⟨h1, h2, h3⟩
          · simp only [if_pos]; exact r1
          · simp only [if_neg h2]
            refine hR h _ _ _ _ st.i1 (st.i3 h h1) r3 (fun b hb => ?_) hT (fun hall => by rw [if_neg (by rw [(hall j).2]; simp), usedV_none (hall j).1])
            rcases hT2 b hb with h4 | h4
            · exact apart h h1 h3 b h4
            · intro h5
              have := (st.i4 h h1 b h5).1
              have := hS b h4
              omega
        · rcases hlive h hh with rfl | ⟨h1, h2, h3⟩
          · simp only [if_pos]
            intro b hb
            rcases r2 b hb with h4 | h4
            · have := uge b h4
              exact ⟨this.1, Nat.lt_of_lt_of_le this.2 r3.size⟩
            · exact ⟨Nat.le_trans st.i1.size h4.1, h4.2⟩
          · simp only [if_neg h2]
            intro b hb
            have := st.i4 h h1 b hb
            exact ⟨this.1, Nat.lt_of_lt_of_le this.2 r3.size⟩
        · have sym : ∀ h, (Live ops I L h ∧ h ≠ j ∧ h ∉ I.con j) → ∀ b ∈ I.fp j v, b ∉ I.fp h (u h) := by
            rintro h ⟨h1, h2, h3⟩ b hb h4
            rcases r2 b hb with h5 | h5
            · exact apart h h1 h3 b h5 h4
            · have := (st.i4 h h1 b h4).2
              omega
          rcases hlive h hh with e | h1
          · rcases hlive h' hh' with e' | h1'
            · exact absurd (e.trans e'.symm) hne
            · subst e
              simp only [if_pos, if_neg h1'.2.1]
              exact sym h' h1'
          · rcases hlive h' hh' with e' | h1'
            · subst e'
              simp only [if_pos, if_neg h1.2.1]
              intro b hb hb'
              exact sym h h1 b hb' hb
            · simp only [if_neg h1.2.1, if_neg h1'.2.1]
              exact st.i5 h h' h1.1 h1'.1 hne
        · show I.adm h (if h = j then v else u h)
          split
          · rename_i e; subst e; exact hadm _ _ _ r1
          · exact st.i7 h hl
        · intro hl
          rw [hla] at hl
          cases hl
      unfold wpOp
      rw [ho]
      simp only
      rw [← hwt]
      cases hw : Region.wanted o (yielded ops (Aat ops a V j).tmps) with
      | false =>
        rw [hw] at hob
        simp only [Bool.false_eq_true, if_false] at hob ⊢
        exact next _ _ hob
      | true =>
        rw [hw] at hob
        simp only [if_true] at hob ⊢
        left
        refine wp_transfer hex (fun v w' hz => next v w' hz) (fun v v' e => ?_) hob
        cases hd : o.dst with
        | none => rfl
        | some t =>
          rw [hd] at e
          simp only [Act.put] at e ⊢
          have e2 := congrArg Act.tmps e
          simp only at e2
          have hsz2 : (Aat ops a V j).tmps.size = (Bat ops a u L).tmps.size := by
            have key : ∀ (l : List Nat) (V : Nat → Value) (X : Nat → Bool) (b : Act), (putX ops V X l b).tmps.size = b.tmps.size := by
              intro l
              induction l with
              | nil => intro V X b; rfl
              | cons i l ihl =>
                intro V X b
                unfold putX
                rw [ihl]
                split
                · exact put_size _ _ _
                · rfl
            unfold Aat Bat
            rw [key, key]
          by_cases ht : t < (Aat ops a V j).tmps.size
          · have e3 : ((Aat ops a V j).tmps.setIfInBounds t v)[t]? = ((Aat ops a V j).tmps.setIfInBounds t v')[t]? := by rw [e2]
            simp only [Array.getElem?_setIfInBounds_self, ht, if_true] at e3
            rw [Option.some.inj e3]
          · have h1 : ∀ x : Value, (Bat ops a u L).tmps.setIfInBounds t x = (Bat ops a u L).tmps := fun x => by
              rw [Array.setIfInBounds_eq_of_size_le (by rw [← hsz2]; exact Nat.le_of_not_lt ht)]
            rw [h1, h1]

/-- What the copies copy. -/
def uF (ops : Array Oper) (a : Act) (i : Nat) : Value := match ops[i]? with | some o => (match o.op with | .move x => a.eval x | _ => undef) | none => undef
theorem float_look (ok : InvOk ops I) {i k : Nat} (hi : i < ops.size) (hk : k < ops.size) (fk : floatAt ops k = true) (t : Tmp) (h : dstOf ops i = some t) (hik : i ≠ k ∧ (floatAt ops i = true ∨ i < k)) : (lookOf ops k).contains t = false := by
  have nodep : ∀ {x : Nat} (y : Nat), floatAt ops x = true → depB ops x y = false := by
    intro x y hx
    unfold floatAt at hx
    unfold depB
    cases ho : ops[x]? with
    | none => rfl
    | some o =>
      rw [ho] at hx
      simp only [Option.map_some, Option.getD_some] at hx
      unfold isFloat at hx
      simp only [Bool.and_eq_true] at hx
      have h7 := hx.2
      simp only
      rw [Array.all_eq_true] at h7
      rw [Array.any_eq_false]
      intro i hi
      have := h7 i hi
      cases hb : Region.binds .any o.after[i] with
      | false => simp
      | true => rw [hb] at this; cases this
  cases hc : (lookOf ops k).contains t with
  | false => rfl
  | true =>
    exfalso
    rcases Nat.lt_or_gt_of_ne hik.1 with h1 | h1
    · have hp := ok.pair k hk i h1
      unfold pairOk at hp
      rw [h] at hp
      simp only [hc, nodep i fk] at hp
      simp at hp
    · have hf : floatAt ops i = true := hik.2.resolve_right (by omega)
      have hp := ok.pair i hi k h1
      unfold pairOk at hp
      rw [h] at hp
      simp only [hc, nodep k hf] at hp
      simp at hp
theorem putX_cons {V : Nat → Value} {X : Nat → Bool} (i : Nat) (l : List Nat) (b : Act) : putX ops V X (i :: l) b = putX ops V X l (if X i then b.put (dstOf ops i) (V i) else b) := rfl
theorem putX_filter {V : Nat → Value} {X : Nat → Bool} : ∀ (l : List Nat) (b : Act), putX ops V X l b = putX ops V (fun _ => true) (l.filter X) b
  | [], _ => rfl
  | i :: l, b => by
    rw [List.filter_cons, putX_cons]
    cases h : X i with
    | true =>
      simp only [if_true, putX_cons]
      exact putX_filter l _
    | false =>
      simp only [Bool.false_eq_true, if_false]
      exact putX_filter l _
theorem eval_put {b : Act} {d : Option Tmp} {v : Value} {x : Operand} (h : ∀ t, d = some t → x ≠ .tmp t) : (b.put d v).eval x = b.eval x := Act.eval_put h
theorem putM_floats (ok : InvOk ops I) : ∀ (F : List Nat) (b : Act), F.Nodup → (∀ i ∈ F, floatAt ops i = true) → (∀ i ∈ F, uF ops b i = uF ops a i) → putM ops F b = putX ops (uF ops a) (fun _ => true) F b
  | [], b, _, _, _ => rfl
  | i :: F, b, hnd, hF, hu => by
    rw [List.nodup_cons] at hnd
    have fi := hF i (List.mem_cons_self ..)
    unfold putM putX
    simp only [if_true]
    have hf2 := fi
    unfold floatAt at hf2
    cases ho : ops[i]? with
    | none => rw [ho] at hf2; cases hf2
    | some o =>
      rw [ho] at hf2
      simp only [Option.map_some, Option.getD_some] at hf2
      have hui := hu i (List.mem_cons_self ..)
      unfold isFloat at hf2
      simp only [Bool.and_eq_true] at hf2
      cases hop : o.op with
      | move x =>
        have e1 : uF ops b i = b.eval x := by unfold uF; rw [ho]; simp only [hop]
        have hd : dstOf ops i = o.dst := by simp [dstOf, ho]
        simp only [hop]
        rw [← e1, hui, hd]
        refine putM_floats ok F _ hnd.2 (fun k hk => hF k (List.mem_cons_of_mem _ hk)) fun k hk => ?_
        rw [← hu k (List.mem_cons_of_mem _ hk)]
        have fk := hF k (List.mem_cons_of_mem _ hk)
        have hil : i < ops.size := (Array.getElem?_eq_some_iff.1 ho).1
        unfold uF
        cases hok : ops[k]? with
        | none => rfl
        | some ok' =>
          have hkl : k < ops.size := (Array.getElem?_eq_some_iff.1 hok).1
          simp only
          cases hopk : ok'.op with
          | move y =>
            simp only
            refine eval_put fun t ht hy => ?_
            have := float_look ok hil hkl fk t (by rw [hd]; exact ht) ⟨fun e => hnd.1 (e ▸ hk), .inl fi⟩
            unfold lookOf at this
            rw [hok] at this
            simp only at this
            have hm : t ∈ Oper.looksAt ops ok' := by
              unfold Oper.looksAt
              refine List.mem_append_left _ (List.mem_filterMap.2 ⟨.tmp t, ?_, rfl⟩)
              rw [hopk, ← hy]
              simp [Op.operands]
            rw [List.contains_iff_mem.2 hm] at this
            cases this
          | _ => rfl
      | _ => rw [hop] at hf2; simp at hf2

/-- The rule. -/
theorem wp_inv {id : Nat} {l : List Oper} {w : World} (I : Inv) (hm : P.follows .mixedOrders = true) (hw0 : I.w0 = w.drew) (hnb : I.nb ≤ l.length) (htl : I.tl = l.drop I.nb) (hc : invB l.toArray I.con I.ch = true) (htb : tailB l.toArray I.nb = true) (hS : ∀ b ∈ I.S, b < w.heap.size)
    (hR : ∀ j v (w w' : World) T, Upd I.S I.w0 w → I.R j v w → Upd T w w' → (∀ b ∈ T, b ∉ I.fp j v) → (∀ b ∈ T, b ∈ I.S ∨ I.w0.heap.size ≤ b) → ((∀ j, I.con j = [] ∧ I.ch j = false) → T = []) → I.R j v w')
    (hkd : KdOk l.toArray I) (hKu : ∀ s (u u' : Nat → Value) w, (∀ j, j < I.nb → I.ch j = true → sat I j < s → ∀ h ∈ I.kd j, u h = u' h) → I.K u s w → I.K u' s w) (hK : ∀ u s (w w' : World) T, I.K u s w → Upd T w w' → (∀ b ∈ T, I.w0.heap.size ≤ b) → I.K u s w') (hK0 : ∀ u, I.K u 0 w.drew)
    (hwit : ∀ j, ∃ v, I.adm j v) (hadm : ∀ j v w, I.R j v w → I.adm j v) (h : wpV P l.toArray I (NoPanic Q) (l.take I.nb) 0 0 a []) : (Code.region id l.toArray true).wp P Q a w := by
  refine wp_region_noPanic (wp_region_any hm ?_)
  have ok := invOk_of hc
  have hA0 : ∀ V, Aat l.toArray a V 0 = a := fun V => putX_none _ _ (by simp)
  have hflat : ∀ e : Nat → Value, (∀ h, lightAt l.toArray h = false → I.adm h (e h)) → ∃ V, (∀ h, h < I.nb → lightAt l.toArray h = false → V h = e h) ∧ Flat P l.toArray I (NoPanic Q) a V := by
    intro e he
    obtain ⟨V, _, h2, h3, h4⟩ := flat_of (a := a) ok (by simpa using hnb) (l.take I.nb) 0 (fun _ => undef) (fun k o hk => by
      rw [List.getElem?_take] at hk
      split at hk
      · simpa using hk
      · cases hk) (by simp; omega) (by rw [hA0]; exact h) (fun h => if lightAt l.toArray h then (hwit h).choose else e h) (fun h => by
      show I.adm h (if lightAt l.toArray h = true then (hwit h).choose else e h)
      split
      · exact (hwit h).choose_spec
      · exact he h (Bool.eq_false_iff.2 (by assumption)))
    exact ⟨V, fun x hx hl => (h2 x (Nat.zero_le _) hx hl).trans (by rw [hl]; simp), fun i hi => h3 i (Nat.zero_le _) hi, h4⟩
  rw [show tailB l.toArray I.nb = (floatsOk l.toArray (floats l.toArray) (Array.replicate l.toArray.size false) && (List.range l.toArray.size).all fun j => decide (j < I.nb) || (!floatAt l.toArray j && (List.range j).all fun x => floatAt l.toArray x || ancB l.toArray j x)) from rfl, Bool.and_eq_true] at htb
  have htb0 : tailB l.toArray I.nb = true := by unfold tailB; rw [Bool.and_eq_true]; exact htb
  have hfl : ∀ i, i ∈ floats l.toArray ↔ i < l.toArray.size ∧ floatAt l.toArray i = true := fun i => by
    unfold floats floatAt
    rw [List.mem_filter, List.mem_range]
  have hrep : ∀ i, i < l.toArray.size → (Array.replicate l.toArray.size false).getD i false = false := fun i hi => by
    simp only [Array.getD_eq_getD_getElem?, Array.getElem?_replicate, if_pos hi, Option.getD_some]
  have hL0 : ∀ i, (markAll (floats l.toArray) (Array.replicate l.toArray.size false)).getD i false = floatAt l.toArray i := by
    intro i
    by_cases hi : i < l.toArray.size
    · have hg := markAll_get (floats l.toArray) (Array.replicate l.toArray.size false) i false (by simpa using hi)
      rw [hrep i hi, hfl] at hg
      cases hfi : floatAt l.toArray i with
      | true => exact hg.2 (.inl ⟨hi, hfi⟩)
      | false =>
        rw [← Bool.not_eq_true, hg]
        rintro (h | h)
        · rw [hfi] at h; cases h.2
        · cases h
    · have h1 : (markAll (floats l.toArray) (Array.replicate l.toArray.size false)).size = l.toArray.size := by rw [markAll_size]; simp
      unfold floatAt
      rw [Array.getD_eq_getD_getElem?, Array.getElem?_eq_none (by omega), Array.getElem?_eq_none (by omega)]
      rfl
  have fnb : ∀ j, floatAt l.toArray j = true → j < I.nb := by
    intro j hj
    by_cases hjl : j < l.toArray.size
    · have := List.all_eq_true.1 htb.2 j (List.mem_range.2 hjl)
      simp only [Bool.or_eq_true, Bool.and_eq_true, decide_eq_true_eq, Bool.not_eq_true'] at this
      rcases this with h | h
      · exact h
      · rw [h.1] at hj; cases hj
    · unfold floatAt at hj
      rw [Array.getElem?_eq_none (by omega)] at hj
      cases hj
  have lightF : ∀ j, floatAt l.toArray j = true → lightAt l.toArray j = true := by
    intro j hj
    unfold floatAt at hj
    unfold lightAt
    cases ho : l.toArray[j]? with
    | none => rw [ho] at hj; cases hj
    | some o =>
      rw [ho] at hj
      simp only [Option.map_some, Option.getD_some] at hj ⊢
      unfold isFloat at hj
      simp only [Bool.and_eq_true] at hj
      cases hop : o.op with
      | move x => rfl
      | _ => rw [hop] at hj; simp at hj
  let u0 : Nat → Value := fun h => if floatAt l.toArray h then uF l.toArray a h else (hwit h).choose
  have e0 : Bat l.toArray a u0 (markAll (floats l.toArray) (Array.replicate l.toArray.size false)) = putM l.toArray (floats l.toArray) a := by
    rw [putM_floats (a := a) ok (floats l.toArray) a (List.nodup_range.filter _) (fun i hi => ((hfl i).1 hi).2) (fun _ _ => rfl)]
    unfold Bat
    rw [putX_congr' (V' := uF l.toArray a) (Y := fun x => floatAt l.toArray x) _ _ (fun x _ => hL0 x) (fun x _ hx => by
      rw [hL0] at hx
      show (if floatAt l.toArray x = true then _ else _) = _
      rw [if_pos hx])]
    rw [putX_filter]
    rfl
  have hnf : (floats l.toArray).length ≤ l.toArray.size := by
    unfold floats
    have := List.length_filter_le (fun i => ((l.toArray[i]?).map isFloat).getD false) (List.range l.toArray.size)
    simpa using this
  rw [show l.toArray.size = (l.toArray.size - (floats l.toArray).length) + (floats l.toArray).length by omega]
  rw [show (l.toArray.size - (floats l.toArray).length) + (floats l.toArray).length = l.toArray.size by omega]
  conv => arg 5; rw [show l.toArray.size = (l.toArray.size - (floats l.toArray).length) + (floats l.toArray).length by omega]
  refine floats_first (by unfold invB at hc; rw [Bool.and_eq_true] at hc; exact hc.1) (fun _ _ _ _ _ h => (h : False).elim) _ _ _ _ _ htb.1 ?_
  rw [← e0]
  refine inv_main ok (by simpa using hnb) (by simpa using htl) htb0 (by rw [hw0]; exact hS) hR hkd hKu hK hadm hflat _ _ u0 w.drew ?_ ?_
  · have unl : ∀ h, lightAt l.toArray h = false → (markAll (floats l.toArray) (Array.replicate l.toArray.size false)).getD h false = false := fun h hl => by
      rw [hL0]
      cases hf : floatAt l.toArray h with
      | false => rfl
      | true => rw [lightF h hf] at hl; cases hl
    refine ⟨by rw [markAll_size]; simp, fun y x hy h1 h2 => ?_, by rw [hw0]; exact Upd.refl _ _, ?_, fun h hh => ?_, fun h hh => ?_, fun h h' hh => ?_, fun h hl => ?_, fun j hj => ?_, fun j hj => by rw [hL0]; exact hj, fun j hjb hjl h1 V hV _ => ?_⟩
    · rw [hL0] at h1
      unfold floatAt at h1
      unfold depB at h2
      cases ho : l.toArray[y]? with
      | none => rw [ho] at h2; cases h2
      | some o =>
        rw [ho] at h1 h2
        simp only [Option.map_some, Option.getD_some] at h1 h2
        unfold isFloat at h1
        simp only [Bool.and_eq_true, Array.all_eq_true] at h1
        rw [Array.any_eq_true] at h2
        obtain ⟨i, hi, he⟩ := h2
        rw [Bool.and_eq_true] at he
        have := h1.2 i hi
        rw [he.1] at this
        cases this
    · rw [List.filter_eq_nil_iff.2 (fun x hx => ?_)]
      · exact hK0 _
      · rw [hL0]
        cases hf : floatAt l.toArray x with
        | false => simp
        | true =>
          have hxl : x < l.toArray.size := by have := fnb x hf; simp at hnb ⊢; omega
          rw [(ok.light x hxl (lightF x hf)).2]
          simp
    · have := hh.2.2.1; rw [unl h hh.2.1] at this; cases this
    · have := hh.2.2.1; rw [unl h hh.2.1] at this; cases this
    · have := hh.2.2.1; rw [unl h hh.2.1] at this; cases this
    · show I.adm h (if floatAt l.toArray h = true then _ else _)
      rw [if_neg (fun hf => by rw [lightF h hf] at hl; cases hl)]
      exact (hwit h).choose_spec
    · rw [hL0]
      cases hf : floatAt l.toArray j with
      | false => rfl
      | true => have := fnb j hf; omega
    · rw [hL0] at h1
      show V j = (if floatAt l.toArray j = true then _ else _)
      rw [if_pos h1]
      have hjn : j < l.toArray.size := by simp at hnb ⊢; omega
      obtain ⟨o, ho⟩ : ∃ o, l.toArray[j]? = some o := ⟨_, Array.getElem?_eq_getElem hjn⟩
      have hob := hV.1 j hjb o ho
      have hlo : lightOp o.op = true := by rw [← lightAt_some ho]; exact hjl
      rw [hlo] at hob
      simp only [if_true] at hob
      have hf := h1
      unfold floatAt at hf
      rw [ho] at hf
      simp only [Option.map_some, Option.getD_some] at hf
      unfold isFloat at hf
      simp only [Bool.and_eq_true] at hf
      obtain ⟨⟨f1, f2⟩, f3⟩ := hf
      have nodep : ∀ y, depB l.toArray j y = false := fun y => by
        unfold depB
        rw [ho]
        simp only
        rw [Array.all_eq_true] at f3
        rw [Array.any_eq_false]
        intro i hi
        have := f3 i hi
        cases hb : Region.binds .any o.after[i] with
        | false => simp
        | true => rw [hb] at this; cases this
      have hrun := hob w.drew (by rw [hw0]; exact Upd.refl _ _) (facts_of _ fun p hp hok => by
        exfalso
        unfold availB at hok
        rw [Bool.and_eq_true] at hok
        obtain ⟨x, hx, _⟩ := (anc_iff hjn (ok.back j hjn)).1 hok.1
        rw [nodep x] at hx
        cases hx)
      have hwt : Region.wanted o (yielded l.toArray (Aat l.toArray a V j).tmps) = true := by
        unfold Region.wanted
        rw [Option.isNone_iff_eq_none.1 f2]
      rw [hwt] at hrun
      simp only [if_true] at hrun
      unfold uF
      rw [ho]
      cases hop : o.op with
      | move x =>
        simp only [hop]
        have he : (execOp (Aat l.toArray a V j).eval o).run P w.drew = .ok (.value ((Aat l.toArray a V j).eval x)) w.drew := by
          obtain ⟨dst, op, type, pos, after, guard⟩ := o
          simp only at hop
          subst hop
          rfl
        rw [he] at hrun
        rw [← hrun.2]
        cases x with
        | tmp t =>
          have : (Aat l.toArray a V j).tmps[t]? = a.tmps[t]? := by
            have h2 : a = putX l.toArray V (fun _ => false) (List.range l.toArray.size) a := (putX_none _ _ (fun _ _ => rfl)).symm
            conv => rhs; rw [h2]
            unfold Aat
            refine putX_get _ a a (fun y hy hd => ?_) rfl rfl
            by_cases hyj : y < j
            · exfalso
              have := float_look ok (List.mem_range.1 hy) hjn h1 t hd ⟨by omega, .inr hyj⟩
              unfold lookOf at this
              rw [ho] at this
              simp only at this
              have hm : t ∈ Oper.looksAt l.toArray o := by
                unfold Oper.looksAt
                refine List.mem_append_left _ (List.mem_filterMap.2 ⟨.tmp t, ?_, rfl⟩)
                rw [hop]
                simp [Op.operands]
              rw [List.contains_iff_mem.2 hm] at this
              cases this
            · simp [hyj]
          simp only [Act.eval, Array.getD_eq_getD_getElem?, this]
        | _ => rfl
      | _ => rw [hop] at f1; simp at f1
  · have h1 : (List.range l.toArray.size).filter (fun x => !(markAll (floats l.toArray) (Array.replicate l.toArray.size false)).getD x false) = (List.range l.toArray.size).filter (fun x => !((l.toArray[x]?).map isFloat).getD false) := List.filter_congr fun x _ => by rw [hL0]; rfl
    rw [h1]
    have := filter_len (fun i => ((l.toArray[i]?).map isFloat).getD false) (List.range l.toArray.size)
    unfold floats
    rw [List.length_range] at this
    omega
end
end Go.Proofs.YteddiknlcdbhjaaGreat.Vk

namespace Go.Proofs.YteddiknlcdbhjaaGreat.Vk
open Go Go.RowKit

/-- What is said of the value of an operation: the blocks it owns, and a fact that lasts. -/
structure Spec where
  fp : Value → List Nat
  R : Value → World → Prop
  adm : Value → Prop
namespace Spec
def any : Spec := ⟨fun _ => [], fun _ _ => True, fun _ => True⟩
def det (v0 : Value) : Spec := ⟨fun _ => [], fun v _ => v = v0, fun v => v = v0⟩
/-- Any fact of the value alone. -/
def val (F : Value → Prop) : Spec := ⟨fun _ => [], fun v _ => F v, F⟩
def own (B : Nat) (e : TypeId) (s n : Nat) (xs : List Value) : Spec := ⟨fun v => v.ownBlock.toList, fun v w => w.ownsRow B e s v n xs, fun v => ∃ A c, v = .slice A n c ∧ n ≤ c ∧ c ≤ maxLen⟩
def src (s m : Nat) (news : List Value) : Spec := ⟨fun v => v.ownBlock.toList, fun v w => Src w s v m news, fun v => ∃ A c, v = .slice A m c⟩
def ptrBlocks : Value → List Nat
  | .pointer (some a) => [a.block]
  | .iface _ (.pointer (some a)) => [a.block]
  | _ => []
/-- A pointer to a new block. -/
def box (t : TypeId) (cs : Array Value) : Spec := ⟨ptrBlocks, fun v w => ∃ g, v = .pointer (some ⟨g, 0, none⟩) ∧ Blk w g t cs, fun v => ∃ g, v = .pointer (some ⟨g, 0, none⟩)⟩
/-- A slice of a new block, known whole. -/
def lit (t : TypeId) (cs : Array Value) (n : Nat) : Spec := ⟨fun v => v.ownBlock.toList, fun v w => ∃ g, v = .slice (some ⟨g, 0, none⟩) n n ∧ Blk w g t cs, fun v => ∃ g, v = .slice (some ⟨g, 0, none⟩) n n⟩
end Spec
structure Lasts (S : List Nat) (w0 : World) (s : Spec) : Prop where
  lasts : ∀ v (w w' : World) T, Upd S w0 w → s.R v w → Upd T w w' → (∀ b ∈ T, b ∉ s.fp v) → (∀ b ∈ T, b ∈ S ∨ w0.heap.size ≤ b) → s.R v w'
  wit : ∃ v, s.adm v
  adm : ∀ v w, s.R v w → s.adm v
section
variable {S : List Nat} {w0 : World}
theorem lasts_any : Lasts S w0 .any := ⟨fun _ _ _ _ _ _ _ _ _ => trivial, ⟨undef, trivial⟩, fun _ _ _ => trivial⟩
theorem lasts_det (v0 : Value) : Lasts S w0 (.det v0) := ⟨fun _ _ _ _ _ h _ _ _ => h, ⟨v0, rfl⟩, fun _ _ h => h⟩
theorem lasts_val (F : Value → Prop) (hF : ∃ v, F v) : Lasts S w0 (.val F) := ⟨fun _ _ _ _ _ h _ _ _ => h, hF, fun _ _ h => h⟩
theorem lasts_own (B : Nat) (e : TypeId) (s n : Nat) (xs : List Value) (hn : n ≤ maxLen) : Lasts S w0 (.own B e s n xs) := ⟨fun v w w' T _ h hu hT _ =>
  own_upd h hu fun b hb hm => hT b hm (by simp [Spec.own, hb]), ⟨_, none, n, rfl, Nat.le_refl _, hn⟩, fun _ _ h => own_slice h⟩
theorem lasts_src (s m : Nat) (news : List Value) : Lasts S w0 (.src s m news) := ⟨fun v w w' T _ h hu hT _ =>
  Src.upd h hu fun b hb hm => hT b hm (by simp [Spec.src, hb]), ⟨_, none, m, rfl⟩, fun _ _ h => let ⟨_, A, c, e, _⟩ := h; ⟨A, c, e⟩⟩
theorem lasts_lit (t : TypeId) (cs : Array Value) (n : Nat) : Lasts S w0 (.lit t cs n) := ⟨fun v w w' T _ h hu hT _ => by
  obtain ⟨g, rfl, hb⟩ := h
  exact ⟨g, rfl, hb.upd hu fun hm => hT g hm (by simp [Spec.lit, Value.ownBlock])⟩, ⟨_, 0, rfl⟩, fun _ _ ⟨g, e, _⟩ => ⟨g, e⟩⟩
theorem lasts_box (t : TypeId) (cs : Array Value) : Lasts S w0 (.box t cs) := ⟨fun v w w' T _ h hu hT _ => by
  obtain ⟨g, rfl, hb⟩ := h
  exact ⟨g, rfl, hb.upd hu fun hm => hT g hm (by simp [Spec.box, Spec.ptrBlocks])⟩, ⟨_, 0, rfl⟩, fun _ _ ⟨g, e, _⟩ => ⟨g, e⟩⟩
end
theorem Blk.newAt {W : World} {H : Nat} (t : TypeId) (cs : Array Value) (h : W.heap.size = H) : Blk (W.alloc (.cells cs t)) H t cs := h ▸ Blk.new W t cs
theorem Src.newAt {W : World} {H : Nat} {t : TypeId} {cs : Array Value} {s m : Nat} (h : W.heap.size = H) (c : Nat) (hl : cs.size = m * s) : Src (W.alloc (.cells cs t)) s (.slice (some ⟨H, 0, none⟩) m c) m cs.toList := .of_blk (Blk.newAt t cs h) c hl

def specOf : List (Nat × Spec) → Nat → Spec
  | [], _ => .any
  | (i, s) :: L, j => if j = i then s else specOf L j
def conOf : List (Nat × List Nat) → Nat → List Nat
  | [], _ => []
  | (i, s) :: L, j => if j = i then s else conOf L j
def LastsAll (S : List Nat) (w0 : World) : List (Nat × Spec) → Prop
  | [] => True
  | (_, s) :: L => Lasts S w0 s ∧ LastsAll S w0 L
theorem lastsAll_of {S : List Nat} {w0 : World} : ∀ (L : List (Nat × Spec)), LastsAll S w0 L → ∀ j, Lasts S w0 (specOf L j)
  | [], _, _ => lasts_any
  | (i, s) :: L, h, j => by
    unfold specOf
    split
    · exact h.1
    · exact lastsAll_of L h.2 j
def mkI (S : List Nat) (w0 : World) (K : (Nat → Value) → Nat → World → Prop) (KD : List (Nat × List Nat)) (L : List (Nat × Spec)) (C : List (Nat × List Nat)) (CH : List Nat) (nb : Nat) (tl : List Oper) : Inv :=
  { kd := conOf KD, nb := nb, tl := tl, S := S, w0 := w0, K := K, R := fun j => (specOf L j).R, adm := fun j => (specOf L j).adm, fp := fun j => (specOf L j).fp, con := conOf C, ch := fun j => CH.contains j }

section
variable {P : Program} {ops : Array Oper} {I : Inv} {Q : Exit → Act → World → Prop} {o : Oper} {l : List Oper} {j s : Nat} {A : Act} {G : List (Nat × Value)}
/-- With operations that turn old blocks, one behind the other, and with operations behind all others. -/
theorem wp_invT {id : Nat} {a : Act} {w : World} (nb : Nat) (S : List Nat) (K : (Nat → Value) → Nat → World → Prop) (KD : List (Nat × List Nat)) (L : List (Nat × Spec)) (C : List (Nat × List Nat)) (CH : List Nat) (hm : P.follows .mixedOrders = true) (hnb : nb ≤ l.length) (hc : invB l.toArray (conOf C) (fun j => CH.contains j) = true) (htb : tailB l.toArray nb = true)
    (hkb : kdB l.toArray nb (fun j => CH.contains j) (conOf KD) = true) (hS : ∀ b ∈ S, b < w.heap.size) (hL : LastsAll S w.drew L) (hKu : ∀ s (u u' : Nat → Value) w1, (∀ j, j < nb → CH.contains j = true → ((List.range j).filter (fun j => CH.contains j)).length < s → ∀ h ∈ conOf KD j, u h = u' h) → K u s w1 → K u' s w1)
    (hK : ∀ u s (w1 w' : World) T, K u s w1 → Upd T w1 w' → (∀ b ∈ T, w.heap.size ≤ b) → K u s w') (hK0 : ∀ u, K u 0 w.drew)
    (h : wpV P l.toArray (mkI S w.drew K KD L C CH nb (l.drop nb)) (NoPanic Q) (l.take nb) 0 0 a []) : (Code.region id l.toArray true).wp P Q a w :=
  wp_inv (mkI S w.drew K KD L C CH nb (l.drop nb)) hm rfl hnb rfl hc htb hS (fun j v w1 w' T a b c d e _ => (lastsAll_of L hL j).lasts v w1 w' T a b c d e) (kdOk_of hkb) hKu hK hK0 (fun j => (lastsAll_of L hL j).wit) (fun j v w1 => (lastsAll_of L hL j).adm v w1) h
theorem tailB_all (l : List Oper) (h : floatsOk l.toArray (floats l.toArray) (Array.replicate l.toArray.size false) = true) : tailB l.toArray l.length = true := by
  unfold tailB
  rw [Bool.and_eq_true]
  refine ⟨h, ?_⟩
  rw [List.all_eq_true]
  intro j hj
  have := List.mem_range.1 hj
  simp at this
  simp [this]
/-- With operations that turn old blocks. -/
theorem wp_invK {id : Nat} {a : Act} {w : World} (S : List Nat) (K : (Nat → Value) → Nat → World → Prop) (KD : List (Nat × List Nat)) (L : List (Nat × Spec)) (C : List (Nat × List Nat)) (CH : List Nat) (hm : P.follows .mixedOrders = true) (hc : invB l.toArray (conOf C) (fun j => CH.contains j) = true) (hfo : floatsOk l.toArray (floats l.toArray) (Array.replicate l.toArray.size false) = true)
    (hkb : kdB l.toArray l.length (fun j => CH.contains j) (conOf KD) = true) (hS : ∀ b ∈ S, b < w.heap.size) (hL : LastsAll S w.drew L) (hKu : ∀ s (u u' : Nat → Value) w1, (∀ j, j < l.length → CH.contains j = true → ((List.range j).filter (fun j => CH.contains j)).length < s → ∀ h ∈ conOf KD j, u h = u' h) → K u s w1 → K u' s w1)
    (hK : ∀ u s (w1 w' : World) T, K u s w1 → Upd T w1 w' → (∀ b ∈ T, w.heap.size ≤ b) → K u s w') (hK0 : ∀ u, K u 0 w.drew)
    (h : wpV P l.toArray (mkI S w.drew K KD L C CH l.length []) (NoPanic Q) l 0 0 a []) : (Code.region id l.toArray true).wp P Q a w :=
  wp_invT l.length S K KD L C CH hm (Nat.le_refl _) hc (tailB_all l hfo) hkb hS hL hKu hK hK0 (by rw [List.take_length, List.drop_length]; exact h)
theorem kdB_none (ops : Array Oper) (nb : Nat) : kdB ops nb (fun j => ([] : List Nat).contains j) (conOf []) = true := by
  unfold kdB
  rw [List.all_eq_true]
  intro j _
  simp
/-- Nothing that was there turns. -/
theorem wp_invN {id : Nat} {a : Act} {w : World} (L : List (Nat × Spec)) (C : List (Nat × List Nat)) (hm : P.follows .mixedOrders = true) (hc : invB l.toArray (conOf C) (fun j => ([] : List Nat).contains j) = true) (hfo : floatsOk l.toArray (floats l.toArray) (Array.replicate l.toArray.size false) = true) (hL : LastsAll [] w.drew L)
    (h : wpV P l.toArray (mkI [] w.drew (fun _ _ _ => True) [] L C [] l.length []) (NoPanic Q) l 0 0 a []) : (Code.region id l.toArray true).wp P Q a w :=
  wp_invK [] (fun _ _ _ => True) [] L C [] hm hc hfo (kdB_none _ _) (by simp) hL (fun _ _ _ _ _ _ => trivial) (fun _ _ _ _ _ _ _ _ => trivial) (fun _ => trivial) h
/-- The same, with operations behind all others. -/
theorem wp_invNT {id : Nat} {a : Act} {w : World} (nb : Nat) (L : List (Nat × Spec)) (C : List (Nat × List Nat)) (hm : P.follows .mixedOrders = true) (hnb : nb ≤ l.length) (hc : invB l.toArray (conOf C) (fun j => ([] : List Nat).contains j) = true) (htb : tailB l.toArray nb = true) (hL : LastsAll [] w.drew L)
    (h : wpV P l.toArray (mkI [] w.drew (fun _ _ _ => True) [] L C [] nb (l.drop nb)) (NoPanic Q) (l.take nb) 0 0 a []) : (Code.region id l.toArray true).wp P Q a w :=
  wp_invT nb [] (fun _ _ _ => True) [] L C [] hm hnb hc htb (kdB_none _ _) (by simp) hL (fun _ _ _ _ _ _ => trivial) (fun _ _ _ _ _ _ _ _ => trivial) (fun _ => trivial) h
theorem wpT_op {a : Act} {w : World} (hw : Region.wanted o (yielded ops a.tmps) = true) (h : ∀ K : Act → World → Prop, Hid (∀ a' w', wpT P ops Q l a' w' → K a' w') → o.wp P a w K Q) : wpT P ops Q (o :: l) a w := by
  unfold wpT
  rw [if_pos hw]
  exact h _ (Lib.hid fun _ _ h => h)
theorem wpT_skip {a : Act} {w : World} (hw : Region.wanted o (yielded ops a.tmps) = false) (h : wpT P ops Q l (a.put o.dst undef) w) : wpT P ops Q (o :: l) a w := by
  unfold wpT
  rw [if_neg (by rw [hw]; simp)]
  exact h
theorem wpT_end {a : Act} {w : World} (h : Q .normal a w) : wpT P ops (NoPanic Q) [] a w := h

theorem wpV_light {v : Value} (hl : lightOp o.op = true) (h1 : ∀ w, Upd I.S I.w0 w → Hid (factsV I (availB ops I.con j) G w) → if Region.wanted o (yielded ops A.tmps) then litStep ((execOp A.eval o).run P w) w (fun x => x = v) else v = undef)
    (h2 : wpV P ops I Q l (j + 1) s (A.put o.dst v) G) : wpV P ops I Q (o :: l) j s A G := by
  unfold wpV
  rw [if_pos hl]
  exact ⟨v, fun w hu hf => h1 w hu (Lib.hid hf), h2⟩
theorem wpV_skip (hw : Region.wanted o (yielded ops A.tmps) = false) (hl : lightOp o.op = true) (h2 : wpV P ops I Q l (j + 1) s (A.put o.dst undef) G) : wpV P ops I Q (o :: l) j s A G := by
  unfold wpV
  rw [if_pos hl]
  exact ⟨undef, fun w _ _ => by rw [hw]; rfl, h2⟩
theorem wpV_heavy (hl : lightOp o.op = false) (hw : Region.wanted o (yielded ops A.tmps) = true)
    (h1 : ∀ w, Upd I.S I.w0 w → (I.ch j = true → I.K (look G) s w) → Hid (factsV I (availB ops I.con j) G w) → ∀ K : Act → World → Prop, Hid (∀ v w', outV I j s G w v w' → K (A.put o.dst v) w') → o.wp P A w K Q)
    (h2 : ∀ v, I.adm j v → wpV P ops I Q l (j + 1) (if I.ch j then s + 1 else s) (A.put o.dst v) (G ++ [(j, v)])) : wpV P ops I Q (o :: l) j s A G := by
  unfold wpV
  rw [if_neg (by rw [hl]; simp)]
  refine ⟨fun w hu hk hf => ?_, h2⟩
  rw [if_pos hw]
  exact h1 w hu hk (Lib.hid hf) _ (Lib.hid fun v w' h => ⟨v, rfl, h⟩)
/-- A slice literal. -/
theorem wpV_lit {S : List Nat} {w0 : World} {Kx : (Nat → Value) → Nat → World → Prop} {KD : List (Nat × List Nat)} {L : List (Nat × Spec)} {C : List (Nat × List Nat)} {CH : List Nat} {nb : Nat} {tl : List Oper} {t : TypeId} {cs : Array Value} {n H : Nat} {w : World} {K : Act → World → Prop} {A : Act} {d : Option Tmp}
    (hK : Hid (∀ v w', outV (mkI S w0 Kx KD L C CH nb tl) j s G w v w' → K (A.put d v) w')) (hch : CH.contains j = false) (hs : specOf L j = .lit t cs n) (hH : w.heap.size = H) : K (A.put d (.slice (some ⟨H, 0, none⟩) n n)) (w.alloc (.cells cs t)) := by
  subst hH
  refine hK.out _ _ ⟨?_, fun b hb => ?_, ?_, fun h => ?_⟩
  · show (specOf L j).R _ _
    rw [hs]
    exact ⟨_, rfl, Blk.new _ _ _⟩
  · have hb' : b ∈ (specOf L j).fp (.slice (some ⟨w.heap.size, 0, none⟩) n n) := hb
    rw [hs] at hb'
    simp [Spec.lit, Value.ownBlock] at hb'
    subst hb'
    exact .inr ⟨Nat.le_refl _, by simp⟩
  · show Upd (if CH.contains j = true then _ else _) _ _
    rw [hch]
    exact ((Upd.refl [] w).alloc _).mono (by simp)
  · have : CH.contains j = true := h
    rw [hch] at this
    cases this
theorem wpV_heavySkip (hl : lightOp o.op = false) (hw : Region.wanted o (yielded ops A.tmps) = false) (h1 : ∀ w, Upd I.S I.w0 w → (I.ch j = true → I.K (look G) s w) → outV I j s G w undef w)
    (h2 : ∀ v, I.adm j v → wpV P ops I Q l (j + 1) (if I.ch j then s + 1 else s) (A.put o.dst v) (G ++ [(j, v)])) : wpV P ops I Q (o :: l) j s A G := by
  unfold wpV
  rw [if_neg (by rw [hl]; simp)]
  refine ⟨fun w hu hk hf => ?_, h2⟩
  rw [hw]
  exact h1 w hu hk
theorem wpV_end (h : ∀ w, Upd I.S I.w0 w → I.K (look G) s w → Hid (factsV I (endB ops I.con) G w) → Hid (apartV I (endB ops I.con) G) → wpT P ops Q I.tl A w) : wpV P ops I Q [] j s A G := fun w hu hk hf ha => h w hu hk (Lib.hid hf) (Lib.hid ha)
/-- What an operation leaves that turns nothing and uses nothing up. -/
theorem outV_new {w w' : World} {v : Value} (hch : I.ch j = false) (hr : I.R j v w') (hfp : ∀ b ∈ I.fp j v, w.heap.size ≤ b ∧ b < w'.heap.size) (hu : Upd [] w w') : outV I j s G w v w' :=
  ⟨hr, fun b hb => .inr (hfp b hb), by rw [hch]; exact hu.mono (by simp), by rw [hch]; simp⟩
end
end Go.Proofs.YteddiknlcdbhjaaGreat.Vk

namespace Go.Proofs.YteddiknlcdbhjaaGreat.Vk
open Go Go.RowKit

/-- What append leaves: if its block is new, it is told so. -/
def appNew (H B : Nat) (e : TypeId) (s n : Nat) (xs : List Value) : Spec := ⟨fun v => v.ownBlock.toList.filter (fun b => decide (H ≤ b)), fun v w => (∀ b, v.ownBlock = some b → H ≤ b) → w.ownsRow B e s v n xs, fun v => True⟩
theorem lasts_appNew (H B : Nat) (e : TypeId) (s n : Nat) (xs : List Value) (S : List Nat) (w0 : World) : Lasts S w0 (appNew H B e s n xs) := ⟨fun v w w' T _ h hu hT _ hv =>
  own_upd (h hv) hu fun b hb hm => hT b hm (by simp [appNew, hb, hv b hb]), ⟨undef, trivial⟩, fun _ _ _ => trivial⟩
/-- What holds of its block, if that was there. -/
def KApp (H : Nat) (vv : Value) (B : Nat) (e : TypeId) (sz n0 : Nat) (xs0 : List Value) (n1 : Nat) (xs1 : List Value) (j : Nat) (u : Nat → Value) : Nat → World → Prop
  | 0, w => w.ownsRow B e sz vv n0 xs0
  | _ + 1, w => ((∀ b, (u j).ownBlock = some b → b < H) → w.ownsRow B e sz (u j) n1 xs1) ∧ ∀ b, (u j).ownBlock = some b → b < H → vv.ownBlock = some b
section
variable {H : Nat} {vv : Value} {B : Nat} {e : TypeId} {sz n0 : Nat} {xs0 : List Value} {n1 : Nat} {xs1 : List Value} {j : Nat}
theorem kapp_lasts {u : Nat → Value} {w w' : World} {T : List Nat} (hu : Upd T w w') (hT : ∀ b ∈ T, H ≤ b) (hv : ∀ b, vv.ownBlock = some b → b < H) : ∀ s, KApp H vv B e sz n0 xs0 n1 xs1 j u s w → KApp H vv B e sz n0 xs0 n1 xs1 j u s w'
  | 0, h => own_upd h hu fun b hb hm => by have := hv b hb; have := hT b hm; omega
  | _ + 1, h => ⟨fun hb' => own_upd (h.1 hb') hu fun b hb hm => by have := hb' b hb; have := hT b hm; omega, h.2⟩
theorem kapp_congr {u u' : Nat → Value} {w : World} {s : Nat} (h : 0 < s → u j = u' j) (hk : KApp H vv B e sz n0 xs0 n1 xs1 j u s w) : KApp H vv B e sz n0 xs0 n1 xs1 j u' s w := by
  cases s with
  | zero => exact hk
  | succ s =>
    show ((∀ b, (u' j).ownBlock = some b → b < H) → w.ownsRow B e sz (u' j) n1 xs1) ∧ ∀ b, (u' j).ownBlock = some b → b < H → vv.ownBlock = some b
    rw [← h (by omega)]
    exact hk
/-- Both together. -/
theorem app_end {v : Value} {u : Nat → Value} {w : World} (hr : (appNew H B e sz n1 xs1).R v w) (hk : KApp H vv B e sz n0 xs0 n1 xs1 j u 1 w) (hu : u j = v) : w.ownsRow B e sz v n1 xs1 ∧ ∀ b, v.ownBlock = some b → b < H → vv.ownBlock = some b := by
  have hk' : (∀ b, v.ownBlock = some b → b < H) → w.ownsRow B e sz v n1 xs1 := by rw [← hu]; exact hk.1
  refine ⟨?_, by rw [← hu]; exact hk.2⟩
  cases hb : v.ownBlock with
  | none => exact hr (fun b h => by rw [hb] at h; cases h)
  | some b =>
    rcases Nat.lt_or_ge b H with h | h
    · exact hk' (fun b' h' => by rw [hb] at h'; cases h'; exact h)
    · exact hr (fun b' h' => by rw [hb] at h'; cases h'; exact h)
variable {P : Program} {ops : Array Oper} {Q : Exit → Act → World → Prop} {o : Oper} {G : List (Nat × Value)} {w0 w w' : World} {L : List (Nat × Spec)} {KD C : List (Nat × List Nat)} {nb : Nat} {tl : List Oper} {v' : Value}
theorem outV_appK (hH : H ≤ w.heap.size) (hv : ∀ b, vv.ownBlock = some b → b < H) (hj : [j].contains j = true) (hsp : specOf L j = appNew H B e sz n1 xs1) (hG : ∀ p ∈ G, p.1 ≠ j)
    (o' : w'.ownsRow B e sz v' n1 xs1) (u' : Upd vv.ownBlock.toList w w') (b' : v'.ownBlock = vv.ownBlock ∨ v'.ownBlock = some w.heap.size) :
    outV (mkI vv.ownBlock.toList w0 (fun u s w => KApp H vv B e sz n0 xs0 n1 xs1 j u s w) KD L C [j] nb tl) j 0 G w v' w' := by
  refine ⟨?_, fun b hb => ?_, ?_, fun _ => ?_⟩
  · show (specOf L j).R _ _
    rw [hsp]
    exact fun _ => o'
  · have hb1 : b ∈ (specOf L j).fp v' := hb
    rw [hsp] at hb1
    simp only [appNew, List.mem_filter, decide_eq_true_eq] at hb1
    have hb2 : v'.ownBlock = some b := by simpa using hb1.1
    rcases b' with h | h
    · rw [hb2] at h
      have := hv b h.symm
      omega
    · rw [hb2] at h
      cases h
      exact .inr ⟨Nat.le_refl _, (own_lt o' hb2).2⟩
  · show Upd (if [j].contains j = true then _ else _) _ _
    rw [if_pos hj]
    exact u'.mono (fun x hx => .inl (List.mem_append_left _ hx))
  · show ((∀ b, (look (G ++ [(j, v')]) j).ownBlock = some b → b < H) → w'.ownsRow B e sz (look (G ++ [(j, v')]) j) n1 xs1) ∧ ∀ b, (look (G ++ [(j, v')]) j).ownBlock = some b → b < H → vv.ownBlock = some b
    rw [look_snoc hG]
    refine ⟨fun _ => o', fun b hb hlt => ?_⟩
    rcases b' with h | h
    · rw [← h, hb]
    · rw [hb] at h
      cases h
      omega
end
end Go.Proofs.YteddiknlcdbhjaaGreat.Vk

namespace Go.Proofs.YteddiknlcdbhjaaGreat
open Go.RowKit TrP
attribute [local go_sem] litStep_value

def IndexPost (L : List Int) (x : Int) (w : World) (e : Ending) (w' : World) : Prop := ∃ r : Int, e = .returned (.int .i64 r) ∧ (0 ≤ r ↔ x ∈ L) ∧ w = w'
set_option maxRecDepth 100000 in
theorem index_ok (A : Option Addr) (n k : Nat) (L : List Int) (x : Int) (w : World) (h : Rd encK w (.slice A n k) L) (hn : L.length = n) (hl : n ≤ 1000) :
    Calls Tryz.prog 77 #[.slice A n k, .int .i64 x] w fun e w' => IndexPost L x w e w' := by
  have H := Lib.hid h
  have HN := Lib.hid hn
  clear h hn
  go_enter Tryz.func77, Tryz.ntmps77
  go_wp2_with fail
  go_loop [8] (fun u => ∃ j : Nat, u = .int .i64 j ∧ j ≤ n ∧ Hid (∀ y ∈ L.take j, y ≠ x)) (fun u => n - (intOf u).toNat)
  case atStart => exact ⟨0, rfl, by omega, Lib.hid (by simp)⟩
  case round =>
    obtain ⟨j, rfl, hj, HA⟩ := hrel
    by_cases hjn : j < n
    · obtain ⟨y, hy⟩ : ∃ y, L[j]? = some y := ⟨_, List.getElem?_eq_getElem (by rw [HN.out]; omega)⟩
      obtain ⟨ad, rfl, hb, hc⟩ := H.out.at_ hy
      have f0 : w.cell? (ad.add (j * 1)) = some (.int .i64 y) := hc 0 _ rfl
      rw [Nat.mul_one] at f0
      have HY := Lib.hid hy
      have q3 : (0 : Int) ≤ (j : Int) := by omega
      have q4 : (j : Int) < (n : Int) := by omega
      clear hy hc
      by_cases hxy : x = y
      · subst hxy
        go_wp2_with fail
        go_ret
        exact ⟨_, rfl, ⟨fun _ => List.mem_of_getElem? HY.out, fun _ => q3⟩, rfl⟩
      · have d : (x == y) = false := by simpa using hxy
        have HZ : Hid (∀ z ∈ L.take (j + 1), z ≠ x) := Lib.hid (fun z hz => by
          rw [List.take_add_one, HY.out] at hz
          rcases List.mem_append.1 hz with hz | hz
          · exact HA.out z hz
          · simp at hz; subst hz; exact fun e => hxy e.symm)
        go_wp2_with fail
        go_round
        case rel => exact ⟨j + 1, by go_num, by omega, HZ⟩
        case measure => simp [intOf]; omega
    · have : j = n := by omega
      subst this
      go_wp2_with fail
      go_ret
      refine ⟨_, rfl, ⟨fun h => by omega, fun h => ?_⟩, rfl⟩
      have h1 := HA.out
      rw [List.take_of_length_le (by rw [HN.out]; exact Nat.le_refl _)] at h1
      exact absurd rfl (h1 x h)
theorem contains_ok (A : Option Addr) (n k : Nat) (L : List Int) (x : Int) (w : World) (h : Rd encK w (.slice A n k) L) (hn : L.length = n) (hl : n ≤ 1000) :
    Calls Tryz.prog 61 #[.slice A n k, .int .i64 x] w fun e w' => e = .returned (.bool (decide (x ∈ L))) ∧ w = w' := by
  go_enter Tryz.func61, Tryz.ntmps61
  go_wp2_with fail
  refine (index_ok A n k L x w h hn hl).mono ?_; rintro e w1 ⟨r, rfl, hr, rfl⟩
  have hd : decide (0 ≤ r) = decide (x ∈ L) := decide_eq_decide.2 hr
  go_wp2_with fail
  go_ret
  exact ⟨by rw [← hd]; rfl, rfl⟩
end Go.Proofs.YteddiknlcdbhjaaGreat

/-
  A region that draws its order, each of whose operations does what it does in whatever order: the induction over the orders. No program in sight.
-/
import Derived.Test.YtblfklnnojhadaaDoorInv2
namespace Go.Proofs.YtblfklnnojhadaaDoor
open Go Go.RowKit

section
variable {P : Program} {ops : Array Oper} {I : Inv} {Q : Exit → Act → World → Prop} {a : Act}

theorem getD_set {L : Array Bool} {j : Nat} (hj : j < L.size) (i : Nat) (b : Bool) : (L.setIfInBounds j true).getD i b = if i = j then true else L.getD i b := by
  simp only [Array.getD_eq_getD_getElem?, Array.getElem?_setIfInBounds]
  by_cases h : j = i
  · subst h; simp [hj]
  · rw [if_neg h, if_neg (fun e => h e.symm)]
theorem anc_listed (ok : InvOk ops I) {L : Array Bool} (cl : ∀ y x, y < ops.size → L.getD y false = true → depB ops y x = true → L.getD x false = true) : ∀ (m j : Nat), j < m → j < ops.size → (∀ x, depB ops j x = true → L.getD x false = true) → ∀ h, ancB ops j h = true → L.getD h false = true
  | 0, j, hm, _, _, h, _ => by omega
  | m + 1, j, hm, hj, hd, h, ha => by
    obtain ⟨x, hx, hh⟩ := (anc_iff hj (ok.back j hj)).1 ha
    have hxl := hd x hx
    rcases hh with rfl | hh
    · exact hxl
    · have hxj : x < j := by
        have := ok.back j hj
        unfold depsBack at this
        unfold depB at hx
        rw [Array.getElem?_eq_getElem hj] at this hx
        simp only [Array.all_eq_true, Array.any_eq_true, Bool.or_eq_true, Bool.and_eq_true, decide_eq_true_eq, Bool.not_eq_true', beq_iff_eq] at this hx
        obtain ⟨i, hi, he, rfl⟩ := hx
        exact (this i hi).resolve_left (by rw [he]; simp)
      exact anc_listed ok cl m x (by omega) (by omega) (fun y hy => cl x y (by omega) hxl hy) h hh
theorem anc_trans (ok : InvOk ops I) {j x h : Nat} (hj : j < ops.size) (hx : depB ops j x = true) (hh : ancB ops x h = true) : ancB ops j h = true := (anc_iff hj (ok.back j hj)).2 ⟨x, hx, .inr hh⟩
theorem anc_dep (ok : InvOk ops I) {j x : Nat} (hj : j < ops.size) (hx : depB ops j x = true) : ancB ops j x = true := (anc_iff hj (ok.back j hj)).2 ⟨x, hx, .inl rfl⟩
theorem dep_lt (ok : InvOk ops I) {j x : Nat} (hj : j < ops.size) (hx : depB ops j x = true) : x < j := by
  have := ok.back j hj
  unfold depsBack at this
  unfold depB at hx
  rw [Array.getElem?_eq_getElem hj] at this hx
  simp only [Array.all_eq_true, Array.any_eq_true, Bool.or_eq_true, Bool.and_eq_true, decide_eq_true_eq, Bool.not_eq_true', beq_iff_eq] at this hx
  obtain ⟨i, hi, he, rfl⟩ := hx
  exact (this i hi).resolve_left (by rw [he]; simp)

/-- What an operation looks at reads the same in any two frames that agree on what it waits for. -/
theorem look_same (ok : InvOk ops I) {j : Nat} {o : Oper} (ho : ops[j]? = some o) {V V' : Nat → Value} {X Y : Nat → Bool}
    (hX : ∀ x, x < ops.size → depB ops j x = true → X x = true ∧ Y x = true ∧ V x = V' x) (hno : ∀ x, x < ops.size → (x = j ∨ depB ops x j = true) → X x = false ∧ Y x = false) :
    ∀ t ∈ o.looksAt ops, (putX ops V X (List.range ops.size) a).tmps[t]? = (putX ops V' Y (List.range ops.size) a).tmps[t]? := by
  intro t ht
  have hj : j < ops.size := (Array.getElem?_eq_some_iff.1 ho).1
  have htj : (lookOf ops j).contains t = true := by unfold lookOf; rw [ho]; simpa using ht
  have cls : ∀ x, x < ops.size → dstOf ops x = some t → depB ops j x = true ∨ x = j ∨ depB ops x j = true := by
    intro x hx hd
    rcases Nat.lt_trichotomy x j with h | h | h
    · have hp := ok.pair j hj x h
      unfold pairOk at hp
      rw [hd] at hp
      simp only [Bool.and_eq_true, Bool.or_eq_true, htj, Bool.not_true, Bool.false_eq_true, false_or] at hp
      exact .inl hp.1.2
    · exact .inr (.inl h)
    · have hp := ok.pair x hx j h
      unfold pairOk at hp
      rw [hd] at hp
      simp only [Bool.and_eq_true, Bool.or_eq_true, htj, Bool.not_true, Bool.false_eq_true, false_or] at hp
      exact .inr (.inr hp.2)
  -- through one frame that has only what it waits for
  have e1 : (putX ops V X (List.range ops.size) a).tmps[t]? = (putX ops V (fun x => depB ops j x) (List.range ops.size) a).tmps[t]? :=
    putX_get _ a a (fun x hx hd => by
      have hxn := List.mem_range.1 hx
      rcases cls x hxn hd with h | h
      · rw [(hX x hxn h).1, h]
      · rw [(hno x hxn h).1]
        cases hc : depB ops j x with
        | false => rfl
        | true => have := (hno x hxn h).1; rw [(hX x hxn hc).1] at this; cases this) rfl rfl
  have e2 : (putX ops V' Y (List.range ops.size) a).tmps[t]? = (putX ops V' (fun x => depB ops j x) (List.range ops.size) a).tmps[t]? :=
    putX_get _ a a (fun x hx hd => by
      have hxn := List.mem_range.1 hx
      rcases cls x hxn hd with h | h
      · rw [(hX x hxn h).2.1, h]
      · rw [(hno x hxn h).2]
        cases hc : depB ops j x with
        | false => rfl
        | true => have := (hno x hxn h).2; rw [(hX x hxn hc).2.1] at this; cases this) rfl rfl
  rw [e1, e2, putX_congr' (V' := V') _ _ (fun _ _ => rfl) (fun x hx hd => (hX x (List.mem_range.1 hx) hd).2.2)]

/-- The frame as it is has what is listed. -/
def Bat (ops : Array Oper) (a : Act) (u : Nat → Value) (L : Array Bool) : Act := putX ops u (fun x => L.getD x false) (List.range ops.size) a
theorem Bat_set (ok : InvOk ops I) {L : Array Bool} {j : Nat} {o : Oper} (ho : ops[j]? = some o) (hsz : L.size = ops.size) (hun : L.getD j false = false) (u : Nat → Value) (v : Value) :
    (Bat ops a u L).put o.dst v = Bat ops a (fun x => if x = j then v else u x) (L.setIfInBounds j true) := by
  have hj : j < ops.size := (Array.getElem?_eq_some_iff.1 ho).1
  have hd : dstOf ops j = o.dst := by simp [dstOf, ho]
  unfold Bat
  rw [putX_congr' (V' := fun x => if x = j then v else u x) (Y := fun x => L.getD x false) (List.range ops.size) a (fun _ _ => rfl) (fun x _ hx => by
    have : x ≠ j := fun e => by subst e; rw [hun] at hx; cases hx
    simp [this])]
  have := putX_add (ops := ops) (V := fun x => if x = j then v else u x) (X := fun x => L.getD x false) (j := j) hun (List.range ops.size) a (List.mem_range.2 hj) List.nodup_range (fun x hx hne t ht => ok.distinct hj (List.mem_range.1 hx) hne t ht)
  simp only [if_true, hd] at this
  rw [← this]
  refine putX_congr _ _ (fun x _ => ?_) (fun _ _ => rfl)
  rw [getD_set (by omega)]
  by_cases h : x = j
  · subst h; simp
  · simp [h]

theorem inv_main (ok : InvOk ops I) (hS : ∀ b ∈ I.S, b < I.w0.heap.size)
    (hR : ∀ j v (w w' : World) T, Upd I.S I.w0 w → I.R j v w → Upd T w w' → (∀ b ∈ T, b ∉ I.fp j v) → (∀ b ∈ T, b ∈ I.S ∨ I.w0.heap.size ≤ b) → I.R j v w')
    (hK : ∀ s (w w' : World) T, I.K s w → Upd T w w' → (∀ b ∈ T, I.w0.heap.size ≤ b) → I.K s w')
    (hadm : ∀ j v w, I.R j v w → I.adm j v) (hflat : ∀ e : Nat → Value, (∀ h, lightAt ops h = false → I.adm h (e h)) → ∃ V, (∀ h, h < ops.size → lightAt ops h = false → V h = e h) ∧ Flat P ops I (NoPanic Q) a V) :
    ∀ (fuel : Nat) (L : Array Bool) (u : Nat → Value) (w : World), StI P ops I (NoPanic Q) a L u w → ((List.range ops.size).filter (fun x => !L.getD x false)).length ≤ fuel → wpAny P .any ops (NoPanic Q) fuel L (Bat ops a u L) w := by
  intro fuel
  have last : ∀ (L : Array Bool) (u : Nat → Value) (w : World), StI P ops I (NoPanic Q) a L u w → Region.ready .any ops L = [] → NoPanic Q .normal (Bat ops a u L) w := by
    intro L u w st hr
    have hall : ∀ m, m < ops.size → L.getD m false = true := by
      intro m
      induction m using Nat.strongRecOn with
      | _ m ihm =>
        intro hm
        cases hc : L.getD m false with
        | true => rfl
        | false =>
          exfalso
          have : m ∈ Region.ready .any ops L := mem_ready.2 ⟨hm, by rw [getD_size (by rw [st.sz]; exact hm) true false]; exact hc, fun x hx => ihm x (dep_lt ok hm hx) (by have := dep_lt ok hm hx; omega)⟩
          rw [hr] at this
          simp at this
    obtain ⟨V, hV, hf, he⟩ := hflat u st.i7
    have hVu : ∀ x, x < ops.size → V x = u x := fun x hx => by
      cases hl : lightAt ops x with
      | false => exact hV x hx hl
      | true => exact st.i6 x hx hl (hall x hx) V ⟨hf, he⟩ fun h hh hhl _ => hV h hh hhl
    have hb : Bat ops a u L = Aat ops a V ops.size := by
      unfold Bat Aat
      exact putX_congr' _ _ (fun x hx => by rw [hall x (List.mem_range.1 hx)]; simpa using hx) (fun x hx _ => (hVu x (List.mem_range.1 hx)).symm)
    rw [hb]
    refine he w st.i1 ?_ (facts_of _ fun p hp hok => ?_)
    · have : (List.range ops.size).filter (fun x => I.ch x && L.getD x false) = (List.range ops.size).filter I.ch := List.filter_congr fun x hx => by rw [hall x (List.mem_range.1 hx), Bool.and_true]
      have h2 := st.i2
      rw [this] at h2
      exact h2
    · obtain ⟨h1, h2, h3⟩ := mem_Gat hp
      rw [h3, hVu _ h1]
      refine st.i3 _ ⟨h1, h2, hall _ h1, fun y hy _ => ?_⟩
      unfold endB at hok
      have := List.all_eq_true.1 hok y (List.mem_range.2 hy)
      simpa using this
  induction fuel with
  | zero =>
    intro L u w st hf
    have hr : Region.ready .any ops L = [] := by
      rw [List.eq_nil_iff_forall_not_mem]
      intro j hj
      obtain ⟨hjn, hun, _⟩ := mem_ready.1 hj
      have h0 : (List.range ops.size).filter (fun x => !L.getD x false) = [] := List.length_eq_zero_iff.1 (by omega)
      rw [List.filter_eq_nil_iff] at h0
      have := h0 j (List.mem_range.2 hjn)
      rw [getD_size (by rw [st.sz]; exact hjn) true false] at hun
      rw [hun] at this
      simp at this
    exact ⟨hr, last L u w st hr⟩
  | succ fuel ih =>
    intro L u w st hf
    refine ⟨fun hr => last L u w st hr, fun j hj => ?_⟩
    obtain ⟨hjn, hun0, hdep⟩ := mem_ready.1 hj
    have hun : L.getD j false = false := by rw [getD_size (by rw [st.sz]; exact hjn) false true]; exact hun0
    obtain ⟨o, ho⟩ : ∃ o, ops[j]? = some o := ⟨_, Array.getElem?_eq_getElem hjn⟩
    have hla := lightAt_some ho
    obtain ⟨V, hV, hF⟩ := hflat u st.i7
    have ancl := anc_listed ok st.cl (j + 1) j (by omega) hjn hdep
    have ancl' : ∀ y, y < ops.size → L.getD y false = true → ∀ h, ancB ops y h = true → L.getD h false = true := fun y hy hyl => anc_listed ok st.cl (y + 1) y (by omega) hy (fun x hx => st.cl y x hy hyl hx)
    have hVu : ∀ x, x < ops.size → L.getD x false = true → V x = u x := fun x hx hxl => by
      cases hl : lightAt ops x with
      | false => exact hV x hx hl
      | true => exact st.i6 x hx hl hxl V hF fun h hh hhl _ => hV h hh hhl
    have noAnc : ∀ y, y < ops.size → ancB ops y j = true → L.getD y false = false := fun y hy ha => by
      cases hc : L.getD y false with
      | false => rfl
      | true => have := ancl' y hy hc j ha; rw [hun] at this; cases this
    have later : ∀ x, x < ops.size → (x = j ∨ depB ops x j = true) → L.getD x false = false := fun x hx h => by
      rcases h with rfl | h
      · exact hun
      · exact noAnc x hx (anc_dep ok hx h)
    have notlt : ∀ x, x < ops.size → (x = j ∨ depB ops x j = true) → ¬ x < j := fun x hx h => by
      rcases h with rfl | h
      · omega
      · have := dep_lt ok hx h; omega
    have agree := look_same (a := a) ok ho (V := V) (V' := u) (X := fun x => decide (x < j)) (Y := fun x => L.getD x false)
      (fun x hx hd => ⟨by simpa using dep_lt ok hjn hd, hdep x hd, hVu x hx (hdep x hd)⟩) (fun x hx h => ⟨by simpa using notlt x hx h, later x hx h⟩)
    obtain ⟨hex, hwt⟩ := look_congr agree (fun cs b => ok.sel j o cs b ho)
    change execOp (Aat ops a V j).eval o = execOp (Bat ops a u L).eval o at hex
    change Region.wanted o (yielded ops (Aat ops a V j).tmps) = Region.wanted o (yielded ops (Bat ops a u L).tmps) at hwt
    have live_of : ∀ (V' : Nat → Value), (∀ h, h < ops.size → lightAt ops h = false → ancB ops j h = true → V' h = u h) → factsV I (availB ops I.con j) (Gat ops V' j) w := by
      intro V' hV'
      refine facts_of _ fun p hp hok => ?_
      obtain ⟨h1, h2, h3⟩ := mem_Gat hp
      unfold availB at hok
      rw [Bool.and_eq_true, List.all_eq_true] at hok
      rw [h3, hV' _ (by omega) h2 hok.1]
      refine st.i3 _ ⟨by omega, h2, ancl _ hok.1, fun y hy hyl hm => ?_⟩
      have := hok.2 y (List.mem_range.2 hy)
      simp only [Bool.or_eq_true, Bool.not_eq_true', beq_iff_eq] at this
      rcases this with (h4 | h4) | h4
      · simp at h4; exact h4 hm
      · subst h4; rw [hun] at hyl; cases hyl
      · rw [noAnc y hy h4] at hyl; cases hyl
    have hfacts := live_of V (fun h hh hhl _ => hV h hh hhl)
    have hOb := hF.1 j hjn o ho
    have hsz' : (L.setIfInBounds j true).size = ops.size := by simpa using st.sz
    have hjL : j < L.size := by rw [st.sz]; exact hjn
    have cl' : ∀ y x, y < ops.size → (L.setIfInBounds j true).getD y false = true → depB ops y x = true → (L.setIfInBounds j true).getD x false = true := by
      intro y x hy h1 h2
      rw [getD_set hjL] at h1 ⊢
      by_cases hxj : x = j
      · rw [if_pos hxj]
      · rw [if_neg hxj]
        by_cases hyj : y = j
        · subst hyj; exact hdep x h2
        · rw [if_neg hyj] at h1
          exact st.cl y x hy h1 h2
    have hfuel : ((List.range ops.size).filter (fun x => !(L.setIfInBounds j true).getD x false)).length ≤ fuel := by
      have h1 : (List.range ops.size).filter (fun x => !(L.setIfInBounds j true).getD x false) = ((List.range ops.size).filter (fun x => !L.getD x false)).filter (fun x => x != j) := by
        rw [List.filter_filter]
        apply List.filter_congr
        intro x _
        rw [getD_set hjL]
        by_cases h : x = j
        · subst h; simp
        · simp [h]
      have hmem : j ∈ (List.range ops.size).filter (fun x => !L.getD x false) := List.mem_filter.2 ⟨List.mem_range.2 hjn, by simp [hun]⟩
      have h2 : (((List.range ops.size).filter (fun x => !L.getD x false)).filter (fun x => x != j)).length < ((List.range ops.size).filter (fun x => !L.getD x false)).length := by
        rw [List.length_filter_lt_length_iff_exists]
        exact ⟨j, hmem, by simp⟩
      rw [h1]
      omega
    have i6' : ∀ v, (lightAt ops j = true → ∀ V', Flat P ops I (NoPanic Q) a V' → (∀ h, h < ops.size → lightAt ops h = false → ancB ops j h = true → V' h = u h) → V' j = v) →
        ∀ i, i < ops.size → lightAt ops i = true → (L.setIfInBounds j true).getD i false = true → ∀ V', Flat P ops I (NoPanic Q) a V' → (∀ h, h < ops.size → lightAt ops h = false → ancB ops i h = true → V' h = (if h = j then v else u h)) → V' i = (if i = j then v else u i) := by
      intro v hv i hi hil hl V' hV' hag
      rw [getD_set hjL] at hl
      by_cases hij : i = j
      · subst hij
        rw [if_pos rfl]
        refine hv hil V' hV' fun h hh hhl ha => ?_
        have := hag h hh hhl ha
        rwa [if_neg (fun e => by subst e; rw [hil] at hhl; cases hhl)] at this
      · rw [if_neg hij] at hl ⊢
        refine st.i6 i hi hil hl V' hV' fun h hh hhl ha => ?_
        have := hag h hh hhl ha
        rwa [if_neg (fun e => by subst e; have := ancl' i hi hl h ha; rw [hun] at this; cases this)] at this
    cases hlo : lightOp o.op with
    | true =>
      rw [hlo] at hOb hla
      simp only [if_true] at hOb
      have hcj := ok.light j hjn hla
      have hrun := hOb w st.i1 hfacts
      have hlive : ∀ h, Live ops I (L.setIfInBounds j true) h → Live ops I L h ∧ h ≠ j := by
        rintro h ⟨h1, h2, h3, h4⟩
        have hne : h ≠ j := fun e => by subst e; rw [hla] at h2; cases h2
        rw [getD_set hjL, if_neg hne] at h3
        refine ⟨⟨h1, h2, h3, fun y hy hyl => h4 y hy ?_⟩, hne⟩
        rw [getD_set hjL]
        split
        · rfl
        · exact hyl
      have next : wpAny P .any ops (NoPanic Q) fuel (L.setIfInBounds j true) ((Bat ops a u L).put o.dst (V j)) w := by
        rw [Bat_set ok ho st.sz hun]
        refine ih _ _ w ⟨hsz', cl', st.i1, ?_, fun h hh => ?_, fun h hh => ?_, fun h h' hh hh' => ?_, fun h hl => by simp only [if_neg (fun (e : h = j) => by subst e; rw [hla] at hl; cases hl)]; exact st.i7 h hl, i6' (V j) ?_⟩ hfuel
        · have : (List.range ops.size).filter (fun x => I.ch x && (L.setIfInBounds j true).getD x false) = (List.range ops.size).filter (fun x => I.ch x && L.getD x false) := List.filter_congr fun x _ => by
            rw [getD_set hjL]
            by_cases h : x = j
            · subst h; simp [hcj.2]
            · rw [if_neg h]
          have h2 := st.i2
          rw [← this] at h2
          exact h2
        · obtain ⟨h1, h2⟩ := hlive h hh
          simp only [if_neg h2]
          exact st.i3 h h1
        · obtain ⟨h1, h2⟩ := hlive h hh
          simp only [if_neg h2]
          exact st.i4 h h1
        · obtain ⟨h1, h2⟩ := hlive h hh
          obtain ⟨h3, h4⟩ := hlive h' hh'
          simp only [if_neg h2, if_neg h4]
          exact st.i5 h h' h1 h3
        · intro _ V' hV' hag
          have hrun' := hV'.1 j hjn o ho
          rw [hlo] at hrun'
          simp only [if_true] at hrun'
          have hrun' := hrun' w st.i1 (live_of V' hag)
          have hVV : ∀ x, x < ops.size → depB ops j x = true → V' x = V x := fun x hx hd => by
            rw [hVu x hx (hdep x hd)]
            cases hl : lightAt ops x with
            | false => exact hag x hx hl (anc_dep ok hjn hd)
            | true => exact st.i6 x hx hl (hdep x hd) V' hV' fun h hh hhl ha => hag h hh hhl (anc_trans ok hjn hd ha)
          have agree' := look_same (a := a) ok ho (V := V') (V' := V) (X := fun x => decide (x < j)) (Y := fun x => decide (x < j))
            (fun x hx hd => ⟨by simpa using dep_lt ok hjn hd, by simpa using dep_lt ok hjn hd, hVV x hx hd⟩) (fun x hx h => ⟨by simpa using notlt x hx h, by simpa using notlt x hx h⟩)
          obtain ⟨hex', hwt'⟩ := look_congr agree' (fun cs b => ok.sel j o cs b ho)
          change execOp (Aat ops a V' j).eval o = execOp (Aat ops a V j).eval o at hex'
          change Region.wanted o (yielded ops (Aat ops a V' j).tmps) = Region.wanted o (yielded ops (Aat ops a V j).tmps) at hwt'
          rw [hex', hwt'] at hrun'
          cases hw : Region.wanted o (yielded ops (Aat ops a V j).tmps) with
          | false =>
            rw [hw] at hrun hrun'
            simp only [Bool.false_eq_true, if_false] at hrun hrun'
            rw [hrun, hrun']
          | true =>
            rw [hw] at hrun hrun'
            simp only [if_true] at hrun hrun'
            unfold litStep at hrun hrun'
            cases hr : (execOp (Aat ops a V j).eval o).run P w with
            | ok n w' =>
              rw [hr] at hrun hrun'
              cases n with
              | value v => exact hrun'.2.symm.trans hrun.2
              | _ => exact hrun.elim
            | halt x w' => rw [hr] at hrun; exact hrun.elim
      unfold wpOp
      rw [ho]
      simp only
      rw [← hwt]
      cases hw : Region.wanted o (yielded ops (Aat ops a V j).tmps) with
      | false =>
        rw [hw] at hrun
        simp only [Bool.false_eq_true, if_false] at hrun ⊢
        rw [hrun] at next
        exact next
      | true =>
        rw [hw] at hrun
        simp only [if_true] at hrun ⊢
        left
        unfold litStep at hrun
        unfold Oper.wp
        rw [← hex]
        cases hr : (execOp (Aat ops a V j).eval o).run P w with
        | ok n w' =>
          rw [hr] at hrun
          cases n with
          | value v =>
            obtain ⟨rfl, rfl⟩ := hrun
            exact next
          | _ => exact hrun.elim
        | halt x w' => rw [hr] at hrun; exact hrun.elim
    | false =>
      rw [hlo] at hOb hla
      simp only [Bool.false_eq_true, if_false] at hOb
      have hcnt : I.ch j = true → ((List.range ops.size).filter (fun x => I.ch x && L.getD x false)).length = sat I j := by
        intro hc
        unfold sat
        have h1 : (List.range ops.size).filter (fun x => I.ch x && L.getD x false) = (List.range ops.size).filter (fun x => I.ch x && decide (x < j)) := List.filter_congr fun x hx => by
          cases hcx : I.ch x with
          | false => rfl
          | true =>
            simp only [Bool.true_and]
            have hxn := List.mem_range.1 hx
            rcases Nat.lt_trichotomy x j with h | h | h
            · rw [ancl x (ok.chain j hjn x h hcx hc)]
              simpa using h
            · subst h; rw [hun]; simp
            · rw [noAnc x hxn (ok.chain x hxn j h hc hcx)]
              simp; omega
        rw [h1]
        have h2 : List.range ops.size = List.range j ++ (List.range (ops.size - j)).map (j + ·) := by
          rw [← List.range_add]; congr 1; omega
        rw [h2, List.filter_append, List.length_append]
        have h3 : ((List.range (ops.size - j)).map (j + ·)).filter (fun x => I.ch x && decide (x < j)) = [] := by
          rw [List.filter_eq_nil_iff]
          intro x hx
          obtain ⟨y, _, rfl⟩ := List.mem_map.1 hx
          simp
        rw [h3]
        simp only [List.length_nil, Nat.add_zero]
        congr 1
        apply List.filter_congr
        intro x hx
        rw [decide_eq_true (List.mem_range.1 hx), Bool.and_true]
      have hob := hOb w st.i1 (fun hc => by rw [← hcnt hc]; exact st.i2) hfacts
      -- what is used up
      have used : ∀ b ∈ usedV I j (Gat ops V j), ∃ h, h ∈ I.con j ∧ Live ops I L h ∧ b ∈ I.fp h (u h) := by
        intro b hb
        obtain ⟨p, hp, hc, hbp⟩ := mem_used hb
        obtain ⟨h1, h2, h3⟩ := mem_Gat hp
        obtain ⟨c1, c2, c3⟩ := ok.con j hjn _ hc
        refine ⟨p.1, hc, ⟨c1, c2, ancl _ c3, fun y hy hyl hm => ?_⟩, ?_⟩
        · exact ok.once j hjn y hy (fun e => by subst e; rw [hun] at hyl; cases hyl) _ hc hm
        · rw [h3, hV _ c1 c2] at hbp
          exact hbp
      have uge : ∀ b ∈ usedV I j (Gat ops V j), I.w0.heap.size ≤ b ∧ b < w.heap.size := fun b hb => by
        obtain ⟨h, _, hl, hbf⟩ := used b hb
        exact st.i4 h hl b hbf
      have next : ∀ v w', outV I j (sat I j) (Gat ops V j) w v w' → wpAny P .any ops (NoPanic Q) fuel (L.setIfInBounds j true) ((Bat ops a u L).put o.dst v) w' := by
        rintro v w' ⟨r1, r2, r3, r4⟩
        have hT : ∀ b ∈ (if I.ch j = true then I.S ++ usedV I j (Gat ops V j) else usedV I j (Gat ops V j)), b ∈ I.S ∨ I.w0.heap.size ≤ b := by
          intro b hb
          split at hb
          · rcases List.mem_append.1 hb with h | h
            · exact .inl h
            · exact .inr (uge b h).1
          · exact .inr (uge b hb).1
        have hT2 : ∀ b ∈ (if I.ch j = true then I.S ++ usedV I j (Gat ops V j) else usedV I j (Gat ops V j)), b ∈ usedV I j (Gat ops V j) ∨ b ∈ I.S := by
          intro b hb
          split at hb
          · exact (List.mem_append.1 hb).symm
          · exact .inl hb
        have hlive : ∀ h, Live ops I (L.setIfInBounds j true) h → h = j ∨ (Live ops I L h ∧ h ≠ j ∧ h ∉ I.con j) := by
          rintro h ⟨h1, h2, h3, h4⟩
          by_cases hne : h = j
          · exact .inl hne
          · rw [getD_set hjL, if_neg hne] at h3
            refine .inr ⟨⟨h1, h2, h3, fun y hy hyl => h4 y hy ?_⟩, hne, h4 j hjn (by rw [getD_set hjL, if_pos rfl])⟩
            rw [getD_set hjL]
            split
            · rfl
            · exact hyl
        have apart : ∀ h, Live ops I L h → h ∉ I.con j → ∀ b ∈ usedV I j (Gat ops V j), b ∉ I.fp h (u h) := by
          intro h hl hnc b hb
          obtain ⟨h', hc', hl', hbf⟩ := used b hb
          exact st.i5 h' h hl' hl (fun e => by subst e; exact hnc hc') b hbf
        rw [Bat_set ok ho st.sz hun]
        refine ih _ _ w' ⟨hsz', cl', st.i1.trans' r3 hT, ?_, fun h hh => ?_, fun h hh => ?_, fun h h' hh hh' hne => ?_, fun h hl => ?_, i6' v ?_⟩ hfuel
        · cases hc : I.ch j with
          | true =>
            have : ((List.range ops.size).filter (fun x => I.ch x && (L.setIfInBounds j true).getD x false)).length = ((List.range ops.size).filter (fun x => I.ch x && L.getD x false)).length + 1 := by
              have h2 : List.range ops.size = List.range j ++ j :: (List.range (ops.size - j - 1)).map (j + 1 + ·) := by
                have e1 : List.range ops.size = List.range (j + 1) ++ (List.range (ops.size - j - 1)).map (j + 1 + ·) := by
                  rw [← List.range_add]; congr 1; omega
                rw [e1, List.range_succ, List.append_assoc]; rfl
              rw [h2]
              simp only [List.filter_append, List.filter_cons, List.length_append]
              rw [getD_set hjL, if_pos rfl, hc, hun]
              simp only [Bool.and_true, if_true, Bool.and_false, Bool.false_eq_true, if_false, List.length_cons]
              have h3 : ∀ (l : List Nat), j ∉ l → l.filter (fun x => I.ch x && (L.setIfInBounds j true).getD x false) = l.filter (fun x => I.ch x && L.getD x false) := fun l hl => List.filter_congr fun x hx => by
                rw [getD_set hjL, if_neg (fun (e : x = j) => hl (e ▸ hx))]
              rw [h3 _ (by simp), h3 _ (by simp; omega)]
              omega
            rw [this, hcnt hc]
            exact r4 hc
          | false =>
            have : (List.range ops.size).filter (fun x => I.ch x && (L.setIfInBounds j true).getD x false) = (List.range ops.size).filter (fun x => I.ch x && L.getD x false) := List.filter_congr fun x _ => by
              rw [getD_set hjL]
              by_cases h : x = j
              · subst h; simp [hc]
              · rw [if_neg h]
            rw [this]
            rw [hc] at r3
            simp only [Bool.false_eq_true, if_false] at r3
            exact hK _ _ _ _ st.i2 r3 fun b hb => (uge b hb).1
        · rcases hlive h hh with rfl | ⟨h1, h2, h3⟩
          · simp only [if_pos]; exact r1
          · simp only [if_neg h2]
            refine hR h _ _ _ _ st.i1 (st.i3 h h1) r3 (fun b hb => ?_) hT
            rcases hT2 b hb with h4 | h4
            · exact apart h h1 h3 b h4
            · intro h5
              have := (st.i4 h h1 b h5).1
              have := hS b h4
              omega
        · rcases hlive h hh with rfl | ⟨h1, h2, h3⟩
          · simp only [if_pos]
            intro b hb
            rcases r2 b hb with h4 | h4
            · have := uge b h4
              exact ⟨this.1, Nat.lt_of_lt_of_le this.2 r3.size⟩
            · exact ⟨Nat.le_trans st.i1.size h4.1, h4.2⟩
          · simp only [if_neg h2]
            intro b hb
            have := st.i4 h h1 b hb
            exact ⟨this.1, Nat.lt_of_lt_of_le this.2 r3.size⟩
        · have sym : ∀ h, (Live ops I L h ∧ h ≠ j ∧ h ∉ I.con j) → ∀ b ∈ I.fp j v, b ∉ I.fp h (u h) := by
            rintro h ⟨h1, h2, h3⟩ b hb h4
            rcases r2 b hb with h5 | h5
            · exact apart h h1 h3 b h5 h4
            · have := (st.i4 h h1 b h4).2
              omega
          rcases hlive h hh with e | h1
          · rcases hlive h' hh' with e' | h1'
            · exact absurd (e.trans e'.symm) hne
            · subst e
              simp only [if_pos, if_neg h1'.2.1]
              exact sym h' h1'
          · rcases hlive h' hh' with e' | h1'
            · subst e'
              simp only [if_pos, if_neg h1.2.1]
              intro b hb hb'
              exact sym h h1 b hb' hb
            · simp only [if_neg h1.2.1, if_neg h1'.2.1]
              exact st.i5 h h' h1.1 h1'.1 hne
        · show I.adm h (if h = j then v else u h)
          split
          · rename_i e; subst e; exact hadm _ _ _ r1
          · exact st.i7 h hl
        · intro hl
          rw [hla] at hl
          cases hl
      unfold wpOp
      rw [ho]
      simp only
      rw [← hwt]
      cases hw : Region.wanted o (yielded ops (Aat ops a V j).tmps) with
      | false =>
        rw [hw] at hob
        simp only [Bool.false_eq_true, if_false] at hob ⊢
        exact next _ _ hob
      | true =>
        rw [hw] at hob
        simp only [if_true] at hob ⊢
        left
        refine wp_transfer hex (fun v w' hz => next v w' hz) (fun v v' e => ?_) hob
        cases hd : o.dst with
        | none => rfl
        | some t =>
          rw [hd] at e
          simp only [Act.put] at e ⊢
          have e2 := congrArg Act.tmps e
          simp only at e2
          have hsz2 : (Aat ops a V j).tmps.size = (Bat ops a u L).tmps.size := by
            have key : ∀ (l : List Nat) (V : Nat → Value) (X : Nat → Bool) (b : Act), (putX ops V X l b).tmps.size = b.tmps.size := by
              intro l
              induction l with
              | nil => intro V X b; rfl
              | cons i l ihl =>
                intro V X b
                unfold putX
                rw [ihl]
                split
                · exact put_size _ _ _
                · rfl
            unfold Aat Bat
            rw [key, key]
          by_cases ht : t < (Aat ops a V j).tmps.size
          · have e3 : ((Aat ops a V j).tmps.setIfInBounds t v)[t]? = ((Aat ops a V j).tmps.setIfInBounds t v')[t]? := by rw [e2]
            simp only [Array.getElem?_setIfInBounds_self, ht, if_true] at e3
            rw [Option.some.inj e3]
          · have h1 : ∀ x : Value, (Bat ops a u L).tmps.setIfInBounds t x = (Bat ops a u L).tmps := fun x => by
              rw [Array.setIfInBounds_eq_of_size_le (by rw [← hsz2]; exact Nat.le_of_not_lt ht)]
            rw [h1, h1]

/-- The rule. -/
theorem wp_inv {id : Nat} {l : List Oper} {w : World} (I : Inv) (hm : P.follows .mixedOrders = true) (hw0 : I.w0 = w.drew) (hc : invB l.toArray I.con I.ch = true) (hS : ∀ b ∈ I.S, b < w.heap.size)
    (hR : ∀ j v (w w' : World) T, Upd I.S I.w0 w → I.R j v w → Upd T w w' → (∀ b ∈ T, b ∉ I.fp j v) → (∀ b ∈ T, b ∈ I.S ∨ I.w0.heap.size ≤ b) → I.R j v w')
    (hK : ∀ s (w w' : World) T, I.K s w → Upd T w w' → (∀ b ∈ T, I.w0.heap.size ≤ b) → I.K s w') (hK0 : I.K 0 w.drew)
    (hwit : ∀ j, ∃ v, I.adm j v) (hadm : ∀ j v w, I.R j v w → I.adm j v) (h : wpV P l.toArray I (NoPanic Q) l 0 0 a []) : (Code.region id l.toArray true).wp P Q a w := by
  refine wp_region_noPanic (wp_region_any hm ?_)
  have ok := invOk_of hc
  have hA0 : ∀ V, Aat l.toArray a V 0 = a := fun V => putX_none _ _ (by simp)
  have hflat : ∀ e : Nat → Value, (∀ h, lightAt l.toArray h = false → I.adm h (e h)) → ∃ V, (∀ h, h < l.toArray.size → lightAt l.toArray h = false → V h = e h) ∧ Flat P l.toArray I (NoPanic Q) a V := by
    intro e he
    obtain ⟨V, _, h2, h3, h4⟩ := flat_of (a := a) ok l 0 (fun _ => undef) (fun k o hk => by simpa using hk) (by simp) (by rw [hA0]; exact h) (fun h => if lightAt l.toArray h then (hwit h).choose else e h) (fun h => by
      show I.adm h (if lightAt l.toArray h = true then (hwit h).choose else e h)
      split
      · exact (hwit h).choose_spec
      · exact he h (Bool.eq_false_iff.2 (by assumption)))
    exact ⟨V, fun x hx hl => (h2 x (Nat.zero_le _) hx hl).trans (by rw [hl]; simp), fun i hi => h3 i (Nat.zero_le _) hi, h4⟩
  have hrep : ∀ i, (Array.replicate l.toArray.size false).getD i false = false := fun i => by
    simp only [Array.getD_eq_getD_getElem?, Array.getElem?_replicate]
    split <;> rfl
  have e0 : Bat l.toArray a (fun h => (hwit h).choose) (Array.replicate l.toArray.size false) = a := putX_none _ _ (fun x _ => hrep x)
  have := inv_main ok (by rw [hw0]; exact hS) hR hK hadm hflat l.toArray.size (Array.replicate l.toArray.size false) (fun h => (hwit h).choose) w.drew ?_ ?_
  · rw [e0] at this
    exact this
  · refine ⟨by simp, fun y x _ h1 => ?_, by rw [hw0]; exact Upd.refl _ _, ?_, fun h hh => ?_, fun h hh => ?_, fun h h' hh => ?_, fun h _ => (hwit h).choose_spec, fun j _ _ h1 => ?_⟩
    · rw [hrep] at h1; cases h1
    · rw [List.filter_eq_nil_iff.2 (fun x _ => by rw [hrep]; simp)]
      exact hK0
    · have := hh.2.2.1; rw [hrep] at this; cases this
    · have := hh.2.2.1; rw [hrep] at this; cases this
    · have := hh.2.2.1; rw [hrep] at this; cases this
    · rw [hrep] at h1; cases h1
  · have := List.length_filter_le (fun x => !(Array.replicate l.toArray.size false).getD x false) (List.range l.toArray.size)
    simpa using this
end
end Go.Proofs.YtblfklnnojhadaaDoor

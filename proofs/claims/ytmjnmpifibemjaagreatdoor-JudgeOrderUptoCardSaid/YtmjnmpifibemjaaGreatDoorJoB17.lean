/-
 A region that draws its order, each of whose operations does what it does in whatever order: the induction over the orders. No program in sight.
 The rule for drawn regions, as walks use it. No program in sight.
 concordref09.Lines.
 concordref09.in, concordref09.arg.
 concordref09.One in plain words.
-/
import Derived.Test.YtmjnmpifibemjaaGreatDoorJoB16
import Derived.Test.YtmjnmpifibemjaaGreatDoorJoB0
import Derived.Test.YtmjnmpifibemjaaGreatDoorJoB4
import Derived.Test.YtmjnmpifibemjaaGreatDoorJoB1
set_option linter.unusedVariables false
namespace Go.Proofs.YtmjnmpifibemjaaGreatDoor.Old
open Go Go.RowKit

section
variable {P : Program} {ops : Array Oper} {I : Inv} {Q : Exit → Act → World → Prop} {a : Act}

theorem getD_set {L : Array Bool} {j : Nat} (hj : j < L.size) (i : Nat) (b : Bool) : (L.setIfInBounds j true).getD i b = if i = j then true else L.getD i b := by
 simp only [Array.getD_eq_getD_getElem?, Array.getElem?_setIfInBounds]
 by_cases h : j = i
 ·subst h; simp [hj]
 ·rw [if_neg h, if_neg (fun e => h e.symm)]
theorem anc_listed (ok : InvOk ops I) {L : Array Bool} (cl : ∀ y x, y < ops.size → L.getD y false = true → depB ops y x = true → L.getD x false = true) : ∀ (m j : Nat), j < m → j < ops.size → (∀ x, depB ops j x = true → L.getD x false = true) → ∀ h, ancB ops j h = true → L.getD h false = true
 | 0, j, hm, _, _, h, _ => by omega
 | m + 1, j, hm, hj, hd, h, ha => by
   obtain ⟨x, hx, hh⟩ := (anc_iff hj (ok.back j hj)).1 ha
   have hxl := hd x hx
   rcases hh with rfl | hh
   ·exact hxl
   ·have hxj : x < j := by
     have := ok.back j hj
     unfold depsBack at this
     unfold depB at hx
     rw [Array.getElem?_eq_getElem hj] at this hx
     simp only [Array.all_eq_true, Array.any_eq_true, Bool.or_eq_true, Bool.and_eq_true, decide_eq_true_eq, Bool.not_eq_true', beq_iff_eq] at this hx
     obtain ⟨i, hi, he, rfl⟩ := hx
     exact (this i hi).resolve_left (by rw [he]; simp)
    exact anc_listed ok cl m x (by omega) (by omega) (fun y hy => cl x y (by omega) hxl hy) h hh
theorem anc_trans (ok : InvOk ops I) {j x h : Nat} (hj : j < ops.size) (hx : depB ops j x = true) (hh : ancB ops x h = true) : ancB ops j h = true := (anc_iff hj (ok.back j hj)).2 ⟨x, hx, .inr hh⟩
theorem anc_dep (ok : InvOk ops I) {j x : Nat} (hj : j < ops.size) (hx : depB ops j x = true) : ancB ops j x = true := (anc_iff hj (ok.back j hj)).2 ⟨x, hx, .inl rfl⟩
theorem dep_lt (ok : InvOk ops I) {j x : Nat} (hj : j < ops.size) (hx : depB ops j x = true) : x < j := by
 have := ok.back j hj
 unfold depsBack at this
 unfold depB at hx
 rw [Array.getElem?_eq_getElem hj] at this hx
 simp only [Array.all_eq_true, Array.any_eq_true, Bool.or_eq_true, Bool.and_eq_true, decide_eq_true_eq, Bool.not_eq_true', beq_iff_eq] at this hx
 obtain ⟨i, hi, he, rfl⟩ := hx
 exact (this i hi).resolve_left (by rw [he]; simp)

/-- What an operation looks at reads the same in any two frames that agree on what it waits for. -/
theorem look_same (ok : InvOk ops I) {j : Nat} {o : Oper} (ho : ops[j]? = some o) {V V' : Nat → Value} {X Y : Nat → Bool}
 (hX : ∀ x, x < ops.size → depB ops j x = true → X x = true ∧ Y x = true ∧ V x = V' x) (hno : ∀ x, x < ops.size → (x = j ∨ depB ops x j = true) → X x = false ∧ Y x = false) :
 ∀ t ∈ o.looksAt ops, (putX ops V X (List.range ops.size) a).tmps[t]? = (putX ops V' Y (List.range ops.size) a).tmps[t]? := by
 intro t ht
 have hj : j < ops.size := (Array.getElem?_eq_some_iff.1 ho).1
 have htj : (lookOf ops j).contains t = true := by unfold lookOf; rw [ho]; simpa using ht
 have cls : ∀ x, x < ops.size → dstOf ops x = some t → depB ops j x = true ∨ x = j ∨ depB ops x j = true := by
  intro x hx hd
  rcases Nat.lt_trichotomy x j with h | h | h
  ·have hp := ok.pair j hj x h
   unfold pairOk at hp
   rw [hd] at hp
   simp only [Bool.and_eq_true, Bool.or_eq_true, htj, Bool.not_true, Bool.false_eq_true, false_or] at hp
   exact .inl hp.1.2
  ·exact .inr (.inl h)
  ·have hp := ok.pair x hx j h
   unfold pairOk at hp
   rw [hd] at hp
   simp only [Bool.and_eq_true, Bool.or_eq_true, htj, Bool.not_true, Bool.false_eq_true, false_or] at hp
   exact .inr (.inr hp.2)
 -- through one frame that has only what it waits for
 have e1 : (putX ops V X (List.range ops.size) a).tmps[t]? = (putX ops V (fun x => depB ops j x) (List.range ops.size) a).tmps[t]? :=
  putX_get _ a a (fun x hx hd => by
   have hxn := List.mem_range.1 hx
   rcases cls x hxn hd with h | h
   ·rw [(hX x hxn h).1, h]
   ·rw [(hno x hxn h).1]
    cases hc : depB ops j x with
    | false => rfl
    | true => have := (hno x hxn h).1; rw [(hX x hxn hc).1] at this; cases this) rfl rfl
 have e2 : (putX ops V' Y (List.range ops.size) a).tmps[t]? = (putX ops V' (fun x => depB ops j x) (List.range ops.size) a).tmps[t]? :=
  putX_get _ a a (fun x hx hd => by
   have hxn := List.mem_range.1 hx
   rcases cls x hxn hd with h | h
   ·rw [(hX x hxn h).2.1, h]
   ·rw [(hno x hxn h).2]
    cases hc : depB ops j x with
    | false => rfl
    | true => have := (hno x hxn h).2; rw [(hX x hxn hc).2.1] at this; cases this) rfl rfl
 rw [e1, e2, putX_congr' (V' := V') _ _ (fun _ _ => rfl) (fun x hx hd => (hX x (List.mem_range.1 hx) hd).2.2)]

/-- The frame as it is has what is listed. -/
def Bat (ops : Array Oper) (a : Act) (u : Nat → Value) (L : Array Bool) : Act := putX ops u (fun x => L.getD x false) (List.range ops.size) a
theorem Bat_set (ok : InvOk ops I) {L : Array Bool} {j : Nat} {o : Oper} (ho : ops[j]? = some o) (hsz : L.size = ops.size) (hun : L.getD j false = false) (u : Nat → Value) (v : Value) :
 (Bat ops a u L).put o.dst v = Bat ops a (fun x => if x = j then v else u x) (L.setIfInBounds j true) := by
 have hj : j < ops.size := (Array.getElem?_eq_some_iff.1 ho).1
 have hd : dstOf ops j = o.dst := by simp [dstOf, ho]
 unfold Bat
 rw [putX_congr' (V' := fun x => if x = j then v else u x) (Y := fun x => L.getD x false) (List.range ops.size) a (fun _ _ => rfl) (fun x _ hx => by
  have : x ≠ j := fun e => by subst e; rw [hun] at hx; cases hx
  simp [this])]
 have := putX_add (ops := ops) (V := fun x => if x = j then v else u x) (X := fun x => L.getD x false) (j := j) hun (List.range ops.size) a (List.mem_range.2 hj) List.nodup_range (fun x hx hne t ht => ok.distinct hj (List.mem_range.1 hx) hne t ht)
 simp only [if_true, hd] at this
 rw [← this]
 refine putX_congr _ _ (fun x _ => ?_) (fun _ _ => rfl)
 rw [getD_set (by omega)]
 by_cases h : x = j
 ·subst h; simp
 ·simp [h]

theorem inv_main (ok : InvOk ops I) (hS : ∀ b ∈ I.S, b < I.w0.heap.size)
 (hR : ∀ j v (w w' : World) T, Upd I.S I.w0 w → I.R j v w → Upd T w w' → (∀ b ∈ T, b ∉ I.fp j v) → (∀ b ∈ T, b ∈ I.S ∨ I.w0.heap.size ≤ b) → I.R j v w')
 (hK : ∀ s (w w' : World) T, I.K s w → Upd T w w' → (∀ b ∈ T, I.w0.heap.size ≤ b) → I.K s w')
 (hadm : ∀ j v w, I.R j v w → I.adm j v) (hflat : ∀ e : Nat → Value, (∀ h, lightAt ops h = false → I.adm h (e h)) → ∃ V, (∀ h, h < ops.size → lightAt ops h = false → V h = e h) ∧ Flat P ops I (NoPanic Q) a V) :
 ∀ (fuel : Nat) (L : Array Bool) (u : Nat → Value) (w : World), StI P ops I (NoPanic Q) a L u w → ((List.range ops.size).filter (fun x => !L.getD x false)).length ≤ fuel → wpAny P .any ops (NoPanic Q) fuel L (Bat ops a u L) w := by
 intro fuel
 have last : ∀ (L : Array Bool) (u : Nat → Value) (w : World), StI P ops I (NoPanic Q) a L u w → Region.ready .any ops L = [] → NoPanic Q .normal (Bat ops a u L) w := by
  intro L u w st hr
  have hall : ∀ m, m < ops.size → L.getD m false = true := by
   intro m
   induction m using Nat.strongRecOn with
   | _ m ihm =>
     intro hm
     cases hc : L.getD m false with
     | true => rfl
     | false =>
       exfalso
       have : m ∈ Region.ready .any ops L := mem_ready.2 ⟨hm, by rw [getD_size (by rw [st.sz]; exact hm) true false]; exact hc, fun x hx => ihm x (dep_lt ok hm hx) (by have := dep_lt ok hm hx; omega)⟩
       rw [hr] at this
       simp at this
  obtain ⟨V, hV, hf, he⟩ := hflat u st.i7
  have hVu : ∀ x, x < ops.size → V x = u x := fun x hx => by
   cases hl : lightAt ops x with
   | false => exact hV x hx hl
   | true => exact st.i6 x hx hl (hall x hx) V ⟨hf, he⟩ fun h hh hhl _ => hV h hh hhl
  have hb : Bat ops a u L = Aat ops a V ops.size := by
   unfold Bat Aat
   exact putX_congr' _ _ (fun x hx => by rw [hall x (List.mem_range.1 hx)]; simpa using hx) (fun x hx _ => (hVu x (List.mem_range.1 hx)).symm)
  rw [hb]
  refine he w st.i1 ?_ (facts_of _ fun p hp hok => ?_)
  ·have : (List.range ops.size).filter (fun x => I.ch x && L.getD x false) = (List.range ops.size).filter I.ch := List.filter_congr fun x hx => by rw [hall x (List.mem_range.1 hx), Bool.and_true]
   have h2 := st.i2
   rw [this] at h2
   exact h2
  ·obtain ⟨h1, h2, h3⟩ := mem_Gat hp
   rw [h3, hVu _ h1]
   refine st.i3 _ ⟨h1, h2, hall _ h1, fun y hy _ => ?_⟩
   unfold endB at hok
   have := List.all_eq_true.1 hok y (List.mem_range.2 hy)
   simpa using this
 induction fuel with
 | zero =>
   intro L u w st hf
   have hr : Region.ready .any ops L = [] := by
    rw [List.eq_nil_iff_forall_not_mem]
    intro j hj
    obtain ⟨hjn, hun, _⟩ := mem_ready.1 hj
    have h0 : (List.range ops.size).filter (fun x => !L.getD x false) = [] := List.length_eq_zero_iff.1 (by omega)
    rw [List.filter_eq_nil_iff] at h0
    have := h0 j (List.mem_range.2 hjn)
    rw [getD_size (by rw [st.sz]; exact hjn) true false] at hun
    rw [hun] at this
    simp at this
   exact ⟨hr, last L u w st hr⟩
 | succ fuel ih =>
   intro L u w st hf
   refine ⟨fun hr => last L u w st hr, fun j hj => ?_⟩
   obtain ⟨hjn, hun0, hdep⟩ := mem_ready.1 hj
   have hun : L.getD j false = false := by rw [getD_size (by rw [st.sz]; exact hjn) false true]; exact hun0
   obtain ⟨o, ho⟩ : ∃ o, ops[j]? = some o := ⟨_, Array.getElem?_eq_getElem hjn⟩
   have hla := lightAt_some ho
   obtain ⟨V, hV, hF⟩ := hflat u st.i7
   have ancl := anc_listed ok st.cl (j + 1) j (by omega) hjn hdep
   have ancl' : ∀ y, y < ops.size → L.getD y false = true → ∀ h, ancB ops y h = true → L.getD h false = true := fun y hy hyl => anc_listed ok st.cl (y + 1) y (by omega) hy (fun x hx => st.cl y x hy hyl hx)
   have hVu : ∀ x, x < ops.size → L.getD x false = true → V x = u x := fun x hx hxl => by
    cases hl : lightAt ops x with
    | false => exact hV x hx hl
    | true => exact st.i6 x hx hl hxl V hF fun h hh hhl _ => hV h hh hhl
   have noAnc : ∀ y, y < ops.size → ancB ops y j = true → L.getD y false = false := fun y hy ha => by
    cases hc : L.getD y false with
    | false => rfl
    | true => have := ancl' y hy hc j ha; rw [hun] at this; cases this
   have later : ∀ x, x < ops.size → (x = j ∨ depB ops x j = true) → L.getD x false = false := fun x hx h => by
    rcases h with rfl | h
    ·exact hun
    ·exact noAnc x hx (anc_dep ok hx h)
   have notlt : ∀ x, x < ops.size → (x = j ∨ depB ops x j = true) → ¬ x < j := fun x hx h => by
    rcases h with rfl | h
    ·omega
    ·have := dep_lt ok hx h; omega
   have agree := look_same (a := a) ok ho (V := V) (V' := u) (X := fun x => decide (x < j)) (Y := fun x => L.getD x false)
    (fun x hx hd => ⟨by simpa using dep_lt ok hjn hd, hdep x hd, hVu x hx (hdep x hd)⟩) (fun x hx h => ⟨by simpa using notlt x hx h, later x hx h⟩)
   obtain ⟨hex, hwt⟩ := look_congr agree (fun cs b => ok.sel j o cs b ho)
   change execOp (Aat ops a V j).eval o = execOp (Bat ops a u L).eval o at hex
   change Region.wanted o (yielded ops (Aat ops a V j).tmps) = Region.wanted o (yielded ops (Bat ops a u L).tmps) at hwt
   have live_of : ∀ (V' : Nat → Value), (∀ h, h < ops.size → lightAt ops h = false → ancB ops j h = true → V' h = u h) → factsV I (availB ops I.con j) (Gat ops V' j) w := by
    intro V' hV'
    refine facts_of _ fun p hp hok => ?_
    obtain ⟨h1, h2, h3⟩ := mem_Gat hp
    unfold availB at hok
    rw [Bool.and_eq_true, List.all_eq_true] at hok
    rw [h3, hV' _ (by omega) h2 hok.1]
    refine st.i3 _ ⟨by omega, h2, ancl _ hok.1, fun y hy hyl hm => ?_⟩
    have := hok.2 y (List.mem_range.2 hy)
    simp only [Bool.or_eq_true, Bool.not_eq_true', beq_iff_eq] at this
    rcases this with (h4 | h4) | h4
    ·simp at h4; exact h4 hm
    ·subst h4; rw [hun] at hyl; cases hyl
    ·rw [noAnc y hy h4] at hyl; cases hyl
   have hfacts := live_of V (fun h hh hhl _ => hV h hh hhl)
   have hOb := hF.1 j hjn o ho
   have hsz' : (L.setIfInBounds j true).size = ops.size := by simpa using st.sz
   have hjL : j < L.size := by rw [st.sz]; exact hjn
   have cl' : ∀ y x, y < ops.size → (L.setIfInBounds j true).getD y false = true → depB ops y x = true → (L.setIfInBounds j true).getD x false = true := by
    intro y x hy h1 h2
    rw [getD_set hjL] at h1 ⊢
    by_cases hxj : x = j
    ·rw [if_pos hxj]
    ·rw [if_neg hxj]
     by_cases hyj : y = j
     ·subst hyj; exact hdep x h2
     ·rw [if_neg hyj] at h1
      exact st.cl y x hy h1 h2
   have hfuel : ((List.range ops.size).filter (fun x => !(L.setIfInBounds j true).getD x false)).length ≤ fuel := by
    have h1 : (List.range ops.size).filter (fun x => !(L.setIfInBounds j true).getD x false) = ((List.range ops.size).filter (fun x => !L.getD x false)).filter (fun x => x != j) := by
     rw [List.filter_filter]
     apply List.filter_congr
     intro x _
     rw [getD_set hjL]
     by_cases h : x = j
     ·subst h; simp
     ·simp [h]
    have hmem : j ∈ (List.range ops.size).filter (fun x => !L.getD x false) := List.mem_filter.2 ⟨List.mem_range.2 hjn, by simp [hun]⟩
    have h2 : (((List.range ops.size).filter (fun x => !L.getD x false)).filter (fun x => x != j)).length < ((List.range ops.size).filter (fun x => !L.getD x false)).length := by
     rw [List.length_filter_lt_length_iff_exists]
     exact ⟨j, hmem, by simp⟩
    rw [h1]
    omega
   have i6' : ∀ v, (lightAt ops j = true → ∀ V', Flat P ops I (NoPanic Q) a V' → (∀ h, h < ops.size → lightAt ops h = false → ancB ops j h = true → V' h = u h) → V' j = v) →
    ∀ i, i < ops.size → lightAt ops i = true → (L.setIfInBounds j true).getD i false = true → ∀ V', Flat P ops I (NoPanic Q) a V' → (∀ h, h < ops.size → lightAt ops h = false → ancB ops i h = true → V' h = (if h = j then v else u h)) → V' i = (if i = j then v else u i) := by
    intro v hv i hi hil hl V' hV' hag
    rw [getD_set hjL] at hl
    by_cases hij : i = j
    ·subst hij
     rw [if_pos rfl]
     refine hv hil V' hV' fun h hh hhl ha => ?_
     have := hag h hh hhl ha
     rwa [if_neg (fun e => by subst e; rw [hil] at hhl; cases hhl)] at this
    ·rw [if_neg hij] at hl ⊢
     refine st.i6 i hi hil hl V' hV' fun h hh hhl ha => ?_
     have := hag h hh hhl ha
     rwa [if_neg (fun e => by subst e; have := ancl' i hi hl h ha; rw [hun] at this; cases this)] at this
   cases hlo : lightOp o.op with
   | true =>
     rw [hlo] at hOb hla
     simp only [if_true] at hOb
     have hcj := ok.light j hjn hla
     have hrun := hOb w st.i1 hfacts
     have hlive : ∀ h, Live ops I (L.setIfInBounds j true) h → Live ops I L h ∧ h ≠ j := by
      rintro h ⟨h1, h2, h3, h4⟩
      have hne : h ≠ j := fun e => by subst e; rw [hla] at h2; cases h2
      rw [getD_set hjL, if_neg hne] at h3
      refine ⟨⟨h1, h2, h3, fun y hy hyl => h4 y hy ?_⟩, hne⟩
      rw [getD_set hjL]
      split
      ·rfl
      ·exact hyl
     have next : wpAny P .any ops (NoPanic Q) fuel (L.setIfInBounds j true) ((Bat ops a u L).put o.dst (V j)) w := by
      rw [Bat_set ok ho st.sz hun]
      refine ih _ _ w ⟨hsz', cl', st.i1, ?_, fun h hh => ?_, fun h hh => ?_, fun h h' hh hh' => ?_, fun h hl => by simp only [if_neg (fun (e : h = j) => by subst e; rw [hla] at hl; cases hl)]; exact st.i7 h hl, i6' (V j) ?_⟩ hfuel
      ·have : (List.range ops.size).filter (fun x => I.ch x && (L.setIfInBounds j true).getD x false) = (List.range ops.size).filter (fun x => I.ch x && L.getD x false) := List.filter_congr fun x _ => by
        rw [getD_set hjL]
        by_cases h : x = j
        ·subst h; simp [hcj.2]
        ·rw [if_neg h]
       have h2 := st.i2
       rw [← this] at h2
       exact h2
      ·obtain ⟨h1, h2⟩ := hlive h hh
       simp only [if_neg h2]
       exact st.i3 h h1
      ·obtain ⟨h1, h2⟩ := hlive h hh
       simp only [if_neg h2]
       exact st.i4 h h1
      ·obtain ⟨h1, h2⟩ := hlive h hh
       obtain ⟨h3, h4⟩ := hlive h' hh'
       simp only [if_neg h2, if_neg h4]
       exact st.i5 h h' h1 h3
      ·intro _ V' hV' hag
       have hrun' := hV'.1 j hjn o ho
       rw [hlo] at hrun'
       simp only [if_true] at hrun'
       have hrun' := hrun' w st.i1 (live_of V' hag)
       have hVV : ∀ x, x < ops.size → depB ops j x = true → V' x = V x := fun x hx hd => by
        rw [hVu x hx (hdep x hd)]
        cases hl : lightAt ops x with
        | false => exact hag x hx hl (anc_dep ok hjn hd)
        | true => exact st.i6 x hx hl (hdep x hd) V' hV' fun h hh hhl ha => hag h hh hhl (anc_trans ok hjn hd ha)
       have agree' := look_same (a := a) ok ho (V := V') (V' := V) (X := fun x => decide (x < j)) (Y := fun x => decide (x < j))
        (fun x hx hd => ⟨by simpa using dep_lt ok hjn hd, by simpa using dep_lt ok hjn hd, hVV x hx hd⟩) (fun x hx h => ⟨by simpa using notlt x hx h, by simpa using notlt x hx h⟩)
       obtain ⟨hex', hwt'⟩ := look_congr agree' (fun cs b => ok.sel j o cs b ho)
       change execOp (Aat ops a V' j).eval o = execOp (Aat ops a V j).eval o at hex'
       change Region.wanted o (yielded ops (Aat ops a V' j).tmps) = Region.wanted o (yielded ops (Aat ops a V j).tmps) at hwt'
       rw [hex', hwt'] at hrun'
       cases hw : Region.wanted o (yielded ops (Aat ops a V j).tmps) with
       | false =>
         rw [hw] at hrun hrun'
         simp only [Bool.false_eq_true, if_false] at hrun hrun'
         rw [hrun, hrun']
       | true =>
         rw [hw] at hrun hrun'
         simp only [if_true] at hrun hrun'
         unfold litStep at hrun hrun'
         cases hr : (execOp (Aat ops a V j).eval o).run P w with
         | ok n w' =>
           rw [hr] at hrun hrun'
           cases n with
           | value v => exact hrun'.2.symm.trans hrun.2
           | _ => exact hrun.elim
         | halt x w' => rw [hr] at hrun; exact hrun.elim
     unfold wpOp
     rw [ho]
     simp only
     rw [← hwt]
     cases hw : Region.wanted o (yielded ops (Aat ops a V j).tmps) with
     | false =>
       rw [hw] at hrun
       simp only [Bool.false_eq_true, if_false] at hrun ⊢
       rw [hrun] at next
       exact next
     | true =>
       rw [hw] at hrun
       simp only [if_true] at hrun ⊢
       left
       unfold litStep at hrun
       unfold Oper.wp
       rw [← hex]
       cases hr : (execOp (Aat ops a V j).eval o).run P w with
       | ok n w' =>
         rw [hr] at hrun
         cases n with
         | value v =>
           obtain ⟨rfl, rfl⟩ := hrun
           exact next
         | _ => exact hrun.elim
       | halt x w' => rw [hr] at hrun; exact hrun.elim
   | false =>
     rw [hlo] at hOb hla
     simp only [Bool.false_eq_true, if_false] at hOb
     have hcnt : I.ch j = true → ((List.range ops.size).filter (fun x => I.ch x && L.getD x false)).length = sat I j := by
      intro hc
      unfold sat
      have h1 : (List.range ops.size).filter (fun x => I.ch x && L.getD x false) = (List.range ops.size).filter (fun x => I.ch x && decide (x < j)) := List.filter_congr fun x hx => by
       cases hcx : I.ch x with
       | false => rfl
       | true =>
         simp only [Bool.true_and]
         have hxn := List.mem_range.1 hx
         rcases Nat.lt_trichotomy x j with h | h | h
         ·rw [ancl x (ok.chain j hjn x h hcx hc)]
          simpa using h
         ·subst h; rw [hun]; simp
         ·rw [noAnc x hxn (ok.chain x hxn j h hc hcx)]
          simp; omega
      rw [h1]
      have h2 : List.range ops.size = List.range j ++ (List.range (ops.size - j)).map (j + ·) := by
       rw [← List.range_add]; congr 1; omega
      rw [h2, List.filter_append, List.length_append]
      have h3 : ((List.range (ops.size - j)).map (j + ·)).filter (fun x => I.ch x && decide (x < j)) = [] := by
       rw [List.filter_eq_nil_iff]
       intro x hx
       obtain ⟨y, _, rfl⟩ := List.mem_map.1 hx
       simp
      rw [h3]
      simp only [List.length_nil, Nat.add_zero]
      congr 1
      apply List.filter_congr
      intro x hx
      rw [decide_eq_true (List.mem_range.1 hx), Bool.and_true]
     have hob := hOb w st.i1 (fun hc => by rw [← hcnt hc]; exact st.i2) hfacts
     -- what is used up
     have used : ∀ b ∈ usedV I j (Gat ops V j), ∃ h, h ∈ I.con j ∧ Live ops I L h ∧ b ∈ I.fp h (u h) := by
      intro b hb
      obtain ⟨p, hp, hc, hbp⟩ := mem_used hb
      obtain ⟨h1, h2, h3⟩ := mem_Gat hp
      obtain ⟨c1, c2, c3⟩ := ok.con j hjn _ hc
      refine ⟨p.1, hc, ⟨c1, c2, ancl _ c3, fun y hy hyl hm => ?_⟩, ?_⟩
      ·exact ok.once j hjn y hy (fun e => by subst e; rw [hun] at hyl; cases hyl) _ hc hm
      ·rw [h3, hV _ c1 c2] at hbp
       exact hbp
     have uge : ∀ b ∈ usedV I j (Gat ops V j), I.w0.heap.size ≤ b ∧ b < w.heap.size := fun b hb => by
      obtain ⟨h, _, hl, hbf⟩ := used b hb
      exact st.i4 h hl b hbf
     have next : ∀ v w', outV I j (sat I j) (Gat ops V j) w v w' → wpAny P .any ops (NoPanic Q) fuel (L.setIfInBounds j true) ((Bat ops a u L).put o.dst v) w' := by
      rintro v w' ⟨r1, r2, r3, r4⟩
      have hT : ∀ b ∈ (if I.ch j = true then I.S ++ usedV I j (Gat ops V j) else usedV I j (Gat ops V j)), b ∈ I.S ∨ I.w0.heap.size ≤ b := by
       intro b hb
       split at hb
       ·rcases List.mem_append.1 hb with h | h
        ·exact .inl h
        ·exact .inr (uge b h).1
       ·exact .inr (uge b hb).1
      have hT2 : ∀ b ∈ (if I.ch j = true then I.S ++ usedV I j (Gat ops V j) else usedV I j (Gat ops V j)), b ∈ usedV I j (Gat ops V j) ∨ b ∈ I.S := by
       intro b hb
       split at hb
       ·exact (List.mem_append.1 hb).symm
       ·exact .inl hb
      have hlive : ∀ h, Live ops I (L.setIfInBounds j true) h → h = j ∨ (Live ops I L h ∧ h ≠ j ∧ h ∉ I.con j) := by
       rintro h ⟨h1, h2, h3, h4⟩
       by_cases hne : h = j
       ·exact .inl hne
       ·rw [getD_set hjL, if_neg hne] at h3
        refine .inr ⟨⟨h1, h2, h3, fun y hy hyl => h4 y hy ?_⟩, hne, h4 j hjn (by rw [getD_set hjL, if_pos rfl])⟩
        rw [getD_set hjL]
        split
        ·rfl
        ·exact hyl
      have apart : ∀ h, Live ops I L h → h ∉ I.con j → ∀ b ∈ usedV I j (Gat ops V j), b ∉ I.fp h (u h) := by
       intro h hl hnc b hb
       obtain ⟨h', hc', hl', hbf⟩ := used b hb
       exact st.i5 h' h hl' hl (fun e => by subst e; exact hnc hc') b hbf
      rw [Bat_set ok ho st.sz hun]
      refine ih _ _ w' ⟨hsz', cl', st.i1.trans' r3 hT, ?_, fun h hh => ?_, fun h hh => ?_, fun h h' hh hh' hne => ?_, fun h hl => ?_, i6' v ?_⟩ hfuel
      ·cases hc : I.ch j with
       | true =>
         have : ((List.range ops.size).filter (fun x => I.ch x && (L.setIfInBounds j true).getD x false)).length = ((List.range ops.size).filter (fun x => I.ch x && L.getD x false)).length + 1 := by
          have h2 : List.range ops.size = List.range j ++ j :: (List.range (ops.size - j - 1)).map (j + 1 + ·) := by
           have e1 : List.range ops.size = List.range (j + 1) ++ (List.range (ops.size - j - 1)).map (j + 1 + ·) := by
            rw [← List.range_add]; congr 1; omega
           rw [e1, List.range_succ, List.append_assoc]; rfl
          rw [h2]
          simp only [List.filter_append, List.filter_cons, List.length_append]
          rw [getD_set hjL, if_pos rfl, hc, hun]
          simp only [Bool.and_true, if_true, Bool.and_false, Bool.false_eq_true, if_false, List.length_cons]
          have h3 : ∀ (l : List Nat), j ∉ l → l.filter (fun x => I.ch x && (L.setIfInBounds j true).getD x false) = l.filter (fun x => I.ch x && L.getD x false) := fun l hl => List.filter_congr fun x hx => by
           rw [getD_set hjL, if_neg (fun (e : x = j) => hl (e ▸ hx))]
          rw [h3 _ (by simp), h3 _ (by simp; omega)]
          omega
         rw [this, hcnt hc]
         exact r4 hc
       | false =>
         have : (List.range ops.size).filter (fun x => I.ch x && (L.setIfInBounds j true).getD x false) = (List.range ops.size).filter (fun x => I.ch x && L.getD x false) := List.filter_congr fun x _ => by
          rw [getD_set hjL]
          by_cases h : x = j
          ·subst h; simp [hc]
          ·rw [if_neg h]
         rw [this]
         rw [hc] at r3
         simp only [Bool.false_eq_true, if_false] at r3
         exact hK _ _ _ _ st.i2 r3 fun b hb => (uge b hb).1
      ·rcases hlive h hh with rfl | ⟨h1, h2, h3⟩
       ·simp only [if_pos]; exact r1
       ·simp only [if_neg h2]
        refine hR h _ _ _ _ st.i1 (st.i3 h h1) r3 (fun b hb => ?_) hT
        rcases hT2 b hb with h4 | h4
        ·exact apart h h1 h3 b h4
        ·intro h5
         have := (st.i4 h h1 b h5).1
         have := hS b h4
         omega
      ·rcases hlive h hh with rfl | ⟨h1, h2, h3⟩
       ·simp only [if_pos]
        intro b hb
        rcases r2 b hb with h4 | h4
        ·have := uge b h4
         exact ⟨this.1, Nat.lt_of_lt_of_le this.2 r3.size⟩
        ·exact ⟨Nat.le_trans st.i1.size h4.1, h4.2⟩
       ·simp only [if_neg h2]
        intro b hb
        have := st.i4 h h1 b hb
        exact ⟨this.1, Nat.lt_of_lt_of_le this.2 r3.size⟩
      ·have sym : ∀ h, (Live ops I L h ∧ h ≠ j ∧ h ∉ I.con j) → ∀ b ∈ I.fp j v, b ∉ I.fp h (u h) := by
        rintro h ⟨h1, h2, h3⟩ b hb h4
        rcases r2 b hb with h5 | h5
        ·exact apart h h1 h3 b h5 h4
        ·have := (st.i4 h h1 b h4).2
         omega
       rcases hlive h hh with e | h1
       ·rcases hlive h' hh' with e' | h1'
        ·exact absurd (e.trans e'.symm) hne
        ·subst e
         simp only [if_pos, if_neg h1'.2.1]
         exact sym h' h1'
       ·rcases hlive h' hh' with e' | h1'
        ·subst e'
         simp only [if_pos, if_neg h1.2.1]
         intro b hb hb'
         exact sym h h1 b hb' hb
        ·simp only [if_neg h1.2.1, if_neg h1'.2.1]
         exact st.i5 h h' h1.1 h1'.1 hne
      ·show I.adm h (if h = j then v else u h)
       split
       ·rename_i e; subst e; exact hadm _ _ _ r1
       ·exact st.i7 h hl
      ·intro hl
       rw [hla] at hl
       cases hl
     unfold wpOp
     rw [ho]
     simp only
     rw [← hwt]
     cases hw : Region.wanted o (yielded ops (Aat ops a V j).tmps) with
     | false =>
       rw [hw] at hob
       simp only [Bool.false_eq_true, if_false] at hob ⊢
       exact next _ _ hob
     | true =>
       rw [hw] at hob
       simp only [if_true] at hob ⊢
       left
       refine wp_transfer hex (fun v w' hz => next v w' hz) (fun v v' e => ?_) hob
       cases hd : o.dst with
       | none => rfl
       | some t =>
         rw [hd] at e
         simp only [Act.put] at e ⊢
         have e2 := congrArg Act.tmps e
         simp only at e2
         have hsz2 : (Aat ops a V j).tmps.size = (Bat ops a u L).tmps.size := by
          have key : ∀ (l : List Nat) (V : Nat → Value) (X : Nat → Bool) (b : Act), (putX ops V X l b).tmps.size = b.tmps.size := by
           intro l
           induction l with
           | nil => intro V X b; rfl
           | cons i l ihl =>
             intro V X b
             unfold putX
             rw [ihl]
             split
             ·exact put_size _ _ _
             ·rfl
          unfold Aat Bat
          rw [key, key]
         by_cases ht : t < (Aat ops a V j).tmps.size
         ·have e3 : ((Aat ops a V j).tmps.setIfInBounds t v)[t]? = ((Aat ops a V j).tmps.setIfInBounds t v')[t]? := by rw [e2]
          simp only [Array.getElem?_setIfInBounds_self, ht, if_true] at e3
          rw [Option.some.inj e3]
         ·have h1 : ∀ x : Value, (Bat ops a u L).tmps.setIfInBounds t x = (Bat ops a u L).tmps := fun x => by
           rw [Array.setIfInBounds_eq_of_size_le (by rw [← hsz2]; exact Nat.le_of_not_lt ht)]
          rw [h1, h1]

/-- The rule. -/
theorem wp_inv {id : Nat} {l : List Oper} {w : World} (I : Inv) (hm : P.follows .mixedOrders = true) (hw0 : I.w0 = w.drew) (hc : invB l.toArray I.con I.ch = true) (hS : ∀ b ∈ I.S, b < w.heap.size)
 (hR : ∀ j v (w w' : World) T, Upd I.S I.w0 w → I.R j v w → Upd T w w' → (∀ b ∈ T, b ∉ I.fp j v) → (∀ b ∈ T, b ∈ I.S ∨ I.w0.heap.size ≤ b) → I.R j v w')
 (hK : ∀ s (w w' : World) T, I.K s w → Upd T w w' → (∀ b ∈ T, I.w0.heap.size ≤ b) → I.K s w') (hK0 : I.K 0 w.drew)
 (hwit : ∀ j, ∃ v, I.adm j v) (hadm : ∀ j v w, I.R j v w → I.adm j v) (h : wpV P l.toArray I (NoPanic Q) l 0 0 a []) : (Code.region id l.toArray true).wp P Q a w := by
 refine wp_region_noPanic (wp_region_any hm ?_)
 have ok := invOk_of hc
 have hA0 : ∀ V, Aat l.toArray a V 0 = a := fun V => putX_none _ _ (by simp)
 have hflat : ∀ e : Nat → Value, (∀ h, lightAt l.toArray h = false → I.adm h (e h)) → ∃ V, (∀ h, h < l.toArray.size → lightAt l.toArray h = false → V h = e h) ∧ Flat P l.toArray I (NoPanic Q) a V := by
  intro e he
  obtain ⟨V, _, h2, h3, h4⟩ := flat_of (a := a) ok l 0 (fun _ => undef) (fun k o hk => by simpa using hk) (by simp) (by rw [hA0]; exact h) (fun h => if lightAt l.toArray h then (hwit h).choose else e h) (fun h => by
   show I.adm h (if lightAt l.toArray h = true then (hwit h).choose else e h)
   split
   ·exact (hwit h).choose_spec
   ·exact he h (Bool.eq_false_iff.2 (by assumption)))
  exact ⟨V, fun x hx hl => (h2 x (Nat.zero_le _) hx hl).trans (by rw [hl]; simp), fun i hi => h3 i (Nat.zero_le _) hi, h4⟩
 have hrep : ∀ i, (Array.replicate l.toArray.size false).getD i false = false := fun i => by
  simp only [Array.getD_eq_getD_getElem?, Array.getElem?_replicate]
  split <;> rfl
 have e0 : Bat l.toArray a (fun h => (hwit h).choose) (Array.replicate l.toArray.size false) = a := putX_none _ _ (fun x _ => hrep x)
 have := inv_main ok (by rw [hw0]; exact hS) hR hK hadm hflat l.toArray.size (Array.replicate l.toArray.size false) (fun h => (hwit h).choose) w.drew ?_ ?_
 ·rw [e0] at this
  exact this
 ·refine ⟨by simp, fun y x _ h1 => ?_, by rw [hw0]; exact Upd.refl _ _, ?_, fun h hh => ?_, fun h hh => ?_, fun h h' hh => ?_, fun h _ => (hwit h).choose_spec, fun j _ _ h1 => ?_⟩
  ·rw [hrep] at h1; cases h1
  ·rw [List.filter_eq_nil_iff.2 (fun x _ => by rw [hrep]; simp)]
   exact hK0
  ·have := hh.2.2.1; rw [hrep] at this; cases this
  ·have := hh.2.2.1; rw [hrep] at this; cases this
  ·have := hh.2.2.1; rw [hrep] at this; cases this
  ·rw [hrep] at h1; cases h1
 ·have := List.length_filter_le (fun x => !(Array.replicate l.toArray.size false).getD x false) (List.range l.toArray.size)
  simpa using this
end
end Go.Proofs.YtmjnmpifibemjaaGreatDoor.Old

namespace Go.Proofs.YtmjnmpifibemjaaGreatDoor.Old
open Go Go.RowKit

/-- What is said of the value of an operation: the blocks it owns, and a fact that lasts. -/
structure Spec where
 fp : Value → List Nat
 R : Value → World → Prop
 adm : Value → Prop
namespace Spec
def any : Spec := ⟨fun _ => [], fun _ _ => True, fun _ => True⟩
def det (v0 : Value) : Spec := ⟨fun _ => [], fun v _ => v = v0, fun v => v = v0⟩
/-- Any fact of the value alone. -/
def val (F : Value → Prop) : Spec := ⟨fun _ => [], fun v _ => F v, F⟩
def own (B : Nat) (e : TypeId) (s n : Nat) (xs : List Value) : Spec := ⟨fun v => v.ownBlock.toList, fun v w => w.ownsRow B e s v n xs, fun v => ∃ A c, v = .slice A n c ∧ n ≤ c ∧ c ≤ maxLen⟩
def src (s m : Nat) (news : List Value) : Spec := ⟨fun v => v.ownBlock.toList, fun v w => Src w s v m news, fun v => ∃ A c, v = .slice A m c⟩
def ptrBlocks : Value → List Nat
 | .pointer (some a) => [a.block]
 | .iface _ (.pointer (some a)) => [a.block]
 | _ => []
/-- A pointer to a new block. -/
def box (t : TypeId) (cs : Array Value) : Spec := ⟨ptrBlocks, fun v w => ∃ g, v = .pointer (some ⟨g, 0, none⟩) ∧ Blk w g t cs, fun v => ∃ g, v = .pointer (some ⟨g, 0, none⟩)⟩
end Spec
structure Lasts (S : List Nat) (w0 : World) (s : Spec) : Prop where
 lasts : ∀ v (w w' : World) T, Upd S w0 w → s.R v w → Upd T w w' → (∀ b ∈ T, b ∉ s.fp v) → (∀ b ∈ T, b ∈ S ∨ w0.heap.size ≤ b) → s.R v w'
 wit : ∃ v, s.adm v
 adm : ∀ v w, s.R v w → s.adm v
section
variable {S : List Nat} {w0 : World}
theorem lasts_any : Lasts S w0 .any := ⟨fun _ _ _ _ _ _ _ _ _ => trivial, ⟨undef, trivial⟩, fun _ _ _ => trivial⟩
theorem lasts_det (v0 : Value) : Lasts S w0 (.det v0) := ⟨fun _ _ _ _ _ h _ _ _ => h, ⟨v0, rfl⟩, fun _ _ h => h⟩
theorem lasts_own (B : Nat) (e : TypeId) (s n : Nat) (xs : List Value) (hn : n ≤ maxLen) : Lasts S w0 (.own B e s n xs) := ⟨fun v w w' T _ h hu hT _ =>
 own_upd h hu fun b hb hm => hT b hm (by simp [Spec.own, hb]), ⟨_, none, n, rfl, Nat.le_refl _, hn⟩, fun _ _ h => own_slice h⟩
theorem lasts_src (s m : Nat) (news : List Value) : Lasts S w0 (.src s m news) := ⟨fun v w w' T _ h hu hT _ =>
 Src.upd h hu fun b hb hm => hT b hm (by simp [Spec.src, hb]), ⟨_, none, m, rfl⟩, fun _ _ h => let ⟨_, A, c, e, _⟩ := h; ⟨A, c, e⟩⟩
end
theorem Blk.newAt {W : World} {H : Nat} (t : TypeId) (cs : Array Value) (h : W.heap.size = H) : Blk (W.alloc (.cells cs t)) H t cs := h ▸ Blk.new W t cs
theorem Src.newAt {W : World} {H : Nat} {t : TypeId} {cs : Array Value} {s m : Nat} (h : W.heap.size = H) (c : Nat) (hl : cs.size = m * s) : Src (W.alloc (.cells cs t)) s (.slice (some ⟨H, 0, none⟩) m c) m cs.toList := .of_blk (Blk.newAt t cs h) c hl

def specOf : List (Nat × Spec) → Nat → Spec
 | [], _ => .any
 | (i, s) :: L, j => if j = i then s else specOf L j
def conOf : List (Nat × List Nat) → Nat → List Nat
 | [], _ => []
 | (i, s) :: L, j => if j = i then s else conOf L j
def LastsAll (S : List Nat) (w0 : World) : List (Nat × Spec) → Prop
 | [] => True
 | (_, s) :: L => Lasts S w0 s ∧ LastsAll S w0 L
theorem lastsAll_of {S : List Nat} {w0 : World} : ∀ (L : List (Nat × Spec)), LastsAll S w0 L → ∀ j, Lasts S w0 (specOf L j)
 | [], _, _ => lasts_any
 | (i, s) :: L, h, j => by
   unfold specOf
   split
   ·exact h.1
   ·exact lastsAll_of L h.2 j
def mkI (S : List Nat) (w0 : World) (K : Nat → World → Prop) (L : List (Nat × Spec)) (C : List (Nat × List Nat)) (CH : List Nat) : Inv :=
 { S := S, w0 := w0, K := K, R := fun j => (specOf L j).R, adm := fun j => (specOf L j).adm, fp := fun j => (specOf L j).fp, con := conOf C, ch := fun j => CH.contains j }

section
variable {P : Program} {ops : Array Oper} {I : Inv} {Q : Exit → Act → World → Prop} {o : Oper} {l : List Oper} {j s : Nat} {A : Act} {G : List (Nat × Value)}
/-- With calls that turn old blocks. -/
theorem wp_invK {id : Nat} {a : Act} {w : World} (S : List Nat) (K : Nat → World → Prop) (L : List (Nat × Spec)) (C : List (Nat × List Nat)) (CH : List Nat) (hm : P.follows .mixedOrders = true) (hc : invB l.toArray (conOf C) (fun j => CH.contains j) = true)
 (hS : ∀ b ∈ S, b < w.heap.size) (hL : LastsAll S w.drew L) (hK : ∀ s (w1 w' : World) T, K s w1 → Upd T w1 w' → (∀ b ∈ T, w.heap.size ≤ b) → K s w') (hK0 : K 0 w.drew)
 (h : wpV P l.toArray (mkI S w.drew K L C CH) (NoPanic Q) l 0 0 a []) : (Code.region id l.toArray true).wp P Q a w :=
 wp_inv (mkI S w.drew K L C CH) hm rfl hc hS (fun j v w1 w' T => (lastsAll_of L hL j).lasts v w1 w' T) hK hK0 (fun j => (lastsAll_of L hL j).wit) (fun j v w1 => (lastsAll_of L hL j).adm v w1) h
/-- Nothing that was there turns. -/
theorem wp_invN {id : Nat} {a : Act} {w : World} (L : List (Nat × Spec)) (C : List (Nat × List Nat)) (hm : P.follows .mixedOrders = true) (hc : invB l.toArray (conOf C) (fun j => ([] : List Nat).contains j) = true) (hL : LastsAll [] w.drew L)
 (h : wpV P l.toArray (mkI [] w.drew (fun _ _ => True) L C []) (NoPanic Q) l 0 0 a []) : (Code.region id l.toArray true).wp P Q a w :=
 wp_invK [] (fun _ _ => True) L C [] hm hc (by simp) hL (fun _ _ _ _ _ _ _ => trivial) trivial h

theorem wpV_light {v : Value} (hl : lightOp o.op = true) (h1 : ∀ w, Upd I.S I.w0 w → Hid (factsV I (availB ops I.con j) G w) → if Region.wanted o (yielded ops A.tmps) then litStep ((execOp A.eval o).run P w) w (fun x => x = v) else v = undef)
 (h2 : wpV P ops I Q l (j + 1) s (A.put o.dst v) G) : wpV P ops I Q (o :: l) j s A G := by
 unfold wpV
 rw [if_pos hl]
 exact ⟨v, fun w hu hf => h1 w hu (Lib.hid hf), h2⟩
theorem wpV_skip (hw : Region.wanted o (yielded ops A.tmps) = false) (hl : lightOp o.op = true) (h2 : wpV P ops I Q l (j + 1) s (A.put o.dst undef) G) : wpV P ops I Q (o :: l) j s A G := by
 unfold wpV
 rw [if_pos hl]
 exact ⟨undef, fun w _ _ => by rw [hw]; rfl, h2⟩
theorem wpV_heavy (hl : lightOp o.op = false) (hw : Region.wanted o (yielded ops A.tmps) = true)
 (h1 : ∀ w, Upd I.S I.w0 w → (I.ch j = true → I.K s w) → Hid (factsV I (availB ops I.con j) G w) → ∀ K : Act → World → Prop, Hid (∀ v w', outV I j s G w v w' → K (A.put o.dst v) w') → o.wp P A w K Q)
 (h2 : ∀ v, I.adm j v → wpV P ops I Q l (j + 1) (if I.ch j then s + 1 else s) (A.put o.dst v) (G ++ [(j, v)])) : wpV P ops I Q (o :: l) j s A G := by
 unfold wpV
 rw [if_neg (by rw [hl]; simp)]
 refine ⟨fun w hu hk hf => ?_, h2⟩
 rw [if_pos hw]
 exact h1 w hu hk (Lib.hid hf) _ (Lib.hid fun v w' h => ⟨v, rfl, h⟩)
theorem wpV_heavySkip (hl : lightOp o.op = false) (hw : Region.wanted o (yielded ops A.tmps) = false) (h1 : ∀ w, Upd I.S I.w0 w → (I.ch j = true → I.K s w) → outV I j s G w undef w)
 (h2 : ∀ v, I.adm j v → wpV P ops I Q l (j + 1) (if I.ch j then s + 1 else s) (A.put o.dst v) (G ++ [(j, v)])) : wpV P ops I Q (o :: l) j s A G := by
 unfold wpV
 rw [if_neg (by rw [hl]; simp)]
 refine ⟨fun w hu hk hf => ?_, h2⟩
 rw [hw]
 exact h1 w hu hk
theorem wpV_end (h : ∀ w, Upd I.S I.w0 w → I.K s w → Hid (factsV I (endB ops I.con) G w) → Q .normal A w) : wpV P ops I (NoPanic Q) [] j s A G := fun w hu hk hf => h w hu hk (Lib.hid hf)
/-- What an operation leaves that turns nothing and uses nothing up. -/
theorem outV_new {w w' : World} {v : Value} (hch : I.ch j = false) (hr : I.R j v w') (hfp : ∀ b ∈ I.fp j v, w.heap.size ≤ b ∧ b < w'.heap.size) (hu : Upd [] w w') : outV I j s G w v w' :=
 ⟨hr, fun b hb => .inr (hfp b hb), by rw [hch]; exact hu.mono (by simp), by rw [hch]; simp⟩
end
end Go.Proofs.YtmjnmpifibemjaaGreatDoor.Old

namespace Go.Proofs.YtmjnmpifibemjaaGreatDoor.Old
open Go.RowKit

/-- Lines as they lie one behind the other, each ten cells. -/
def LinesR (w : World) (B : Nat) : List (Stm × Nat) → List Value → Prop
 | [], xs => xs = []
 | (.mk k coll reg ar an br bn bo el, d) :: l, xs => ∃ vb ve ys, xs = stmCells k coll reg ar an br bn vb ve ++ (.int .i64 d :: ys) ∧ Stms w B vb bo ∧ Stms w B ve el ∧ LinesR w B l ys
theorem LinesR.keep {w w' : World} {B : Nat} (hk : Below B w w') : ∀ {l : List (Stm × Nat)} {xs : List Value}, LinesR w B l xs → LinesR w' B l xs
 | [], _, h => h
 | (.mk .., d) :: l, xs, ⟨vb, ve, ys, h1, h2, h3, h4⟩ => ⟨vb, ve, ys, h1, h2.belowW hk, h3.belowW hk, LinesR.keep hk h4⟩
theorem LinesR.append {w : World} {B : Nat} : ∀ {l m : List (Stm × Nat)} {xs ys : List Value}, LinesR w B l xs → LinesR w B m ys → LinesR w B (l ++ m) (xs ++ ys)
 | [], m, xs, ys, h, h' => by cases h; exact h'
 | (.mk .., d) :: l, m, xs, ys, ⟨vb, ve, zs, h1, h2, h3, h4⟩, h' => ⟨vb, ve, zs ++ ys, by rw [h1]; simp, h2, h3, LinesR.append h4 h'⟩
theorem LinesR.len {w : World} {B : Nat} : ∀ {l : List (Stm × Nat)} {xs : List Value}, LinesR w B l xs → xs.length = l.length * 10
 | [], _, h => by cases h; rfl
 | (.mk .., d) :: l, xs, ⟨vb, ve, zs, h1, h2, h3, h4⟩ => by rw [h1]; simp [stmCells, LinesR.len h4]; omega
theorem snoc_app (p : List Value) (v : Value) (ys : List Value) : p ++ (v :: ys) = (p ++ [v]) ++ ys := by simp
theorem LinesR.get {w : World} {B : Nat} : ∀ {l : List (Stm × Nat)} {xs : List Value} {i : Nat} {k coll reg ar an br bn : Int} {bo el : List Stm} {d : Nat}, LinesR w B l xs → l[i]? = some (.mk k coll reg ar an br bn bo el, d) →
 ∃ vb ve, Stms w B vb bo ∧ Stms w B ve el ∧ ∀ j u, (stmCells k coll reg ar an br bn vb ve ++ [.int .i64 d])[j]? = some u → xs[i * 10 + j]? = some u
 | [], xs, i, _, _, _, _, _, _, _, _, _, _, _, h => by simp at h
 | (.mk .., d) :: l, xs, 0, _, _, _, _, _, _, _, _, _, _, ⟨vb, ve, ys, h1, h2, h3, h4⟩, h => by
   simp at h
   obtain ⟨⟨rfl, rfl, rfl, rfl, rfl, rfl, rfl, rfl, rfl⟩, rfl⟩ := h
   refine ⟨vb, ve, h2, h3, fun j u hj => ?_⟩
   rw [h1]
   have hj' := (List.getElem?_eq_some_iff.1 hj).1
   rw [snoc_app, List.getElem?_append_left (by omega)]
   rw [Nat.zero_mul, Nat.zero_add]
   exact hj
 | (.mk .., d) :: l, xs, i + 1, _, _, _, _, _, _, _, _, _, _, ⟨vb, ve, ys, h1, h2, h3, h4⟩, h => by
   obtain ⟨vb', ve', g1, g2, g3⟩ := LinesR.get h4 (by simpa using h)
   refine ⟨vb', ve', g1, g2, fun j u hj => ?_⟩
   rw [h1]
   rw [snoc_app, List.getElem?_append_right (by simp [stmCells]; omega)]
   rw [show ∀ p : List Value, p.length = 10 → (i + 1) * 10 + j - p.length = i * 10 + j from fun p hp => by omega]
   rotate_left
   ·simp [stmCells]
   exact g3 j u hj

theorem line_elem : Elem Tryz.prog 110 113 10 112 := .mk' (z := ((Tryz.prog.info? 113).bind (·.zero)).getD undef) Tryz.underlying110 (by kernel_rfl) (by kernel_rfl) (by omega)

theorem stopped {p : Prop} (h : Hid p) : p := h.out
def LinesPost (B B' : Nat) (r : List (Stm × Nat)) (n : Nat) (xs : List Value) (vo : Value) (w : World) (e : Ending) (w' : World) : Prop :=
 ∃ v' ys, e = .returned v' ∧ w'.ownsRow B' 113 10 v' (n + r.length) (xs ++ ys) ∧ LinesR w' B r ys ∧ Upd vo.ownBlock.toList w w' ∧ (v'.ownBlock = vo.ownBlock ∨ ∃ g, v'.ownBlock = some g ∧ w.heap.size ≤ g)
theorem own_below {w w' : World} {B B' n s : Nat} {e : TypeId} {v : Value} {xs : List Value} (h : w.ownsRow B' e s v n xs) (hB : B ≤ B') (hz : B' ≤ w.heap.size) (hu : Upd v.ownBlock.toList w w') : Below B w w' :=
 hu.below (by omega) (fun x hx => by have := (own_lt h (b := x) (by simpa using hx)).1; omega)
theorem own_trans {w w1 w2 : World} {v v1 v2 : Value} (h1 : Upd v.ownBlock.toList w w1) (b1 : v1.ownBlock = v.ownBlock ∨ ∃ g, v1.ownBlock = some g ∧ w.heap.size ≤ g) (h2 : Upd v1.ownBlock.toList w1 w2) (b2 : v2.ownBlock = v1.ownBlock ∨ ∃ g, v2.ownBlock = some g ∧ w1.heap.size ≤ g) :
 Upd v.ownBlock.toList w w2 ∧ (v2.ownBlock = v.ownBlock ∨ ∃ g, v2.ownBlock = some g ∧ w.heap.size ≤ g) := by
 refine ⟨h1.trans' h2 (fun x hx => ?_), ?_⟩
 ·rcases b1 with b | ⟨g, b, hg⟩
  ·rw [b] at hx; exact .inl hx
  ·rw [b] at hx; simp at hx; subst hx; exact .inr hg
 ·rcases b2 with b | ⟨g, b, hg⟩
  ·rw [b]; exact b1
  ·exact .inr ⟨g, b, Nat.le_trans h1.size hg⟩
set_option maxRecDepth 100000 in
set_option maxHeartbeats 4000000 in
theorem lines_ok {B B' : Nat} (hBB : B ≤ B') : ∀ (m : Nat) (l : List Stm) (v vo : Value) (w : World) (d n : Nat) (xs : List Value), sizes l < m → Stms w B v l → w.ownsRow B' 113 10 vo n xs → B' ≤ w.heap.size → n + sizes l ≤ 900000 → d + sizes l ≤ 1000000 →
 Calls Tryz.prog 46 #[vo, v, .int .i64 d] w (LinesPost B B' (linesOf d l) n xs vo w) := by
 intro m
 induction m with
 | zero => intro l v vo w d n xs hm; omega
 | succ m ih =>
   intro l v vo w d n xs hm hl ho hB hn hd
   have HL := Lib.hid hl
   cases hl with
   | mk A nn c l vb ve hln hc hcm hcell hbb hee =>
   have hnn : nn ≤ 9223372036854775807 := by omega
   have HO := Lib.hid ho
   have HLN := Lib.hid hln
   have HCE := Lib.hid hcell
   have HBB := Lib.hid hbb
   have HEE := Lib.hid hee
   have IH := Lib.hid ih
   have HLL := Lib.hid (lines_sizes _ l d (Nat.le_refl _))
   clear hln hcell hbb hee ih ho
   go_enter Tryz.func46, Tryz.ntmps46
   go_wp2_with fail
   go_loopw [0, 7] (fun u0 i wr => ∃ (k : Nat) (ys : List Value), i = .int .i64 k ∧ k ≤ nn ∧ Hid (wr.ownsRow B' 113 10 u0 (n + sizes (l.take k)) (xs ++ ys)) ∧ Hid (LinesR wr B (linesOf d (l.take k)) ys) ∧ Hid (Upd vo.ownBlock.toList w wr) ∧ Hid (u0.ownBlock = vo.ownBlock ∨ ∃ g, u0.ownBlock = some g ∧ w.heap.size ≤ g)) (fun _ i _ => nn - (intOf i).toNat)
   case atStart => exact ⟨0, [], rfl, by omega, Lib.hid (by rw [List.append_nil]; exact HO.out), Lib.hid rfl, Lib.hid (.refl _ _), Lib.hid (.inl rfl)⟩
   case round =>
    obtain ⟨k, ys, rfl, hk, KO, KR, KU, KV⟩ := hrel
    have KL : Hid (Below B w wr) := Lib.hid (own_below HO.out hBB hB KU.out)
    have hz := KU.out.size
    by_cases hkn : k < nn
    ·obtain ⟨x, hx⟩ : ∃ x, l[k]? = some x := ⟨_, List.getElem?_eq_getElem (by rw [HLN.out]; exact hkn)⟩
     obtain ⟨a1, a2, a3, a4, a5, a6, a7, bo, el⟩ := x
     obtain ⟨ad, rfl, hlt, hcc⟩ := HCE.out k a1 a2 a3 a4 a5 a6 a7 bo el hx
     have hsb := HBB.out k a1 a2 a3 a4 a5 a6 a7 bo el hx
     have hse := HEE.out k a1 a2 a3 a4 a5 a6 a7 bo el hx
     obtain ⟨Ab, nb, cb, hvb⟩ := hsb.slice
     obtain ⟨Ae, ne, ce, hve⟩ := hse.slice
     rw [hvb, hve] at hcc
     rw [hvb] at hsb
     rw [hve] at hse
     have cj : Hid (∀ W, Below B w W → W.cell? (ad.add (k * 9)) = some (.int .i64 a1) ∧ ∀ j u, (stmCells a1 a2 a3 a4 a5 a6 a7 (.slice Ab nb cb) (.slice Ae ne ce))[j + 1]? = some u → W.cell? ⟨(ad.add (k * 9)).block, (ad.add (k * 9)).off + (j + 1), none⟩ = some u) := Lib.hid (fun W hW => ⟨(hW.cell (by rw [block_add]; exact hlt)).trans (hcc 0 _ rfl), fun j u hu => by
      rw [← add_more]; exact (hW.cell (by rw [block_add]; exact hlt)).trans (hcc (j + 1) _ hu)⟩)
     have HSB := Lib.hid hsb
     have HSE := Lib.hid hse
     have hsz := sizes_get hx
     rw [size_mk] at hsz
     have hst := sizes_take hx
     rw [size_mk] at hst
     have htl := sizes_take_le l (k + 1)
     have HX := Lib.hid hx
     clear hvb hve hsb hse hcc hx
     obtain ⟨c0, cr⟩ := cj.out wr KL.out
     have c1 := cr 0 _ rfl
     have c2 := cr 1 _ rfl
     have c3 := cr 2 _ rfl
     have c4 := cr 3 _ rfl
     have c5 := cr 4 _ rfl
     have c6 := cr 5 _ rfl
     have c7 := cr 6 _ rfl
     have c8 := cr 7 _ rfl
     clear cr
     have LEN : Hid (n + sizes (l.take k) + 1 ≤ maxLen) := Lib.hid (by simp only [maxLen]; omega)
     have BYT : Hid ((n + sizes (l.take k) + 1) * 112 ≤ 140737488355328) := Lib.hid (by omega)
     have KOA : Hid (∀ o, (wr.alloc o).ownsRow B' 113 10 u0 (n + sizes (l.take k)) (xs ++ ys)) := Lib.hid (fun o => own_upd0 KO.out ((Upd.refl [] wr).alloc o))
     have BZ : Hid (B' ≤ wr.heap.size + 1) := Lib.hid (by omega)
     go_wp2_with (at_builtin; refine stopped ?_)
     refine Lib.hid ?_
     refine wpList_app _ (by rfl) (.tmp 14) (.tmp 21) _ (by rfl) line_elem u0 _ (by rfl) (by rfl) (KOA.out _) (Src.newAt (m := 1) rfl 1 rfl) (by intro u hu; simp at hu; rcases hu with rfl | rfl | rfl | rfl | rfl | rfl | rfl | rfl | rfl | rfl <;> rfl) LEN.out BYT.out (by simpa using BZ.out) ?_
     intro v1 w1 o1 u1 b1
     simp only [List.append_assoc] at o1
     obtain ⟨T1, T2⟩ := own_trans KU.out KV.out (((Upd.refl u0.ownBlock.toList wr).alloc (.cells #[.int .i64 a1, .int .i64 a2, .int .i64 a3, .int .i64 a4, .int .i64 a5, .int .i64 a6, .int .i64 a7, .slice Ab nb cb, .slice Ae ne ce, .int .i64 d] 113)).trans u1) (b1.imp id fun h => ⟨_, h, by simp⟩)
     have KB0 : Hid (Below B wr w1) := Lib.hid (own_below KO.out hBB (by omega) (((Upd.refl u0.ownBlock.toList wr).alloc (.cells #[.int .i64 a1, .int .i64 a2, .int .i64 a3, .int .i64 a4, .int .i64 a5, .int .i64 a6, .int .i64 a7, .slice Ab nb cb, .slice Ae ne ce, .int .i64 d] 113)).trans u1))
     have O1 := Lib.hid o1
     have U1 := Lib.hid T1
     have V1 := Lib.hid T2
     clear o1 u1 b1 T1 T2 c0 c1 c2 c3 c4 c5 c6 c7 c8
     have KL1 : Hid (Below B w w1) := Lib.hid (own_below HO.out hBB hB U1.out)
     have z1 := U1.out.size
     obtain ⟨_, cr⟩ := cj.out w1 KL1.out
     have c7 := cr 6 _ rfl
     clear cr
     go_wp2_with fail
     have hc := IH.out bo (.slice Ab nb cb) v1 w1 (d + 1) (n + sizes (l.take k) + 1) _ (by omega) (HSB.out.belowW KL1.out) O1.out (by omega) (by omega) (by omega)
     rw [show ((d + 1 : Nat) : Int) = (d : Int) + 1 by omega] at hc
     refine hc.mono ?_; clear hc; rintro e w2 ⟨v2, ys2, rfl, o2, r2, u2, b2⟩
     rw [lines_sizes _ bo (d + 1) (Nat.le_refl _)] at o2
     obtain ⟨T1, T2⟩ := own_trans U1.out V1.out u2 b2
     have O2 := Lib.hid o2
     have R2 := Lib.hid r2
     have U2 := Lib.hid T1
     have V2 := Lib.hid T2
     have KB2 : Hid (Below B w1 w2) := Lib.hid (own_below O1.out hBB (by omega) u2)
     clear o2 r2 u2 b2 T1 T2 c7
     have KL2 : Hid (Below B w w2) := Lib.hid (own_below HO.out hBB hB U2.out)
     have z2 := U2.out.size
     obtain ⟨_, cr⟩ := cj.out w2 KL2.out
     have c8 := cr 7 _ rfl
     clear cr
     go_wp2_with fail
     have hc := IH.out el (.slice Ae ne ce) v2 w2 (d + 1) (n + sizes (l.take k) + 1 + sizes bo) _ (by omega) (HSE.out.belowW KL2.out) O2.out (by omega) (by omega) (by omega)
     rw [show ((d + 1 : Nat) : Int) = (d : Int) + 1 by omega] at hc
     refine hc.mono ?_; clear hc; rintro e w3 ⟨v3, ys3, rfl, o3, r3, u3, b3⟩
     rw [lines_sizes _ el (d + 1) (Nat.le_refl _)] at o3
     obtain ⟨T1, T2⟩ := own_trans U2.out V2.out u3 b3
     have O3 := Lib.hid o3
     have R3 := Lib.hid r3
     have U3 := Lib.hid T1
     have V3 := Lib.hid T2
     have KL3 : Hid (Below B w w3) := Lib.hid (own_below HO.out hBB hB U3.out)
     have KB3 : Hid (Below B w2 w3) := Lib.hid (own_below O2.out hBB (by omega) u3)
     have KB1 : Hid (Below B wr w3) := Lib.hid ((KB0.out.trans KB2.out).trans KB3.out)
     clear o3 r3 u3 b3 T1 T2 c8
     go_wp2_with fail
     go_roundw
     case rel =>
      refine ⟨k + 1, ys ++ (stmCells a1 a2 a3 a4 a5 a6 a7 (.slice Ab nb cb) (.slice Ae ne ce) ++ [.int .i64 d]) ++ ys2 ++ ys3, by go_num, by omega, Lib.hid ?_, Lib.hid ?_, U3, V3⟩
      ·rw [show n + sizes (l.take (k + 1)) = n + sizes (l.take k) + 1 + sizes bo + sizes el by omega]
       have := O3.out
       simp only [List.append_assoc] at this ⊢
       exact this
      ·rw [lines_take d HX.out, line_mk]
       have h1 := (KR.out.keep KB1.out).append (LinesR.append (l := [(Stm.mk a1 a2 a3 a4 a5 a6 a7 bo el, d)]) ⟨_, _, [], rfl, HSB.out.belowW KL3.out, HSE.out.belowW KL3.out, rfl⟩ ((R2.out.keep KB3.out).append R3.out))
       simp only [List.append_assoc, List.cons_append, List.nil_append] at h1 ⊢
       exact h1
     case measure => simp [intOf]; omega
    ·obtain rfl : nn = k := by omega
     go_wp2_with fail
     go_ret
     refine ⟨u0, ys, rfl, ?_, ?_, KU.out, KV.out⟩
     ·rw [HLL.out]
      have := KO.out
      rw [List.take_of_length_le (by rw [HLN.out]; exact Nat.le_refl _)] at this
      exact this
     ·have := KR.out
      rw [List.take_of_length_le (by rw [HLN.out]; exact Nat.le_refl _)] at this
      exact this
end Go.Proofs.YtmjnmpifibemjaaGreatDoor.Old

namespace Go.Proofs.YtmjnmpifibemjaaGreatDoor
open Go.RowKit

def inB (k : Int) (xs : List Int) : Bool := xs.contains k
theorem in_ok (k : Int) (v : Value) (n : Nat) (xs : List Int) (w : World) (hs : Src w 1 v n (xs.map (Value.int .i64))) (hn : n ≤ 1000000) :
 Calls Tryz.prog 75 #[.int .i64 k, v] w fun e w' => e = .returned (.bool (inB k xs)) ∧ w = w' := by
 have hl : xs.length = n := by simpa using hs.1
 obtain ⟨_, A, c, rfl, hc⟩ := hs
 have HC := Lib.hid hc
 have HL := Lib.hid hl
 clear hc hl
 go_enter Tryz.func75, Tryz.ntmps75
 go_wp2_with fail
 go_loop [5] (fun u => ∃ i : Nat, u = .int .i64 i ∧ i ≤ n ∧ Hid (∀ j, j < i → xs.getD j 0 ≠ k)) (fun u => n - (intOf u).toNat)
 case atStart => exact ⟨0, rfl, by omega, Lib.hid (by intro j hj; omega)⟩
 case round =>
  obtain ⟨i, rfl, hi, HD⟩ := hrel
  by_cases hin : i < n
  ·obtain ⟨x, hx⟩ : ∃ x, xs[i]? = some x := ⟨_, List.getElem?_eq_getElem (by rw [HL.out]; exact hin)⟩
   obtain ⟨ad, rfl, _, f1⟩ := HC.out i (.int .i64 x) (by simp [hx])
   have HX := Lib.hid hx
   clear hx
   by_cases hxk : x = k
   ·subst hxk
    have HR : Hid (inB x xs = true) := Lib.hid (by unfold inB; simp; exact List.mem_of_getElem? HX.out)
    go_wp2_with fail
    go_ret
    rw [HR.out]
    exact ⟨rfl, rfl⟩
   ·have e1 : (x == k) = false := by simpa using hxk
    have HN := Lib.hid hxk
    clear hxk
    go_wp2_with fail
    go_round
    case rel =>
     refine ⟨i + 1, by go_num, by omega, Lib.hid ?_⟩
     intro j hj
     rcases Nat.lt_or_eq_of_le (Nat.le_of_lt_succ hj) with h | h
     ·exact HD.out j h
     ·subst h
      rw [List.getD_eq_getElem?_getD, HX.out]
      exact HN.out
    case measure => simp [intOf]; omega
  ·obtain rfl : n = i := by omega
   have HR : Hid (inB k xs = false) := Lib.hid (by
    unfold inB
    rw [List.contains_eq_mem]
    simp only [decide_eq_false_iff_not]
    intro hm
    obtain ⟨j, hj, e⟩ := List.getElem_of_mem hm
    have := HD.out j (by rw [← HL.out]; exact hj)
    rw [List.getD_eq_getElem?_getD, List.getElem?_eq_getElem hj] at this
    exact this e)
   go_wp2_with fail
   go_ret
   rw [HR.out]
   exact ⟨rfl, rfl⟩

set_option maxHeartbeats 1000000 in
theorem rarg_ok (r n : Int) (there : Bool) (w : World) : Calls Tryz.prog 76 #[.agg #[.int .i64 r, .int .i64 n], .bool there] w fun e w' => e = .returned (.bool (argB r n there)) ∧ Upd [] w w' := by
 cases there with
 | false =>
   have HR : Hid (argB r n false = (r == 0 && n == 0)) := Lib.hid (by unfold argB; rw [Bool.eq_iff_iff]; simp)
   go_enter Tryz.func76, Tryz.ntmps76
   go_wp2_with fail
   all_goals
    go_ret
    exact ⟨by rw [HR.out]; simp [*], (Upd.refl [] w).alloc _⟩
 | true =>
   by_cases h1 : 0 ≤ r
   ·by_cases h2 : r ≤ 8
    ·by_cases h3 : -999 ≤ n
     ·by_cases h4 : n ≤ 999
      ·have HR : Hid (argB r n true = true) := Lib.hid (by unfold argB; simp [h1, h2, h3, h4])
       go_enter Tryz.func76, Tryz.ntmps76
       go_wp2_with fail
       go_ret
       rw [HR.out]
       exact ⟨rfl, (Upd.refl [] w).alloc _⟩
      ·have HR : Hid (argB r n true = false) := Lib.hid (by unfold argB; simp [h4])
       have e4 : decide (n ≤ 999) = false := by simpa using h4
       go_enter Tryz.func76, Tryz.ntmps76
       go_wp2_with fail
       go_ret
       rw [HR.out]
       exact ⟨rfl, (Upd.refl [] w).alloc _⟩
     ·have HR : Hid (argB r n true = false) := Lib.hid (by unfold argB; simp [h3])
      have e3 : decide (-999 ≤ n) = false := by simpa using h3
      go_enter Tryz.func76, Tryz.ntmps76
      go_wp2_with fail
      go_ret
      rw [HR.out]
      exact ⟨rfl, (Upd.refl [] w).alloc _⟩
    ·have HR : Hid (argB r n true = false) := Lib.hid (by unfold argB; simp [h2])
     have e2 : decide (r ≤ 8) = false := by simpa using h2
     go_enter Tryz.func76, Tryz.ntmps76
     go_wp2_with fail
     go_ret
     rw [HR.out]
     exact ⟨rfl, (Upd.refl [] w).alloc _⟩
   ·have HR : Hid (argB r n true = false) := Lib.hid (by unfold argB; simp [h1])
    have e1 : decide (0 ≤ r) = false := by simpa using h1
    go_enter Tryz.func76, Tryz.ntmps76
    go_wp2_with fail
    go_ret
    rw [HR.out]
    exact ⟨rfl, (Upd.refl [] w).alloc _⟩
end Go.Proofs.YtmjnmpifibemjaaGreatDoor

namespace Go.Proofs.YtmjnmpifibemjaaGreatDoor.Old
open Go.RowKit
attribute [local go_sem] litStep_value

theorem rv_coll {k coll reg ar an br bn : Int} {nb ne : Nat} {ks : List Int} (h : collB coll (pColl k) (pOrd k) ks = false) : rightV k coll reg ar an br bn nb ne ks = false := by
 unfold rightV; rw [h]; simp
theorem rv_reg {k coll reg ar an br bn : Int} {nb ne : Nat} {ks : List Int} (h : regB (pReg k) reg = false) : rightV k coll reg ar an br bn nb ne ks = false := by
 unfold rightV; rw [h]; simp
theorem rv_rest {k coll reg ar an br bn : Int} {nb ne : Nat} {ks : List Int} (h1 : collB coll (pColl k) (pOrd k) ks = true) (h2 : regB (pReg k) reg = true) (hi : pIs k = true) :
 rightV k coll reg ar an br bn nb ne ks = (argB ar an (pA k) && argB br bn (pB k) && loopB k ar an && bodyB (pBody k) (pElse k) nb ne) := by
 unfold rightV; rw [h1, h2, hi]; simp
abbrev arg_ok_ref := @rarg_ok
end Go.Proofs.YtmjnmpifibemjaaGreatDoor.Old

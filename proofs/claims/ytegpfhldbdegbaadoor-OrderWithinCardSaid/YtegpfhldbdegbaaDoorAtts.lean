/-
  Lists of attempts: what lies in the argument's slice; order.ahead by places.
-/
import Derived.Test.YtegpfhldbdegbaaDoorAhead
set_option linter.unusedVariables false
namespace Go.Proofs.YtegpfhldbdegbaaDoor
open Go.RowKit

structure Att where
  th : Int
  ix : Int
  st : Int
  wr : Bool
  be : Int
  en : Int
deriving Inhabited

/-- The slice at A holds these attempts. -/
def Atts (w : World) (A : Option Addr) (L : List Att) : Prop := ∀ k v, L[k]? = some v → ∃ ad, A = some ad ∧ w.cell? (ad.add (k * 6)) = some (.int .i64 v.th) ∧ w.cell? ⟨(ad.add (k * 6)).block, (ad.add (k * 6)).off + 1, none⟩ = some (.int .i64 v.ix) ∧
  w.cell? ⟨(ad.add (k * 6)).block, (ad.add (k * 6)).off + 2, none⟩ = some (.int .i64 v.st) ∧ w.cell? ⟨(ad.add (k * 6)).block, (ad.add (k * 6)).off + 3, none⟩ = some (.bool v.wr) ∧
  w.cell? ⟨(ad.add (k * 6)).block, (ad.add (k * 6)).off + 4, none⟩ = some (.int .i64 v.be) ∧ w.cell? ⟨(ad.add (k * 6)).block, (ad.add (k * 6)).off + 5, none⟩ = some (.int .i64 v.en) ∧ (ad.add (k * 6)).block < w.heap.size

theorem upd_cell {w w' : World} {p : Addr} (hu : Upd [] w w') (hp : p.block < w.heap.size) : w'.cell? p = w.cell? p := (Upd.below hu (Nat.le_refl _) (by simp)).cell hp

theorem Atts.upd {w w' : World} {A : Option Addr} {L : List Att} (h : Atts w A L) (hu : Upd [] w w') : Atts w' A L := by
  intro k v hk
  obtain ⟨ad, e, c1, c2, c3, c4, c5, c6, hl⟩ := h k v hk
  exact ⟨ad, e, (upd_cell hu hl).trans c1, (upd_cell hu (p := ⟨_, _, none⟩) hl).trans c2, (upd_cell hu (p := ⟨_, _, none⟩) hl).trans c3, (upd_cell hu (p := ⟨_, _, none⟩) hl).trans c4,
    (upd_cell hu (p := ⟨_, _, none⟩) hl).trans c5, (upd_cell hu (p := ⟨_, _, none⟩) hl).trans c6, Nat.lt_of_lt_of_le hl hu.size⟩

/-- Does place i stand ahead of place j? -/
def ahd (L : List Att) (i j : Nat) : Bool :=
  decide (orL [cmpI (L.getD i default).st (L.getD j default).st, cmpI (rk (L.getD i default).wr) (rk (L.getD j default).wr), cmpI (L.getD i default).en (L.getD j default).en, cmpI i j] < 0)

theorem ahead_at (A : Option Addr) (n c : Nat) (L : List Att) (w : World) (h : Atts w A L) (hn : L.length = n) (i j : Nat) (hi : i < n) (hj : j < n) :
    Calls Tryd.prog 20 #[.slice A n c, .int .i64 i, .int .i64 j] w fun e w' => e = .returned (.bool (ahd L i j)) ∧ Upd [] w w' := by
  obtain ⟨ad, rfl, c1, c2, c3, c4, c5, c6, _⟩ := h i _ (List.getElem?_eq_getElem (by omega))
  obtain ⟨ad', e, d1, d2, d3, d4, d5, d6, _⟩ := h j _ (List.getElem?_eq_getElem (by omega))
  obtain rfl := Option.some.inj e
  unfold ahd
  rw [List.getD_eq_getElem?_getD, List.getD_eq_getElem?_getD, List.getElem?_eq_getElem (show i < L.length by omega), List.getElem?_eq_getElem (show j < L.length by omega)]
  exact ahead_ok ad n c i j hi hj _ _ _ _ _ _ _ _ _ _ _ _ w c1 c2 c3 c4 c5 c6 d1 d2 d3 d4 d5 d6
end Go.Proofs.YtegpfhldbdegbaaDoor

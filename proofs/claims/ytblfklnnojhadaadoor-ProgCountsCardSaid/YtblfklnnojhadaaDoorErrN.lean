/-
  Errors as the program makes them: none, a number, a fault at a place; what No says of them.
-/
import Derived.Test.YtblfklnnojhadaaDoorNo
namespace Go.Proofs.YtblfklnnojhadaaDoor
open Go.RowKit

/-- An error's value: its number, its place. -/
def ErrV (w : World) (v : Value) (no at_ : Int) : Prop :=
  (v = .nilIface ∧ no = 0 ∧ at_ = 0) ∨ (v = .iface 52 (.int .i64 no) ∧ (1 ≤ no ∧ no ≤ 17) ∧ at_ = 0) ∨
  ∃ g, v = .iface 51 (.pointer (some ⟨g, 0, none⟩)) ∧ Blk w g 54 #[.int .i64 at_, .int .i64 no] ∧ 1 ≤ no ∧ no ≤ 17
theorem ErrV.nil (w : World) : ErrV w .nilIface 0 0 := .inl ⟨rfl, rfl, rfl⟩
theorem ErrV.errno (w : World) (k : Int) (h1 : 1 ≤ k) (h2 : k ≤ 17) : ErrV w (.iface 52 (.int .i64 k)) k 0 := .inr (.inl ⟨rfl, ⟨h1, h2⟩, rfl⟩)
theorem ErrV.fault {w : World} {g : Nat} {no at_ : Int} (h : Blk w g 54 #[.int .i64 at_, .int .i64 no]) (h1 : 1 ≤ no) (h2 : no ≤ 17) : ErrV w (.iface 51 (.pointer (some ⟨g, 0, none⟩))) no at_ := .inr (.inr ⟨g, rfl, h, h1, h2⟩)
theorem ErrV.upd {w w' : World} {v : Value} {no at_ : Int} (h : ErrV w v no at_) (hu : Upd [] w w') : ErrV w' v no at_ := by
  rcases h with h | h | ⟨g, h1, h2, h3⟩
  · exact .inl h
  · exact .inr (.inl h)
  · exact .inr (.inr ⟨g, h1, h2.upd hu (by simp), h3⟩)
theorem no_err {w : World} {v : Value} {no at_ : Int} (h : ErrV w v no at_) : Calls Tryd.prog 12 #[v] w fun e w' => e = .returned (.int .i64 no) ∧ w = w' := by
  rcases h with ⟨rfl, rfl, _⟩ | ⟨rfl, ⟨h1, h2⟩, _⟩ | ⟨g, rfl, hb, h1, h2⟩
  · exact no_nil w
  · exact no_errno no h1 h2 w
  · exact no_fault g no h1 h2 w (hb.cell 1)
end Go.Proofs.YtblfklnnojhadaaDoor

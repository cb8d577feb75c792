/-
  Errors as the program makes them: what Place says of them.
-/
import Derived.Test.YtblfklnnojhadaaDoorErrN
import Derived.Test.YtblfklnnojhadaaDoorAs
namespace Go.Proofs.YtblfklnnojhadaaDoor
open Go.RowKit

theorem place_err {w : World} {v : Value} {no at_ : Int} (h : ErrV w v no at_) (ht : Typed w) : Calls Tryd.prog 13 #[v] w fun e w' => e = .returned (.int .i64 at_) ∧ Upd [] w w' := by
  rcases h with ⟨rfl, _, rfl⟩ | ⟨rfl, _, rfl⟩ | ⟨g, rfl, hb, _⟩
  · exact place_nil w
  · exact place_errno no w ht
  · exact place_fault g at_ no w ht hb
end Go.Proofs.YtblfklnnojhadaaDoor

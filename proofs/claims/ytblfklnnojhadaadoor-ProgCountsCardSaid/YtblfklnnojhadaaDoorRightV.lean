/-
  Is a statement right? In plain words.
-/
import Derived.Test.YtblfklnnojhadaaDoorParts
import Derived.Test.YtblfklnnojhadaaDoorRightA
namespace Go.Proofs.YtblfklnnojhadaaDoor
open Go.RowKit

def loopB (k ar an : Int) : Bool := !(k == 12 && (!(ar == 0) || decide (an < 0) || decide (5 < an)))
def regB (pr : Bool) (reg : Int) : Bool := (pr == (decide (1 ≤ reg) && decide (reg ≤ 8))) && (pr || reg == 0)
def bodyB (pbo pe : Bool) (nb ne : Nat) : Bool := (pbo || nb == 0) && (pe || ne == 0)
/-- Is a statement right? -/
def rightV (k coll reg ar an br bn : Int) (nb ne : Nat) (ks : List Int) : Bool :=
  pIs k && collB coll (pColl k) (pOrd k) ks && argB ar an (pA k) && argB br bn (pB k) && loopB k ar an && regB (pReg k) reg && bodyB (pBody k) (pElse k) nb ne

end Go.Proofs.YtblfklnnojhadaaDoor

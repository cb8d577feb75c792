/-
  concordref09.One in plain words.
-/
import Derived.Test.YtblfklnnojhadaaDoorRightV
import Derived.Test.YtblfklnnojhadaaDoorRefA
import Derived.Test.YtblfklnnojhadaaDoorInvK
set_option linter.unusedVariables false
namespace Go.Proofs.YtblfklnnojhadaaDoor
open Go.RowKit
attribute [local go_sem] litStep_value

theorem rv_coll {k coll reg ar an br bn : Int} {nb ne : Nat} {ks : List Int} (h : collB coll (pColl k) (pOrd k) ks = false) : rightV k coll reg ar an br bn nb ne ks = false := by
  unfold rightV; rw [h]; simp
theorem rv_reg {k coll reg ar an br bn : Int} {nb ne : Nat} {ks : List Int} (h : regB (pReg k) reg = false) : rightV k coll reg ar an br bn nb ne ks = false := by
  unfold rightV; rw [h]; simp
theorem rv_rest {k coll reg ar an br bn : Int} {nb ne : Nat} {ks : List Int} (h1 : collB coll (pColl k) (pOrd k) ks = true) (h2 : regB (pReg k) reg = true) (hi : pIs k = true) :
    rightV k coll reg ar an br bn nb ne ks = (argB ar an (pA k) && argB br bn (pB k) && loopB k ar an && bodyB (pBody k) (pElse k) nb ne) := by
  unfold rightV; rw [h1, h2, hi]; simp
abbrev arg_ok_ref := @rarg_ok
end Go.Proofs.YtblfklnnojhadaaDoor

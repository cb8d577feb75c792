/-
  All that TraceTurned and TraceAlone stand on.
-/
import Derived.Test.YteddiknlcdbhjaaGreatTtB15
import Derived.Test.YteddiknlcdbhjaaGreatTtB14
import Derived.Test.YteddiknlcdbhjaaGreatTtB2
set_option linter.unusedVariables false
namespace Go.Proofs.YteddiknlcdbhjaaGreat
end Go.Proofs.YteddiknlcdbhjaaGreat

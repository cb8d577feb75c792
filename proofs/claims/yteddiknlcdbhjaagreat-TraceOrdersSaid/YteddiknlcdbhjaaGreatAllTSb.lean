/-
  All that TraceSerial and TraceOrders stand on.
-/
import Derived.Test.YteddiknlcdbhjaaGreatTsB15
import Derived.Test.YteddiknlcdbhjaaGreatTsB2
set_option linter.unusedVariables false
namespace Go.Proofs.YteddiknlcdbhjaaGreat
end Go.Proofs.YteddiknlcdbhjaaGreat

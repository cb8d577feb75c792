/-
  All that TraceGraphs stands on.
-/
import Derived.Test.YteddiknlcdbhjaaGreatDoorTgB16
import Derived.Test.YteddiknlcdbhjaaGreatDoorTgB3
set_option linter.unusedVariables false
namespace Go.Proofs.YteddiknlcdbhjaaGreatDoor
end Go.Proofs.YteddiknlcdbhjaaGreatDoor

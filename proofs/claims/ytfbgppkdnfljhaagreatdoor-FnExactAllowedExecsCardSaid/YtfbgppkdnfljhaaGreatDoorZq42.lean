/-
  Expressions that are changed. Condition: not too many numbers were taken.
-/
import Derived.Test.YtfbgppkdnfljhaaGreatDoorZq39
import Derived.Test.YtfbgppkdnfljhaaGreatDoorZq19
set_option maxHeartbeats 6400000
set_option maxRecDepth 100000
namespace Go.Proofs.YtfbgppkdnfljhaaGreatDoor
open Go.RowKit
end Go.Proofs.YtfbgppkdnfljhaaGreatDoor
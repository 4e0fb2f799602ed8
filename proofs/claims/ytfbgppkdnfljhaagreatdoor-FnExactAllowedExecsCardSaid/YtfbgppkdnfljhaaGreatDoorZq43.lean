/-
  The reference reads a model's text. Condition: it is one that is read.
-/
import Derived.Test.YtfbgppkdnfljhaaGreatDoorZq39
import Derived.Test.YtfbgppkdnfljhaaGreatDoorZq05
set_option maxHeartbeats 6400000
set_option maxRecDepth 100000
namespace Go.Proofs.YtfbgppkdnfljhaaGreatDoor
open Go.RowKit
end Go.Proofs.YtfbgppkdnfljhaaGreatDoor
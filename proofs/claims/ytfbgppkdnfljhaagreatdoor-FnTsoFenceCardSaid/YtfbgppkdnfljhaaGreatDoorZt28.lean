/-
  l6Pair of the reference, name by name. Condition: the candidate is one of a valid program.
-/
import Derived.Test.YtfbgppkdnfljhaaGreatDoorZt24
import Derived.Test.YtfbgppkdnfljhaaGreatDoorZt16
import Derived.Test.YtfbgppkdnfljhaaGreatDoorZt12
set_option maxHeartbeats 6400000
set_option maxRecDepth 100000
namespace Go.Proofs.YtfbgppkdnfljhaaGreatDoor
open Go.RowKit
end Go.Proofs.YtfbgppkdnfljhaaGreatDoor
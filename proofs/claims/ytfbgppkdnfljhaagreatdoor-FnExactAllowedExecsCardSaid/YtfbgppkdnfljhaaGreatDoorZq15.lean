/-
  Conflicts and the list of all instructions. No condition but bounds on lengths.
-/
import Derived.Test.YtfbgppkdnfljhaaGreatDoorZq08
import Derived.Test.YtfbgppkdnfljhaaGreatDoorZq07
set_option maxHeartbeats 6400000
set_option maxRecDepth 100000
namespace Go.Proofs.YtfbgppkdnfljhaaGreatDoor
open Go.RowKit
end Go.Proofs.YtfbgppkdnfljhaaGreatDoor
namespace Go.Proofs.YtfbgppkdnfljhaaGreatDoor
open Go.RowKit
end Go.Proofs.YtfbgppkdnfljhaaGreatDoor
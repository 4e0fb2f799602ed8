/-
  ConflictRel of the program and of the reference. Condition: bounds on lengths.
-/
import Derived.Test.YtfbgppkdnfljhaaGreatDoorZj10
import Derived.Test.YtfbgppkdnfljhaaGreatDoorZj07
import Derived.Test.YtfbgppkdnfljhaaGreatDoorZj09
import Derived.Test.YtfbgppkdnfljhaaGreatDoorZj04
set_option maxHeartbeats 6400000
set_option maxRecDepth 100000
namespace Go.Proofs.YtfbgppkdnfljhaaGreatDoor
open Go.RowKit
end Go.Proofs.YtfbgppkdnfljhaaGreatDoor
namespace Go.Proofs.YtfbgppkdnfljhaaGreatDoor
open Go.RowKit
end Go.Proofs.YtfbgppkdnfljhaaGreatDoor
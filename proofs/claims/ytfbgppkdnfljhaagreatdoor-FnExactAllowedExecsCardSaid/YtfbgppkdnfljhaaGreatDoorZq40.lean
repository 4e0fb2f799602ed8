/-
  What the program reads as one expression. Condition: a bound on the text.
-/
import Derived.Test.YtfbgppkdnfljhaaGreatDoorZq30
import Derived.Test.YtfbgppkdnfljhaaGreatDoorZq36
import Derived.Test.YtfbgppkdnfljhaaGreatDoorZq35
set_option maxHeartbeats 6400000
set_option maxRecDepth 100000
namespace Go.Proofs.YtfbgppkdnfljhaaGreatDoor
open Go.RowKit
end Go.Proofs.YtfbgppkdnfljhaaGreatDoor
namespace Go.Proofs.YtfbgppkdnfljhaaGreatDoor
open Go.RowKit
end Go.Proofs.YtfbgppkdnfljhaaGreatDoor
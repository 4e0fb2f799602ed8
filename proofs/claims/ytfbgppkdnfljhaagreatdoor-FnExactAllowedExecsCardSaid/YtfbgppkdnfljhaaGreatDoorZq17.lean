/-
  Plain: fences that are put into places of a program.
-/
import Derived.Test.YtfbgppkdnfljhaaGreatDoorZq14
import Derived.Test.YtfbgppkdnfljhaaGreatDoorZq08
import Derived.Test.YtfbgppkdnfljhaaGreatDoorZq15
import Derived.Test.YtfbgppkdnfljhaaGreatDoorZq06
import Derived.Test.YtfbgppkdnfljhaaGreatDoorZq12
set_option maxHeartbeats 6400000
set_option maxRecDepth 100000
namespace Go.Proofs.YtfbgppkdnfljhaaGreatDoor
open Go.RowKit
end Go.Proofs.YtfbgppkdnfljhaaGreatDoor
namespace Go.Proofs.YtfbgppkdnfljhaaGreatDoor
open Go.RowKit
end Go.Proofs.YtfbgppkdnfljhaaGreatDoor
namespace Go.Proofs.YtfbgppkdnfljhaaGreatDoor
open Go.RowKit
end Go.Proofs.YtfbgppkdnfljhaaGreatDoor
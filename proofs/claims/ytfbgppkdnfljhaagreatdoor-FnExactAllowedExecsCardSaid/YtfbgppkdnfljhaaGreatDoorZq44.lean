/-
  Texts of models that the program reads. No condition.
-/
import Derived.Test.YtfbgppkdnfljhaaGreatDoorZq03
import Derived.Shelf.Strings.Count
import Derived.Lib.SplitLaws
import Derived.Test.YtfbgppkdnfljhaaGreatDoorZq40
import Derived.Test.YtfbgppkdnfljhaaGreatDoorZq39
set_option maxHeartbeats 6400000
set_option maxRecDepth 100000
namespace Go.Proofs.YtfbgppkdnfljhaaGreatDoor
open Go.RowKit Go.Shelf
end Go.Proofs.YtfbgppkdnfljhaaGreatDoor
namespace Go.Proofs.YtfbgppkdnfljhaaGreatDoor
open Go.RowKit
end Go.Proofs.YtfbgppkdnfljhaaGreatDoor
namespace Go.Proofs.YtfbgppkdnfljhaaGreatDoor
end Go.Proofs.YtfbgppkdnfljhaaGreatDoor
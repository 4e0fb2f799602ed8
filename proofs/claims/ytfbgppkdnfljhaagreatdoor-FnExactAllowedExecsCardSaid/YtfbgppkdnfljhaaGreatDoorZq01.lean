/-
  Contracts of the library laid at this program, in plain words (written by the shelf's own command). No condition.
-/
import Derived.Shelf.Sort.Plain
import Derived.Ground.NamesProg
import Derived.Test.YtfbgppkdnfljhaaGreatDoorProg
set_option maxHeartbeats 6400000
set_option maxRecDepth 100000
namespace Go.Proofs.YtfbgppkdnfljhaaGreatDoor
open Go.Proofs Go.Shelf
end Go.Proofs.YtfbgppkdnfljhaaGreatDoor
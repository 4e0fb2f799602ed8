/-
  An empty text: this seat has no slices.Sort. No condition.
-/
import Derived.Shelf.Sort.Plain
import Derived.Test.YtkfhgnkonaafgaaGreatDoorProg
set_option maxHeartbeats 6400000
set_option maxRecDepth 100000
namespace Go.Proofs.YtkfhgnkonaafgaaGreatDoor
end Go.Proofs.YtkfhgnkonaafgaaGreatDoor
/-
  Expressions that are changed. Condition: not too many numbers were taken.
-/
import Derived.Test.YtkfhgnkonaafgaaGreatDoorZx37
import Derived.Test.YtkfhgnkonaafgaaGreatDoorZx18
set_option maxHeartbeats 6400000
set_option maxRecDepth 100000
namespace Go.Proofs.YtkfhgnkonaafgaaGreatDoor
open Go.RowKit
end Go.Proofs.YtkfhgnkonaafgaaGreatDoor
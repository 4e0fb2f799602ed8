/-
  Conflicts and the list of all instructions. No condition but bounds on lengths.
-/
import Derived.Test.YtkfhgnkonaafgaaGreatDoorZx07
import Derived.Test.YtkfhgnkonaafgaaGreatDoorZx06
set_option maxHeartbeats 6400000
set_option maxRecDepth 100000
namespace Go.Proofs.YtkfhgnkonaafgaaGreatDoor
open Go.RowKit
end Go.Proofs.YtkfhgnkonaafgaaGreatDoor
namespace Go.Proofs.YtkfhgnkonaafgaaGreatDoor
open Go.RowKit
end Go.Proofs.YtkfhgnkonaafgaaGreatDoor
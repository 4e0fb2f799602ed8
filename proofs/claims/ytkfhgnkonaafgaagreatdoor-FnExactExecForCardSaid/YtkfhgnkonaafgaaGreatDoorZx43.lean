/-
  The laws' marks on lists of candidates, and equality of such lists. Condition: bounds on lengths.
-/
import Derived.Test.YtkfhgnkonaafgaaGreatDoorZx33
import Derived.Test.YtkfhgnkonaafgaaGreatDoorZx12
import Derived.Test.YtkfhgnkonaafgaaGreatDoorZx04
set_option maxHeartbeats 6400000
set_option maxRecDepth 100000
namespace Go.Proofs.YtkfhgnkonaafgaaGreatDoor
open Go.RowKit
theorem wX_le {x:Xc}:x.fr.length≤wX x∧sumN (x.od.map List.length)≤wX x:=by unfold wX;omega
end Go.Proofs.YtkfhgnkonaafgaaGreatDoor
/-
  Programs that are drawn and sometimes made invalid. Condition: not too many numbers were taken.
-/
import Derived.Test.YtkfhgnkonaafgaaGreatDoorZx18
import Derived.Test.YtkfhgnkonaafgaaGreatDoorZx11
import Derived.Deep.LoopGhost
import Derived.Deep.RegionLaw
import Derived.Deep.DrawnRows
set_option maxHeartbeats 6400000
set_option maxRecDepth 100000
namespace Go.Proofs.YtkfhgnkonaafgaaGreatDoor
open Go.RowKit
attribute [local go_sem ↓] Go.wp_at_zero Go.wp_at_succ
end Go.Proofs.YtkfhgnkonaafgaaGreatDoor
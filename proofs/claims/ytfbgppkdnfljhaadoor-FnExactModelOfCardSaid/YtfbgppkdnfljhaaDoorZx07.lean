/-
  CountRel of the program: the number of pairs. Condition: at most 15 elements.
-/
import Derived.Test.YtfbgppkdnfljhaaDoorZx03
import Derived.Test.YtfbgppkdnfljhaaDoorZx00
set_option maxHeartbeats 6400000
set_option maxRecDepth 100000
namespace Go.Proofs.YtfbgppkdnfljhaaDoor
open Go.RowKit
end Go.Proofs.YtfbgppkdnfljhaaDoor
namespace Go.Proofs.YtfbgppkdnfljhaaDoor
open Go.RowKit
end Go.Proofs.YtfbgppkdnfljhaaDoor
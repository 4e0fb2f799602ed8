/-
  Plain: one fence in one gap.
-/
import Derived.Test.YtlddmagfbcomgaaGreatZq26
import Derived.Test.YtlddmagfbcomgaaGreatZq48
set_option maxHeartbeats 6400000
set_option maxRecDepth 100000
namespace Go.Proofs.YtlddmagfbcomgaaGreat
open Go.RowKit
end Go.Proofs.YtlddmagfbcomgaaGreat
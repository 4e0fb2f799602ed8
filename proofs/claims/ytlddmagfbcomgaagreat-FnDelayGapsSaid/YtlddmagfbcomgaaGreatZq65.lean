/-
  The programs that are drawn for ProgramValid and GapsOf. Condition: bytes.
-/
import Derived.Test.YtlddmagfbcomgaaGreatZq21
set_option maxHeartbeats 6400000
set_option maxRecDepth 100000
namespace Go.Proofs.YtlddmagfbcomgaaGreat
open Go.RowKit
end Go.Proofs.YtlddmagfbcomgaaGreat
/-
  Plain: one fence in one gap.
-/
import Derived.Test.YtngekjpklkjnbaaGreatZp32
import Derived.Test.YtngekjpklkjnbaaGreatZp33
set_option maxHeartbeats 6400000
set_option maxRecDepth 100000
namespace Go.Proofs.YtngekjpklkjnbaaGreat
open Go.RowKit
end Go.Proofs.YtngekjpklkjnbaaGreat
/-
  Plain: fences that are put can be dropped again, and are not more than the places.
-/
import Derived.Test.YtngekjpklkjnbaaGreatZp12
set_option maxHeartbeats 6400000
set_option maxRecDepth 100000
namespace Go.Proofs.YtngekjpklkjnbaaGreat
open Go.RowKit
end Go.Proofs.YtngekjpklkjnbaaGreat
/-
  GapsOf, of the program and of the reference; the law FnExactGapsOf.
-/
import Derived.Test.YtngekjpklkjnbaaGreatZp08
set_option maxHeartbeats 6400000
set_option maxRecDepth 100000
namespace Go.Proofs.YtngekjpklkjnbaaGreat
open Go.RowKit
end Go.Proofs.YtngekjpklkjnbaaGreat
/-
  Plain: the candidates of a program as products, and that fences do not count. No condition.
-/
import Derived.Test.YtfbgppkdnfljhaaDoorZx08
import Derived.Test.YtfbgppkdnfljhaaDoorZx10
import Derived.Test.YtfbgppkdnfljhaaDoorZx09
set_option maxHeartbeats 6400000
set_option maxRecDepth 100000
namespace Go.Proofs.YtfbgppkdnfljhaaDoor
open Go.RowKit
end Go.Proofs.YtfbgppkdnfljhaaDoor
namespace Go.Proofs.YtfbgppkdnfljhaaDoor
section
variable {es es' : List Ev}
end
end Go.Proofs.YtfbgppkdnfljhaaDoor
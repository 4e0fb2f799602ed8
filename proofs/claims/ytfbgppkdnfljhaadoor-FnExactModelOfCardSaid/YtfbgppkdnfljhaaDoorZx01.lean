/-
  Nothing of the library's sort is reached here. No condition.
-/
import Derived.Shelf.Sort.Plain
import Derived.Test.YtfbgppkdnfljhaaDoorProg
set_option maxHeartbeats 6400000
set_option maxRecDepth 100000
namespace Go.Proofs.YtfbgppkdnfljhaaDoor
end Go.Proofs.YtfbgppkdnfljhaaDoor
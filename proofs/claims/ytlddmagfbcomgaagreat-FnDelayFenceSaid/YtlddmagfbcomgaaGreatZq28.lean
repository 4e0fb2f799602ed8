/-
  slices.Index, slices.Contains and slices.Clone on numbers. Condition: a bound on lengths.
-/
import Derived.Test.YtlddmagfbcomgaaGreatZq25
import Derived.Test.YtlddmagfbcomgaaGreatZq06
import Derived.Test.YtlddmagfbcomgaaGreatZq24
import Derived.Deep.RegionHeld3
import Derived.Deep.DeepCutAuto
import Derived.Test.YtlddmagfbcomgaaGreatZq00
import Derived.Test.YtlddmagfbcomgaaGreatZq02
set_option maxHeartbeats 6400000
set_option maxRecDepth 100000
namespace Go.Proofs.YtlddmagfbcomgaaGreat
open Go.RowKit
end Go.Proofs.YtlddmagfbcomgaaGreat
namespace Go.Proofs.YtlddmagfbcomgaaGreat
open Go.RowKit
end Go.Proofs.YtlddmagfbcomgaaGreat
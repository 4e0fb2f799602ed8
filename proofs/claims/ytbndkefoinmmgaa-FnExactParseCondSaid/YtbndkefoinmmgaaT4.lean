/-
  Equality of conditions, of the reference and of the program. No condition.
-/
import Derived.Test.YtbndkefoinmmgaaT2
namespace Go.Proofs.Ytbndkefoinmmgaa
open Go.RowKit

end Go.Proofs.Ytbndkefoinmmgaa

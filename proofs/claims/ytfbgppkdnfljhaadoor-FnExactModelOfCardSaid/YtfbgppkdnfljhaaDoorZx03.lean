/-
  The number of pairs of a relation. Condition: at most 15 elements.
-/
import Derived.Test.YtfbgppkdnfljhaaDoorZx00
set_option maxHeartbeats 6400000
set_option maxRecDepth 100000
namespace Go.Proofs.YtfbgppkdnfljhaaDoor
open Go.RowKit
def oc1 (x:Nat):Nat:=(x / 2 &&& 6148914691236517205)+(x &&& 6148914691236517205)
def oc2 (y:Nat):Nat:=(y / 4 &&& 3689348814741910323)+(y &&& 3689348814741910323)
def oc3 (y:Nat):Nat:=(y / 16+y) &&& 1085102592571150095
def oc4 (y:Nat):Nat:=y+y / 256
def oc5 (y:Nat):Nat:=y+y / 65536
def oc6 (y:Nat):Nat:=y+y / 4294967296
def ones (x:Nat):Nat:=oc6 (oc5 (oc4 (oc3 (oc2 (oc1 x))))) &&& 127
end Go.Proofs.YtfbgppkdnfljhaaDoor
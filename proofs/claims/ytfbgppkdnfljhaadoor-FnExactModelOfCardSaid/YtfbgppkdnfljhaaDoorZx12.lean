/-
  Pairs that are in one relation and not in another, in the program and in the reference. Condition: few elements.
-/
import Derived.Test.YtfbgppkdnfljhaaDoorZx08
import Derived.Test.YtfbgppkdnfljhaaDoorZx05
import Derived.Test.YtfbgppkdnfljhaaDoorZx09
import Derived.Test.YtfbgppkdnfljhaaDoorZx00
set_option maxHeartbeats 6400000
set_option maxRecDepth 100000
namespace Go.Proofs.YtfbgppkdnfljhaaDoor
def nameId (nm:ByteArray):Nat:=nameTab.findIdx fun s=>nm.toList==s.toList
def kidR (c:Re) (k:Nat):Re:=(c.kids[k]?).getD (.mk 0 ByteArray.empty [])
structure Ru where
 kind:Int
 e:Re
def ruleOk (r:Ru):Bool:=inB r.kind 1 3&&validR r.e
def modelOk (m:List Ru):Bool:=decide (1≤m.length)&&(decide (m.length≤5)&&m.all ruleOk)
end Go.Proofs.YtfbgppkdnfljhaaDoor
namespace Go.Proofs.YtfbgppkdnfljhaaDoor
end Go.Proofs.YtfbgppkdnfljhaaDoor
namespace Go.Proofs.YtfbgppkdnfljhaaDoor
section
variable (p : List (List Ins)) (x : Xc)
end
section
variable {p : List (List Ins)} {x : Xc}
end
end Go.Proofs.YtfbgppkdnfljhaaDoor
namespace Go.Proofs.YtfbgppkdnfljhaaDoor
open Go.RowKit
end Go.Proofs.YtfbgppkdnfljhaaDoor
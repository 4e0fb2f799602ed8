/-
  Delays between events, in the program and in the reference. Condition: bounds on lengths.
-/
import Derived.Test.YtfbgppkdnfljhaaDoorZn00
import Derived.Test.YtfbgppkdnfljhaaDoorZn06
import Derived.Test.YtfbgppkdnfljhaaDoorZn05
import Derived.Test.YtfbgppkdnfljhaaDoorZn04
set_option maxHeartbeats 6400000
set_option maxRecDepth 100000
namespace Go.Proofs.YtfbgppkdnfljhaaDoor
open Go.RowKit
end Go.Proofs.YtfbgppkdnfljhaaDoor
namespace Go.Proofs.YtfbgppkdnfljhaaDoor
open Go.RowKit
end Go.Proofs.YtfbgppkdnfljhaaDoor
namespace Go.Proofs.YtfbgppkdnfljhaaDoor
open Go.RowKit
def poB (L:List Ev) (i k:Nat):Bool:=match L[i]?,L[k]? with
 | some a,some b=>decide (0≤a.t)&&((a.t==b.t)&&decide (a.i < b.i))
 | _,_=>false
def delF (n:Nat) (c po:Nat→Nat→Bool):Nat→Nat→Bool:=fAnd po (fInv (fOr (fComp n c c) (fComp n (fComp n c (fClo n (fOr c po))) c)))
def delays (p:List (List Ins)):List Int:=relOf (evAll p).length (delF (evAll p).length (confB (evAll p)) (poB (evAll p)))
end Go.Proofs.YtfbgppkdnfljhaaDoor
/-
  Bytes made out of a text, which grow: the row's end is marked, none of its cells is. No condition but bounds.
-/
import Derived.Test.YtnkfphndfijcoaaZo06
import Derived.Test.YtnkfphndfijcoaaZo02
import Derived.Lib.ConvBytes
import Derived.Lib.FrozenHead
set_option maxHeartbeats 6400000
set_option maxRecDepth 100000
namespace Go.Proofs.Ytnkfphndfijcoaa
open Go.RowKit
abbrev encR2 (r:List (Int × Int)):List Int:=r.map fun e=>e.1 * 16+e.2
theorem place_in {p:List (List Ins)}{split:Bool}{t i:Nat}(ht:t < p.length) (hi:i < 3):bfPlace t i split < p.length * bfN split:=by
 have:=place_lt (p:=p) (split:=split) (loc:=(i:Int)) ht (by omega) (by omega);exact this
end Go.Proofs.Ytnkfphndfijcoaa
namespace Go.Proofs.Ytnkfphndfijcoaa
open Go.RowKit
def bfCan (p:List (List Ins)) (split:Bool) (s:Bf) (t:Nat):Bool:=match sqIns p s.q t with
 | none=>false
 | some i=>if i.op=4∨i.op=5 then bfEmpty s t split else true
def bfHas (s:Bf) (k:Nat):Bool:=decide (0 < (s.bf.getD k []).length)
end Go.Proofs.Ytnkfphndfijcoaa
namespace Go.Proofs.Ytnkfphndfijcoaa
open Go.RowKit
end Go.Proofs.Ytnkfphndfijcoaa
namespace Go.Proofs.Ytnkfphndfijcoaa
open Go.RowKit
end Go.Proofs.Ytnkfphndfijcoaa
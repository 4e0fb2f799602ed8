/-
  The writers of a location, of both sides; the place of a number in a list; an order of writers. Condition: bounds on lengths.
-/
import Derived.Test.YtlddmagfbcomgaaGreatZq02
import Derived.Test.YtlddmagfbcomgaaGreatZq00
set_option maxHeartbeats 6400000
set_option maxRecDepth 100000
namespace Go.Proofs.YtlddmagfbcomgaaGreat
theorem evOf_len (t i:Nat) (x:Ins):(evOf t i x).length=if notFence x=true then 1 else 0:=by
 unfold evOf notFence
 by_cases h:x.op=4
 ·simp [h]
 ·simp [h]
theorem evRow_len (t:Nat) (r:List Ins):∀ k,k≤r.length→(evRow t r k).length=(r.take k).countP notFence:=by
 intro k
 induction k with
 | zero=>intro _;simp [evRow]
 | succ k ih =>
  intro hk
  obtain ⟨x,hx⟩:=get_of_lt (xs:=r) (k:=k) hk
  rw [evRow_succ hx,List.length_append,ih (by omega),countP_take_succ _ hx,evOf_len]
theorem evTo_len (p:List (List Ins)):∀ j,j≤p.length→(evTo p j).length=cnt notFence (p.take j):=by
 intro j
 induction j with
 | zero=>intro _;simp [evTo,cnt]
 | succ j ih =>
  intro hj
  obtain ⟨r,hr⟩:=get_of_lt (xs:=p) (k:=j) hj
  rw [evTo_succ hr,List.length_append,ih (by omega),cnt_take_succ _ hr,evRow_len j r r.length (Nat.le_refl _),List.take_length]
theorem evAll_le {p:List (List Ins)} (h:progValid p=true):(evAll p).length≤15:=by
 obtain ⟨-, -, -,h4, -⟩:=valid_le h
 unfold evAll
 rw [List.length_append,evHead_length,evTo_len p p.length (Nat.le_refl _),List.take_length]
 omega
end Go.Proofs.YtlddmagfbcomgaaGreat
namespace Go.Proofs.YtlddmagfbcomgaaGreat
def wr1 (l:Int) (i:Nat) (e:Ev):List Int:=if (e.w&&e.l==l)=true then [(i:Int)] else []
def wrTo (es:List Ev) (l:Int) (k:Nat):List Int:=(List.range k).flatMap fun i=>match es[i]? with
 | some e=>wr1 l i e
 | none=>[]
def wrL (es:List Ev) (l:Int):List Int:=wrTo es l es.length
theorem wrTo_succ {es:List Ev} (l:Int) {k:Nat} {e:Ev} (h:es[k]? = some e):wrTo es l (k+1)=wrTo es l k++wr1 l k e:=by
 unfold wrTo
 rw [List.range_succ,List.flatMap_append]
 simp [h]
end Go.Proofs.YtlddmagfbcomgaaGreat
namespace Go.Proofs.YtlddmagfbcomgaaGreat
open Go.RowKit
end Go.Proofs.YtlddmagfbcomgaaGreat
/-
  Plain: the outcome of a candidate.
-/
import Derived.Test.YtfbgppkdnfljhaaDoorZx00
set_option maxHeartbeats 6400000
set_option maxRecDepth 100000
namespace Go.Proofs.YtfbgppkdnfljhaaDoor
structure Xc where
 fr:List Int
 od:List (List Int)
deriving DecidableEq
def wr1 (l:Int) (i:Nat) (e:Ev):List Int:=if (e.w&&e.l==l)=true then [(i:Int)] else []
def wrTo (es:List Ev) (l:Int) (k:Nat):List Int:=(List.range k).flatMap fun i=>match es[i]? with
 | some e=>wr1 l i e
 | none=>[]
def wrL (es:List Ev) (l:Int):List Int:=wrTo es l es.length
theorem wrTo_succ {es:List Ev} (l:Int) {k:Nat} {e:Ev} (h:es[k]? = some e):wrTo es l (k+1)=wrTo es l k++wr1 l k e:=by
 unfold wrTo
 rw [List.range_succ,List.flatMap_append]
 simp [h]
end Go.Proofs.YtfbgppkdnfljhaaDoor
namespace Go.Proofs.YtfbgppkdnfljhaaDoor
open Go.RowKit
theorem news_allocV {w:World} {l:List Value} {T:TypeId} {G:Nat} (hG:w.heap.size=G):∀ (j:Nat) (u:Value),l[j]? = some u→(w.alloc (.cells l.toArray T)).cell? ⟨G,0+j,none⟩=some u:=by
 subst hG;exact news_alloc
end Go.Proofs.YtfbgppkdnfljhaaDoor
namespace Go.Proofs.YtfbgppkdnfljhaaDoor
end Go.Proofs.YtfbgppkdnfljhaaDoor
namespace Go.Proofs.YtfbgppkdnfljhaaDoor
def insE (p:List (List Ins)) (e:Ev):Ins:=((p[e.t.toNat]?).bind fun r=>r[e.i.toNat]?).getD ⟨0,0,0,0⟩
theorem insE_of {p:List (List Ins)} {e:Ev} {t i:Nat} {r:List Ins} {x:Ins} (h1:p[t]? = some r) (h2:r[i]? = some x) (ht:e.t=t) (hi:e.i=i):insE p e=x:=by
 unfold insE
 rw [ht,hi];simp [h1,h2]
theorem ev_cases {p:List (List Ins)} {k:Nat} {e:Ev} (h:(evAll p)[k]? = some e):(e.t = -1)∨∃ (t i:Nat) (r:List Ins),e.t=t∧e.i=i∧p[t]? = some r∧r[i]? = some (insE p e)∧e.r=isRop (insE p e).op∧e.w=isWop (insE p e).op∧e.l=(insE p e).loc:=by
 rcases mem_evAll (List.mem_of_getElem? h) with h | ⟨t,i,r,x,h1,h2,h3, -⟩
 ·exact .inl h
 ·have e1:insE p e=x:=insE_of h1 h2 (by rw [h3]) (by rw [h3])
  exact .inr ⟨t,i,r,by rw [h3],by rw [h3],h1,by rw [e1];exact h2,by rw [e1,h3],by rw [e1,h3],by rw [e1,h3]⟩
end Go.Proofs.YtfbgppkdnfljhaaDoor
namespace Go.Proofs.YtfbgppkdnfljhaaDoor
end Go.Proofs.YtfbgppkdnfljhaaDoor
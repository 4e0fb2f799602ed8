/-
  Plain: the outcome of a candidate.
-/
import Derived.Test.YtlddmagfbcomgaaGreatZq25
import Derived.Test.YtlddmagfbcomgaaGreatZq23
set_option maxHeartbeats 6400000
set_option maxRecDepth 100000
namespace Go.Proofs.YtlddmagfbcomgaaGreat
end Go.Proofs.YtlddmagfbcomgaaGreat
namespace Go.Proofs.YtlddmagfbcomgaaGreat
def insE (p:List (List Ins)) (e:Ev):Ins:=((p[e.t.toNat]?).bind fun r=>r[e.i.toNat]?).getD ⟨0,0,0,0⟩
theorem insE_of {p:List (List Ins)} {e:Ev} {t i:Nat} {r:List Ins} {x:Ins} (h1:p[t]? = some r) (h2:r[i]? = some x) (ht:e.t=t) (hi:e.i=i):insE p e=x:=by
 unfold insE
 rw [ht,hi];simp [h1,h2]
theorem ev_cases {p:List (List Ins)} {k:Nat} {e:Ev} (h:(evAll p)[k]? = some e):(e.t = -1)∨∃ (t i:Nat) (r:List Ins),e.t=t∧e.i=i∧p[t]? = some r∧r[i]? = some (insE p e)∧e.r=isRop (insE p e).op∧e.w=isWop (insE p e).op∧e.l=(insE p e).loc:=by
 rcases mem_evAll (List.mem_of_getElem? h) with h | ⟨t,i,r,x,h1,h2,h3, -⟩
 ·exact .inl h
 ·have e1:insE p e=x:=insE_of h1 h2 (by rw [h3]) (by rw [h3])
  exact .inr ⟨t,i,r,by rw [h3],by rw [h3],h1,by rw [e1];exact h2,by rw [e1,h3],by rw [e1,h3],by rw [e1,h3]⟩
end Go.Proofs.YtlddmagfbcomgaaGreat
namespace Go.Proofs.YtlddmagfbcomgaaGreat
end Go.Proofs.YtlddmagfbcomgaaGreat
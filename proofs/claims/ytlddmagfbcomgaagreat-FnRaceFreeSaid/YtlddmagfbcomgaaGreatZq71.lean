/-
  Plain: the races in the order in which the reference walks.
-/
import Derived.Test.YtlddmagfbcomgaaGreatZq23
set_option maxHeartbeats 6400000
set_option maxRecDepth 100000
namespace Go.Proofs.YtlddmagfbcomgaaGreat
theorem racesOf_low (p:List (List Ins)) (a:Gp) (L:List Gp) (h:∀ g∈L,¬ a.t < g.t):racesOf p a L=[]:=by
 unfold racesOf
 rw [List.map_eq_nil_iff,List.filter_eq_nil_iff]
 intro g hg
 unfold raceB
 simp [h g hg]
theorem racesOf_start (p:List (List Ins)) (t i:Nat):racesOf p ⟨t,i⟩ (instrsTo p (t+1))=[]:=by
 apply racesOf_low
 intro g hg
 obtain ⟨t',i',r,x,rfl,ht, -, -⟩:=mem_instrsTo hg
 simp only
 omega
theorem racesTo_snoc (p:List (List Ins)) (L:List Gp) (a:Gp):racesTo p (L++[a])=racesTo p L++racesOf p a (insAll p):=by
 unfold racesTo
 rw [List.flatMap_append];simp
end Go.Proofs.YtlddmagfbcomgaaGreat
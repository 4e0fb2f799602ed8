/-
  Plain: the models are ordered: what one memory allows buffers allow, what buffers allow views allow. No condition.
-/
import Derived.Test.YtlddmagfbcomgaaGreatZq32
import Derived.Test.YtlddmagfbcomgaaGreatZq35
import Derived.Test.YtlddmagfbcomgaaGreatZq29
import Derived.Test.YtlddmagfbcomgaaGreatZq30
import Derived.Test.YtlddmagfbcomgaaGreatZq25
set_option maxHeartbeats 6400000
set_option maxRecDepth 100000
namespace Go.Proofs.YtlddmagfbcomgaaGreat
end Go.Proofs.YtlddmagfbcomgaaGreat
namespace Go.Proofs.YtlddmagfbcomgaaGreat
def lexE (a b:Ev):Prop:=a.t < b.t∨(a.t=b.t∧a.i < b.i)
theorem evHead_lex:∀ k,(evHead k).Pairwise lexE:=by
 intro k
 induction k with
 | zero=>exact List.Pairwise.nil
 | succ k ih =>
  rw [evHead_succ,List.pairwise_append]
  refine ⟨ih,by simp,fun a ha b hb => ?_⟩
  simp only [evHead,List.mem_map,List.mem_range] at ha
  obtain ⟨l,hl,rfl⟩:=ha
  simp at hb;subst hb
  exact .inr ⟨rfl,by show (l:Int) < k;omega⟩
theorem mem_evRowL {t:Nat} {r:List Ins} {e:Ev}:∀ {k},e∈evRow t r k→e.t=t∧0≤e.i∧e.i < k:=by
 intro k he
 simp only [evRow,List.mem_flatMap,List.mem_range] at he
 obtain ⟨i,hi,h⟩:=he
 cases hr:r[i]? with
 | none=>rw [hr] at h;cases h
 | some x =>
  rw [hr] at h
  obtain ⟨rfl, -⟩:=mem_evOf h
  exact ⟨rfl,by show (0:Int)≤i;omega,by show (i:Int) < k;omega⟩
theorem evRow_lex (t:Nat) (r:List Ins):∀ k,k≤r.length→(evRow t r k).Pairwise lexE:=by
 intro k
 induction k with
 | zero=>intro _;exact List.Pairwise.nil
 | succ k ih =>
  intro hk
  obtain ⟨x,hx⟩:=get_of_lt (xs:=r) (k:=k) (by omega)
  rw [evRow_succ hx,List.pairwise_append]
  refine ⟨ih (by omega), ?_,fun a ha b hb => ?_⟩
  ·unfold evOf;split <;> simp
  ·obtain ⟨h1, -,h2⟩:=mem_evRowL ha
   obtain ⟨rfl, -⟩:=mem_evOf hb
   exact .inr ⟨h1,h2⟩
theorem mem_evToL {p:List (List Ins)} {e:Ev}:∀ {j},e∈evTo p j→0≤e.t∧e.t < j:=by
 intro j he
 simp only [evTo,List.mem_flatMap,List.mem_range] at he
 obtain ⟨t,ht,h⟩:=he
 cases hr:p[t]? with
 | none=>rw [hr] at h;cases h
 | some r =>
  rw [hr] at h
  obtain ⟨h1, -⟩:=mem_evRowL h
  rw [h1];omega
theorem evTo_lex (p:List (List Ins)):∀ j,j≤p.length→(evTo p j).Pairwise lexE:=by
 intro j
 induction j with
 | zero=>intro _;exact List.Pairwise.nil
 | succ j ih =>
  intro hj
  obtain ⟨r,hr⟩:=get_of_lt (xs:=p) (k:=j) (by omega)
  rw [evTo_succ hr,List.pairwise_append]
  refine ⟨ih (by omega),evRow_lex _ _ _ (Nat.le_refl _),fun a ha b hb => ?_⟩
  have h1:=(mem_evToL ha).2
  have h2:=(mem_evRowL hb).1
  exact .inl (by omega)
theorem evAll_lex (p:List (List Ins)):(evAll p).Pairwise lexE:=by
 unfold evAll
 rw [List.pairwise_append]
 refine ⟨evHead_lex 3,evTo_lex p _ (Nat.le_refl _),fun a ha b hb => ?_⟩
 simp only [evHead,List.mem_map,List.mem_range] at ha
 obtain ⟨l, -,rfl⟩:=ha
 have h2:=(mem_evToL hb).1
 exact .inl (by show (-1:Int) < b.t;omega)
end Go.Proofs.YtlddmagfbcomgaaGreat
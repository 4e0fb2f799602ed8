/-
  Whether outcomes are among others, by the reference. No condition.
-/
import Derived.Test.YtnkfphndfijcoaaZo00
import Derived.Test.YtnkfphndfijcoaaZo04
import Derived.Test.YtnkfphndfijcoaaZo02
import Derived.RangeFuncNested
import Derived.RangeFuncBound
import Derived.RangeFuncCalls
import Derived.RangeFuncLeaves
import Derived.Shelf.Abstract
import Derived.Shelf.RegionOpen
import Derived.OwnWalkIn
import Derived.TacticsInMore
import Derived.LoopNIn
import Derived.LoopIn
import Derived.Deep.RegionHeld3
import Derived.Deep.DeepCutAuto
import Derived.Test.YtnkfphndfijcoaaZo03
set_option maxHeartbeats 6400000
set_option maxRecDepth 100000
namespace Go.Proofs.Ytnkfphndfijcoaa
open Go.RowKit
end Go.Proofs.Ytnkfphndfijcoaa
namespace Go.Proofs.Ytnkfphndfijcoaa
open Go.RowKit Go.Shelf
attribute [local go_sem] Oper.semAt_some
end Go.Proofs.Ytnkfphndfijcoaa
namespace Go.Proofs.Ytnkfphndfijcoaa
open Go.RowKit Go.Shelf
attribute [local go_sem] Oper.semAt_some
end Go.Proofs.Ytnkfphndfijcoaa
namespace Go.Proofs.Ytnkfphndfijcoaa
def dW (b:Nat):Nat→Nat
 | 0=>1
 | r+1=>1+b * dW b r
def cW (b:Nat):Nat→Nat
 | 0=>0
 | r+1=>dW b r
theorem dW_eq (b r:Nat):dW b r=1+b * cW b r:=by cases r <;> simp[dW,cW]
theorem dW_pos (b r:Nat):1≤dW b r:=by rw[dW_eq];omega
theorem dW_step (b:Nat) (hb:0 < b) (r:Nat):dW b r≤dW b (r+1):=by
 have h:dW b r * 1≤dW b r * b:=Nat.mul_le_mul_left _ hb;rw[show dW b (r+1)=1+b * dW b r from rfl,Nat.mul_comm b];omega
theorem dW_mono {b:Nat}(hb:0 < b) {r r':Nat}(h:r≤r'):dW b r≤dW b r':=by
 induction h with
 | refl=>exact Nat.le_refl _
 | step _ ih=>exact Nat.le_trans ih (dW_step b hb _)
theorem dW_less {b:Nat}(hb:0 < b) {r r':Nat}(h:r < r'):dW b r≤cW b r':=by
 cases r' with
 | zero=>omega
 | succ r'=>exact dW_mono hb (Nat.le_of_lt_succ h)
section
variable {S : Type} (b : Nat) (rank : S → Nat)
def phi (l:List S):Nat:=(l.map fun s=>dW b (rank s)).sum
theorem phi_append (l l':List S):phi b rank (l++l')=phi b rank l+phi b rank l':=by simp[phi,List.sum_append]
theorem phi_one (s:S):phi b rank [s]=dW b (rank s):=by simp[phi]
theorem phi_len (l:List S):l.length≤phi b rank l:=by
 induction l with
 | nil=>simp
 | cons s l ih =>
  have:=dW_pos b (rank s);simp only[phi,List.map_cons,List.sum_cons,List.length_cons]at ih ⊢;omega
end
section
variable {S K : Type} {start : S} {next : S → Nat → Option S} {key : S → K} (done : S → Bool) (out : S → List Int) (n b : Nat) (rank : S → Nat) (tot : Nat)
structure Srch (start:S) (next:S→Nat→Option S) (work seen taken:List S) (outs:List (List Int)):Prop where
 all:SAll done out n start next work seen taken outs
 num:seen.length=taken.length+work.length
 le:taken.length+phi b rank work≤tot
structure SrchM (start:S) (next:S→Nat→Option S) (m:Nat) (s:S) (k:Nat) (work seen taken:List S) (outs:List (List Int)):Prop where
 mid:SMid start next s k work seen
 o:OInv done out n taken outs
 t1:∀ u∈seen,u∈work∨u∈taken
 t2:∀ u∈taken,u∈seen
 num:seen.length=taken.length+work.length
 le:taken.length+phi b rank work+(b - k) * cW b (rank s)≤tot
 fall:phi b rank work+(b - k) * cW b (rank s)+1≤m
variable {done out n b rank tot}
theorem Srch.init (hb:dW b (rank start)≤tot):Srch done out n b rank tot start next [start] [start] [] []:=
 ⟨⟨.init,.nil,fun s h => .inl h,fun s h=>by simp at h⟩,by simp,by rw[phi_one];simpa using hb⟩
theorem Srch.len {work seen taken:List S}{outs:List (List Int)}(h:Srch done out n b rank tot start next work seen taken outs):seen.length≤tot:=by
 have h1:=phi_len b rank work;have h2:=h.le;rw[h.num];omega
theorem SrchM.len {m:Nat}{s:S}{k:Nat}{work seen taken:List S}{outs:List (List Int)}(h:SrchM done out n b rank tot start next m s k work seen taken outs):seen.length≤tot:=by
 have h1:=phi_len b rank work;have h2:=h.le;rw[h.num];omega
theorem Srch.rc {work seen taken:List S}{outs:List (List Int)}(h:Srch done out n b rank tot start next work seen taken outs) {s:S}(hs:s∈work):ReachM start next s:=h.all.inv.rc s (h.all.inv.sub s hs)
theorem Srch.enter {work seen taken:List S}{s:S}{outs outs':List (List Int)}(h:Srch done out n b rank tot start next (work++[s]) seen taken outs) (ho:OInv done out n (s :: taken) outs'):SrchM done out n b rank tot start next (phi b rank (work++[s])) s 0 work seen (s :: taken) outs':=by
 have h1:=h.le;rw[phi_append,phi_one,dW_eq]at h1;have h2:=h.num;simp only[List.length_append,List.length_singleton]at h2;have hw:∀ u,u∈work++[s]↔u=s∨u∈work:=fun u=>by simp[or_comm]
 refine⟨h.all.inv.enter hw,ho,fun u hu => ?_,fun u hu => ?_,by simp only[List.length_cons];omega,by simp only[List.length_cons,Nat.sub_zero];omega,by rw[phi_append,phi_one,dW_eq,Nat.sub_zero];omega⟩
 ·rcases h.all.t1 u hu with e | e
  ·rcases (hw u).1 e with e | e
   ·exact .inr (by simp[e])
   ·exact .inl e
  ·exact .inr (by simp[e])
 ·rcases List.mem_cons.1 hu with e | e
  ·rw[e];exact h.all.inv.sub s (by simp)
  ·exact h.all.t2 u e
theorem Srch.yes {work seen taken:List S}{s:S}{outs:List (List Int)}(h:Srch done out n b rank tot start next (work++[s]) seen taken outs) (hd:done s=true) (hl:(out s).length=n):SrchM done out n b rank tot start next (phi b rank (work++[s])) s 0 work seen (s :: taken) (putO (out s) outs):=h.enter (h.all.o.yes hd hl)
theorem Srch.no {work seen taken:List S}{s:S}{outs:List (List Int)}(h:Srch done out n b rank tot start next (work++[s]) seen taken outs) (hd:done s=false):SrchM done out n b rank tot start next (phi b rank (work++[s])) s 0 work seen (s :: taken) outs:=h.enter (h.all.o.no hd)
theorem SrchM.skip {m:Nat}{s:S}{k:Nat}{work seen taken:List S}{outs:List (List Int)}(h:SrchM done out n b rank tot start next m s k work seen taken outs) (hn:next s k=none):SrchM done out n b rank tot start next m s (k+1) work seen taken outs:=
 ⟨h.mid.skip hn,h.o,h.t1,h.t2,h.num,by
  have h1:=h.le;have h2:(b - (k+1)) * cW b (rank s)≤(b - k) * cW b (rank s):=Nat.mul_le_mul_right _ (by omega);omega,by
  have h1:=h.fall;have h2:(b - (k+1)) * cW b (rank s)≤(b - k) * cW b (rank s):=Nat.mul_le_mul_right _ (by omega);omega⟩
theorem SrchM.old {m:Nat}{s t:S}{k:Nat}{work seen taken:List S}{outs:List (List Int)}(h:SrchM done out n b rank tot start next m s k work seen taken outs) (hn:next s k=some t) (hk:key t∈seen.map key)
 (hi:∀ a b,ReachM start next a→ReachM start next b→key a=key b→a=b):SrchM done out n b rank tot start next m s (k+1) work seen taken outs:=by
 obtain⟨u,hu,he⟩:=List.mem_map.1 hk;exact⟨h.mid.old (key:=key) hn hu he hi,h.o,h.t1,h.t2,h.num,by
  have h1:=h.le;have h2:(b - (k+1)) * cW b (rank s)≤(b - k) * cW b (rank s):=Nat.mul_le_mul_right _ (by omega);omega,by
  have h1:=h.fall;have h2:(b - (k+1)) * cW b (rank s)≤(b - k) * cW b (rank s):=Nat.mul_le_mul_right _ (by omega);omega⟩
theorem SrchM.new {m:Nat}{s t:S}{k:Nat}{work seen taken:List S}{outs:List (List Int)}(h:SrchM done out n b rank tot start next m s k work seen taken outs) (hn:next s k=some t) (hkb:k < b) (hr:rank t < rank s):SrchM done out n b rank tot start next m s (k+1) (work++[t]) (seen++[t]) taken outs:=by
 have h1:=h.le;have h5:=h.fall;have h2:dW b (rank t)≤cW b (rank s):=dW_less (by omega) hr;have h3:(b - k) * cW b (rank s)=(b - (k+1)) * cW b (rank s)+cW b (rank s):=by
  rw[show b - k=(b - (k+1))+1 by omega,Nat.add_mul,Nat.one_mul]
 have h4:=h.num;refine⟨h.mid.new hn (fun u=>by simp[or_comm]) (fun u=>by simp[or_comm]),h.o,fun u hu => ?_,fun u hu=>by simp[h.t2 u hu],by simp only[List.length_append,List.length_singleton];omega,by rw[phi_append,phi_one];omega,by rw[phi_append,phi_one];omega⟩;rcases List.mem_append.1 hu with e | e
 ·rcases h.t1 u e with e | e
  ·exact .inl (by simp[e])
  ·exact .inr e
 ·exact .inl (by simp at e;simp[e])
theorem SrchM.leave {m:Nat}{s:S}{k:Nat}{work seen taken:List S}{outs:List (List Int)}(h:SrchM done out n b rank tot start next m s k work seen taken outs) (hk:∀ i t,next s i=some t→i < k):Srch done out n b rank tot start next work seen taken outs:=
 ⟨⟨h.mid.leave hk,h.o,h.t1,h.t2⟩,h.num,by have:=h.le;omega⟩
theorem SrchM.phi_lt {m:Nat}{s:S}{k:Nat}{work seen taken:List S}{outs:List (List Int)}(h:SrchM done out n b rank tot start next m s k work seen taken outs):phi b rank work < m:=by
 have:=h.fall;omega
end
end Go.Proofs.Ytnkfphndfijcoaa
namespace Go.Proofs.Ytnkfphndfijcoaa
open Go.RowKit
end Go.Proofs.Ytnkfphndfijcoaa
namespace Go.Proofs.Ytnkfphndfijcoaa
open Go.RowKit
theorem ev_read {p:List (List Ins)}{k:Nat}{e:Ev}(h:(evAll p)[k]? = some e) (hr:e.r=true):∃ (t i:Nat) (r:List Ins),e.t=t∧e.i=i∧p[t]? = some r∧r[i]? = some (insE p e):=by
 rcases ev_cases h with h1 | ⟨t,i,r,h1,h2,h3,h4,-⟩
 ·exfalso
  have h2:=List.mem_of_getElem? h;unfold evAll at h2;rcases List.mem_append.1 h2 with h3 | h3
  ·simp[evHead]at h3
   obtain⟨l,-,rfl⟩:=h3;cases hr
  ·unfold evTo at h3
   rw[List.mem_flatMap]at h3;obtain⟨t,ht,h3⟩:=h3;cases hp:p[t]? with
   | none=>rw[hp]at h3;simp at h3
   | some r =>
    rw[hp]at h3;simp only[evRow,List.mem_flatMap,List.mem_range]at h3;obtain⟨i,hi,h3⟩:=h3;obtain⟨x,hx⟩:=get_of_lt (xs:=r) (k:=i) hi;rw[hx]at h3;obtain⟨rfl,-⟩:=mem_evOf h3;simp at h1
 ·exact⟨t,i,r,h1,h2,h3,h4⟩
end Go.Proofs.Ytnkfphndfijcoaa
namespace Go.Proofs.Ytnkfphndfijcoaa
open Go.RowKit
end Go.Proofs.Ytnkfphndfijcoaa
namespace Go.Proofs.Ytnkfphndfijcoaa
open Go.RowKit
structure Dd where
 lo:Nat
 hi:Nat
 us:List Slc
section
variable {α β : Type} {E : El α} {T : TypeId} {R : Dd → Dd → Prop} {φ : Dd → World → α → β → Prop}
end
theorem Own.lit1 {α:Type}{E:El α}{T:TypeId}(w:World) {base:Nat}(hb:base≤w.heap.size) (x:α):Own E T (w.alloc (.cells (E.c x).toArray T)) base (.slice (some ⟨w.heap.size,0,none⟩) 1 1) [x]:=by
 refine⟨by simp[E.len],.inr ⟨w.heap.size,1,(E.c x).toArray,rfl,hb,heap_alloc_new w _,Nat.le_refl _,by unfold maxLen;omega,by simp[E.len],?_⟩⟩;simp only[List.flatMap_cons,List.flatMap_nil,List.append_nil];rw[List.take_of_length_le (by simp[E.len])]
theorem run_append_zero {P:Program}{w:World}{base:Nat}{t ty e:TypeId}{i:TypeInfo}{size:Nat}(ht:P.underlying t=some (.slice e)) (hi:P.info? e=some i)
 {v:Value}{n c:Nat}{xs:List Value}(hown:w.ownsRow base e size v n xs) (ad:Addr):(Builtin.append_ #[t,t] ty #[v,.slice (some ad) 0 c]).run P w = .ok v w:=by
 rcases hown.2 with⟨rfl,rfl⟩ | ⟨g,cap,cur,rfl,_,_,hnc,_⟩
 ·simp[Builtin.append_,run_underlying ht,sizeOf,typeInfo,hi,Builtin.lenOf,Builtin.firstCells,loadCells,loadCellsFrom]
 ·simp[Builtin.append_,run_underlying ht,sizeOf,typeInfo,hi,Builtin.lenOf,Builtin.firstCells,hnc,loadCells,loadCellsFrom,storeCells]
theorem step_appS {α:Type}(E:El α) {P:Program}{w:World}{ops:Array Oper}{o:Oper}{a:Act}{K:Act→World→Prop}{Q:Exit→Act→World→Prop}{F:Prop}
 (T:TypeId) {zv:Value}{bytes:Nat}(hinfo:(P.info? T).map (fun i=>(i.zero,i.size,i.bytes))=some (some zv,E.sz,bytes)) (hz:zv.cells.size=E.sz) {t:TypeId}(h1:P.underlying t=some (.slice T))
 (base:Nat) (v:Value) (xs ys:List α) (u:Value) (hown:Own E T w base v xs) (hrep:Rep E w u ys) (hby:bytes≤256) (hn:xs.length+ys.length≤68719476736) (hbase:base≤w.heap.size)
 (hg:o.guard=none) (s y:Operand) (hop:o.op = .call { callee:=.builtin .append,args:=#[s,y],argTypes:=#[t,t] })
 (hs:a.eval s=v) (hy:a.eval y=u)
 (hK:∀ v' w',Own E T w' base v' (xs++ys)→w.grownBy w' v.ownBlock→K (a.put o.dst v') w') :
 if Region.wanted o (yielded ops a.tmps)=true then Oper.wp P o a w K Q else F:=by
 obtain⟨it,hi,hz0,hz1,hz2⟩:=info_parts hinfo;obtain⟨ad,c,rfl,hc1,hc2,hcell⟩:=hrep;have hw:Region.wanted o (yielded ops a.tmps)=true:=by simp[Region.wanted,hg]
 have hnone:∀ r:(Builtin.append_ #[t,t] o.type #[v,.slice ad ys.length c]).run P w = .ok v w,ys=[]→(if Region.wanted o (yielded ops a.tmps)=true then Oper.wp P o a w K Q else F):=fun r hys=>by
  rw[if_pos hw];unfold Oper.wp;simp[execOp,hop,resolve,invoke,builtin,hs,hy,r,Result.andThen];exact hK _ _ (by subst hys;simpa using hown) (World.grownBy.refl _ _)
 cases ad with
 | none =>
  have hys:ys=[]:=by
   cases ys with
   | nil=>rfl
   | cons y ys=>obtain⟨b,o,hb,_⟩:=hcell 0 y rfl;cases hb
  exact hnone (by subst hys;exact run_append_none h1 hi hown) hys
 | some ad =>
  by_cases hys:ys=[]
  ·exact hnone (by subst hys;exact run_append_zero h1 hi hown ad) hys
  have hpos:0 < ys.length:=List.length_pos_iff.2 hys;refine step_append_lies w hg s y t hop base T it zv E.sz bytes h1 hi hz0 hz1 hz2 hz E.pos v xs.length _ hs hown ad ys.length c (ys.flatMap E.c) hy (E.length ys) ?_ ?_ hpos (by unfold maxLen;omega) ?_ hbase _ rfl ?_
  ·intro j u hu
   have hpos:=E.pos;have hj:j=j / E.sz * E.sz+j % E.sz:=by rw[Nat.mul_comm];exact(Nat.div_add_mod j E.sz).symm
   have hm:j % E.sz < E.sz:=Nat.mod_lt _ hpos;have hu2:=hu;rw[hj,E.get ys _ _ hm]at hu2;cases hx:ys[j / E.sz]? with
   | none=>rw[hx]at hu2;cases hu2
   | some x =>
    rw[hx]at hu2;obtain⟨b,o,hb,h⟩:=hcell _ x hx;simp only[Option.some.injEq]at hb;subst hb;have hc:=h (j % E.sz) u hu2;rw[Addr.add_lit,hj,← Nat.add_assoc];exact hc
  ·intro u hu
   rw[List.mem_flatMap]at hu;obtain⟨x,_,hx⟩:=hu;exact E.one x u hx
  ·have:=Nat.mul_le_mul (show xs.length+ys.length≤68719476736 from hn) hby
   omega
  ·intro g cap w' h2 h3 _ _
   refine hK _ w' ?_ h3;unfold Own;simpa[List.flatMap_append] using h2
end Go.Proofs.Ytnkfphndfijcoaa
namespace Go.Proofs.Ytnkfphndfijcoaa
def fromC (es:List Ev) (i:Nat):List Int:=match es[i]? with
 | some e=>if e.r=true then wrL es e.l else [-1]
 | none=>[]
def pre1 (i:Nat) (rest:List (List Int)) (k:Int):List (List Int):=if k=(i:Int) then [] else rest.map (k :: ·)
def fromsD (es:List Ev):Nat→Nat→List (List Int)
 | 0,_=>[[]]
 | n+1,i=>(fromC es i).flatMap (pre1 i (fromsD es n (i+1)))
def fromsL (es:List Ev) (i:Nat):List (List Int):=fromsD es (es.length - i) i
def permsD:Nat→List Int→List (List Int)
 | 0,_=>[[]]
 | n+1,xs=>(List.range xs.length).flatMap fun i=>(permsD n (xs.eraseIdx i)).map (xs.getD i 0 :: ·)
def permsL (xs:List Int):List (List Int):=permsD xs.length xs
def ordsD (es:List Ev):Nat→Nat→List (List (List Int))
 | 0,_=>[[]]
 | n+1,l=>(permsL (wrL es l).tail).flatMap fun q=>(ordsD es n (l+1)).map (((wrL es l).headD 0 :: q) :: ·)
def ordsL (es:List Ev) (l:Nat):List (List (List Int)):=ordsD es (3 - l) l
theorem fromsL_end (es:List Ev):fromsL es es.length=[[]]:=by unfold fromsL;rw[Nat.sub_self];rfl
theorem fromsL_step {es:List Ev}{i:Nat}(h:i < es.length):fromsL es i=(fromC es i).flatMap (pre1 i (fromsL es (i+1))):=by
 unfold fromsL;rw[show es.length - i=(es.length - (i+1))+1 by omega];rfl
theorem ordsL_step {es:List Ev}{l:Nat}(h:l < 3):ordsL es l=(permsL (wrL es l).tail).flatMap fun q=>(ordsL es (l+1)).map (((wrL es l).headD 0 :: q) :: ·):=by
 unfold ordsL;rw[show 3 - l=(3 - (l+1))+1 by omega];rfl
theorem flatMap_length_le {α β:Type}(f:α→List β) (b:Nat) (xs:List α) (h:∀ x∈xs,(f x).length≤b):(xs.flatMap f).length≤xs.length * b:=by
 induction xs with
 | nil=>simp
 | cons x xs ih =>
  rw[List.flatMap_cons,List.length_append,List.length_cons,Nat.succ_mul];have h1:=h x (by simp);have h2:=ih (fun y hy=>h y (by simp[hy]));omega
theorem permsD_length:∀ (n:Nat) (xs:List Int),xs.length=n→(permsD n xs).length≤fact n:=by
 intro n
 induction n with
 | zero=>intro xs _;simp[permsD,fact]
 | succ n ih =>
  intro xs hx;unfold permsD;have h:=flatMap_length_le (fun i=>(permsD n (xs.eraseIdx i)).map (xs.getD i 0 :: ·)) (fact n) (List.range xs.length) (fun i hi=>by
   rw[List.mem_range]at hi;rw[List.length_map];exact ih _ (by rw[List.length_eraseIdx,if_pos hi,hx];rfl))
  rw[List.length_range,hx]at h;rw[fact,Nat.mul_comm];rw[hx];exact h
theorem permsL_length (xs:List Int):(permsL xs).length≤fact xs.length:=permsD_length _ xs rfl
def facE (es:List Ev) (e:Ev):Nat:=if e.r=true then (wrL es e.l).length else 1
def prodL (f:Ev→Nat):List Ev→Nat
 | []=>1
 | e :: es=>f e * prodL f es
theorem fromsL_length {es:List Ev}:∀ (n i:Nat),i+n=es.length→(fromsL es i).length≤prodL (facE es) (es.drop i):=by
 intro n
 induction n with
 | zero =>
  intro i hi;obtain rfl:i=es.length:=by omega
  rw[fromsL_end,List.drop_length];exact Nat.le_refl _
 | succ n ih =>
  intro i hi;obtain⟨e,he⟩:=get_of_lt (xs:=es) (k:=i) (by omega);obtain⟨hlt,hee⟩:=List.getElem?_eq_some_iff.1 he;rw[fromsL_step hlt,List.drop_eq_getElem_cons hlt,hee,prodL];have h1:(fromC es i).length=facE es e:=by
   unfold fromC facE;rw[he];simp only;split <;> rfl
  have h2:=flatMap_length_le (pre1 i (fromsL es (i+1))) (prodL (facE es) (es.drop (i+1))) (fromC es i) (fun k _=>by
   unfold pre1;split
   ·simp
   ·rw[List.length_map];exact ih (i+1) (by omega))
  rw[h1]at h2;exact h2
theorem facE_pos {es:List Ev}(h:∀ e∈es,e.r=true→1≤(wrL es e.l).length):∀ e∈es,1≤facE es e:=by
 intro e he;unfold facE;split
 ·exact h e he (by assumption)
 ·exact Nat.le_refl _
theorem prodL_pos {f:Ev→Nat}:∀ {es:List Ev},(∀ e∈es,1≤f e)→1≤prodL f es:=by
 intro es
 induction es with
 | nil=>intro _;exact Nat.le_refl _
 | cons e es ih=>intro h;exact Nat.mul_pos (h e (by simp)) (ih (fun x hx=>h x (by simp[hx])))
theorem prodL_drop {f:Ev→Nat}:∀ {es:List Ev},(∀ e∈es,1≤f e)→∀ i,prodL f (es.drop i)≤prodL f es:=by
 intro es
 induction es with
 | nil=>intro _ i;simp
 | cons e es ih =>
  intro h i;cases i with
  | zero=>exact Nat.le_refl _
  | succ i =>
   have h1:=ih (fun x hx=>h x (by simp[hx])) i;have h2:=h e (by simp);simp only[List.drop_succ_cons,prodL];exact Nat.le_trans h1 (Nat.le_mul_of_pos_left _ h2)
def rAt (l:Int) (e:Ev):Bool:=e.r&&(e.l==l)
def wAt (l:Int) (e:Ev):Bool:=e.w&&(e.l==l)
theorem prodL_eq (c:Int→Nat):∀ (es:List Ev),(∀ e∈es,e.r=true→e.l=0∨e.l=1∨e.l=2)→prodL (fun e=>if e.r=true then c e.l else 1) es=c 0 ^ es.countP (rAt 0) * c 1 ^ es.countP (rAt 1) * c 2 ^ es.countP (rAt 2):=by
 intro es
 induction es with
 | nil=>intro _;simp[prodL]
 | cons e es ih =>
  intro h;have h1:=ih (fun x hx=>h x (by simp[hx]));rw[prodL,h1];cases hr:e.r with
  | false =>
   simp[rAt,hr]
  | true =>
   rcases h e (by simp) hr with hl | hl | hl <;> simp[rAt,hr,hl,Nat.pow_succ] <;> ac_rfl
theorem wrTo_count (es:List Ev) (l:Int):∀ k,k≤es.length→(wrTo es l k).length=(es.take k).countP (wAt l):=by
 intro k
 induction k with
 | zero=>intro _;simp[wrTo]
 | succ k ih =>
  intro hk;obtain⟨e,he⟩:=get_of_lt (xs:=es) (k:=k) hk;rw[wrTo_succ l he,List.length_append,ih (by omega),List.take_add_one,he,List.countP_append];unfold wr1 wAt;cases hw:(e.w&&e.l==l) <;> simp[hw]
theorem wrL_count (es:List Ev) (l:Int):(wrL es l).length=es.countP (wAt l):=by
 unfold wrL;rw[wrTo_count es l _ (Nat.le_refl _),List.take_length]
theorem evRow_count (G:Ev→Bool) (f:Ins→Bool) (hG:∀ (t i:Nat) (x:Ins),(evOf t i x).countP G=if f x=true then 1 else 0) (t:Nat) (r:List Ins):∀ k,k≤r.length→(evRow t r k).countP G=(r.take k).countP f:=by
 intro k
 induction k with
 | zero=>intro _;simp[evRow]
 | succ k ih =>
  intro hk;obtain⟨x,hx⟩:=get_of_lt (xs:=r) (k:=k) hk;rw[evRow_succ hx,List.countP_append,ih (by omega),List.take_add_one,hx,List.countP_append,hG];simp[List.countP_cons]
theorem evTo_count (G:Ev→Bool) (f:Ins→Bool) (hG:∀ (t i:Nat) (x:Ins),(evOf t i x).countP G=if f x=true then 1 else 0) (p:List (List Ins)):∀ j,j≤p.length→(evTo p j).countP G=cnt f (p.take j):=by
 intro j
 induction j with
 | zero=>intro _;simp[evTo,cnt]
 | succ j ih =>
  intro hj;obtain⟨r,hr⟩:=get_of_lt (xs:=p) (k:=j) hj;have h:=evRow_count G f hG j r r.length (Nat.le_refl _);rw[List.take_length]at h;rw[evTo_succ hr,List.countP_append,ih (by omega),cnt_take_succ f hr,h]
theorem evOf_r (l:Int) (t i:Nat) (x:Ins):(evOf t i x).countP (rAt l)=if fR l x=true then 1 else 0:=by
 unfold evOf fR;by_cases h:x.op=4
 ·rw[if_pos h];simp[isRop,h]
 ·rw[if_neg h];simp[List.countP_cons,rAt,Bool.and_comm]
theorem evOf_w (l:Int) (t i:Nat) (x:Ins):(evOf t i x).countP (wAt l)=if fW l x=true then 1 else 0:=by
 unfold evOf fW;by_cases h:x.op=4
 ·rw[if_pos h];simp[isWop,h]
 ·rw[if_neg h];simp[List.countP_cons,wAt,Bool.and_comm]
theorem evAll_r (p:List (List Ins)) (l:Int):(evAll p).countP (rAt l)=cnt (fR l) p:=by
 unfold evAll;rw[List.countP_append,evTo_count (rAt l) (fR l) (evOf_r l) p p.length (Nat.le_refl _),List.take_length];simp[evHead,List.range_succ,rAt]
theorem evAll_w (p:List (List Ins)) {l:Nat}(hl:l < 3):(evAll p).countP (wAt l)=cnt (fW l) p+1:=by
 unfold evAll;rw[List.countP_append,evTo_count (wAt l) (fW l) (evOf_w l) p p.length (Nat.le_refl _),List.take_length];have:l=0∨l=1∨l=2:=by omega
 rcases this with rfl | rfl | rfl <;> simp[evHead,List.range_succ,wAt,Nat.add_comm]
theorem ordsL_length (es:List Ev) (f:Nat→Nat) (hf:∀ l:Nat,l < 3→fact (wrL es l).tail.length≤f l):(ordsL es 0).length≤f 0 * (f 1 * f 2)∧(ordsL es 1).length≤f 1 * f 2∧(ordsL es 2).length≤f 2∧ordsL es 3=[[]]:=by
 have st:∀ l:Nat,l < 3→∀ b,(ordsL es (l+1)).length≤b→(ordsL es l).length≤f l * b:=fun l hl b hb=>by
  rw[ordsL_step hl];have h:=flatMap_length_le (fun q=>(ordsL es (l+1)).map (((wrL es l).headD 0 :: q) :: ·)) b (permsL (wrL es l).tail) (fun q _=>by rw[List.length_map];exact hb);have h2:=Nat.le_trans (permsL_length (wrL es l).tail) (hf l hl);exact Nat.le_trans h (Nat.mul_le_mul_right _ h2)
 have h3:(ordsL es 3).length≤1:=Nat.le_refl _;have h2:=st 2 (by omega) 1 h3;rw[Nat.mul_one]at h2;have h1:=st 1 (by omega) _ h2;have h0:=st 0 (by omega) _ h1;exact⟨h0,h1,h2,rfl⟩
structure Few (p:List (List Ins)):Prop where
 froms:∀ i,(fromsL (evAll p) i).length≤3000
 ords:∀ l,(ordsL (evAll p) l).length≤3000
 perms:∀ l:Nat,l < 3→fact (wrL (evAll p) l).tail.length≤3000
 all:(fromsL (evAll p) 0).length * (ordsL (evAll p) 0).length≤3000
theorem insValid_loc {x:Ins}(h:insValid x=true):x.loc=0∨x.loc=1∨x.loc=2:=by
 unfold insValid inB at h;split at h
 ·simp at h;omega
 ·split at h
  ·simp at h;omega
  ·split at h
   ·simp at h;omega
   ·split at h
    ·simp at h;omega
    ·cases h
theorem few {p:List (List Ins)}(h:progValid p=true):Few p:=by
 have hv:=valid_le h;unfold progValid at h;simp only[Bool.and_eq_true,decide_eq_true_eq]at h;have hP:=h.2;have hloc:∀ e∈evAll p,e.r=true→e.l=0∨e.l=1∨e.l=2:=fun e he hr=>by
  obtain⟨k,hk⟩:=List.mem_iff_getElem?.1 he;obtain⟨t',i',r,h1,-⟩:=ev_read (p:=p) hk hr;rcases ev_cases hk with h2 | ⟨t2,i2,r2,-,-,h5,h6,-,-,h9⟩
  ·omega
  ·rw[h9];exact insValid_loc ((hv.2.2.1 r2 (List.mem_of_getElem? h5)).2 _ (List.mem_of_getElem? h6))
 have hc:∀ l:Nat,l < 3→(wrL (evAll p) l).length=cnt (fW l) p+1:=fun l hl=>by rw[wrL_count,evAll_w p hl]
 have hpos:∀ e∈evAll p,1≤facE (evAll p) e:=facE_pos fun e he hr=>by
  rcases hloc e he hr with hl | hl | hl
  ·rw[hl];have:=hc 0 (by omega);simp at this;omega
  ·rw[hl];have:=hc 1 (by omega);simp at this;omega
  ·rw[hl];have:=hc 2 (by omega);simp at this;omega
 have hA:=prodL_eq (fun l=>(wrL (evAll p) l).length) (evAll p) hloc;have hA2:prodL (facE (evAll p)) (evAll p)=(cnt (fW (0:Nat)) p+1) ^ cnt (fR (0:Nat)) p * (cnt (fW (1:Nat)) p+1) ^ cnt (fR (1:Nat)) p * (cnt (fW (2:Nat)) p+1) ^ cnt (fR (2:Nat)) p:=by
  refine Eq.trans hA ?_;rw[← hc 0 (by omega),← hc 1 (by omega),← hc 2 (by omega),← evAll_r,← evAll_r,← evAll_r];rfl
 have ht:∀ l:Nat,l < 3→fact (wrL (evAll p) l).tail.length≤fact (cnt (fW l) p):=fun l hl=>by
  rw[List.length_tail,hc l hl];exact Nat.le_refl _
 have t0:=ht 0 (by omega);have t1:=ht 1 (by omega);have t2:=ht 2 (by omega)
 obtain⟨o0,o1,o2,o3⟩:=ordsL_length (evAll p) (fun l=>fact (cnt (fW l) p)) ht;have hfr:∀ i,(fromsL (evAll p) i).length≤prodL (facE (evAll p)) (evAll p):=fun i=>by
  by_cases hi:i≤(evAll p).length
  ·exact Nat.le_trans (fromsL_length ((evAll p).length - i) i (by omega)) (prodL_drop hpos i)
  ·unfold fromsL
   rw[show (evAll p).length - i=0 by omega];exact prodL_pos hpos
 generalize prodL (facE (evAll p)) (evAll p)=A at *;have f0:=fact_pos (cnt (fW (0:Nat)) p);have f1:=fact_pos (cnt (fW (1:Nat)) p);have f2:=fact_pos (cnt (fW (2:Nat)) p)
 have hA1:1≤A:=by rw[hA2];exact Nat.mul_pos (Nat.mul_pos (Nat.pow_pos (by omega)) (Nat.pow_pos (by omega))) (Nat.pow_pos (by omega))
 have hPe:A * (fact (cnt (fW (0:Nat)) p) * (fact (cnt (fW (1:Nat)) p) * fact (cnt (fW (2:Nat)) p)))≤3000:=by
  refine Nat.le_trans (Nat.le_of_eq ?_) hP;rw[hA2];simp only[prodP,prodTo,pl];simp only[Nat.one_mul]
  ac_rfl
 clear hA hA2 hP hpos hloc hv hc h ht;generalize fact (cnt (fW (0:Nat)) p)=F0 at *;generalize fact (cnt (fW (1:Nat)) p)=F1 at *;generalize fact (cnt (fW (2:Nat)) p)=F2 at *;have h12:F1 * F2≤F0 * (F1 * F2):=Nat.le_mul_of_pos_left _ f0;have h2:F2≤F1 * F2:=Nat.le_mul_of_pos_left _ f1;have h1:F1≤F1 * F2:=Nat.le_mul_of_pos_right _ f2;have h0:F0≤F0 * (F1 * F2):=Nat.le_mul_of_pos_right _ (Nat.mul_pos f1 f2);have hB1:1≤F0 * (F1 * F2):=Nat.mul_pos f0 (Nat.mul_pos f1 f2);have hB:F0 * (F1 * F2)≤A * (F0 * (F1 * F2)):=Nat.le_mul_of_pos_left _ hA1;have hAB:A≤A * (F0 * (F1 * F2)):=Nat.le_mul_of_pos_right _ hB1;refine⟨fun i=>Nat.le_trans (hfr i) (by omega),fun l => ?_,fun l hl => ?_,?_⟩
 ·have hl:l=0∨l=1∨l=2∨3≤l:=by omega
  rcases hl with rfl | rfl | rfl | hl
  ·omega
  ·omega
  ·omega
  ·unfold ordsL;rw[show 3 - l=0 by omega];show 1≤3000;omega
 ·have hl':l=0∨l=1∨l=2:=by omega
  rcases hl' with rfl | rfl | rfl
  ·exact Nat.le_trans t0 (by omega)
  ·exact Nat.le_trans t1 (by omega)
  ·exact Nat.le_trans t2 (by omega)
 ·exact Nat.le_trans (Nat.mul_le_mul (hfr 0) o0) hPe
end Go.Proofs.Ytnkfphndfijcoaa
namespace Go.Proofs.Ytnkfphndfijcoaa
open Go.RowKit
end Go.Proofs.Ytnkfphndfijcoaa
namespace Go.Proofs.Ytnkfphndfijcoaa
open Go.RowKit
end Go.Proofs.Ytnkfphndfijcoaa
namespace Go.Proofs.Ytnkfphndfijcoaa
end Go.Proofs.Ytnkfphndfijcoaa
namespace Go.Proofs.Ytnkfphndfijcoaa
open Go.RowKit
theorem Rep.dropE {α:Type}{E:El α}{w:World}{b o n c:Nat}{xs:List α}(h:Rep E w (.slice (some ⟨b,o,none⟩) n c) xs) {k:Nat}(hk:k≤xs.length):Rep E w (.slice (some ⟨b,o+k * E.sz,none⟩) (n - k) (c - k)) (xs.drop k):=by
 obtain⟨a',c',hv,h1,h2,h3⟩:=h;simp only[Value.slice.injEq]at hv;obtain⟨rfl,rfl,rfl⟩:=hv;refine⟨some ⟨b,o+k * E.sz,none⟩,c - k,by rw[List.length_drop],by rw[List.length_drop];omega,by omega,fun i x hx => ?_⟩;rw[List.getElem?_drop]at hx;obtain⟨b',o',hb,h4⟩:=h3 (k+i) x hx;simp only[Option.some.injEq,Addr.mk.injEq,and_true]at hb;obtain⟨rfl,rfl⟩:=hb;refine⟨b,o+k * E.sz,rfl,fun j u hu => ?_⟩;have h5:=h4 j u hu;rw[show o+k * E.sz+i * E.sz+j=o+(k+i) * E.sz+j by rw[Nat.add_mul];omega];exact h5
theorem Rep.dropEV {α:Type}{E:El α}{w:World}{b o n c:Nat}{xs:List α}(h:Rep E w (.slice (some ⟨b,o,none⟩) n c) xs) {k:Nat}(hk:k≤xs.length):Rep E w (.slice (if c=k then some ⟨b,o,none⟩ else some ⟨b,o+k * E.sz,none⟩) (n - k) (c - k)) (xs.drop k):=by
 split
 ·rename_i hc
  obtain⟨a',c',hv,h1,h2,h3⟩:=h;simp only[Value.slice.injEq]at hv;obtain⟨rfl,rfl,rfl⟩:=hv;refine⟨_,_,by rw[List.length_drop],by rw[List.length_drop];omega,by omega,fun i x hx => ?_⟩;rw[List.getElem?_eq_none (by rw[List.length_drop];omega)]at hx;cases hx
 ·exact h.dropE hk
end Go.Proofs.Ytnkfphndfijcoaa
namespace Go.Proofs.Ytnkfphndfijcoaa
open Go.RowKit
theorem l8Has_any (v u:Value) (p:List (List Int)) (q:List Int) (w:World) (hp:RepNN w v p) (hq:Rep IntE w u q) :
 Calls Try.prog 28 #[v,u] w fun e w'=>e = .returned (.bool (hasN p q))∧Below w.heap.size w w':=by
 obtain⟨a,c,rfl,hc1,hc2,hc3,hp⟩:=hp.open;obtain⟨a',c',rfl,hc1',hc2',hc3',hq⟩:=hq.open;have HP:=hide hp;clear hp;have HQ:=hide hq;clear hq;have HN:Hid (hasN p q=p.any fun x=>decide (x=q)):=hide rfl;generalize hR:hasN p q=R at *;clear hR;generalize hn:p.length=n at *;have H:=hide hn;clear hn;generalize hm:q.length=m at *;have HM:=hide hm;clear hm;go_enter Try.func28,Try.ntmps28;go_wp2_with fail
 go_loopw [5] (fun i wr => ∃ k:Nat,k≤n∧i = .int .i64 k∧Hid ((p.take k).any (fun x=>decide (x=q))=false)∧Below w.heap.size w wr) (fun i _=>n - (intOf i).toNat)
 case atStart=>exact⟨0,Nat.zero_le _,rfl,hide (by simp),Below.refl _ _⟩
 case round =>
  obtain⟨k,hk,rfl,T,hb⟩:=hrel;by_cases hlt:k < n
  ·have hlt1:=nat_of_lt hlt
   obtain⟨x,hxk⟩:=get_of_lt (xs:=p) (k:=k) (by rw[H.out];exact hlt);obtain⟨b,o,ra,rc,rfl,hbl,i0,i1⟩:=(HP.out.below hb).row hxk;have X:=hide hxk;have I1:=hide i1
   clear hxk i1;by_cases hl:x.length=m
   ·have hl':((x.length:Int)==m)=true:=by simp[hl]
    have HZ:=hide (l3L_zero (a:=x) (b:=q) (by rw[hl,HM.out]));have I1':Hid (Rep IntE wr (.slice ra m rc) x):=hide (by rw[← hl];exact I1.out);rw[hl]at i0 hl';clear hl I1;by_cases hxq:x=q
    ·have E:Hid (R=true):=hide (by rw[HN.out];exact any_of_get X.out (by simp[hxq]))
     have hz:l3L x q=0:=HZ.out.2 hxq;have HC:=hide (l3Less_any _ _ x q wr I1'.out (HQ.out.below hb));generalize l3L x q=z at *;subst hz;clear hxq;go_wp2_with (go_at_call 56;(with_reducible refine HC.out.mono ?_);rintro e w1 ⟨rfl,hb1⟩);go_ret;rw[E.out];exact⟨rfl,hb.trans (hb1.mono hb.size)⟩
    ·have T2:=hide (any_take_succ T.out X.out (by simp[hxq]))
     have hz:¬ l3L x q=0:=fun h=>hxq (HZ.out.1 h);have HC:=hide (l3Less_any _ _ x q wr I1'.out (HQ.out.below hb));generalize l3L x q=z at *;have hz':(z==0)=false:=by simpa using hz
     clear hxq hz;go_wp2_with (go_at_call 56;(with_reducible refine HC.out.mono ?_);rintro e w1 ⟨rfl,hb1⟩);go_roundw
     case rel=>exact⟨k+1,by omega,by go_num,T2,hb.trans (hb1.mono hb.size)⟩
     case measure=>simp[intOf];omega
   ·have hl':((x.length:Int)==m)=false:=by simp;omega
    have T2:=hide (any_take_succ T.out X.out (by simp;intro h;exact hl (by rw[h,HM.out])));clear hl;go_wp2_with fail;go_roundw
    case rel=>exact⟨k+1,by omega,by go_num,T2,hb⟩
    case measure=>simp[intOf];omega
  ·have E:Hid (R=false):=hide (by have h:=T.out;rwa[List.take_of_length_le (by rw[H.out];omega),← HN.out]at h)
   go_wp2_with fail;go_ret;rw[E.out];exact⟨rfl,hb⟩
theorem l8Within_any (v u:Value) (p q:List (List Int)) (w:World) (hp:RepNN w v p) (hq:RepNN w u q) :
 Calls Try.prog 16 #[v,u] w fun e w'=>e = .returned (.bool (subN p q))∧Below w.heap.size w w':=by
 obtain⟨a,c,rfl,hc1,hc2,hc3,hp⟩:=hp.open;have HP:=hide hp;clear hp;have HQ:=hide hq;clear hq;have HN:Hid (subN p q=p.all fun x=>hasN q x):=hide rfl;generalize hR:subN p q=R at *;clear hR;generalize hn:p.length=n at *;have H:=hide hn;clear hn;go_enter Try.func16,Try.ntmps16;go_wp2_with fail
 go_loopw [5] (fun i wr => ∃ k:Nat,k≤n∧i = .int .i64 k∧Hid ((p.take k).all (fun x=>hasN q x)=true)∧Below w.heap.size w wr) (fun i _=>n - (intOf i).toNat)
 case atStart=>exact⟨0,Nat.zero_le _,rfl,hide (by simp),Below.refl _ _⟩
 case round =>
  obtain⟨k,hk,rfl,T,hb⟩:=hrel;by_cases hlt:k < n
  ·have hlt1:=nat_of_lt hlt
   obtain⟨x,hxk⟩:=get_of_lt (xs:=p) (k:=k) (by rw[H.out];exact hlt);obtain⟨b,o,ra,rc,rfl,hbl,i0,i1⟩:=(HP.out.below hb).row hxk;have X:=hide hxk;have I1:=hide i1
   clear hxk i1;have HC:=hide (l8Has_any u _ q x wr (HQ.out.below hb) I1.out);generalize hz:hasN q x=z at *;have Z:=hide hz;clear hz;cases z
   ·have E:Hid (R=false):=hide (by rw[HN.out];exact all_of_get X.out Z.out)
    go_wp2_with (go_at_call 28;(with_reducible refine HC.out.mono ?_);rintro e w1 ⟨rfl,hb1⟩);go_ret;rw[E.out];exact⟨rfl,hb.trans (hb1.mono hb.size)⟩
   ·have T2:=hide (all_take_succ' T.out X.out Z.out)
    go_wp2_with (go_at_call 28;(with_reducible refine HC.out.mono ?_);rintro e w1 ⟨rfl,hb1⟩);go_roundw
    case rel=>exact⟨k+1,by omega,by go_num,T2,hb.trans (hb1.mono hb.size)⟩
    case measure=>simp[intOf];omega
  ·have E:Hid (R=true):=hide (by have h:=T.out;rwa[List.take_of_length_le (by rw[H.out];omega),← HN.out]at h)
   go_wp2_with fail;go_ret;rw[E.out];exact⟨rfl,hb⟩
end Go.Proofs.Ytnkfphndfijcoaa
/-
  sortedOutcomes. Condition: outcomes of one length, bounds on lengths.
-/
import Derived.Test.YtngekjpklkjnbaaGreatZp08
import Derived.Test.YtngekjpklkjnbaaGreatZp07
import Derived.Test.YtngekjpklkjnbaaGreatZp06
import Derived.Test.YtngekjpklkjnbaaGreatZp01
import Derived.Test.YtngekjpklkjnbaaGreatZp09
import Derived.Shelf.SlSortCmp.NoneTotal
set_option maxHeartbeats 6400000
set_option maxRecDepth 100000
namespace Go.Proofs.YtngekjpklkjnbaaGreat
open Go.RowKit
theorem Nr {p:List (List Ins)}{k:Nat}{e:Ev}(h:(Yq p)[k]? = some e) (hr:e.r=true):∃ (t i:Nat) (r:List Ins),e.t=t∧e.i=i∧p[t]? = some r∧r[i]? = some (Ea p e):=by
 rcases DO h with h1 | ⟨t,i,r,h1,h2,h3,h4,-⟩
 ·exfalso
  have h2:=List.mem_of_getElem? h;unfold Yq at h2;rcases List.mem_append.1 h2 with h3 | h3
  ·simp[Ri]at h3
   obtain⟨l,-,rfl⟩:=h3;cases hr
  ·unfold DN at h3
   rw[List.mem_flatMap]at h3;obtain⟨t,ht,h3⟩:=h3;cases hp:p[t]? with
   | none=>rw[hp]at h3;simp at h3
   | some r =>
    rw[hp]at h3;simp only[VU,List.mem_flatMap,List.mem_range]at h3;obtain⟨i,hi,h3⟩:=h3;obtain⟨x,hx⟩:=Zd (xs:=r) (k:=i) hi;rw[hx]at h3;obtain⟨rfl,-⟩:=Ez h3;simp at h1
 ·exact⟨t,i,r,h1,h2,h3,h4⟩
end Go.Proofs.YtngekjpklkjnbaaGreat
namespace Go.Proofs.YtngekjpklkjnbaaGreat
open Go.RowKit
theorem Own.PU {α:Type}{E:El α}{T:TypeId}{w w':World}{base:Nat}{v:Value}{xs:List α}(h:Own E T w base v xs) (hB:∀ k,v.ownBlock=some k→w'.heap[k]? = w.heap[k]?):Own E T w' base v xs:=by
 refine⟨h.1,?_⟩;rcases h.2 with hn | ⟨g,cap,cur,rfl,hb1,hgg,rest⟩
 ·exact .inl hn
 ·exact .inr ⟨g,cap,cur,rfl,hb1,(hB g rfl).trans hgg,rest⟩
def PN (T:TypeId) (o:Obj):Prop:=∀ a fz,o≠.cells a T fz
structure Jd (T:TypeId) (lo hi:Nat) (w:World) (φ:World→Prop):Prop where
 now:φ w
 le:hi≤w.heap.size
 Yf:∀ w':World,(∀ k ob,lo≤k→k < hi→w.heap[k]? = some ob→PN T ob→w'.heap[k]? = some ob)→φ w'
theorem Jd.step {T:TypeId}{lo hi:Nat}{w w':World}{φ:World→Prop}(h:Jd T lo hi w φ) (hs:w.heap.size≤w'.heap.size) (hk:∀ k ob,lo≤k→k < hi→w.heap[k]? = some ob→PN T ob→w'.heap[k]? = some ob):Jd T lo hi w' φ:=
 ⟨h.Yf w' hk,Nat.le_trans h.le hs,fun w'' h2=>h.Yf w'' fun k ob h3 h4 h5 h6=>h2 k ob h3 h4 (hk k ob h3 h4 h5 h6) h6⟩
theorem Jd.below {T:TypeId}{lo hi:Nat}{w w':World}{φ:World→Prop}(h:Jd T lo hi w φ) (hb:Below w.heap.size w w'):Jd T lo hi w' φ:=
 h.step hb.size fun k _ _ _ h5 _=>(hb.block k (Array.getElem?_eq_some_iff.1 h5).1).trans h5
theorem Own.typed {α:Type}{E:El α}{T:TypeId}{w:World}{base g:Nat}{v:Value}{xs:List α}(h:Own E T w base v xs) (hg:v.ownBlock=some g):∃ a,w.heap[g]? = some (.cells a T (0,0)):=by
 rcases h.2 with⟨rfl,_⟩ | ⟨g',cap,cur,rfl,_,hg',_⟩
 ·simp[Value.ownBlock]at hg
 ·simp[Value.ownBlock]at hg
  subst hg;exact⟨cur,hg'⟩
theorem Jd.grown {α:Type}{E:El α}{T:TypeId}{lo hi base:Nat}{w w':World}{v:Value}{xs:List α}{φ:World→Prop}(h:Jd T lo hi w φ) (ho:Own E T w base v xs) (hg:w.grownBy w' v.ownBlock):Jd T lo hi w' φ:=
 h.step hg.size fun k ob _ _ h5 h6=>(hg.block k (Array.getElem?_eq_some_iff.1 h5).1 (fun e=>by
  obtain⟨a,ha⟩:=ho.typed e.symm;rw[h5]at ha;exact h6 a _ (Option.some.inj ha))).trans h5
theorem Jd.map {T:TypeId}{lo hi:Nat}{w:World}{φ ψ:World→Prop}(h:Jd T lo hi w φ) (f:∀ V,φ V→ψ V):Jd T lo hi w ψ:=⟨f _ h.now,h.le,fun w' k=>f _ (h.Yf w' k)⟩
theorem Jd.Mo {α:Type}{E:El α}{U T:TypeId}(hT:U≠T) {w:World}{lo hi:Nat}{v:Value}{xs:List α}(h:Own E U w lo v xs) (hh:hi≤w.heap.size) (hv:∀ q,v.ownBlock=some q→q < hi):Jd T lo hi w (fun W=>Own E U W lo v xs):=
 ⟨h,hh,fun w' k=>h.PU fun q hq=>by
  obtain⟨a,ha⟩:=h.typed hq;rw[k q _ (World.ownsRow.lt h q hq).1 (hv q hq) ha (fun a' fz e=>by simp at e;exact hT e.2.1),ha]⟩
theorem Jd.own {α:Type}{E:El α}{U T:TypeId}(hT:U≠T) {w:World}{lo:Nat}{v:Value}{xs:List α}(h:Own E U w lo v xs):Jd T lo w.heap.size w (fun W=>Own E U W lo v xs):=
 Jd.Mo hT h (Nat.le_refl _) fun q hq=>(World.ownsRow.lt h q hq).2
structure Dd where
 lo:Nat
 hi:Nat
 us:List Zs
section
variable {α β : Type} {E : El α} {T : TypeId} {R : Dd → Dd → Prop} {φ : Dd → World → α → β → Prop}
structure Q4 (E:El α) (T:TypeId) (R:Dd→Dd→Prop) (φ:Dd→World→α→β→Prop) (us:List α) (ds:List Dd) (w:World) (base:Nat) (v:Value) (xs:List β):Prop where
 lu:us.length=xs.length
 ld:ds.length=xs.length
 pw:ds.Pairwise R
 own:Own E T w base v us
 rows:∀ (i:Nat) (u:α) (d:Dd) (x:β),us[i]? = some u→ds[i]? = some d→xs[i]? = some x→base≤d.lo∧Jd T d.lo d.hi w (fun W=>φ d W u x)
def Qx (E:El α) (T:TypeId) (R:Dd→Dd→Prop) (φ:Dd→World→α→β→Prop) (w:World) (base:Nat) (v:Value) (xs:List β):Prop:=∃ us ds,Q4 E T R φ us ds w base v xs
theorem Q4.below {us:List α}{ds:List Dd}{w w':World}{base:Nat}{v:Value}{xs:List β}(h:Q4 E T R φ us ds w base v xs) (hb:Below w.heap.size w w'):Q4 E T R φ us ds w' base v xs:=
 ⟨h.lu,h.ld,h.pw,h.own.below hb,fun i u d x h1 h2 h3=>⟨(h.rows i u d x h1 h2 h3).1,(h.rows i u d x h1 h2 h3).2.below hb⟩⟩
theorem Qx.below {w w':World}{base:Nat}{v:Value}{xs:List β}(h:Qx E T R φ w base v xs) (hb:Below w.heap.size w w'):Qx E T R φ w' base v xs:=by
 obtain⟨us,ds,h⟩:=h;exact⟨us,ds,h.below hb⟩
theorem Qx.empty (T:TypeId) (w:World) {base:Nat}(hb:base≤w.heap.size):Qx E T R φ (w.alloc (.cells #[] T)) base (.slice (some ⟨w.heap.size,0,none⟩) 0 0) []:=
 ⟨[],[],rfl,rfl,.nil,Own.empty _ _ hb,fun i u d x h=>by simp at h⟩
theorem Qx.nil (T:TypeId) (w:World) (base:Nat):Qx E T R φ w base (.slice none 0 0) []:=
 ⟨[],[],rfl,rfl,.nil,Own.nil _ _ _,fun i u d x h=>by simp at h⟩
theorem Q4.app {us:List α}{ds:List Dd}{w w':World}{base:Nat}{v v':Value}{xs:List β}(h:Q4 E T R φ us ds w base v xs) {u:α}{d:Dd}{x:β}(ho:Own E T w' base v' (us++[u])) (hg:w.grownBy w' v.ownBlock)
 (hb:base≤d.lo) (hn:Jd T d.lo d.hi w (fun W=>φ d W u x)) (hR:∀ d'∈ds,R d' d):Q4 E T R φ (us++[u]) (ds++[d]) w' base v' (xs++[x]):=by
 have hd:=h.ld;refine⟨by simp[h.lu],by simp[h.ld],List.pairwise_append.2 ⟨h.pw,Sm,fun a ha b hb=>by simp at hb;subst hb;exact hR a ha⟩,ho,fun i u' d' x' h1 h2 h3 => ?_⟩;by_cases hlt:i < xs.length
 ·rw[List.getElem?_append_left (by rw[h.lu];exact hlt)]at h1
  rw[List.getElem?_append_left (by rw[h.ld];exact hlt)]at h2;rw[List.getElem?_append_left hlt]at h3;obtain⟨r1,r2⟩:=h.rows i u' d' x' h1 h2 h3;exact⟨r1,r2.grown h.own hg⟩
 ·rw[List.getElem?_append_right (by rw[h.lu];omega),h.lu]at h1
  rw[List.getElem?_append_right (by rw[h.ld];omega),h.ld]at h2;rw[List.getElem?_append_right Om]at h3;have he:i - xs.length=0:=by
   rcases Nat.eq_zero_or_pos (i - xs.length) with h | h
   ·exact h
   ·rw[List.getElem?_eq_none So]at h3;cases h3
  rw[he]at h1 h2 h3;simp at h1 h2 h3;subst h1;subst h2;subst h3;exact⟨hb,hn.grown h.own hg⟩
theorem Q4.at {us:List α}{ds:List Dd}{w:World}{base:Nat}{a:Option Addr}{n c:Nat}{xs:List β}(h:Q4 E T R φ us ds w base (.slice a n c) xs) {k:Nat}{x:β}(hx:xs[k]? = some x) :
 ∃ u d g,us[k]? = some u∧ds[k]? = some d∧a=some ⟨g,0,none⟩∧base≤g∧g < w.heap.size∧(∀ j y,(E.c u)[j]? = some y→w.cell? ⟨g,k * E.sz+j,none⟩=some y)∧base≤d.lo∧Jd T d.lo d.hi w (fun W=>φ d W u x):=by
 have hk:=(List.getElem?_eq_some_iff.1 hx).1;obtain⟨u,hu⟩:=Zd (xs:=us) (k:=k) (by rw[h.lu];exact hk);obtain⟨d,hd⟩:=Zd (xs:=ds) (k:=k) (by rw[h.ld];exact hk);obtain⟨r1,r2⟩:=h.rows k u d x hu hd hx;rcases h.own.shape with⟨_,hn⟩ | ⟨g,cap,hv,hg1,hg2,_⟩
 ·rw[hn]at hu;simp at hu
 ·simp only[Value.slice.injEq]at hv
  obtain⟨rfl,rfl,rfl⟩:=hv;exact⟨u,d,g,hu,hd,rfl,hg1,hg2,fun j y hy=>h.own.cell hu hy,r1,r2⟩
theorem Qx.shape {w:World}{base:Nat}{v:Value}{xs:List β}(h:Qx E T R φ w base v xs):(v = .slice none 0 0∧xs=[])∨∃ g cap,v = .slice (some ⟨g,0,none⟩) xs.length cap∧base≤g∧g < w.heap.size:=by
 obtain⟨us,ds,h⟩:=h;rcases h.own.shape with⟨h1,h2⟩ | ⟨g,cap,h1,h2,h3,_⟩
 ·refine .inl ⟨h1,?_⟩
  have:=h.lu;rw[h2]at this;exact List.length_eq_zero_iff.1 this.symm
 ·exact .inr ⟨g,cap,by rw[h1,h.lu],h2,h3⟩
end
theorem Own.Mk {α:Type}{E:El α}{T:TypeId}(w:World) {base:Nat}(hb:base≤w.heap.size) (x:α):Own E T (w.alloc (.cells (E.c x).toArray T)) base (.slice (some ⟨w.heap.size,0,none⟩) 1 1) [x]:=by
 refine⟨by simp[E.len],.inr ⟨w.heap.size,1,(E.c x).toArray,rfl,hb,heap_alloc_new w _,Nat.le_refl _,by unfold maxLen;omega,by simp[E.len],?_⟩⟩;simp only[List.flatMap_cons,List.flatMap_nil,List.append_nil];rw[List.take_of_length_le (by simp[E.len])]
theorem Gq {P:Program}{w:World}{base:Nat}{t ty e:TypeId}{i:TypeInfo}{size:Nat}(ht:P.underlying t=some (.slice e)) (hi:P.info? e=some i)
 {v:Value}{n c:Nat}{xs:List Value}(hown:w.ownsRow base e size v n xs) (ad:Addr):(Builtin.append_ #[t,t] ty #[v,.slice (some ad) 0 c]).run P w = .ok v w:=by
 rcases hown.2 with⟨rfl,rfl⟩ | ⟨g,cap,cur,rfl,_,_,hnc,_⟩
 ·simp[Builtin.append_,run_underlying ht,sizeOf,typeInfo,hi,Builtin.lenOf,Builtin.firstCells,loadCells,loadCellsFrom]
 ·simp[Builtin.append_,run_underlying ht,sizeOf,typeInfo,hi,Builtin.lenOf,Builtin.firstCells,hnc,loadCells,loadCellsFrom,storeCells]
theorem JN {α:Type}(E:El α) {P:Program}{w:World}{ops:Array Oper}{o:Oper}{a:Act}{K:Act→World→Prop}{Q:Exit→Act→World→Prop}{F:Prop}
 (T:TypeId) {zv:Value}{bytes:Nat}(hinfo:(P.info? T).map (fun i=>(i.zero,i.size,i.bytes))=some (some zv,E.sz,bytes)) (hz:zv.cells.size=E.sz) {t:TypeId}(h1:P.underlying t=some (.slice T))
 (base:Nat) (v:Value) (xs ys:List α) (u:Value) (hown:Own E T w base v xs) (hrep:ZC E w u ys) (hby:bytes≤256) (hn:xs.length+ys.length≤68719476736) (hbase:base≤w.heap.size)
 (hg:o.guard=none) (s y:Operand) (hop:o.op = .call { callee:=.builtin .append,args:=#[s,y],argTypes:=#[t,t] })
 (hs:a.eval s=v) (hy:a.eval y=u)
 (hK:∀ v' w',Own E T w' base v' (xs++ys)→w.grownBy w' v.ownBlock→K (a.put o.dst v') w') :
 if Region.wanted o (yielded ops a.tmps)=true then Oper.wp P o a w K Q else F:=by
 obtain⟨it,hi,hz0,hz1,hz2⟩:=info_parts hinfo;obtain⟨ad,c,rfl,hc1,hc2,hcell⟩:=hrep;have hw:Region.wanted o (yielded ops a.tmps)=true:=by simp[Region.wanted,hg]
 have hnone:∀ r:(Builtin.append_ #[t,t] o.type #[v,.slice ad ys.length c]).run P w = .ok v w,ys=[]→(if Region.wanted o (yielded ops a.tmps)=true then Oper.wp P o a w K Q else F):=fun r hys=>by
  rw[if_pos hw];unfold Oper.wp;simp[execOp,hop,resolve,invoke,builtin,hs,hy,r,Result.andThen];exact hK _ _ (by subst hys;simpa using hown) (World.grownBy.refl _ _)
 cases ad with
 | none =>
  have hys:ys=[]:=by
   cases ys with
   | nil=>rfl
   | cons y ys=>obtain⟨b,o,hb,_⟩:=hcell 0 y rfl;cases hb
  exact hnone (by subst hys;exact Qy h1 hi hown) hys
 | some ad =>
  by_cases hys:ys=[]
  ·exact hnone (by subst hys;exact Gq h1 hi hown ad) hys
  have hpos:0 < ys.length:=List.length_pos_iff.2 hys;refine step_append_lies w hg s y t hop base T it zv E.sz bytes h1 hi hz0 hz1 hz2 hz E.pos v xs.length _ hs hown ad ys.length c (ys.flatMap E.c) hy (E.length ys) ?_ ?_ hpos (by unfold maxLen;omega) ?_ hbase _ rfl ?_
  ·intro j u hu
   have hpos:=E.pos;have hj:j=j / E.sz * E.sz+j % E.sz:=by rw[Nat.mul_comm];exact(Nat.div_add_mod j E.sz).symm
   have hm:j % E.sz < E.sz:=Nat.mod_lt _ hpos;have hu2:=hu;rw[hj,E.get ys _ _ hm]at hu2;cases hx:ys[j / E.sz]? with
   | none=>rw[hx]at hu2;cases hu2
   | some x =>
    rw[hx]at hu2;obtain⟨b,o,hb,h⟩:=hcell _ x hx;simp only[Option.some.injEq]at hb;subst hb;have hc:=h (j % E.sz) u hu2;rw[Addr.add_lit,hj,← Nat.add_assoc];exact hc
  ·intro u hu
   rw[List.mem_flatMap]at hu;obtain⟨x,_,hx⟩:=hu;exact E.one x u hx
  ·have:=Nat.mul_le_mul (show xs.length+ys.length≤68719476736 from hn) hby
   omega
  ·intro g cap w' h2 h3 _ _
   refine hK _ w' ?_ h3;unfold Own;simpa[List.flatMap_append] using h2
end Go.Proofs.YtngekjpklkjnbaaGreat
namespace Go.Proofs.YtngekjpklkjnbaaGreat
def DQ (es:List Ev) (i:Nat):List Int:=match es[i]? with
 | some e=>if e.r=true then EX es e.l else [-1]
 | none=>[]
def NH (i:Nat) (rest:List (List Int)) (k:Int):List (List Int):=if k=(i:Int) then [] else rest.map (k :: ·)
def LZ (es:List Ev):Nat→Nat→List (List Int)
 | 0,_=>[[]]
 | n+1,i=>(DQ es i).flatMap (NH i (LZ es n (i+1)))
def QQ (es:List Ev) (i:Nat):List (List Int):=LZ es (es.length - i) i
def Uz:Nat→List Int→List (List Int)
 | 0,_=>[[]]
 | n+1,xs=>(List.range xs.length).flatMap fun i=>(Uz n (xs.eraseIdx i)).map (xs.getD i 0 :: ·)
def CD (xs:List Int):List (List Int):=Uz xs.length xs
def Oj (es:List Ev):Nat→Nat→List (List (List Int))
 | 0,_=>[[]]
 | n+1,l=>(CD (EX es l).tail).flatMap fun q=>(Oj es n (l+1)).map (((EX es l).headD 0 :: q) :: ·)
def Js (es:List Ev) (l:Nat):List (List (List Int)):=Oj es (3 - l) l
theorem Fz (es:List Ev):QQ es es.length=[[]]:=by unfold QQ;rw[Nat.sub_self];rfl
theorem DT {es:List Ev}{i:Nat}(h:i < es.length):QQ es i=(DQ es i).flatMap (NH i (QQ es (i+1))):=by
 unfold QQ;rw[show es.length - i=(es.length - (i+1))+1 by omega];rfl
theorem FQ {es:List Ev}{l:Nat}(h:l < 3):Js es l=(CD (EX es l).tail).flatMap fun q=>(Js es (l+1)).map (((EX es l).headD 0 :: q) :: ·):=by
 unfold Js;rw[show 3 - l=(3 - (l+1))+1 by omega];rfl
theorem Vq {α β:Type}(f:α→β) {xs:List α}{k:Nat}{x:α}(h:xs[k]? = some x):(xs.take (k+1)).map f=(xs.take k).map f++[f x]:=by
 rw[List.take_add_one,h,List.map_append];rfl
theorem XQ {α β:Type}(f:α→List β) (b:Nat) (xs:List α) (h:∀ x∈xs,(f x).length≤b):(xs.flatMap f).length≤xs.length * b:=by
 induction xs with
 | nil=>simp
 | cons x xs ih =>
  rw[List.flatMap_cons,List.length_append,List.length_cons,Nat.succ_mul];have h1:=h x Sm;have h2:=ih (fun y hy=>h y (by simp[hy]));omega
theorem A8:∀ (n:Nat) (xs:List Int),xs.length=n→(Uz n xs).length≤fact n:=by
 intro n
 induction n with
 | zero=>intro xs _;simp[Uz,fact]
 | succ n ih =>
  intro xs hx;unfold Uz;have h:=XQ (fun i=>(Uz n (xs.eraseIdx i)).map (xs.getD i 0 :: ·)) (fact n) (List.range xs.length) (fun i hi=>by
   rw[List.mem_range]at hi;rw[List.length_map];exact ih _ (by rw[List.length_eraseIdx,if_pos hi,hx];rfl))
  rw[List.length_range,hx]at h;rw[fact,Nat.mul_comm];rw[hx];exact h
theorem AA (xs:List Int):(CD xs).length≤fact xs.length:=A8 _ xs rfl
def Az (es:List Ev) (e:Ev):Nat:=if e.r=true then (EX es e.l).length else 1
def Jt (f:Ev→Nat):List Ev→Nat
 | []=>1
 | e :: es=>f e * Jt f es
theorem A1 {es:List Ev}:∀ (n i:Nat),i+n=es.length→(QQ es i).length≤Jt (Az es) (es.drop i):=by
 intro n
 induction n with
 | zero =>
  intro i hi;obtain rfl:i=es.length:=Om;rw[Fz,List.drop_length];exact Nat.le_refl _
 | succ n ih =>
  intro i hi;obtain⟨e,he⟩:=Zd (xs:=es) (k:=i) Om;obtain⟨hlt,hee⟩:=List.getElem?_eq_some_iff.1 he;rw[DT hlt,List.drop_eq_getElem_cons hlt,hee,Jt];have h1:(DQ es i).length=Az es e:=by
   unfold DQ Az;rw[he];simp only;split <;> rfl
  have h2:=XQ (NH i (QQ es (i+1))) (Jt (Az es) (es.drop (i+1))) (DQ es i) (fun k _=>by
   unfold NH;split
   ·simp
   ·rw[List.length_map];exact ih (i+1) Om)
  rw[h1]at h2;exact h2
theorem LR {es:List Ev}(h:∀ e∈es,e.r=true→1≤(EX es e.l).length):∀ e∈es,1≤Az es e:=by
 intro e he;unfold Az;split
 ·exact h e he (by assumption)
 ·exact Nat.le_refl _
theorem II {f:Ev→Nat}:∀ {es:List Ev},(∀ e∈es,1≤f e)→1≤Jt f es:=by
 intro es
 induction es with
 | nil=>intro _;exact Nat.le_refl _
 | cons e es ih=>intro h;exact Nat.mul_pos (h e Sm) (ih (fun x hx=>h x (by simp[hx])))
theorem FT {f:Ev→Nat}:∀ {es:List Ev},(∀ e∈es,1≤f e)→∀ i,Jt f (es.drop i)≤Jt f es:=by
 intro es
 induction es with
 | nil=>intro _ i;simp
 | cons e es ih =>
  intro h i;cases i with
  | zero=>exact Nat.le_refl _
  | succ i =>
   have h1:=ih (fun x hx=>h x (by simp[hx])) i;have h2:=h e Sm;simp only[List.drop_succ_cons,Jt];exact Nat.le_trans h1 (Nat.le_mul_of_pos_left _ h2)
def Nd (l:Int) (e:Ev):Bool:=e.r&&(e.l==l)
def Oo (l:Int) (e:Ev):Bool:=e.w&&(e.l==l)
theorem Mv (c:Int→Nat):∀ (es:List Ev),(∀ e∈es,e.r=true→e.l=0∨e.l=1∨e.l=2)→Jt (fun e=>if e.r=true then c e.l else 1) es=c 0 ^ es.countP (Nd 0) * c 1 ^ es.countP (Nd 1) * c 2 ^ es.countP (Nd 2):=by
 intro es
 induction es with
 | nil=>intro _;simp[Jt]
 | cons e es ih =>
  intro h;have h1:=ih (fun x hx=>h x (by simp[hx]));rw[Jt,h1];cases hr:e.r with
  | false =>
   simp[Nd,hr]
  | true =>
   rcases h e Sm hr with hl | hl | hl <;> simp[Nd,hr,hl,Nat.pow_succ] <;> ac_rfl
theorem Hj (es:List Ev) (l:Int):∀ k,k≤es.length→(Li es l k).length=(es.take k).countP (Oo l):=by
 intro k
 induction k with
 | zero=>intro _;simp[Li]
 | succ k ih =>
  intro hk;obtain⟨e,he⟩:=Zd (xs:=es) (k:=k) hk;rw[Lj l he,List.length_append,ih Om,List.take_add_one,he,List.countP_append];unfold Sy Oo;cases hw:(e.w&&e.l==l) <;> simp[hw]
theorem Lh (es:List Ev) (l:Int):(EX es l).length=es.countP (Oo l):=by
 unfold EX;rw[Hj es l _ (Nat.le_refl _),List.take_length]
theorem DM (G:Ev→Bool) (f:Ins→Bool) (hG:∀ (t i:Nat) (x:Ins),(Ay t i x).countP G=if f x=true then 1 else 0) (t:Nat) (r:List Ins):∀ k,k≤r.length→(VU t r k).countP G=(r.take k).countP f:=by
 intro k
 induction k with
 | zero=>intro _;simp[VU]
 | succ k ih =>
  intro hk;obtain⟨x,hx⟩:=Zd (xs:=r) (k:=k) hk;rw[Fx hx,List.countP_append,ih Om,List.take_add_one,hx,List.countP_append,hG];simp[List.countP_cons]
theorem Rj (G:Ev→Bool) (f:Ins→Bool) (hG:∀ (t i:Nat) (x:Ins),(Ay t i x).countP G=if f x=true then 1 else 0) (p:List (List Ins)):∀ j,j≤p.length→(DN p j).countP G=YO f (p.take j):=by
 intro j
 induction j with
 | zero=>intro _;simp[DN,YO]
 | succ j ih =>
  intro hj;obtain⟨r,hr⟩:=Zd (xs:=p) (k:=j) hj;have h:=DM G f hG j r r.length (Nat.le_refl _);rw[List.take_length]at h;rw[Iw hr,List.countP_append,ih Om,YY f hr,h]
theorem OD (l:Int) (t i:Nat) (x:Ins):(Ay t i x).countP (Nd l)=if fR l x=true then 1 else 0:=by
 unfold Ay fR;by_cases h:x.op=4
 ·rw[if_pos h];simp[ZG,h]
 ·rw[if_neg h];simp[List.countP_cons,Nd,Bool.and_comm]
theorem OF (l:Int) (t i:Nat) (x:Ins):(Ay t i x).countP (Oo l)=if fW l x=true then 1 else 0:=by
 unfold Ay fW;by_cases h:x.op=4
 ·rw[if_pos h];simp[ZR,h]
 ·rw[if_neg h];simp[List.countP_cons,Oo,Bool.and_comm]
theorem Ci (p:List (List Ins)) (l:Int):(Yq p).countP (Nd l)=YO (fR l) p:=by
 unfold Yq;rw[List.countP_append,Rj (Nd l) (fR l) (OD l) p p.length (Nat.le_refl _),List.take_length];simp[Ri,List.range_succ,Nd]
theorem Nq (p:List (List Ins)) {l:Nat}(hl:l < 3):(Yq p).countP (Oo l)=YO (fW l) p+1:=by
 unfold Yq;rw[List.countP_append,Rj (Oo l) (fW l) (OF l) p p.length (Nat.le_refl _),List.take_length];have:l=0∨l=1∨l=2:=Om;rcases this with rfl | rfl | rfl <;> simp[Ri,List.range_succ,Oo,Nat.add_comm]
theorem CB (es:List Ev) (f:Nat→Nat) (hf:∀ l:Nat,l < 3→fact (EX es l).tail.length≤f l):(Js es 0).length≤f 0 * (f 1 * f 2)∧(Js es 1).length≤f 1 * f 2∧(Js es 2).length≤f 2∧Js es 3=[[]]:=by
 have st:∀ l:Nat,l < 3→∀ b,(Js es (l+1)).length≤b→(Js es l).length≤f l * b:=fun l hl b hb=>by
  rw[FQ hl];have h:=XQ (fun q=>(Js es (l+1)).map (((EX es l).headD 0 :: q) :: ·)) b (CD (EX es l).tail) (fun q _=>by rw[List.length_map];exact hb);have h2:=Nat.le_trans (AA (EX es l).tail) (hf l hl);exact Nat.le_trans h (Nat.mul_le_mul_right _ h2)
 have h3:(Js es 3).length≤1:=Nat.le_refl _;have h2:=st 2 Om 1 h3;rw[Nat.mul_one]at h2;have h1:=st 1 Om _ h2;have h0:=st 0 Om _ h1;exact⟨h0,h1,h2,rfl⟩
structure SF (p:List (List Ins)):Prop where
 S4:∀ i,(QQ (Yq p) i).length≤3000
 SX:∀ l,(Js (Yq p) l).length≤3000
 perms:∀ l:Nat,l < 3→fact (EX (Yq p) l).tail.length≤3000
 all:(QQ (Yq p) 0).length * (Js (Yq p) 0).length≤3000
theorem Cl {x:Ins}(h:Zi x=true):x.loc=0∨x.loc=1∨x.loc=2:=by
 unfold Zi VX at h;split at h
 ·simp at h;omega
 ·split at h
  ·simp at h;omega
  ·split at h
   ·simp at h;omega
   ·split at h
    ·simp at h;omega
    ·cases h
theorem Sa {p:List (List Ins)}(h:Zg p=true):SF p:=by
 have hv:=Zv h;unfold Zg at h;simp only[Bool.and_eq_true,decide_eq_true_eq]at h;have hP:=h.2;have hloc:∀ e∈Yq p,e.r=true→e.l=0∨e.l=1∨e.l=2:=fun e he hr=>by
  obtain⟨k,hk⟩:=List.mem_iff_getElem?.1 he;obtain⟨t',i',r,h1,-⟩:=Nr (p:=p) hk hr;rcases DO hk with h2 | ⟨t2,i2,r2,-,-,h5,h6,-,-,h9⟩
  ·omega
  ·rw[h9];exact Cl ((hv.2.2.1 r2 (List.mem_of_getElem? h5)).2 _ (List.mem_of_getElem? h6))
 have hc:∀ l:Nat,l < 3→(EX (Yq p) l).length=YO (fW l) p+1:=fun l hl=>by rw[Lh,Nq p hl]
 have hpos:∀ e∈Yq p,1≤Az (Yq p) e:=LR fun e he hr=>by
  rcases hloc e he hr with hl | hl | hl
  ·rw[hl];have:=hc 0 Om;simp at this;omega
  ·rw[hl];have:=hc 1 Om;simp at this;omega
  ·rw[hl];have:=hc 2 Om;simp at this;omega
 have hA:=Mv (fun l=>(EX (Yq p) l).length) (Yq p) hloc;have hA2:Jt (Az (Yq p)) (Yq p)=(YO (fW (0:Nat)) p+1) ^ YO (fR (0:Nat)) p * (YO (fW (1:Nat)) p+1) ^ YO (fR (1:Nat)) p * (YO (fW (2:Nat)) p+1) ^ YO (fR (2:Nat)) p:=by
  refine Eq.trans hA ?_;rw[← hc 0 Om,← hc 1 Om,← hc 2 Om,← Ci,← Ci,← Ci];rfl
 have ht:∀ l:Nat,l < 3→fact (EX (Yq p) l).tail.length≤fact (YO (fW l) p):=fun l hl=>by
  rw[List.length_tail,hc l hl];exact Nat.le_refl _
 have t0:=ht 0 Om;have t1:=ht 1 Om;have t2:=ht 2 Om
 obtain⟨o0,o1,o2,o3⟩:=CB (Yq p) (fun l=>fact (YO (fW l) p)) ht;have hfr:∀ i,(QQ (Yq p) i).length≤Jt (Az (Yq p)) (Yq p):=fun i=>by
  by_cases hi:i≤(Yq p).length
  ·exact Nat.le_trans (A1 ((Yq p).length - i) i Om) (FT hpos i)
  ·unfold QQ
   rw[show (Yq p).length - i=0 by omega];exact II hpos
 generalize Jt (Az (Yq p)) (Yq p)=A at *;have f0:=VV (YO (fW (0:Nat)) p);have f1:=VV (YO (fW (1:Nat)) p);have f2:=VV (YO (fW (2:Nat)) p)
 have hA1:1≤A:=by rw[hA2];exact Nat.mul_pos (Nat.mul_pos (Nat.pow_pos Om) (Nat.pow_pos Om)) (Nat.pow_pos Om)
 have hPe:A * (fact (YO (fW (0:Nat)) p) * (fact (YO (fW (1:Nat)) p) * fact (YO (fW (2:Nat)) p)))≤3000:=by
  refine Nat.le_trans (Nat.le_of_eq ?_) hP;rw[hA2];simp only[Xz,Xl,pl];simp only[Nat.one_mul]
  ac_rfl
 clear hA hA2 hP hpos hloc hv hc h ht;generalize fact (YO (fW (0:Nat)) p)=F0 at *;generalize fact (YO (fW (1:Nat)) p)=F1 at *;generalize fact (YO (fW (2:Nat)) p)=F2 at *;have h12:F1 * F2≤F0 * (F1 * F2):=Nat.le_mul_of_pos_left _ f0;have h2:F2≤F1 * F2:=Nat.le_mul_of_pos_left _ f1;have h1:F1≤F1 * F2:=Nat.le_mul_of_pos_right _ f2;have h0:F0≤F0 * (F1 * F2):=Nat.le_mul_of_pos_right _ (Nat.mul_pos f1 f2);have hB1:1≤F0 * (F1 * F2):=Nat.mul_pos f0 (Nat.mul_pos f1 f2);have hB:F0 * (F1 * F2)≤A * (F0 * (F1 * F2)):=Nat.le_mul_of_pos_left _ hA1;have hAB:A≤A * (F0 * (F1 * F2)):=Nat.le_mul_of_pos_right _ hB1;refine⟨fun i=>Nat.le_trans (hfr i) Om,fun l => ?_,fun l hl => ?_,?_⟩
 ·have hl:l=0∨l=1∨l=2∨3≤l:=Om
  rcases hl with rfl | rfl | rfl | hl
  ·omega
  ·omega
  ·omega
  ·unfold Js;rw[show 3 - l=0 by omega];show 1≤3000;omega
 ·have hl':l=0∨l=1∨l=2:=Om
  rcases hl' with rfl | rfl | rfl
  ·exact Nat.le_trans t0 Om
  ·exact Nat.le_trans t1 Om
  ·exact Nat.le_trans t2 Om
 ·exact Nat.le_trans (Nat.mul_le_mul (hfr 0) o0) hPe
end Go.Proofs.YtngekjpklkjnbaaGreat
namespace Go.Proofs.YtngekjpklkjnbaaGreat
open Go.RowKit
theorem Cm {w w':World}{ob:Obj}{row:Option Nat}(hg:(w.alloc ob).drew.grownBy w' row) {b:Nat}(hb:b < w.heap.size) (hne:∀ q,row=some q→q≠b) (o:Nat):w'.cell? ⟨b,o,none⟩=w.cell? ⟨b,o,none⟩:=
 Uu (w:=w.drew) (ob:=ob) hg hb hne o
theorem Un {w w':World}{l:Array Value}{T:TypeId}{n c:Nat}(hg:(w.alloc (.cells l T)).drew.grownBy w' (Value.slice (some ⟨w.heap.size,0,none⟩) n c).ownBlock):Below w.heap.size w w':=
 ((Below.refl w.heap.size w).alloc (Nat.le_refl _) (.cells l T)).drew.grown hg Sm (fun q hq=>by simp[Value.ownBlock]at hq;omega)
def Lp (a b:Dd):Prop:=a.hi≤b.lo
theorem Q4.hi {α β:Type}{E:El α}{T:TypeId}{R:Dd→Dd→Prop}{φ:Dd→World→α→β→Prop}{us:List α}{ds:List Dd}{w:World}{base:Nat}{v:Value}{xs:List β}(h:Q4 E T R φ us ds w base v xs):∀ d∈ds,d.hi≤w.heap.size:=by
 intro d hd;obtain⟨k,hk⟩:=List.mem_iff_getElem?.1 hd;have hlt:=(List.getElem?_eq_some_iff.1 hk).1;obtain⟨u,hu⟩:=Zd (xs:=us) (k:=k) (by rw[h.lu,← h.ld];exact hlt);obtain⟨x,hx⟩:=Zd (xs:=xs) (k:=k) (by rw[← h.ld];exact hlt);exact(h.rows k u d x hu hk hx).2.le
theorem Q4.Xx {α β γ:Type}{E:El α}{F:El γ}{T:TypeId}{R:Dd→Dd→Prop}{φ:Dd→World→α→β→Prop}{us:List α}{ds:List Dd}{w w':World}{base base':Nat}{v v':Value}{xs:List β}{ys:List γ}(h:Q4 E T R φ us ds w base v xs)
 (ho:Own F T w base' v' ys) (hg:w.grownBy w' v'.ownBlock) (hne:v.ownBlock=none∨v.ownBlock≠v'.ownBlock):Q4 E T R φ us ds w' base v xs:=
 ⟨h.lu,h.ld,h.pw,h.own.grown hg hne,fun i u d x h1 h2 h3=>⟨(h.rows i u d x h1 h2 h3).1,(h.rows i u d x h1 h2 h3).2.grown ho hg⟩⟩
theorem Qx.Xx {α β γ:Type}{E:El α}{F:El γ}{T:TypeId}{R:Dd→Dd→Prop}{φ:Dd→World→α→β→Prop}{w w':World}{base base':Nat}{v v':Value}{xs:List β}{ys:List γ}(h:Qx E T R φ w base v xs)
 (ho:Own F T w base' v' ys) (hg:w.grownBy w' v'.ownBlock) (hne:v.ownBlock=none∨v.ownBlock≠v'.ownBlock):Qx E T R φ w' base v xs:=by
 obtain⟨us,ds,h⟩:=h;exact⟨us,ds,h.Xx ho hg hne⟩
theorem Lb {α:Type}(E:El α) {P:Program}{w:World}{ops:Array Oper}{o:Oper}{a:Act}{K:Act→World→Prop}{Q:Exit→Act→World→Prop}{F:Prop}
 (T:TypeId) {zv:Value}{bytes:Nat}(hinfo:(P.info? T).map (fun i=>(i.zero,i.size,i.bytes))=some (some zv,E.sz,bytes)) (hz:zv.cells.size=E.sz) {t:TypeId}(h1:P.underlying t=some (.slice T))
 (base:Nat) (v:Value) (xs:List α) (x:α) (hown:Own E T w base v xs) (hby:bytes≤256) (hn:xs.length≤68719476736) (hbase:base≤w.heap.size)
 (hg:o.guard=none) (s y:Operand) (hop:o.op = .call { callee:=.builtin .append,args:=#[s,y],argTypes:=#[t,t] })
 (hs:a.eval s=v) (b off c:Nat) (hy:a.eval y = .slice (some ⟨b,off,none⟩) 1 c) (hnews:∀ j u,(E.c x)[j]? = some u→w.cell? ⟨b,off+j,none⟩=some u)
 (hK:∀ v' w',Own E T w' base v' (xs++[x])→w.grownBy w' v.ownBlock→(v'.ownBlock=v.ownBlock∨v'.ownBlock=some w.heap.size)→K (a.put o.dst v') w') :
 if Region.wanted o (yielded ops a.tmps)=true then Oper.wp P o a w K Q else F:=by
 obtain⟨it,hi,hz0,hz1,hz2⟩:=info_parts hinfo;refine step_append_lies w hg s y t hop base T it zv E.sz bytes h1 hi hz0 hz1 hz2 hz E.pos v xs.length _ hs hown ⟨b,off,none⟩ 1 c (E.c x) hy (by rw[E.len,Nat.one_mul]) ?_ (E.one x) Om (by unfold maxLen;omega) ?_ hbase _ rfl ?_
 ·intro j u hu
  have hadd:(⟨b,off,none⟩:Addr).add j=⟨b,off+j,none⟩:=by unfold Addr.add;split <;> simp_all
  rw[hadd];exact hnews j u hu
 ·have:=Nat.mul_le_mul (show xs.length+1≤68719476737 by omega) hby
  omega
 ·intro g cap w' h2 h3 h4 _
  refine hK _ w' ?_ h3 ?_
  ·unfold Own
   simpa[List.flatMap_append] using h2
  ·rcases h4 with h4 | h4
   ·exact .inl (by rw[h4];rfl)
   ·exact .inr (by rw[h4];rfl)
theorem MU {α:Type} [Inhabited α] (enc:α→Value) (d:Array α) (cur:Array Value) (h:d.size≤cur.size):(Sort.putCells enc 0 d cur).toList.take d.size=d.toList.map enc:=by
 apply List.ext_getElem?;intro k;rw[List.getElem?_take];by_cases hk:k < d.size
 ·rw[if_pos hk]
  have h1:k < cur.size:=Om;simp[Sort.putCells,hk,h1]
 ·rw[if_neg hk,List.getElem?_eq_none (by simpa using hk)]
theorem RX (l:List (Zs × List Int)):l.flatMap Dh.c=l.map fun x=>x.1.v:=by
 induction l with
 | nil=>rfl
 | cons x l ih=>rw[List.flatMap_cons,ih];rfl
theorem Ih (base g c0 n:Nat) (l:List (Zs × List Int)) (w:World) (ho:Own Dh 66 w base (.slice (some ⟨g,0,none⟩) l.length c0) l) (hr:∀ x∈l,Own Zq 3 w base x.1.v x.2) (hn:∀ x∈l,x.2.length=n) (hl:l.length≤68719476736) :
 Calls Tryz.prog 131 #[.slice (some ⟨g,0,none⟩) l.length c0,.func (.func 132) #[] #[]] w fun e w'=>e = .returned (.tuple #[]) ∧
  ∃ l':List (Zs × List Int),l'.Perm l∧Own Dh 66 w' base (.slice (some ⟨g,0,none⟩) l.length c0) l'∧(l'.Pairwise fun a b=>Y5 a.2 b.2≠1)∧(∀ x∈l',Own Zq 3 w' base x.1.v x.2)∧YX [66] base w w':=by
 obtain⟨cur,hcur⟩:=ho.XZ (g:=g) rfl;have hgl:=World.ownsRow.lt ho g rfl;obtain⟨D,hD1,hD2⟩:=Sr (F:=fun x:OE w g=>x.u) (G:=fun x:OE w g=>x.o) (us:=l.map Prod.fst) (outs:=l.map Prod.snd) Sm fun i u o hu ho'=>by
  rw[List.getElem?_map]at hu ho';cases hx:l[i]? with
  | none=>rw[hx]at hu;simp at hu
  | some x =>
   rw[hx]at hu ho';simp only[Option.map_some,Option.some.injEq]at hu ho';subst hu;subst ho';have hrow:=hr x (List.mem_of_getElem? hx);refine⟨⟨x.1,x.2,fun W hW=>(hrow.Vt fun q hq => ?_).rep⟩,rfl,rfl⟩;refine hW q (World.ownsRow.lt hrow q hq).2 fun e => ?_;obtain⟨a,ha⟩:=hrow.XZ hq;rw[e,hcur]at ha;simp at ha
 have hlen:D.length=l.length:=by simpa using congrArg List.length hD1
 have hpair:D.map (fun x=>(x.u,x.o))=l:=by
  apply List.ext_getElem?;intro k;have h1:=congrArg (fun t:List Zs=>t[k]?) hD1;have h2:=congrArg (fun t:List (List Int)=>t[k]?) hD2;simp only[List.getElem?_map]at h1 h2 ⊢;cases hd:D[k]? with
  | none=>rw[hd]at h1;cases hx:l[k]? with
   | none=>rfl
   | some x=>rw[hx]at h1;simp at h1
  | some y =>
   rw[hd]at h1 h2;cases hx:l[k]? with
   | none=>rw[hx]at h1;simp at h1
   | some x =>
    rw[hx]at h1 h2;simp only[Option.map_some,Option.some.injEq]at h1 h2 ⊢;rw[h1,h2]
 have hsz:D.toArray.size=l.length:=by simpa using hlen
 have hH:Sort.Holds (fun x:OE w g=>x.u.v) w g 0 D.toArray:=fun j hj=>by
  have hj2:j < l.length:=Om;obtain⟨x,hx⟩:=Zd (xs:=l) (k:=j) hj2;have hc:=ho.cell hx (j:=0) rfl;simp only[Dh,Nat.mul_one,Nat.add_zero]at hc;have hfz:=ho.frozen j;rw[Nat.zero_add];refine⟨?_,hfz⟩;rw[hc];have h1:=congrArg (fun t:List Zs=>t[j]?) hD1;simp only[List.getElem?_map,hx,Option.map_some]at h1;have hjd:j < D.length:=by simpa using hj
  rw[List.getElem?_eq_getElem hjd]at h1;simp only[Option.map_some,Option.some.injEq]at h1;simp[hjd,h1]
 have hcmp:CmpLays1 Tryz.prog 132 #[] (fun x:OE w g=>x.u.v) (fun x y=>Xf x.o y.o) g 0 D.toArray.size w:=fun m os dk _ x y=>by
  refine(Dk x.u.v y.u.v x.o y.o _ (x.h _ fun k hk hg=>KB k hk hg) (y.h _ fun k hk hg=>KB k hk hg)).mono ?_;rintro e w' ⟨rfl,rfl⟩;exact⟨rfl,0,#[],by rw[Sort.grow_empty];rfl⟩
 have h:=Any.slices_SortFunc Tryz.Mj (fun x:OE w g=>x.u.v) (fun _=>rfl) (fun x y=>Xf x.o y.o) (Sw w g) 132 #[] g 0 c0 D.toArray w (fun _ _=>by kernel_rfl) hcmp hH hgl.2 Om;rw[hsz]at h;refine Calls.mono h ?_;rintro e w' ⟨rfl,d',q,os,hp,hso,rfl⟩;obtain⟨hp1,-,hp3⟩:=hp;have hd's:d'.size=l.length:=by rw[hp1,hsz]
 have hperm:d'.toList.Perm D:=by
  have e1:(d'.extract 0 l.length).toList=d'.toList:=by rw[← hd's];simp
  have e2:(D.toArray.extract 0 l.length).toList=D:=by rw[← hsz];simp
  rw[e1,e2]at hp3;exact hp3
 have hk:=MF (enc:=fun x:OE w g=>x.u.v) (m:=q) (d:=d') (os:=os) hcur hgl.1;have hlp:(d'.toList.map fun x=>(x.u,x.o)).Perm l:=by
  have:=hperm.map fun x:OE w g=>(x.u,x.o)
  rwa[hpair]at this
 refine⟨rfl,d'.toList.map fun x=>(x.u,x.o),hlp,?_,?_,fun x hx=>CO (fun x hx=>hr x hx) hk x (hlp.mem_iff.1 hx),hk⟩
 ·have hcs:l.length≤cur.size∧l.length≤c0∧c0≤maxLen∧cur.size=c0:=by
   rcases ho.2 with⟨e,_⟩ | ⟨g',cap',cur',e,_,h3,h4,h5,h6,_⟩
   ·simp at e
   ·simp only[Value.slice.injEq,Option.some.injEq,Addr.mk.injEq]at e
    obtain⟨⟨rfl,-,-⟩,-,rfl⟩:=e;rw[hcur]at h3;simp only[Option.some.injEq,Obj.cells.injEq,and_true]at h3;subst h3;simp only[Dh,Nat.mul_one]at h6;exact⟨Om,h4,h5,h6⟩
  refine⟨?_,.inr ⟨g,c0,_,?_,hgl.1,ME hcur,?_,hcs.2.2.1,?_,?_⟩⟩
  ·rw[RX];simp[Dh]
  ·simp[hd's]
  ·simp[hd's];exact hcs.2.1
  ·simp[Sort.putCells,Dh];exact hcs.2.2.2
  ·rw[RX]
   have:=MU (fun x:OE w g=>x.u.v) d' cur Om;simpa[Dh,Function.comp_def] using this
 ·rw[List.pairwise_map,List.pairwise_iff_getElem]
  intro i j hi hj hij hlex;have h1:=hso i j (Nat.zero_le _) hij (by rw[← hd's];simpa using hj);simp only[ltOf,decide_eq_false_iff_not]at h1;have hi2:i < d'.size:=by simpa using hi
  have hj2:j < d'.size:=by simpa using hj
  rw[getElem!_pos d' i hi2,getElem!_pos d' j hj2]at h1;have m1:=hn _ (hlp.mem_iff.1 (List.mem_map.2 ⟨d'[i],Sm,rfl⟩));have m2:=hn _ (hlp.mem_iff.1 (List.mem_map.2 ⟨d'[j],Sm,rfl⟩));simp only at m1 m2;rw[DG (m2.trans m1.symm)]at h1;have h3:=Ux d'[i].o d'[j].o;simp only[Array.getElem_toList]at hlex;omega
theorem YH.NV {w:World}{base:Nat}{v:Value}{outs:List (List Int)}(h:YH w base v outs):∃ l:List (Zs × List Int),l.map Prod.snd=outs∧Own Dh 66 w base v l∧∀ x∈l,Own Zq 3 w base x.1.v x.2:=by
 obtain⟨us,h1,h2,h3⟩:=h;refine⟨us.zip outs,List.map_snd_zip (Nat.le_of_eq h1.symm),Own.Ol.2 (by rw[List.map_fst_zip (Nat.le_of_eq h1)];exact h2),fun x hx => ?_⟩;obtain⟨i,hi⟩:=List.mem_iff_getElem?.1 hx;rw[List.getElem?_zip_eq_some]at hi;exact h3 i x.1 x.2 hi.1 hi.2
theorem YH.ND {w:World}{base:Nat}{v:Value}{l:List (Zs × List Int)}(h:Own Dh 66 w base v l) (hr:∀ x∈l,Own Zq 3 w base x.1.v x.2):YH w base v (l.map Prod.snd):=by
 refine⟨l.map Prod.fst,Sm,Own.Ol.1 h,fun i u o hu ho => ?_⟩;rw[List.getElem?_map]at hu ho;cases hx:l[i]? with
 | none=>rw[hx]at hu;simp at hu
 | some x =>
  rw[hx]at hu ho;simp only[Option.map_some,Option.some.injEq]at hu ho;subst hu;subst ho;exact hr x (List.mem_of_getElem? hx)
theorem Dj (w:World):Calls Tryz.prog 133 #[.slice none 0 0,.func (.func 134) #[] #[]] w fun e w'=>e = .returned (.slice none 0 0)∧w=w':=by
 go_enter Tryz.func133,Tryz.ntmps133;go_wp2_with fail;go_ret;exact⟨rfl,rfl⟩
theorem XE (n N:Nat) (hN:N≤68719476736) : @Ji n N:=by
 intro w base v outs ho hb hn hl;obtain⟨l,rfl,hp,hr⟩:=ho.NV;have hn2:∀ x∈l,x.2.length=n:=fun x hx=>hn x.2 (List.mem_map.2 ⟨x,hx,rfl⟩);have hl2:l.length≤68719476736:=by rw[List.length_map]at hl;omega
 rcases hp.shape with⟨rfl,rfl⟩ | ⟨g,c0,rfl,-⟩
 ·have H1:=Za (AnyF.slices_SortFunc_none (P:=Tryz.prog) (ρ:=Tryz.RD) { Tryz.Mj with } none 0 (.func (.func 132) #[] #[]) w)
  have H2:=Za (Dj w);have F:Hid (∃ v' l',Ending.returned (Value.slice none 0 0) = .returned v'∧YH w base v' l'∧Xr n l'∧(∀ o,o∈l'↔o∈List.map Prod.snd ([]:List (Zs × List Int)))∧YX [66] base w w):=Za ⟨_,[],rfl,.nil _ _,⟨fun o h=>by simp at h,.nil⟩,fun o=>by simp,.refl _ _ _⟩;clear ho hp hr hn hl hn2;go_enter Tryz.func103,Tryz.ntmps103;go_wp2_with (first
   | (go_at_call 131;refine H1.out.mono ?_;rintro e w1 ⟨rfl,rfl⟩)
   | (go_at_call 133;(with_reducible refine H2.out.mono ?_);rintro e w2 ⟨rfl,rfl⟩))
  go_ret;exact F.out
 ·have H1:=Za (Ih base g c0 n l w hp hr hn2 hl2)
  have HC:=Za (fun (l':List (Zs × List Int)) (w1:World) (h1:l'.Perm l) h2 h3 h4=>Di base g c0 n l' w1 h2 h3 (fun x hx=>hn2 x (h1.mem_iff.1 hx)) h4 (by rw[h1.length_eq];exact hl2));clear ho hp hr hn hl hn2;generalize hm:l.length=m at *;have HM:=Za hm;clear hm;go_enter Tryz.func103,Tryz.ntmps103;go_wp2_with fail
  (with_reducible refine H1.out.mono ?_);rintro e w1 ⟨rfl,l',hpm,ho1,hs1,hr1,hk1⟩
  have hlm:l'.length=m:=by rw[hpm.length_eq];exact HM.out
  have H2:=Za (HC.out l' w1 hpm (by rw[hlm];exact ho1) hr1 hs1);rw[hlm]at H2;have HPM:=Za hpm;have HK1:=Za hk1;have HLM:=Za hlm
  clear hpm ho1 hs1 hr1 hk1 hlm H1 HC;go_wp2_with fail
  (with_reducible refine H2.out.mono ?_);rintro e w2 ⟨v',r,rfl,ho2,hci,hr2,hk2⟩
  have F:Hid (∃ v'' l'',Ending.returned v' = .returned v''∧YH w2 base v'' l''∧Xr n l''∧(∀ o,o∈l''↔o∈l.map Prod.snd)∧YX [66] base w w2):=Za ⟨v',r.map Prod.snd,rfl,.ND ho2 (fun x hx=>hr2 x (hci.sub x hx)),hci.ok,fun o=>by
   rw[hci.mem,List.take_length];exact(HPM.out.map Prod.snd).mem_iff,HK1.out.trans hk2⟩
  clear ho2 hci hr2 hk2;go_wp2_with fail;go_ret;exact F.out
end Go.Proofs.YtngekjpklkjnbaaGreat
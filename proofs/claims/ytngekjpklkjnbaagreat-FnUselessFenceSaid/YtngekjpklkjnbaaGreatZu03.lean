/-
  A slice that a call owns, overwritten in the middle; slices.Delete of one instruction. Condition: the place lies within the slice.
-/
import Derived.Test.YtngekjpklkjnbaaGreatZu00
import Derived.Deep.AppendLies
import Derived.Lib.AppendZerosOnto
import Derived.Lib.Overlaps
import Derived.Shelf.SlSortCmp.Whole1
set_option maxHeartbeats 6400000
set_option maxRecDepth 100000
namespace Go.Proofs.YtngekjpklkjnbaaGreat
open Go.RowKit
theorem I7 (p:List (List Ins)) (l:Int) (h:0≤Gl p l):Gl p l=l - p.flatten.length∨p=[]:=by
 induction p generalizing l with
 | nil=>exact .inr rfl
 | cons r p ih =>
  left;simp only[Gl]at h ⊢;split at h
  ·omega
  ·rename_i hl
   rw[if_neg hl];rcases ih _ h with h1 | h1
   ·rw[h1];simp;omega
   ·subst h1;simp[Gl]
theorem Below.next {a b c:World}(h:Below a.heap.size a b) (k:Below b.heap.size b c):Below a.heap.size a c:=h.trans (k.mono h.size)
theorem Own.lo {α:Type}{E:El α}{T:TypeId}{w:World}{base:Nat}{v:Value}{xs:List α}(h:Own E T w base v xs):∀ q,v.ownBlock=some q→base≤q∧q < w.heap.size:=World.ownsRow.lt h
theorem XC {P:Program}{w:World}{base:Nat}{t ty e:TypeId}{i:TypeInfo}{size:Nat}(ht:P.underlying t=some (.slice e)) (hi:P.info? e=some i)
 {v:Value}{n c:Nat}{xs:List Value}(hown:w.ownsRow base e size v n xs):(Builtin.append_ #[t,t] ty #[v,.slice none 0 c]).run P w = .ok v w:=by
 rcases hown.2 with⟨rfl,rfl⟩ | ⟨g,cap,cur,rfl,_,_,hnc,_⟩
 ·simp[Builtin.append_,run_underlying ht,sizeOf,typeInfo,hi,Builtin.lenOf,Builtin.firstCells]
 ·simp[Builtin.append_,run_underlying ht,sizeOf,typeInfo,hi,Builtin.lenOf,Builtin.firstCells,hnc,storeCells]
theorem ZC {α:Type}(E:El α) {P:Program}{w:World}{ops:Array Oper}{rest:List Oper}{o:Oper}{a:Act}{Q:Exit→Act→World→Prop}
 (T:TypeId) {zv:Value}{bytes:Nat}(hinfo:(P.info? T).map (fun i=>(i.zero,i.size,i.bytes))=some (some zv,E.sz,bytes)) (hz:zv.cells.size=E.sz) {t:TypeId}(h1:P.underlying t=some (.slice T))
 (base:Nat) (v:Value) (xs ys:List α) (u:Value) (hown:Own E T w base v xs) (hrep:Z7 E w u ys) (hby:bytes≤256) (hn:xs.length+ys.length≤68719476736) (hbase:base≤w.heap.size)
 (hg:o.guard=none) (s y:Operand) (hop:o.op = .call { callee:=.builtin .append,args:=#[s,y],argTypes:=#[t,t] })
 (hs:a.eval s=v) (hy:a.eval y=u)
 (hK:∀ v' w',Own E T w' base v' (xs++ys)→w.grownBy w' v.ownBlock→wpList P ops Q rest (a.put o.dst v') w') :
 wpList P ops Q (o :: rest) a w:=by
 obtain⟨it,hi,hz0,hz1,hz2⟩:=info_parts hinfo;obtain⟨ad,c,rfl,hc1,hc2,hcell⟩:=hrep;cases ad with
 | none =>
  have hys:ys=[]:=by
   cases ys with
   | nil=>rfl
   | cons y ys=>obtain⟨b,o,hb,_⟩:=hcell 0 y rfl;cases hb
  subst hys;refine wpList_plain hg fun K hK' => ?_;have hrun:=XC (P:=P) (w:=w) (ty:=o.type) (c:=c) h1 hi hown;unfold Oper.wp;simp[execOp,hop,resolve,invoke,builtin,hs,hy,hrun,Result.andThen];exact hK' _ _ (hK _ _ (by simpa using hown) (World.grownBy.refl _ _))
 | some ad =>
  refine wpList_append_own w hg s y t hop base T it zv E.sz bytes h1 hi hz0 hz1 hz2 hz E.pos v xs.length _ hs hown ad ys.length c (ys.flatMap E.c) hy (E.length ys) ?_ ?_ (by unfold maxLen;omega) ?_ hbase ?_
  ·intro j u hu
   have hpos:=E.pos;have hj:j=j / E.sz * E.sz+j % E.sz:=by rw[Nat.mul_comm];exact(Nat.div_add_mod j E.sz).symm
   have hm:j % E.sz < E.sz:=Nat.mod_lt _ hpos;have hu2:=hu;rw[hj,E.get ys _ _ hm]at hu2;cases hx:ys[j / E.sz]? with
   | none=>rw[hx]at hu2;cases hu2
   | some x =>
    rw[hx]at hu2;obtain⟨b,o,hb,h⟩:=hcell _ x hx;simp only[Option.some.injEq]at hb;subst hb;have hc:=h (j % E.sz) u hu2;rw[Addr.add_lit,hj,← Nat.add_assoc];exact hc
  ·intro u hu
   rw[List.mem_flatMap]at hu;obtain⟨x,_,hx⟩:=hu;exact E.one x u hx
  ·have:=Nat.mul_le_mul (show xs.length+ys.length≤68719476736 from hn) hby
   omega
  ·intro v' w' h2 h3 _
   refine hK v' w' ?_ h3;unfold Own;simpa[List.flatMap_append] using h2
theorem QE {α β:Type}{E:El α}{F:El β}{T U:TypeId}(hT:T≠U) {w:World}{base base':Nat}{v u:Value}{xs:List α}{ys:List β}(h:Own E T w base v xs) (k:Own F U w base' u ys):∀ q,u.ownBlock=some q→v.ownBlock≠some q:=by
 intro q hq hv;rcases h.2 with⟨rfl,_⟩ | ⟨g,cap,cur,rfl,_,hg,_⟩
 ·simp[Value.ownBlock]at hv
 ·rcases k.2 with⟨rfl,_⟩ | ⟨g',cap',cur',rfl,_,hg',_⟩
  ·simp[Value.ownBlock]at hq
  ·simp[Value.ownBlock]at hq hv
   subst hq;subst hv;rw[hg]at hg';simp at hg';exact hT hg'.2
theorem Yt.app {α:Type}{E:El α}{T1 T2:TypeId}(hT:T1≠T2) {us:List Zt}{w w1 w2:World}{base:Nat}{v v':Value}{p:List (List α)}(h:Yt E T1 T2 us w base v p) (hb:Below w.heap.size w w1) (hbase:base≤w.heap.size) {r:List α}{s:Zt}
 (hu:Own E T2 w1 w.heap.size s.v r) (h2'':Own Zw T1 w2 base v' (us++[s])) (hg:w1.grownBy w2 v.ownBlock):ZG E T1 T2 w2 base v' (p++[r]):=by
 obtain⟨h1,h2,h3,h4,h5⟩:=h;have h2':=h2.below hb;have hnew:∀ q,s.v.ownBlock=some q→w.heap.size≤q:=fun q hq=>(World.ownsRow.lt hu q hq).1;have hold:∀ (i:Nat) (u':Zt),us[i]? = some u'→∀ q,u'.v.ownBlock=some q→q < w.heap.size:=fun i u' hi q hq=>by
  obtain⟨r',hr'⟩:=Zd (xs:=p) (k:=i) (by have:=(List.getElem?_eq_some_iff.1 hi).1;omega);exact(World.ownsRow.lt (h3 i u' r' hi hr') q hq).2
 have split:∀ (i:Nat) (u':Zt),(us++[s])[i]? = some u'→(i=us.length∧u'=s)∨(i < us.length∧us[i]? = some u'):=fun i u' hi=>by
  by_cases hlt:i < us.length
  ·rw[List.getElem?_append_left hlt]at hi;exact .inr ⟨hlt,hi⟩
  ·rw[List.getElem?_append_right Om]at hi
   have:i - us.length=0:=by
    rcases Nat.eq_zero_or_pos (i - us.length) with h | h
    ·exact h
    ·rw[List.getElem?_eq_none So]at hi;cases hi
   rw[this]at hi;simp at hi;exact .inl ⟨Om,hi.symm⟩
 have hus:Own E T2 w2 base s.v r:=(hu.mono hbase).grown hg (by
  rcases hq:s.v.ownBlock with _ | q
  ·exact .inl rfl
  ·exact .inr (fun e=>QE hT h2' hu q hq e.symm))
 have hrows:∀ (i:Nat) (u:Zt) (r':List α),us[i]? = some u→p[i]? = some r'→Own E T2 w2 base u.v r':=fun i u r' hi hr' =>
  ((h3 i u r' hi hr').below hb).grown hg (by
   rcases hq:u.v.ownBlock with _ | q
   ·exact .inl rfl
   ·exact .inr (fun e=>h5 i u hi q hq e.symm))
 refine⟨us++[s],by simp[h1],h2'',?_,?_,?_⟩
 ·intro i u r' hi hr'
  rcases split i u hi with⟨e1,e2⟩ | ⟨hlt,hi'⟩
  ·rw[e1,List.getElem?_append_right Om,h1,Nat.sub_self]at hr'
   simp at hr';rw[e2,← hr'];exact hus
  ·rw[List.getElem?_append_left Om]at hr'
   exact hrows i u r' hi' hr'
 ·intro i j u u' hi hj hij q hq hq'
  rcases split i u hi with⟨e1,e2⟩ | ⟨hlt,hi'⟩
  ·rcases split j u' hj with⟨e3,e4⟩ | ⟨hlt',hj'⟩
   ·omega
   ·rw[e2]at hq;have a1:=hnew q hq;have a2:=hold j u' hj' q hq';omega
  ·rcases split j u' hj with⟨e3,e4⟩ | ⟨hlt',hj'⟩
   ·rw[e4]at hq';have a1:=hnew q hq';have a2:=hold i u hi' q hq;omega
   ·exact h4 i j u u' hi' hj' hij q hq hq'
 ·intro i u hi q hq
  rcases split i u hi with⟨e1,e2⟩ | ⟨hlt,hi'⟩
  ·rw[e2]at hq;exact QE hT h2'' hus q hq
  ·obtain⟨r',hr'⟩:=Zd (xs:=p) (k:=i) Om
   exact QE hT h2'' (hrows i u r' hi' hr') q hq
theorem ZG.nil {α:Type}{E:El α}(T1 T2:TypeId) (w:World) (base:Nat):ZG E T1 T2 w base (.slice none 0 0) []:=
 ⟨[],rfl,Own.nil _ _ _,fun i u r h=>by simp at h,fun i j u u' h=>by simp at h,fun i u h=>by simp at h⟩
theorem ZG.empty {α:Type}{E:El α}(T1 T2:TypeId) (w:World) {base:Nat}(hb:base≤w.heap.size):ZG E T1 T2 (w.alloc (.cells #[] T1)) base (.slice (some ⟨w.heap.size,0,none⟩) 0 0) []:=
 ⟨[],rfl,Own.empty _ _ hb,fun i u r h=>by simp at h,fun i j u u' h=>by simp at h,fun i u h=>by simp at h⟩
theorem ZG.mono {α:Type}{E:El α}{T1 T2:TypeId}{w:World}{base base':Nat}{v:Value}{p:List (List α)}(h:ZG E T1 T2 w base v p) (hb:base'≤base):ZG E T1 T2 w base' v p:=by
 obtain⟨us,h1,h2,h3,h4,h5⟩:=h;exact⟨us,h1,h2.mono hb,fun i u r hu hr=>(h3 i u r hu hr).mono hb,h4,h5⟩
theorem ZG.Le {α:Type}{E:El α}{T1 T2:TypeId}{lo hi:Nat}{w w':World}{base:Nat}{v:Value}{p:List (List α)}(h0:ZG E T1 T2 w base v p)
 (h:Outside lo hi w w') (hhi:hi≤base):ZG E T1 T2 w' base v p:=by
 obtain⟨us,hU,hlt⟩:=h0.told;obtain⟨h1,h2,h3,h4,h5⟩:=hU;refine⟨us,h1,h.own h2 (fun q hq => .inr (by have:=(World.ownsRow.lt h2 q hq).1;omega)),fun i u r hu hr=>h.own (h3 i u r hu hr) (fun q hq => .inr (by have:=(hlt i u hu q hq).1;omega)),h4,h5⟩
end Go.Proofs.YtngekjpklkjnbaaGreat
namespace Go.Proofs.YtngekjpklkjnbaaGreat
structure Gp where
 t:Int
 i:Int
deriving DecidableEq
abbrev Gp.v (x:Gp):Value:=.agg #[.int .i64 x.t,.int .i64 x.i]
def Hx:El Gp:=⟨2,Dc,fun x=>[.int .i64 x.t,.int .i64 x.i],fun _=>rfl,fun x u h=>by simp at h;rcases h with rfl | rfl <;> rfl⟩
def VR (r:List Ins) (i:Nat):Bool:=
 match r[i - 1]?,r[i]? with
 | some x,some y=>decide (1≤i)&&(x.op != 4&&y.op != 4)
 | _,_=>false
def Yc (t:Nat) (r:List Ins) (n:Nat):List Gp:=((List.range n).filter (VR r)).map fun (i:Nat)=>⟨t,i⟩
def Q9 (p:List (List Ins)) (j:Nat):List Gp:=(List.range j).flatMap fun t=>match p[t]? with
 | some r=>Yc t r r.length
 | none=>[]
def Hm (p:List (List Ins)):List Gp:=Q9 p p.length
theorem Ka (t:Nat) (r:List Ins) (n:Nat):Yc t r (n+1)=Yc t r n++if VR r n=true then [⟨t,n⟩] else []:=by
 unfold Yc;rw[List.range_succ,List.filter_append,List.map_append];by_cases h:VR r n=true <;> simp[h]
theorem Ji (t:Nat) (r:List Ins):Yc t r 1=[]:=by
 have h:VR r 0=false:=by unfold VR;split <;> simp
 rw[Ka,if_neg (by simp[h])];simp[Yc]
theorem Rl (t:Nat) (r:List Ins):Yc t r 0=[]:=by simp[Yc]
theorem KL {p:List (List Ins)}{j:Nat}{r:List Ins}(h:p[j]? = some r):Q9 p (j+1)=Q9 p j++Yc j r r.length:=by
 unfold Q9;rw[List.range_succ,List.flatMap_append];simp[h]
theorem Jh (t:Nat) (r:List Ins) (n:Nat):(Yc t r n).length≤n:=by
 unfold Yc;rw[List.length_map];exact Nat.le_trans (List.length_filter_le _ _) Sm
theorem UF (p:List (List Ins)):∀ j,j≤p.length→(Q9 p j).length≤(p.take j).flatten.length:=by
 intro j
 induction j with
 | zero=>intro _;simp[Q9]
 | succ j ih =>
  intro hj;obtain⟨r,hr⟩:=Zd (xs:=p) (k:=j) hj;rw[KL hr,List.take_add_one,hr,List.flatten_append,List.length_append,List.length_append];have h1:=ih Om;have h2:=Jh j r r.length;simp only[Option.toList_some,List.flatten_cons,List.flatten_nil,List.append_nil];omega
theorem Rk {t:Nat}{r:List Ins}{s:Nat}{x y:Ins}(hx:r[s]? = some x) (hy:r[s+1]? = some y):Yc t r (s+1+1)=Yc t r (s+1)++if (x.op != 4&&y.op != 4)=true then [⟨t,(s+1:Nat)⟩] else []:=by
 rw[Ka];have:VR r (s+1)=(x.op != 4&&y.op != 4):=by unfold VR;simp[hx,hy]
 rw[this]
end Go.Proofs.YtngekjpklkjnbaaGreat
namespace Go.Proofs.YtngekjpklkjnbaaGreat
open Go.RowKit
structure YS (L:List TypeId) (B:Nat) (w w':World):Prop where
 os:w'.os=w.os
 tape:w'.tape=w.tape
 output:w'.output=w.output
 size:w.heap.size≤w'.heap.size
 block:∀ k ob,w.heap[k]? = some ob→(k < B∨∀ a T fz,ob = .cells a T fz→T∉L)→w'.heap[k]? = some ob
theorem YS.refl (L:List TypeId) (B:Nat) (w:World):YS L B w w:=⟨rfl,rfl,rfl,Nat.le_refl _,fun _ _ h _=>h⟩
theorem YS.trans {L:List TypeId}{B:Nat}{a b c:World}(h:YS L B a b) (k:YS L B b c):YS L B a c:=
 ⟨k.os.trans h.os,k.tape.trans h.tape,k.output.trans h.output,Nat.le_trans h.size k.size,fun q ob hq hl=>k.block q ob (h.block q ob hq hl) hl⟩
theorem YS.Zf {L:List TypeId}{B:Nat}{w w':World}(h:Below w.heap.size w w'):YS L B w w':=
 ⟨h.os,h.tape,h.output,h.size,fun k _ hk _=>(h.block k (Array.getElem?_eq_some_iff.1 hk).1).trans hk⟩
theorem YS.below {L:List TypeId}{B:Nat}{w w':World}(h:YS L B w w') (hB:B≤w.heap.size):Below B w w':=
 ⟨h.os,h.tape,h.output,h.size,fun k hk=>by
  have hk':k < w.heap.size:=Om;have e:w.heap[k]? = some (w.heap[k]'hk'):=Array.getElem?_eq_getElem hk';rw[e];exact h.block k _ e (.inl hk)⟩
theorem YS.more {L L':List TypeId}{B B':Nat}{w w':World}(h:YS L B w w') (hL:∀ T∈L,T∈L') (hB:B'≤B):YS L' B' w w':=
 ⟨h.os,h.tape,h.output,h.size,fun k ob hk hl=>h.block k ob hk (hl.imp (fun q=>Nat.lt_of_lt_of_le q hB) fun q a T fz e hT=>q a T fz e (hL T hT))⟩
theorem YS.alloc {L:List TypeId}{B:Nat}(w:World) (o:Obj):YS L B w (w.alloc o):=.Zf ((Below.refl _ _).alloc (Nat.le_refl _) o)
theorem Own.Xa {α:Type}{E:El α}{T:TypeId}{w:World}{base g:Nat}{v:Value}{xs:List α}(h:Own E T w base v xs) (hg:v.ownBlock=some g):∃ a,w.heap[g]? = some (.cells a T (0,0)):=by
 rcases h.2 with⟨rfl,_⟩ | ⟨g',cap,cur,rfl,_,hg',_⟩
 ·simp[Value.ownBlock]at hg
 ·simp[Value.ownBlock]at hg
  subst hg;exact⟨cur,hg'⟩
theorem Own.J6 {α:Type}{E:El α}{T:TypeId}{w w':World}{base:Nat}{v:Value}{xs:List α}(h:Own E T w base v xs) (hs:∀ q,v.ownBlock=some q→w'.heap[q]? = w.heap[q]?):Own E T w' base v xs:=by
 refine⟨h.1,?_⟩;rcases h.2 with hn | ⟨g,cap,cur,rfl,hb1,hgg,rest⟩
 ·exact .inl hn
 ·exact .inr ⟨g,cap,cur,rfl,hb1,(hs g rfl).trans hgg,rest⟩
theorem YS.grown {α:Type}{E:El α}{T:TypeId}{L:List TypeId}{B base:Nat}{w w':World}{v:Value}{xs:List α}(ho:Own E T w base v xs) (hT:T∈L) (hB:B≤base) (hg:w.grownBy w' v.ownBlock):YS L B w w':=
 ⟨hg.os,hg.tape,hg.output,hg.size,fun k ob hk hl=>(hg.block k (Array.getElem?_eq_some_iff.1 hk).1 (fun e=>by
  obtain⟨a,ha⟩:=ho.Xa e.symm;have hbk:=(World.ownsRow.lt ho k e.symm).1;rw[hk]at ha;rcases hl with hl | hl
  ·omega
  ·exact hl a T _ (Option.some.inj ha) hT)).trans hk⟩
theorem YS.set {T:TypeId}{L:List TypeId}{B g j:Nat}{w:World}{a:Array Value}{fz:Nat × Nat}(hg:w.heap[g]? = some (.cells a T fz)) (hT:T∈L) (hB:B≤g) (u:Value):YS L B w (w.setCell ⟨g,j,none⟩ u):=
 ⟨rfl,rfl,rfl,Sm,fun k ob hk hl=>(heap_setCell_other w ⟨g,j,none⟩ k u (show k≠g by
  rintro rfl;rw[hg]at hk;rcases hl with hl | hl
  ·omega
  ·exact hl a T fz (Option.some.inj hk).symm hT)).trans hk⟩
structure Yn (L:List TypeId) (B:Nat) (w:World) (φ:World→Prop):Prop where
 now:φ w
 keep:∀ w',YS L B w w'→φ w'
theorem Yn.step {L:List TypeId}{B:Nat}{w w':World}{φ:World→Prop}(h:Yn L B w φ) (k:YS L B w w'):Yn L B w' φ:=⟨h.keep w' k,fun w'' k'=>h.keep w'' (k.trans k')⟩
theorem Yn.map {L:List TypeId}{B:Nat}{w:World}{φ ψ:World→Prop}(h:Yn L B w φ) (f:∀ V,φ V→ψ V):Yn L B w ψ:=⟨f _ h.now,fun w' k=>f _ (h.keep w' k)⟩
theorem Yn.and {L:List TypeId}{B:Nat}{w:World}{φ ψ:World→Prop}(h:Yn L B w φ) (k:Yn L B w ψ):Yn L B w (fun W=>φ W∧ψ W):=⟨⟨h.now,k.now⟩,fun w' s=>⟨h.keep w' s,k.keep w' s⟩⟩
theorem Yn.all {ι:Type}{L:List TypeId}{B:Nat}{w:World}{φ:ι→World→Prop}(h:∀ i,Yn L B w (φ i)):Yn L B w (fun W => ∀ i,φ i W):=⟨fun i=>(h i).now,fun w' s i=>(h i).keep w' s⟩
theorem Yn.imp {L:List TypeId}{B:Nat}{w:World}{p:Prop}{φ:World→Prop}(h:p→Yn L B w φ):Yn L B w (fun W=>p→φ W):=⟨fun i=>(h i).now,fun w' s i=>(h i).keep w' s⟩
theorem Yn.own {α:Type}{E:El α}{T:TypeId}{L:List TypeId}{B base:Nat}{w:World}{v:Value}{xs:List α}(h:Own E T w base v xs) (hT:T∉L):Yn L B w (fun W=>Own E T W base v xs):=
 ⟨h,fun w' k=>h.J6 fun q hq=>by
  obtain⟨a,ha⟩:=h.Xa hq;rw[k.block q _ ha (.inr fun a' T' fz e=>by simp at e;rw[← e.2.1];exact hT),ha]⟩
theorem Yn.FT {α:Type}{E:El α}{T1 T2:TypeId}{L:List TypeId}{B base:Nat}{w:World}{v:Value}{p:List (List α)}(h:ZG E T1 T2 w base v p) (h1:T1∉L) (h2:T2∉L):Yn L B w (fun W=>ZG E T1 T2 W base v p):=by
 obtain⟨us,g1,g2,g3,g4,g5⟩:=h;have k1:=Yn.own (B:=B) g2 h1;have k2:Yn L B w (fun W => ∀ (i:Nat) (u:Zt) (r:List α),us[i]? = some u→p[i]? = some r→Own E T2 W base u.v r):=.all fun i => .all fun u => .all fun r => .imp fun hu => .imp fun hr=>Yn.own (g3 i u r hu hr) h2;exact(k1.and k2).map fun V ⟨a,b⟩=>⟨us,g1,a,b,g4,g5⟩
structure St where
 pc:List Int
 rg:List Int
 mm:List Int
 bf:List (List Int)
structure SV where
 p:Zt
 r:Zt
 m:Zt
 b:Zt
def IE:El SV:=⟨4,Dc,fun x=>[x.p.v,x.r.v,x.m.v,x.b.v],fun _=>rfl,fun x u h=>by simp at h;rcases h with rfl | rfl | rfl | rfl <;> rfl⟩
structure ZB (w:World) (x:SV) (s:St):Prop where
 pc:Z7 Zo w x.p.v s.pc
 rg:Z7 Zo w x.r.v s.rg
 mm:Z7 Zo w x.m.v s.mm
 bf:Yv Zo w x.b.v s.bf
theorem ZB.below {w w':World}{x:SV}{s:St}(h:ZB w x s) (hb:Below w.heap.size w w'):ZB w' x s:=⟨h.pc.below hb,h.rg.below hb,h.mm.below hb,h.bf.below hb⟩
structure Yp (w:World) (base:Nat) (c1 c2 c3:Zt) (l1 l2 l3:List Int):Prop where
 o1:Own Zo 3 w base c1.v l1
 o2:Own Zo 3 w base c2.v l2
 o3:Own Zo 3 w base c3.v l3
 d12:∀ q,c1.v.ownBlock=some q→c2.v.ownBlock≠some q
 d13:∀ q,c1.v.ownBlock=some q→c3.v.ownBlock≠some q
 d23:∀ q,c2.v.ownBlock=some q→c3.v.ownBlock≠some q
theorem Yp.below {w w':World}{base:Nat}{c1 c2 c3:Zt}{l1 l2 l3:List Int}(h:Yp w base c1 c2 c3 l1 l2 l3) (hb:Below w.heap.size w w'):Yp w' base c1 c2 c3 l1 l2 l3:=
 ⟨h.o1.below hb,h.o2.below hb,h.o3.below hb,h.d12,h.d13,h.d23⟩
theorem Yp.II {w:World}{base:Nat}{c1 c2 c3:Zt}{l1 l2 l3:List Int}(h:Yp w base c1 c2 c3 l1 l2 l3):Yp w base c2 c3 c1 l2 l3 l1:=
 ⟨h.o2,h.o3,h.o1,h.d23,fun q a b=>h.d12 q b a,fun q a b=>h.d13 q b a⟩
theorem Yp.mono {w:World}{base base':Nat}{c1 c2 c3:Zt}{l1 l2 l3:List Int}(h:Yp w base c1 c2 c3 l1 l2 l3) (hb:base'≤base):Yp w base' c1 c2 c3 l1 l2 l3:=
 ⟨h.o1.mono hb,h.o2.mono hb,h.o3.mono hb,h.d12,h.d13,h.d23⟩
theorem Yp.nil (w:World) (base:Nat):Yp w base ⟨none,0,0⟩ ⟨none,0,0⟩ ⟨none,0,0⟩ [] [] []:=
 ⟨Own.nil _ _ _,Own.nil _ _ _,Own.nil _ _ _,fun q h=>by simp[Value.ownBlock]at h,fun q h=>by simp[Value.ownBlock]at h,fun q h=>by simp[Value.ownBlock]at h⟩
theorem Yp.Dy {w w':World}{base:Nat}{c1 c1' c2 c3:Zt}{l1 l1' l2 l3:List Int}(h:Yp w base c1 c2 c3 l1 l2 l3) (ho:Own Zo 3 w' base c1'.v l1') (hg:w.grownBy w' c1.v.ownBlock)
 (hb:c1'.v.ownBlock=c1.v.ownBlock∨∀ q,c1'.v.ownBlock=some q→w.heap.size≤q):Yp w' base c1' c2 c3 l1' l2 l3:=by
 have n2:∀ q,c1'.v.ownBlock=some q→c2.v.ownBlock≠some q:=fun q hq e=>by
  rcases hb with hb | hb
  ·exact h.d12 q (hb ▸ hq) e
  ·have:=hb q hq;have:=(World.ownsRow.lt h.o2 q e).2;omega
 have n3:∀ q,c1'.v.ownBlock=some q→c3.v.ownBlock≠some q:=fun q hq e=>by
  rcases hb with hb | hb
  ·exact h.d13 q (hb ▸ hq) e
  ·have:=hb q hq;have:=(World.ownsRow.lt h.o3 q e).2;omega
 refine⟨ho,h.o2.grown hg ?_,h.o3.grown hg ?_,n2,n3,h.d23⟩
 ·rcases hq:c2.v.ownBlock with _ | q
  ·exact .inl rfl
  ·exact .inr fun e=>h.d12 q e.symm hq
 ·rcases hq:c3.v.ownBlock with _ | q
  ·exact .inl rfl
  ·exact .inr fun e=>h.d13 q e.symm hq
theorem Yp.FV {w w':World}{base:Nat}{c1 c2 c2' c3:Zt}{l1 l2 l2' l3:List Int}(h:Yp w base c1 c2 c3 l1 l2 l3) (ho:Own Zo 3 w' base c2'.v l2') (hg:w.grownBy w' c2.v.ownBlock)
 (hb:c2'.v.ownBlock=c2.v.ownBlock∨∀ q,c2'.v.ownBlock=some q→w.heap.size≤q):Yp w' base c1 c2' c3 l1 l2' l3:=(h.II.Dy ho hg hb).II.II
theorem Yp.EI {w w':World}{base:Nat}{c1 c2 c3 c3':Zt}{l1 l2 l3 l3':List Int}(h:Yp w base c1 c2 c3 l1 l2 l3) (ho:Own Zo 3 w' base c3'.v l3') (hg:w.grownBy w' c3.v.ownBlock)
 (hb:c3'.v.ownBlock=c3.v.ownBlock∨∀ q,c3'.v.ownBlock=some q→w.heap.size≤q):Yp w' base c1 c2 c3' l1 l2 l3':=(h.II.II.Dy ho hg hb).II
theorem Own.Zy {α:Type}{E:El α}{U T:TypeId}(hT:U≠T) {w:World}{base g j:Nat}{a:Array Value}{fz:Nat × Nat}{v u:Value}{xs:List α}(h:Own E U w base v xs) (hg:w.heap[g]? = some (.cells a T fz)):Own E U (w.setCell ⟨g,j,none⟩ u) base v xs:=
 h.J6 fun q hq=>heap_setCell_other w ⟨g,j,none⟩ q u (show q≠g by
  rintro rfl;obtain⟨a',ha⟩:=h.Xa hq;rw[hg]at ha;simp at ha;exact hT ha.2.1.symm)
theorem ZG.Zy {α:Type}{E:El α}{U1 U2 T:TypeId}(h1:U1≠T) (h2:U2≠T) {w:World}{base g j:Nat}{a:Array Value}{fz:Nat × Nat}{v u:Value}{p:List (List α)}(h:ZG E U1 U2 w base v p) (hg:w.heap[g]? = some (.cells a T fz)):ZG E U1 U2 (w.setCell ⟨g,j,none⟩ u) base v p:=by
 obtain⟨us,g1,g2,g3,g4,g5⟩:=h;exact⟨us,g1,g2.Zy h1 hg,fun i u r hu hr=>(g3 i u r hu hr).Zy h2 hg,g4,g5⟩
theorem Yp.Zy {T:TypeId}(hT:3≠T) {w:World}{base g j:Nat}{a:Array Value}{fz:Nat × Nat}{u:Value}{c1 c2 c3:Zt}{l1 l2 l3:List Int}(h:Yp w base c1 c2 c3 l1 l2 l3) (hg:w.heap[g]? = some (.cells a T fz)):Yp (w.setCell ⟨g,j,none⟩ u) base c1 c2 c3 l1 l2 l3:=
 ⟨h.o1.Zy hT hg,h.o2.Zy hT hg,h.o3.Zy hT hg,h.d12,h.d13,h.d23⟩
def Ry (T:TypeId) (w:World) (g:Nat):Prop:=∃ a,w.heap[g]? = some (.cells a T (0,0))
theorem Ry.set {T:TypeId}{w:World}{g:Nat}(h:Ry T w g) (b j:Nat) (u:Value):Ry T (w.setCell ⟨b,j,none⟩ u) g:=by
 obtain⟨a,ha⟩:=h;by_cases e:g=b
 ·subst e
  exact⟨_,heap_setCell_same w g j _ _ u ha⟩
 ·exact⟨a,(heap_setCell_other w ⟨b,j,none⟩ g u e).trans ha⟩
theorem YS.same {L:List TypeId}{B k:Nat}{w w':World}{a:Array Value}{T:TypeId}{fz:Nat × Nat}(h:YS L B w w') (hk:w.heap[k]? = some (.cells a T fz)) (hT:T∉L):w'.heap[k]? = some (.cells a T fz):=
 h.block k _ hk (.inr fun a' T' fz' e=>by simp at e;rw[← e.2.1];exact hT)
theorem YS.Yh {T:TypeId}{L:List TypeId}{B g j:Nat}{w:World}(hg:Ry T w g) (hT:T∈L) (hB:B≤g) (u:Value):YS L B w (w.setCell ⟨g,j,none⟩ u):=by
 obtain⟨a,ha⟩:=hg;exact .set ha hT hB u
theorem Yp.kp {L:List TypeId}{B:Nat}{w w':World}{base:Nat}{c1 c2 c3:Zt}{l1 l2 l3:List Int}(h:Yp w base c1 c2 c3 l1 l2 l3) (k:YS L B w w') (hT:3∉L):Yp w' base c1 c2 c3 l1 l2 l3:=
 ⟨(Yn.own h.o1 hT).keep w' k,(Yn.own h.o2 hT).keep w' k,(Yn.own h.o3 hT).keep w' k,h.d12,h.d13,h.d23⟩
structure Y0 (w:World) (base m:Nat) (x:SV) (s:St):Prop where
 ln:Yp w base x.p x.r x.m s.pc s.rg s.mm
 bf:ZG Zo 66 3 w m x.b.v s.bf
 p1:∀ q,x.p.v.ownBlock=some q→q < m
 p2:∀ q,x.r.v.ownBlock=some q→q < m
 p3:∀ q,x.m.v.ownBlock=some q→q < m
 le:base≤m
 lh:m≤w.heap.size
theorem Y0.below {w w':World}{base m:Nat}{x:SV}{s:St}(h:Y0 w base m x s) (hb:Below w.heap.size w w'):Y0 w' base m x s:=
 ⟨h.ln.below hb,h.bf.below hb,h.p1,h.p2,h.p3,h.le,Nat.le_trans h.lh hb.size⟩
theorem Y0.rep {w:World}{base m:Nat}{x:SV}{s:St}(h:Y0 w base m x s):ZB w x s:=⟨h.ln.o1.rep,h.ln.o2.rep,h.ln.o3.rep,h.bf.rep⟩
theorem Y0.mono {w:World}{base base' m:Nat}{x:SV}{s:St}(h:Y0 w base m x s) (hb:base'≤base):Y0 w base' m x s:=⟨h.ln.mono hb,h.bf,h.p1,h.p2,h.p3,Nat.le_trans hb h.le,h.lh⟩
theorem Y0.Zy {T:TypeId}(h1:3≠T) (h2:66≠T) {w:World}{base m g j:Nat}{a:Array Value}{fz:Nat × Nat}{u:Value}{x:SV}{s:St}(h:Y0 w base m x s) (hg:w.heap[g]? = some (.cells a T fz)):Y0 (w.setCell ⟨g,j,none⟩ u) base m x s:=
 ⟨h.ln.Zy h1 hg,h.bf.Zy h2 h1 hg,h.p1,h.p2,h.p3,h.le,by simpa using h.lh⟩
theorem Y0.loc {L:List TypeId}{B:Nat}{w:World}{base m:Nat}{x:SV}{s:St}(h:Y0 w base m x s) (h1:3∉L) (h2:66∉L):Yn L B w (fun W=>ZB W x s):=
 ((((Yn.own h.ln.o1 h1).and (Yn.own h.ln.o2 h1)).and (Yn.own h.ln.o3 h1)).and (Yn.FT h.bf h2 h1)).map fun _ ⟨⟨⟨a,b⟩,c⟩,d⟩=>⟨a.rep,b.rep,c.rep,d.rep⟩
theorem Y0.Yh {T:TypeId}(h1:3≠T) (h2:66≠T) {w:World}{base m g j:Nat}{u:Value}{x:SV}{s:St}(h:Y0 w base m x s) (hg:Ry T w g):Y0 (w.setCell ⟨g,j,none⟩ u) base m x s:=by
 obtain⟨a,ha⟩:=hg;exact h.Zy h1 h2 ha
theorem Own.FI {w:World}{base g n cap:Nat}{xs:List Int}(h:Own Zo 3 w base (.slice (some ⟨g,0,none⟩) n cap) xs) {k:Nat}{x:Int}(hx:xs[k]? = some x) (y:Int) :
 g < w.heap.size∧w.cell? ⟨g,k,none⟩=some (.int .i64 x)∧(∀ j,w.frozen? ⟨g,j,none⟩=false)∧Own Zo 3 (w.setCell ⟨g,k,none⟩ (.int .i64 y)) base (.slice (some ⟨g,0,none⟩) n cap) (xs.set k y)∧w.grownBy (w.setCell ⟨g,k,none⟩ (.int .i64 y)) (some g):=by
 have hc:=h.cell hx (j:=0) rfl;have hs:=h.set (i:=k) (j:=0) y (u:=.int .i64 y) Dc hx rfl;simp only[Zo,Nat.mul_one,Nat.add_zero]at hc hs;exact⟨(World.ownsRow.lt h g rfl).2,hc,fun j=>h.frozen j,hs,Qx (World.grownBy.refl _ _) _ _⟩
theorem Own.QN {α:Type}{E:El α}{T:TypeId}{w:World}{base:Nat}{c:Zt}{xs:List α}(h:Own E T w base c.v xs) {k:Nat}{x:α}(hx:xs[k]? = some x):∃ g,c.a=some ⟨g,0,none⟩∧c.n=xs.length:=by
 rcases h.shape with⟨_,h2⟩ | ⟨g,cap,h2,_⟩
 ·rw[h2]at hx;simp at hx
 ·simp only[Zt.v,Value.slice.injEq]at h2
  exact⟨g,h2.1,h2.2.1⟩
def Xt (w:World) (s:St) (e:Ending) (w':World):Prop:=∃ (x:SV) (m:Nat),e = .returned (.agg #[.slice x.p.a x.p.n x.p.cap,.slice x.r.a x.r.n x.r.cap,.slice x.m.a x.m.n x.m.cap,.slice x.b.a x.b.n x.b.cap])∧Y0 w' w.heap.size m x s∧Below w.heap.size w w'
theorem step_mk {α:Type}(E:El α) {P:Program}{w:World}{ops:Array Oper}{o:Oper}{a:Act}{K:Act→World→Prop}{Q:Exit→Act→World→Prop}{F:Prop}
 (T:TypeId) (z:α) {zv:Value}{bytes:Nat}(hinfo:(P.info? T).map (fun i=>(i.zero,i.size,i.bytes))=some (some zv,E.sz,bytes)) (hz:zv.cells.toList=E.c z) {t:TypeId}(h1:P.underlying t=some (.slice T))
 (n:Nat) (hby:bytes≤256) (hn:n≤1099511627776) (hg:o.guard=none) (l c:Operand) (hop:o.op=Op.makeSlice t l c) (hl:a.eval l = .int .i64 n) (hc:a.eval c = .int .i64 n)
 (hK:∀ w',Own E T w' w.heap.size (.slice (some ⟨w.heap.size,0,none⟩) n n) (List.replicate n z)→w.grownBy w' none→K (a.put o.dst (.slice (some ⟨w.heap.size,0,none⟩) n n)) w') :
 if Region.wanted o (yielded ops a.tmps)=true then Oper.wp P o a w K Q else F:=by
 obtain⟨it,hi,hz0,hz1,hz2⟩:=info_parts hinfo;have hw:Region.wanted o (yielded ops a.tmps)=true:=by simp[Region.wanted,hg]
 rw[if_pos hw];obtain⟨w',hrun,r1,r2⟩:=run_make_full (P:=P) w w.heap.size t T it zv E.sz h1 hi hz0 hz1 .i64 .i64 n (by rw[hz2];have:=Nat.mul_le_mul hby hn;omega) (by unfold maxLen;omega) (Nat.le_refl _);unfold Oper.wp;simp[execOp,hop,hl,hc,hrun,Result.andThen];refine hK w' ?_ r2;unfold Own;rw[List.length_replicate,← GU z zv hz n];exact r1
theorem K0 {P:Program}{w:World}{base:Nat}{t ty e:TypeId}{i:TypeInfo}{size:Nat}(ht:P.underlying t=some (.slice e)) (hi:P.info? e=some i)
 {v:Value}{n c:Nat}{xs:List Value}(hown:w.ownsRow base e size v n xs) (ad:Addr):(Builtin.append_ #[t,t] ty #[v,.slice (some ad) 0 c]).run P w = .ok v w:=by
 rcases hown.2 with⟨rfl,rfl⟩ | ⟨g,cap,cur,rfl,_,_,hnc,_⟩
 ·simp[Builtin.append_,run_underlying ht,sizeOf,typeInfo,hi,Builtin.lenOf,Builtin.firstCells,loadCells,loadCellsFrom]
 ·simp[Builtin.append_,run_underlying ht,sizeOf,typeInfo,hi,Builtin.lenOf,Builtin.firstCells,hnc,loadCells,loadCellsFrom,storeCells]
theorem ZT {α:Type}(E:El α) {P:Program}{w:World}{ops:Array Oper}{o:Oper}{a:Act}{K:Act→World→Prop}{Q:Exit→Act→World→Prop}{F:Prop}
 (T:TypeId) {zv:Value}{bytes:Nat}(hinfo:(P.info? T).map (fun i=>(i.zero,i.size,i.bytes))=some (some zv,E.sz,bytes)) (hz:zv.cells.size=E.sz) {t:TypeId}(h1:P.underlying t=some (.slice T))
 (base:Nat) (s0:Zt) (xs ys:List α) (u:Value) (hown:Own E T w base s0.v xs) (hrep:Z7 E w u ys) (hby:bytes≤256) (hn:xs.length+ys.length≤68719476736) (hbase:base≤w.heap.size)
 (hg:o.guard=none) (s y:Operand) (hop:o.op = .call { callee:=.builtin .append,args:=#[s,y],argTypes:=#[t,t] })
 (hs:a.eval s=s0.v) (hy:a.eval y=u)
 (hK:∀ (s':Zt) w',Own E T w' base s'.v (xs++ys)→w.grownBy w' s0.v.ownBlock→(s'.v.ownBlock=s0.v.ownBlock∨∀ q,s'.v.ownBlock=some q→w.heap.size≤q)→K (a.put o.dst (.slice s'.a s'.n s'.cap)) w') :
 if Region.wanted o (yielded ops a.tmps)=true then Oper.wp P o a w K Q else F:=by
 obtain⟨it,hi,hz0,hz1,hz2⟩:=info_parts hinfo;obtain⟨ad,c,rfl,hc1,hc2,hcell⟩:=hrep;have hw:Region.wanted o (yielded ops a.tmps)=true:=by simp[Region.wanted,hg]
 have hnone:∀ r:(Builtin.append_ #[t,t] o.type #[s0.v,.slice ad ys.length c]).run P w = .ok s0.v w,ys=[]→(if Region.wanted o (yielded ops a.tmps)=true then Oper.wp P o a w K Q else F):=fun r hys=>by
  rw[if_pos hw];unfold Oper.wp;simp[execOp,hop,resolve,invoke,builtin,hs,hy,r,Result.andThen];exact hK s0 _ (by subst hys;simpa using hown) (World.grownBy.refl _ _) (.inl rfl)
 cases ad with
 | none =>
  have hys:ys=[]:=by
   cases ys with
   | nil=>rfl
   | cons y ys=>obtain⟨b,o,hb,_⟩:=hcell 0 y rfl;cases hb
  exact hnone (by subst hys;exact XC h1 hi hown) hys
 | some ad =>
  by_cases hys:ys=[]
  ·exact hnone (by subst hys;exact K0 h1 hi hown ad) hys
  have hpos:0 < ys.length:=List.length_pos_iff.2 hys;refine step_append_lies w hg s y t hop base T it zv E.sz bytes h1 hi hz0 hz1 hz2 hz E.pos s0.v xs.length _ hs hown ad ys.length c (ys.flatMap E.c) hy (E.length ys) ?_ ?_ hpos (by unfold maxLen;omega) ?_ hbase _ rfl ?_
  ·intro j u hu
   have hpos:=E.pos;have hj:j=j / E.sz * E.sz+j % E.sz:=by rw[Nat.mul_comm];exact(Nat.div_add_mod j E.sz).symm
   have hm:j % E.sz < E.sz:=Nat.mod_lt _ hpos;have hu2:=hu;rw[hj,E.get ys _ _ hm]at hu2;cases hx:ys[j / E.sz]? with
   | none=>rw[hx]at hu2;cases hu2
   | some x =>
    rw[hx]at hu2;obtain⟨b,o,hb,h⟩:=hcell _ x hx;simp only[Option.some.injEq]at hb;subst hb;have hc:=h (j % E.sz) u hu2;rw[Addr.add_lit,hj,← Nat.add_assoc];exact hc
  ·intro u hu
   rw[List.mem_flatMap]at hu;obtain⟨x,_,hx⟩:=hu;exact E.one x u hx
  ·have:=Nat.mul_le_mul (show xs.length+ys.length≤68719476736 from hn) hby
   omega
  ·intro g cap w' h2 h3 h4 _
   refine hK ⟨some ⟨g,0,none⟩,xs.length+ys.length,cap⟩ w' ?_ h3 ?_
   ·unfold Own
    simpa[List.flatMap_append] using h2
   ·rcases h4 with h4 | h4
    ·exact .inl h4.symm
    ·exact .inr fun q hq=>by simp[Value.ownBlock]at hq;omega
theorem Tryz.Yl:(Tryz.prog.info? 66).map (fun i=>(i.zero,i.size,i.bytes))=some (some (.slice none 0 0),1,24):=Kr
theorem XY {a:Int}(h1 : -9223372036854775808≤a) (h2:a≤9223372036854775807):IntKind.i64.wrap a=a:=by rw[IntKind.wrap_i64];omega
theorem Zc {w:World}{b k:Nat}{cur:Array Value}{t:TypeId}{v:Value}{fz:Nat × Nat}(h:w.heap[b]? = some (.cells cur t fz)) (hk:cur[k]? = some v):w.cell? ⟨b,k,none⟩=some v:=by
 simp[World.cell?,h,hk]
theorem Z6 {w:World}{b:Nat}{cur:Array Value}{t:TypeId}(h:w.heap[b]? = some (.cells cur t (0,0))) (j:Nat):w.frozen? ⟨b,j,none⟩=false:=by
 simp[World.frozen?,h]
theorem Rw {α:Type}(E:El α) (z:α) (zv:Value) (hz:zv.cells.toList=E.c z) (n:Nat):(Builtin.zeroCells zv.cells n).toList=(List.replicate n z).flatMap E.c:=by
 have h:=GU (E:=E) z zv hz n;have hsz:zv.cells.size=E.sz:=by rw[← Array.length_toList,hz,E.len]
 rw[← h];simp[Builtin.zeroCells,madeCells,hsz]
theorem El.take {α:Type}(E:El α) (xs:List α) (i:Nat):(xs.flatMap E.c).take (i * E.sz)=(xs.take i).flatMap E.c:=by
 induction xs generalizing i with
 | nil=>simp
 | cons x xs ih =>
  cases i with
  | zero=>simp
  | succ i =>
   rw[List.flatMap_cons,List.take_succ_cons,List.flatMap_cons,List.take_append,E.len,List.take_of_length_le (by rw[E.len,Nat.add_mul];omega),
    show (i+1) * E.sz - E.sz=i * E.sz by rw[Nat.add_mul];omega,ih]
section
variable {α : Type} {E : El α} {T : TypeId}
theorem Own.cut {w:World}{base g n cap:Nat}{xs:List α}(h:Own E T w base (.slice (some ⟨g,0,none⟩) n cap) xs) {i:Nat}(hi:i≤n):Own E T w base (.slice (some ⟨g,0,none⟩) i cap) (xs.take i):=by
 have hn:=h.len;subst hn;unfold Own at *;have hl:(xs.take i).length=i:=by rw[List.length_take];omega
 rcases h.2 with⟨h1,_⟩ | ⟨g',cap',cur,h1,h2,h3,h4,h5,h6,h7⟩
 ·simp at h1
 ·simp only[Value.slice.injEq,Option.some.injEq,Addr.mk.injEq,and_true,true_and]at h1
  obtain⟨rfl,rfl⟩:=h1;rw[hl];refine⟨by rw[E.length,hl],.inr ⟨g,cap,cur,rfl,h2,h3,Om,h5,h6,?_⟩⟩;rw[← E.take,← h7,List.take_take,Nat.min_eq_left (Nat.mul_le_mul_right _ hi)]
theorem DD {P:Program}{w:World}{base g n cap i c':Nat}{xs:List α}(z:α) {zv:Value}{bytes:Nat}(hinfo:(P.info? T).map (fun i=>(i.zero,i.size,i.bytes))=some (some zv,E.sz,bytes)) (hz:zv.cells.toList=E.c z)
 {t ty:TypeId}(h1:P.underlying t=some (.slice T)) (hown:Own E T w base (.slice (some ⟨g,0,none⟩) n cap) xs) (hi:i < n) :
 ∃ w',(Builtin.clear_ #[t] ty #[.slice (some ⟨g,i * E.sz,none⟩) (n - i) c']).run P w = .ok (.tuple #[]) w'∧Own E T w' base (.slice (some ⟨g,0,none⟩) n cap) (xs.take i++List.replicate (n - i) z)∧w.grownBy w' (some g):=by
 have hn:=hown.len;subst hn;obtain⟨it,hi1,hz0,hz1,hz2⟩:=info_parts hinfo;rcases hown.2 with⟨h2,_⟩ | ⟨g',cap',cur,h2,hb,hg,hnc,hcm,hcs,htake⟩
 ·simp at h2
 ·simp only[Value.slice.injEq,Option.some.injEq,Addr.mk.injEq,and_true,true_and]at h2
  obtain⟨rfl,rfl⟩:=h2;have hzl:(Builtin.zeroCells zv.cells (xs.length - i)).toList=(List.replicate (xs.length - i) z).flatMap E.c:=Rw E z zv hz _;have hlen:((List.replicate (xs.length - i) z).flatMap E.c).length=(xs.length - i) * E.sz:=by rw[E.length];simp
  have hmul:i * E.sz+(xs.length - i) * E.sz=xs.length * E.sz:=by rw[← Nat.add_mul];congr 1;omega
  have hmul2:xs.length * E.sz≤cap * E.sz:=Nat.mul_le_mul_right _ hnc;have hst:=run_storeCells_at P g (i * E.sz) T ((List.replicate (xs.length - i) z).flatMap E.c) 0 cur w hg (by rw[hlen,hcs];omega) (fun v hv=>by
   rw[List.mem_flatMap]at hv;obtain⟨x,_,hx⟩:=hv;exact E.one x v hx)
  simp only[Nat.add_zero]at hst;refine⟨w.setRow g (cur.toList.take (i * E.sz)++(List.replicate (xs.length - i) z).flatMap E.c++cur.toList.drop (i * E.sz+((List.replicate (xs.length - i) z).flatMap E.c).length)).toArray,?_,?_,⟨rfl,rfl,rfl,Sm,fun k _ hk=>setRow_other w g k _ (fun e=>hk (by simp[e]))⟩⟩
  ·have hne:xs.length - i≠0:=Om
   obtain⟨m,hm⟩:=Nat.exists_eq_succ_of_ne_zero hne;rw[hm]at hst hzl ⊢;simp only[Nat.succ_eq_add_one]at hst hzl ⊢;simp[Builtin.clear_,run_underlying h1,zeroValue,typeInfo,hi1,hz0,hzl,hst]
  ·have hl2:(xs.take i++List.replicate (xs.length - i) z).length=xs.length:=So
   unfold Own;rw[hl2];refine⟨by rw[E.length,hl2],.inr ⟨g,cap,_,rfl,hb,setRow_heap w g cur _ T _ hg,hnc,hcm,?_,?_⟩⟩
   ·simp only[List.size_toArray,List.length_append,List.length_take,List.length_drop,Array.length_toList,hlen,hcs]
    omega
   ·rw[List.flatMap_append,← E.take,← htake,List.take_take,Nat.min_eq_left Om]
    rw[show xs.length * E.sz=(cur.toList.take (i * E.sz)++(List.replicate (xs.length - i) z).flatMap E.c).length by
     have hcl:cur.toList.length=cap * E.sz:=by rw[Array.length_toList,hcs]
     rw[List.length_append,hlen,List.length_take,hcl];omega]
    exact List.take_left
end
section
variable {α : Type} {f : α → Bool} {xs L : List α} {i j : Nat}
end
theorem YF {w w':World}(h:Below w.heap.size w w') (row:Option Nat):w.grownBy w' row:=⟨h.os,h.tape,h.output,h.size,fun k hk _=>h.block k hk⟩
theorem An {w w' w'':World}{row:Option Nat}(h:w.grownBy w' row) (k:w'.grownBy w'' row):w.grownBy w'' row:=
 ⟨k.os.trans h.os,k.tape.trans h.tape,k.output.trans h.output,Nat.le_trans h.size k.size,fun q hq hne=>(k.block q (Nat.lt_of_lt_of_le hq h.size) hne).trans (h.block q hq hne)⟩
def Fz {α:Type}(E:El α) (T:TypeId) (w:World) (base:Nat) (v:Value) (ys:List α) (e:Ending) (w':World):Prop:=∃ v',e = .returned v'∧Own E T w' base v' ys∧w.grownBy w' v.ownBlock∧v'.ownBlock=v.ownBlock
theorem Kh {α:Type}(E:El α) {P:Program}{w:World}{ops:Array Oper}{rest:List Oper}{o:Oper}{a:Act}{Q:Exit→Act→World→Prop}
 (T:TypeId) (z:α) {zv:Value}{bytes:Nat}(hinfo:(P.info? T).map (fun i=>(i.zero,i.size,i.bytes))=some (some zv,E.sz,bytes)) (hz:zv.cells.toList=E.c z) {t:TypeId}(h1:P.underlying t=some (.slice T))
 (base g n cap i c':Nat) (xs:List α) (hown:Own E T w base (.slice (some ⟨g,0,none⟩) n cap) xs) (hi:i < n) (hg:o.guard=none) (y:Operand)
 (hop:o.op = .call { callee:=.builtin .clear,args:=#[y],argTypes:=#[t] }) (hy:a.eval y = .slice (some ⟨g,i * E.sz,none⟩) (n - i) c')
 (hK:∀ w',Own E T w' base (.slice (some ⟨g,0,none⟩) n cap) (xs.take i++List.replicate (n - i) z)→w.grownBy w' (some g)→wpList P ops Q rest (a.put o.dst (.tuple #[])) w') :
 wpList P ops Q (o :: rest) a w:=by
 refine wpList_plain hg fun K hK' => ?_;obtain⟨w',hrun,r1,r2⟩:=DD (ty:=o.type) (c':=c') z hinfo hz h1 hown hi;unfold Oper.wp;simp[execOp,hop,resolve,invoke,builtin,hy,hrun,Result.andThen];exact hK' _ _ (hK w' r1 r2)
theorem Yt.ES {α:Type}{E:El α}{T1 T2:TypeId}{us:List Zt}{w w':World}{base g n cap:Nat}{p:List (List α)}(h:Yt E T1 T2 us w base (.slice (some ⟨g,0,none⟩) n cap) p) {k:Nat}{s s':Zt}(hs:us[k]? = some s) {r':List α}
 (ho:Own E T2 w' base s'.v r') (hg:w.grownBy w' s.v.ownBlock) (hb:s'.v.ownBlock=s.v.ownBlock):Yt E T1 T2 (us.set k s') (w'.setCell ⟨g,k,none⟩ s'.v) base (.slice (some ⟨g,0,none⟩) n cap) (p.set k r'):=by
 obtain⟨h1,h2,h3,h4,h5⟩:=h;have hk:=(List.getElem?_eq_some_iff.1 hs).1;have h2':=h2.grown hg (.inr (fun e=>h5 k s hs g (by rw[← e];rfl) rfl));have h2s:=h2'.set (i:=k) (j:=0) s' (u:=s'.v) Dc hs rfl;simp only[Zw,Nat.mul_one,Nat.add_zero]at h2s;have hgs:w'.grownBy (w'.setCell ⟨g,k,none⟩ s'.v) (some g):=Qx (World.grownBy.refl _ _) _ _;have split:∀ (i:Nat) (u:Zt),(us.set k s')[i]? = some u→(i=k∧u=s')∨(i≠k∧us[i]? = some u):=fun i u hi=>by
  rw[List.getElem?_set]at hi;by_cases e:k=i
  ·subst e;rw[if_pos rfl,if_pos hk]at hi;simp at hi;exact .inl ⟨rfl,hi.symm⟩
  ·rw[if_neg e]at hi;exact .inr ⟨fun h=>e h.symm,hi⟩
 have blk:∀ (i:Nat) (u:Zt),(us.set k s')[i]? = some u→∃ u0:Zt,us[i]? = some u0∧u.v.ownBlock=u0.v.ownBlock:=fun i u hi=>by
  rcases split i u hi with⟨e1,e2⟩ | ⟨_,hi'⟩
  ·exact⟨s,by rw[e1];exact hs,by rw[e2];exact hb⟩
  ·exact⟨u,hi',rfl⟩
 refine⟨by simp[h1],h2s,?_,?_,?_⟩
 ·intro i u r hi hr
  rcases split i u hi with⟨e1,e2⟩ | ⟨hne,hi'⟩
  ·rw[e1,List.getElem?_set,if_pos rfl,if_pos Om]at hr
   simp at hr;subst hr;rw[e2];refine ho.grown hgs ?_;rcases hq:s'.v.ownBlock with _ | q
   ·exact .inl rfl
   ·refine .inr (fun e => ?_)
    rw[hb]at hq;exact h5 k s hs q hq (by rw[e];rfl)
  ·rw[List.getElem?_set,if_neg (fun e=>hne e.symm)]at hr
   refine((h3 i u r hi' hr).grown hg ?_).grown hgs ?_
   ·rcases hq:u.v.ownBlock with _ | q
    ·exact .inl rfl
    ·exact .inr (fun e=>h4 i k u s hi' hs hne q hq e.symm)
   ·rcases hq:u.v.ownBlock with _ | q
    ·exact .inl rfl
    ·exact .inr (fun e=>h5 i u hi' q hq (by rw[e];rfl))
 ·intro i j u u' hi hj hij q hq hq'
  obtain⟨u0,hu0,e0⟩:=blk i u hi;obtain⟨u1,hu1,e1⟩:=blk j u' hj;exact h4 i j u0 u1 hu0 hu1 hij q (by rw[← e0];exact hq) (by rw[← e1];exact hq')
 ·intro i u hi q hq
  obtain⟨u0,hu0,e0⟩:=blk i u hi;exact h5 i u0 hu0 q (by rw[← e0];exact hq)
end Go.Proofs.YtngekjpklkjnbaaGreat
namespace Go.Proofs.YtngekjpklkjnbaaGreat
def Yg (r:List Ins) (g:Int):Bool:=r.any fun x=>Z8 x.op&&x.ZQ==g
def Ki (p:List (List Ins)) (l:Int):Bool:=p.any fun row=>row.any fun x=>ZF x.op&&x.loc==l
end Go.Proofs.YtngekjpklkjnbaaGreat
namespace Go.Proofs.YtngekjpklkjnbaaGreat
open Go.RowKit
def JO (x y:Int):Int:=if x < y then -1 else if y < x then 1 else 0
def YC:List Int→List Int→Int
 | [],[]=>0
 | [],_ :: _ => -1
 | _ :: _,[]=>1
 | x :: xs,y :: ys=>if x < y then -1 else if y < x then 1 else YC xs ys
theorem UT:∀ (l:List Int),YC l l=0
 | []=>rfl
 | x :: l=>by unfold YC;simp;exact UT l
theorem VI:∀ (a b c:List Int),YC a b < 0→YC b c < 0→YC a c < 0
 | [],[],c=>fun h _=>by simp[YC]at h
 | [],b :: l2,[]=>fun _ h=>by simp[YC]at h
 | [],b :: l2,c :: l3=>fun _ _=>by simp[YC]
 | a :: l1,[],c=>fun h _=>by simp[YC]at h
 | a :: l1,b :: l2,[]=>fun _ h=>by simp[YC]at h
 | a :: l1,b :: l2,c :: l3=>fun h1 h2=>by
  have ih:=VI l1 l2 l3;simp only[YC]at h1 h2 ⊢;by_cases e1:a < b
  ·by_cases e2:b < c
   ·rw[if_pos Om];omega
   ·rw[if_neg e2]at h2
    by_cases e3:c < b
    ·rw[if_pos e3]at h2;omega
    ·rw[if_pos Om];omega
  ·rw[if_neg e1]at h1
   by_cases e4:b < a
   ·rw[if_pos e4]at h1;omega
   ·rw[if_neg e4]at h1
    by_cases e2:b < c
    ·rw[if_pos Om];omega
    ·rw[if_neg e2]at h2
     by_cases e3:c < b
     ·rw[if_pos e3]at h2;omega
     ·rw[if_neg e3]at h2
      rw[if_neg Om,if_neg Om];exact ih h1 h2
theorem KI:∀ (a b c:List Int),¬ YC a b < 0→¬ YC b c < 0→¬ YC a c < 0
 | [],[],c=>fun _ h=>h
 | [],b :: l2,c=>fun h _=>absurd (show YC [] (b :: l2) < 0 by simp[YC]) h
 | a :: l1,b,[]=>fun _ _=>by simp[YC]
 | a :: l1,[],c :: l3=>fun _ h=>absurd (show YC [] (c :: l3) < 0 by simp[YC]) h
 | a :: l1,b :: l2,c :: l3=>fun h1 h2=>by
  have ih:=KI l1 l2 l3;simp only[YC]at h1 h2 ⊢;by_cases e1:a < b
  ·rw[if_pos e1]at h1;omega
  ·rw[if_neg e1]at h1
   by_cases e2:b < c
   ·rw[if_pos e2]at h2;omega
   ·rw[if_neg e2]at h2
    rw[if_neg (show ¬ a < c by omega)];by_cases e4:b < a
    ·rw[if_pos Om];omega
    ·rw[if_neg e4]at h1
     by_cases e3:c < b
     ·rw[if_pos Om];omega
     ·rw[if_neg e3]at h2
      rw[if_neg Om];exact ih h1 h2
theorem Da {xs ys:List Int}{k:Nat}{x y:Int}(hx:xs[k]? = some x) (hy:ys[k]? = some y):YC (xs.drop k) (ys.drop k)=if JO x y=0 then YC (xs.drop (k+1)) (ys.drop (k+1)) else JO x y:=by
 obtain⟨h1,e1⟩:=List.getElem?_eq_some_iff.1 hx;obtain⟨h2,e2⟩:=List.getElem?_eq_some_iff.1 hy;rw[List.drop_eq_getElem_cons h1,List.drop_eq_getElem_cons h2,e1,e2];simp only[YC,JO];by_cases c1:x < y
 ·simp[c1]
 ·by_cases c2:y < x
  ·simp[c1,c2]
  ·simp[c1,c2]
theorem Kv (x:Int) (w:World):Calls Tryz.prog 168 #[.int .i64 x] w fun e w'=>e = .returned (.bool false)∧w=w':=by
 go_enter Tryz.func168,Tryz.ntmps168;go_wp2_with fail;go_ret;exact⟨Sm,rfl⟩
theorem VH (x y:Int) (w:World):Calls Tryz.prog 155 #[.int .i64 x,.int .i64 y] w fun e w'=>e = .returned (.int .i64 (JO x y))∧w=w':=by
 have h1:x < y→JO x y = -1:=fun h=>by unfold JO;rw[if_pos h]
 have h2:¬ x < y→y < x→JO x y=1:=fun h h'=>by unfold JO;rw[if_neg h,if_pos h']
 have h3:¬ x < y→¬ y < x→JO x y=0:=fun h h'=>by unfold JO;rw[if_neg h,if_neg h']
 have H1:=Za h1;have H2:=Za h2;have H3:=Za h3
 clear h1 h2 h3;generalize JO x y=r at *;by_cases c1:x < y
 ·obtain rfl:=H1.out c1
  go_enter Tryz.func155,Tryz.ntmps155;go_wp2_with (go_at_call 168;(with_reducible refine(Kv _ w).mono ?_);rintro e w1 ⟨rfl,rfl⟩);go_ret;exact⟨rfl,rfl⟩
 ·by_cases c2:y < x
  ·obtain rfl:=H2.out c1 c2
   go_enter Tryz.func155,Tryz.ntmps155;go_wp2_with (go_at_call 168;(with_reducible refine(Kv _ w).mono ?_);rintro e w1 ⟨rfl,rfl⟩);go_ret;exact⟨rfl,rfl⟩
  ·obtain rfl:=H3.out c1 c2
   go_enter Tryz.func155,Tryz.ntmps155;go_wp2_with (go_at_call 168;(with_reducible refine(Kv _ w).mono ?_);rintro e w1 ⟨rfl,rfl⟩);go_ret;exact⟨rfl,rfl⟩
theorem R9 (v u:Value) (xs ys:List Int) (w:World) (hx:Z7 Zo w v xs) (hy:Z7 Zo w u ys):Calls Tryz.prog 132 #[v,u] w fun e w'=>e = .returned (.int .i64 (YC xs ys))∧w=w':=by
 obtain⟨va,vc,rfl,hc1,hc2,hc3,hx⟩:=hx.open;obtain⟨ua,uc,rfl,hd1,hd2,hd3,hy⟩:=hy.open;have HX:=Za hx;have HY:=Za hy
 clear hx hy hc1 hd1 hc3 hd3;obtain⟨R,hR⟩:∃ R,R=YC xs ys:=⟨_,rfl⟩
 rw[← hR];have HR:Hid (R=YC (xs.drop 0) (ys.drop 0)):=Za (by simpa using hR);clear hR;generalize hn:xs.length=n at *;generalize hm:ys.length=m at *;have HN:=Za hn;have HM:=Za hm
 clear hn hm;go_enter Tryz.func132,Tryz.ntmps132;go_wp2_with fail
 go_loopw [11] (fun i wr => ∃ k:Nat,k≤n∧k≤m∧i = .int .i64 k∧Hid (R=YC (xs.drop k) (ys.drop k))∧w=wr) (fun i _=>n - (intOf i).toNat)
 case atStart=>exact⟨0,Nat.zero_le _,Nat.zero_le _,rfl,HR.out |> Za,rfl⟩
 case round =>
  obtain⟨k,hk,hkm,rfl,hr,rfl⟩:=hrel;by_cases hlt:k < n
  ·have hlt':=Zh hlt
   obtain⟨x,hxe⟩:=Zd (xs:=xs) (k:=k) (by rw[HN.out];exact hlt);obtain⟨b,o,rfl,hbl,i0⟩:=HX.out.int hxe;by_cases hlm:k < m
   ·have hlm':=Zh hlm
    obtain⟨y,hye⟩:=Zd (xs:=ys) (k:=k) (by rw[HM.out];exact hlm);obtain⟨b2,o2,rfl,hbl2,j0⟩:=HY.out.int hye;have ST:=Za (Da hxe hye);clear hxe hye;by_cases hc:JO x y=0
    ·have NR:Hid (R=YC (xs.drop (k+1)) (ys.drop (k+1))):=Za (by rw[hr.out,ST.out,if_pos hc])
     have HC:=Za hc;clear hc hr;go_wp2_with (go_at_call 155;(with_reducible refine(VH x y w).mono ?_);rintro e w1 ⟨rfl,rfl⟩;rw[HC.out]);go_roundw
     case rel=>exact⟨k+1,Om,Om,Gn,NR,trivial⟩
     case measure=>simp[intOf];omega
    ·have NR:Hid (R=JO x y):=Za (by rw[hr.out,ST.out,if_neg hc])
     clear hr;have HCI:=Za (VH x y w);generalize JO x y=z at *;clear ST;obtain rfl:R=z:=NR.out;have hc':(R==0)=false:=by simpa using hc
     have hc2:¬ R=0:=hc;go_wp2_with (go_at_call 155;(with_reducible refine HCI.out.mono ?_);rintro e w1 ⟨rfl,rfl⟩);go_ret;exact⟨rfl,rfl⟩
   ·obtain rfl:k=m:=Om
    have E:Hid (R=1):=Za (by
     rw[hr.out,List.drop_of_length_le (l:=ys) (by rw[HM.out];exact Nat.le_refl _)];obtain⟨h1,e1⟩:=List.getElem?_eq_some_iff.1 hxe;rw[List.drop_eq_getElem_cons h1];simp[YC])
    clear hxe hr;obtain rfl:=E.out;go_wp2_with fail;go_ret;exact⟨rfl,rfl⟩
  ·obtain rfl:k=n:=Om
   by_cases hlm:k < m
   ·have hlm':=Zh hlm
    have E:Hid (R = -1):=Za (by
     rw[hr.out,List.drop_of_length_le (l:=xs) (by rw[HN.out];exact Nat.le_refl _)];have h1:k < ys.length:=by rw[HM.out];exact hlm
     rw[List.drop_eq_getElem_cons h1];simp[YC])
    clear hr;obtain rfl:=E.out;go_wp2_with fail;go_ret;exact⟨rfl,rfl⟩
   ·obtain rfl:k=m:=Om
    have E:Hid (R=0):=Za (by
     rw[hr.out,List.drop_of_length_le (l:=xs) (by rw[HN.out];exact Nat.le_refl _),List.drop_of_length_le (l:=ys) (by rw[HM.out];exact Nat.le_refl _)];rfl)
    clear hr;obtain rfl:=E.out;go_wp2_with fail;go_ret;exact⟨rfl,rfl⟩
end Go.Proofs.YtngekjpklkjnbaaGreat
namespace Go.Proofs.YtngekjpklkjnbaaGreat
end Go.Proofs.YtngekjpklkjnbaaGreat
namespace Go.Proofs.YtngekjpklkjnbaaGreat
open Go.RowKit
section
variable {α : Type} [Inhabited α] {enc : α → Value} {w : World} {g m : Nat} {d : Array α} {os : Array Obj}
theorem Jm (k:Nat) (hk:k < w.heap.size) (hg:k≠g):(sortWorld enc w g 0 m d os).heap[k]? = w.heap[k]?:=by
 show ((w.heap.modify g _)++os)[k]? = _;rw[Array.getElem?_append_left (by simpa using hk),Array.getElem?_modify,if_neg (Ne.symm hg)]
theorem EV {cur:Array Value}{T:TypeId}{fz:Nat × Nat}(h:w.heap[g]? = some (.cells cur T fz)):(sortWorld enc w g 0 m d os).heap[g]? = some (.cells (Sort.putCells enc 0 d cur) T fz):=by
 have hk:=(Array.getElem?_eq_some_iff.1 h).1;show ((w.heap.modify g _)++os)[g]? = _;rw[Array.getElem?_append_left (by simpa using hk),Array.getElem?_modify,if_pos rfl,h];rfl
theorem EW {T:TypeId}{base:Nat}{cur:Array Value}(h:w.heap[g]? = some (.cells cur T (0,0))) (hb:base≤g):YS [T] base w (sortWorld enc w g 0 m d os):=by
 refine⟨rfl,rfl,rfl,?_,fun k ob hk hl => ?_⟩
 ·show w.heap.size≤((w.heap.modify g _)++os).size
  simp
 ·have hlt:=(Array.getElem?_eq_some_iff.1 hk).1
  refine(Jm k hlt fun e => ?_).trans hk;subst e;rw[h]at hk;simp only[Option.some.injEq]at hk;rcases hl with hl | hl
  ·omega
  ·exact hl _ _ _ hk.symm Sm
end
structure OE (w:World) (g:Nat) where
 u:Zt
 o:List Int
 h:∀ W:World,(∀ k,k < w.heap.size→k≠g→W.heap[k]? = w.heap[k]?)→Z7 Zo W u.v o
instance (w:World) (g:Nat):Inhabited (OE w g):=⟨⟨⟨none,0,0⟩,[],fun W _=>Z7.nil W⟩⟩
theorem L3 {α:Type}{us:List Zt}{outs:List (List Int)}{F:α→Zt}{G:α→List Int}(hl:us.length=outs.length) (h:∀ (i:Nat) (u:Zt) (o:List Int),us[i]? = some u→outs[i]? = some o→∃ x:α,F x=u∧G x=o):∃ d:List α,d.map F=us∧d.map G=outs:=by
 induction us generalizing outs with
 | nil=>cases outs with
  | nil=>exact⟨[],rfl,rfl⟩
  | cons o outs=>simp at hl
 | cons u us ih =>
  cases outs with
  | nil=>simp at hl
  | cons o outs =>
   obtain⟨x,h1,h2⟩:=h 0 u o rfl rfl;obtain⟨d,h3,h4⟩:=ih (outs:=outs) (by simpa using hl) fun i u o hu ho=>h (i+1) u o (by simpa using hu) (by simpa using ho);exact⟨x :: d,by simp[h1,h3],by simp[h2,h4]⟩
theorem L8 (w:World) (g:Nat):Sort.SWO (ltOf fun x y:OE w g=>YC x.o y.o) where
 irrefl x:=by simp[ltOf,UT]
 trans x y z h1 h2:=by simp only[ltOf,decide_eq_true_eq] at *;exact VI _ _ _ h1 h2
 ntrans x y z h1 h2:=by simp only[ltOf,decide_eq_false_iff_not] at *;exact KI _ _ _ h1 h2
theorem Jl (g:Nat) (T:TypeId):∀ (vs:List Value) (o:Nat) (w:World) (cur:Array Value),w.heap[g]? = some (.cells cur T (0,0))→o+vs.length≤cur.size →
 ∃ cur',(w.setCells g o vs).heap[g]? = some (.cells cur' T (0,0))∧cur'.toList=cur.toList.take o++vs++cur.toList.drop (o+vs.length)
 | [],o,w,cur,hg,ho=>⟨cur,hg,Sm⟩
 | v :: r,o,w,cur,hg,ho=>by
  simp only[List.length_cons]at ho;have h1:=heap_setCell_same w g o cur T v hg;obtain⟨cur',h2,h3⟩:=Jl g T r (o+1) _ _ h1 So;refine⟨cur',h2,?_⟩;rw[h3,Array.toList_setIfInBounds,List.drop_set_of_lt Om,List.length_cons,show o+1+r.length=o+(r.length+1) by omega]
  congr 1
  have hl:o < cur.toList.length:=by rw[Array.length_toList];omega
  rw[List.take_add_one,List.getElem?_set,if_pos rfl,if_pos hl,List.take_set_of_le (Nat.le_refl _)];simp
theorem Own.I4 {α:Type}{E:El α}{T:TypeId}{w:World}{base g n cap:Nat}{xs:List α}(h:Own E T w base (.slice (some ⟨g,0,none⟩) n cap) xs) (k:Nat) (ys:List α) (hk:k+ys.length≤n) :
 Own E T (w.setCells g (k * E.sz) (ys.flatMap E.c)) base (.slice (some ⟨g,0,none⟩) n cap) (xs.take k++ys++xs.drop (k+ys.length)):=by
 have hn:=h.len;subst hn;unfold Own at *;have hl2:(xs.take k++ys++xs.drop (k+ys.length)).length=xs.length:=So;rw[hl2];rcases h.2 with⟨h1,_⟩ | ⟨g',cap',cur,h1,hb,hg,hnc,hcm,hcs,htake⟩
 ·simp at h1
 ·simp only[Value.slice.injEq,Option.some.injEq,Addr.mk.injEq,and_true,true_and]at h1
  obtain⟨rfl,rfl⟩:=h1;have hyl:(ys.flatMap E.c).length=ys.length * E.sz:=E.length ys;have hm1:k * E.sz+ys.length * E.sz=(k+ys.length) * E.sz:=by rw[Nat.add_mul]
  have hm2:(k+ys.length) * E.sz≤xs.length * E.sz:=Nat.mul_le_mul_right _ hk;have hm3:xs.length * E.sz≤cap * E.sz:=Nat.mul_le_mul_right _ hnc;obtain⟨cur',c1,c2⟩:=Jl g T (ys.flatMap E.c) (k * E.sz) w cur hg (by rw[hyl,hcs];omega);have hcl:cur.toList.length=cap * E.sz:=by rw[Array.length_toList,hcs]
  refine⟨by rw[E.length,hl2],.inr ⟨g,cap,cur',rfl,hb,c1,hnc,hcm,?_,?_⟩⟩
  ·rw[← Array.length_toList,c2]
   simp only[List.length_append,List.length_take,List.length_drop,hcl,hyl];omega
  ·rw[c2,hyl,hm1,List.flatMap_append,List.flatMap_append,← E.take,← htake]
   have e1:(cur.toList.take (xs.length * E.sz)).take (k * E.sz)=cur.toList.take (k * E.sz):=by rw[List.take_take,Nat.min_eq_left Om]
   have hd:(xs.drop (k+ys.length)).flatMap E.c=(cur.toList.take (xs.length * E.sz)).drop ((k+ys.length) * E.sz):=by
    rw[htake];have h5:(xs.flatMap E.c).take ((k+ys.length) * E.sz)++(xs.drop (k+ys.length)).flatMap E.c=xs.flatMap E.c:=by rw[E.take,← List.flatMap_append,List.take_append_drop]
    have h6:=List.take_append_drop ((k+ys.length) * E.sz) (xs.flatMap E.c);exact List.append_cancel_left (h5.trans h6.symm)
   have hab:(cur.toList.take (k * E.sz)++ys.flatMap E.c).length=(k+ys.length) * E.sz:=by rw[List.length_append,List.length_take,hcl,hyl];omega
   rw[hd,e1,List.drop_take,List.take_append,List.take_of_length_le (by rw[hab];exact hm2),hab]
theorem Jc {w:World}{g:Nat}:∀ (vs:List Value) (o:Nat) {w':World},w.grownBy w' (some g)→w.grownBy (w'.setCells g o vs) (some g)
 | [],_,_,h=>h
 | _ :: r,o,_,h=>Jc r (o+1) (Qx h _ _)
theorem Di {α:Type}(xs:List α) {k m:Nat}(h:xs.length=k+1+m) :
 (xs.take k++xs.drop (k+1)++xs.drop (k+(xs.drop (k+1)).length)).take (k+m)=xs.eraseIdx k:=by
 rw[List.take_append_of_le_length So,List.take_of_length_le So,List.eraseIdx_eq_take_drop_succ]
theorem Own.En {T:TypeId}{w:World}{base g k m c:Nat}{xs:List Ins}(hx:Own ZH T w base (.slice (some ⟨g,0,none⟩) (k+1+m) c) xs) :
 ∃ (news:List Value) (A:Addr),news.length=m * 4∧(if c=k+1 then (some ⟨g,0,none⟩:Option Addr) else some ⟨g,(k+1) * 4,none⟩)=some A∧(∀ t u,news[t]? = some u→w.cell? (A.add t)=some u) ∧
  (∀ u∈news,u.oneCell'=true)∧(∀ t,t < news.length→(w.cell? ⟨g,0+k * 4+t,none⟩).isSome=true∧w.frozen? ⟨g,0+k * 4+t,none⟩=false) ∧
  (∃ L,Own ZH T (w.setCells g (0+k * 4) news) base (.slice (some ⟨g,0,none⟩) (k+1+m) c) L∧L.take (k+m)=xs.eraseIdx k)∧(∀ W:World,W.grownBy w (some g)→W.grownBy (w.setCells g (0+k * 4) news) (some g)):=by
 have hn:=hx.len;have hnl:((xs.drop (k+1)).flatMap ZH.c).length=m * 4:=by rw[ZH.length,List.length_drop];show (xs.length - (k+1)) * 4=m * 4;congr 1;omega
 obtain⟨A,hA,hsrc⟩:∃ A:Addr,(if c=k+1 then (some ⟨g,0,none⟩:Option Addr) else some ⟨g,(k+1) * 4,none⟩)=some A∧∀ t u,((xs.drop (k+1)).flatMap ZH.c)[t]? = some u→w.cell? (A.add t)=some u:=by
  by_cases h:c=k+1
  ·refine⟨⟨g,0,none⟩,by simp[h],fun t u hu => ?_⟩
   have:=(List.getElem?_eq_some_iff.1 hu).1;rcases hx.shape with⟨h0,-⟩ | ⟨g',c',h0,-,-,hc1,-⟩
   ·cases h0
   ·simp only[Value.slice.injEq]at h0
    omega
  ·refine⟨⟨g,(k+1) * 4,none⟩,by simp[h],fun t u hu => ?_⟩
   have hm4:t % 4 < 4:=Om;have h2:=ZH.get (xs.drop (k+1)) (t / 4) (t % 4) hm4;rw[show t / 4 * ZH.sz+t % 4=t by show t / 4 * 4+t % 4=t;omega,hu]at h2;cases hxx:(xs.drop (k+1))[t / 4]? with
   | none=>rw[hxx]at h2;cases h2
   | some x =>
    rw[hxx]at h2;rw[List.getElem?_drop]at hxx;have h:=hx.cell hxx h2.symm;rw[Addr.add_lit,show (k+1) * 4+t=(k+1+t / 4) * ZH.sz+t % 4 by show _=(k+1+t / 4) * 4+t % 4;omega];exact h
 refine⟨_,A,hnl,hA,hsrc,fun u hu => ?_,fun t ht=>⟨?_,hx.frozen _⟩,⟨_,by rw[Nat.zero_add];exact hx.I4 k (xs.drop (k+1)) So,Di xs Om⟩,fun W h=>Jc _ _ h⟩
 ·rw[List.mem_flatMap]at hu
  obtain⟨x,_,hx⟩:=hu;exact ZH.one x u hx
 ·rw[hnl]at ht
  have hm4:t % 4 < 4:=Om;obtain⟨x,hxx⟩:=Zd (xs:=xs) (k:=k+t / 4) Om;obtain⟨u,hu⟩:=Zd (xs:=ZH.c x) (k:=t % 4) (by rw[ZH.len];exact hm4);have h:=hx.cell hxx hu;rw[show 0+k * 4+t=(k+t / 4) * ZH.sz+t % 4 by show _=(k+t / 4) * 4+t % 4;omega,h];rfl
theorem Bh (g n c:Nat) (xs:List Ins) (k:Nat) (w:World) (base:Nat) (hx:Own ZH 44 w base (.slice (some ⟨g,0,none⟩) n c) xs) (hl:n≤1048576) (hk:k < n) :
 Calls Tryz.prog 37 #[.slice (some ⟨g,0,none⟩) n c,.int .i64 (k:Int),.int .i64 ((k:Int)+1)] w fun e w'=>Fz ZH 44 w base (.slice (some ⟨g,0,none⟩) n c) (xs.eraseIdx k) e w':=by
 have hn:=hx.len;obtain⟨m,rfl⟩:∃ m,n=k+1+m:=⟨n - (k+1),Om⟩
 obtain⟨it,hi1,hz0,hz1,hz2⟩:=info_parts (Tryz.Y2);rcases hx.shape with⟨h0,-⟩ | ⟨g',c',h0,-,-,hc1,hc2⟩
 ·cases h0
 simp only[Value.slice.injEq,Option.some.injEq,Addr.mk.injEq,and_true]at h0;obtain⟨rfl,-,rfl⟩:=h0;have hcn:k+1+m≤c:=Om;have hcm:c≤9223372036854775807:=by unfold maxLen at hc2;omega
 obtain⟨news,A,hnl,hA,hsrc,h2,h3,⟨L,hL,hLe⟩,hgw⟩:=(hx.below (Below.refl _ _).drew).En;obtain⟨W1,hW1⟩:∃ W1,W1=w.drew.setCells g (0+k * 4) news:=⟨_,rfl⟩
 have GW:=Za (hgw w (YF (Below.refl _ _).drew _));rw[← hW1]at hL GW;have OW:=Za hL;have HE:=Za hLe;have NL:=Za hnl;have SRC:=Za hsrc;have s2:=Za h2;have s3:=Za h3;have hW:=Za hW1
 generalize xs.eraseIdx k=R at *;clear hW1 hsrc hnl hx hn hc2 hc1 hl hL hLe hgw h2 h3;have hk1:=Zh hk;have hkc:k≤c:=Om;have hik:(0:Int)≤(k:Int)+1:=Om;have hikm:(k:Int)+1≤(k:Int)+1+(m:Int):=Om;have hkc1:k+1≤c:=Om;have hkk:k≤k+1+m:=Om;have hkk1:k+1≤k+1+m:=Om;go_enter Tryz.func37,Tryz.ntmps37;go_wp2_with fail
 go_region_law (refine step_append_room rfl (.tmp 22) (.tmp 25) 42 rfl 44 it 4 Tryz.underlying42 hi1 hz1 g 0 k c (by simp[Act.eval,Act.put]) A m (c - (k+1)) news (by simp[Act.eval,Act.put]) NL.out SRC.out s2.out Om s3.out ?_;rw[← hW.out])
 go_wp2_with (refine Kh ZH 44 ⟨0,0,0,0⟩ Tryz.Y2 rfl Tryz.underlying42 base g _ c (k+m) _ L OW.out Om rfl _ rfl rfl ?_;intro w3 ho3 hgr3);go_ret;have hcut:=ho3.cut (i:=k+m) Om;rw[List.take_append_of_le_length (by rw[List.length_take,← OW.out.len];omega),List.take_take,Nat.min_self,HE.out]at hcut;exact⟨_,rfl,hcut,An GW.out hgr3,rfl⟩
end Go.Proofs.YtngekjpklkjnbaaGreat
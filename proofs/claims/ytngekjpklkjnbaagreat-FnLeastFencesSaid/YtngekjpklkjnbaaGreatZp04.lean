/-
  Whether outcomes are among others, by the reference. No condition.
-/
import Derived.Test.YtngekjpklkjnbaaGreatZp00
import Derived.Deep.AppendLies
import Derived.Shelf.RegionOpenPlain
import Derived.Lib.AppendZerosOnto
import Derived.Lib.Overlaps
set_option maxHeartbeats 6400000
set_option maxRecDepth 100000
namespace Go.Proofs.YtngekjpklkjnbaaGreat
open Go.RowKit
theorem Qy {P:Program}{w:World}{base:Nat}{t ty e:TypeId}{i:TypeInfo}{size:Nat}(ht:P.underlying t=some (.slice e)) (hi:P.info? e=some i)
 {v:Value}{n c:Nat}{xs:List Value}(hown:w.ownsRow base e size v n xs):(Builtin.append_ #[t,t] ty #[v,.slice none 0 c]).run P w = .ok v w:=by
 rcases hown.2 with⟨rfl,rfl⟩ | ⟨g,cap,cur,rfl,_,_,hnc,_⟩
 ·simp[Builtin.append_,run_underlying ht,sizeOf,typeInfo,hi,Builtin.lenOf,Builtin.firstCells]
 ·simp[Builtin.append_,run_underlying ht,sizeOf,typeInfo,hi,Builtin.lenOf,Builtin.firstCells,hnc,storeCells]
theorem ZJ {α:Type}(E:El α) {P:Program}{w:World}{ops:Array Oper}{rest:List Oper}{o:Oper}{a:Act}{Q:Exit→Act→World→Prop}
 (T:TypeId) {zv:Value}{bytes:Nat}(hinfo:(P.info? T).map (fun i=>(i.zero,i.size,i.bytes))=some (some zv,E.sz,bytes)) (hz:zv.cells.size=E.sz) {t:TypeId}(h1:P.underlying t=some (.slice T))
 (base:Nat) (v:Value) (xs ys:List α) (u:Value) (hown:Own E T w base v xs) (hrep:ZC E w u ys) (hby:bytes≤256) (hn:xs.length+ys.length≤68719476736) (hbase:base≤w.heap.size)
 (hg:o.guard=none) (s y:Operand) (hop:o.op = .call { callee:=.builtin .append,args:=#[s,y],argTypes:=#[t,t] })
 (hs:a.eval s=v) (hy:a.eval y=u)
 (hK:∀ v' w',Own E T w' base v' (xs++ys)→w.grownBy w' v.ownBlock→wpList P ops Q rest (a.put o.dst v') w') :
 wpList P ops Q (o :: rest) a w:=by
 obtain⟨it,hi,hz0,hz1,hz2⟩:=info_parts hinfo;obtain⟨ad,c,rfl,hc1,hc2,hcell⟩:=hrep;cases ad with
 | none =>
  have hys:ys=[]:=by
   cases ys with
   | nil=>rfl
   | cons y ys=>obtain⟨b,o,hb,_⟩:=hcell 0 y rfl;cases hb
  subst hys;refine wpList_plain hg fun K hK' => ?_;have hrun:=Qy (P:=P) (w:=w) (ty:=o.type) (c:=c) h1 hi hown;unfold Oper.wp;simp[execOp,hop,resolve,invoke,builtin,hs,hy,hrun,Result.andThen];exact hK' _ _ (hK _ _ (by simpa using hown) (World.grownBy.refl _ _))
 | some ad =>
  refine wpList_append_own w hg s y t hop base T it zv E.sz bytes h1 hi hz0 hz1 hz2 hz E.pos v xs.length _ hs hown ad ys.length c (ys.flatMap E.c) hy (E.length ys) ?_ ?_ (by unfold maxLen;omega) ?_ hbase ?_
  ·intro j u hu
   have hpos:=E.pos;have hj:j=j / E.sz * E.sz+j % E.sz:=by rw[Nat.mul_comm];exact(Nat.div_add_mod j E.sz).symm
   have hm:j % E.sz < E.sz:=Nat.mod_lt _ hpos;have hu2:=hu;rw[hj,E.get ys _ _ hm]at hu2;cases hx:ys[j / E.sz]? with
   | none=>rw[hx]at hu2;cases hu2
   | some x =>
    rw[hx]at hu2;obtain⟨b,o,hb,h⟩:=hcell _ x hx;simp only[Option.some.injEq]at hb;subst hb;have hc:=h (j % E.sz) u hu2;rw[Addr.add_lit,hj,← Nat.add_assoc];exact hc
  ·intro u hu
   rw[List.mem_flatMap]at hu;obtain⟨x,_,hx⟩:=hu;exact E.one x u hx
  ·have:=Nat.mul_le_mul (show xs.length+ys.length≤68719476736 from hn) hby
   omega
  ·intro v' w' h2 h3 _
   refine hK v' w' ?_ h3;unfold Own;simpa[List.flatMap_append] using h2
theorem VG {α β:Type}{E:El α}{F:El β}{T U:TypeId}(hT:T≠U) {w:World}{base base':Nat}{v u:Value}{xs:List α}{ys:List β}(h:Own E T w base v xs) (k:Own F U w base' u ys):∀ q,u.ownBlock=some q→v.ownBlock≠some q:=by
 intro q hq hv;rcases h.2 with⟨rfl,_⟩ | ⟨g,cap,cur,rfl,_,hg,_⟩
 ·simp[Value.ownBlock]at hv
 ·rcases k.2 with⟨rfl,_⟩ | ⟨g',cap',cur',rfl,_,hg',_⟩
  ·simp[Value.ownBlock]at hq
  ·simp[Value.ownBlock]at hq hv
   subst hq;subst hv;rw[hg]at hg';simp at hg';exact hT hg'.2
theorem Yv.app {α:Type}{E:El α}{T1 T2:TypeId}(hT:T1≠T2) {us:List Zs}{w w1 w2:World}{base:Nat}{v v':Value}{p:List (List α)}(h:Yv E T1 T2 us w base v p) (hb:Below w.heap.size w w1) (hbase:base≤w.heap.size) {r:List α}{s:Zs}
 (hu:Own E T2 w1 w.heap.size s.v r) (h2'':Own Z2 T1 w2 base v' (us++[s])) (hg:w1.grownBy w2 v.ownBlock):ZL E T1 T2 w2 base v' (p++[r]):=by
 obtain⟨h1,h2,h3,h4,h5⟩:=h;have h2':=h2.below hb;have hnew:∀ q,s.v.ownBlock=some q→w.heap.size≤q:=fun q hq=>(World.ownsRow.lt hu q hq).1;have hold:∀ (i:Nat) (u':Zs),us[i]? = some u'→∀ q,u'.v.ownBlock=some q→q < w.heap.size:=fun i u' hi q hq=>by
  obtain⟨r',hr'⟩:=Zd (xs:=p) (k:=i) (by have:=(List.getElem?_eq_some_iff.1 hi).1;omega);exact(World.ownsRow.lt (h3 i u' r' hi hr') q hq).2
 have split:∀ (i:Nat) (u':Zs),(us++[s])[i]? = some u'→(i=us.length∧u'=s)∨(i < us.length∧us[i]? = some u'):=fun i u' hi=>by
  by_cases hlt:i < us.length
  ·rw[List.getElem?_append_left hlt]at hi;exact .inr ⟨hlt,hi⟩
  ·rw[List.getElem?_append_right Om]at hi
   have:i - us.length=0:=by
    rcases Nat.eq_zero_or_pos (i - us.length) with h | h
    ·exact h
    ·rw[List.getElem?_eq_none So]at hi;cases hi
   rw[this]at hi;simp at hi;exact .inl ⟨Om,hi.symm⟩
 have hus:Own E T2 w2 base s.v r:=(hu.mono hbase).grown hg (by
  rcases hq:s.v.ownBlock with _ | q
  ·exact .inl rfl
  ·exact .inr (fun e=>VG hT h2' hu q hq e.symm))
 have hrows:∀ (i:Nat) (u:Zs) (r':List α),us[i]? = some u→p[i]? = some r'→Own E T2 w2 base u.v r':=fun i u r' hi hr' =>
  ((h3 i u r' hi hr').below hb).grown hg (by
   rcases hq:u.v.ownBlock with _ | q
   ·exact .inl rfl
   ·exact .inr (fun e=>h5 i u hi q hq e.symm))
 refine⟨us++[s],by simp[h1],h2'',?_,?_,?_⟩
 ·intro i u r' hi hr'
  rcases split i u hi with⟨e1,e2⟩ | ⟨hlt,hi'⟩
  ·rw[e1,List.getElem?_append_right Om,h1,Nat.sub_self]at hr'
   simp at hr';rw[e2,← hr'];exact hus
  ·rw[List.getElem?_append_left Om]at hr'
   exact hrows i u r' hi' hr'
 ·intro i j u u' hi hj hij q hq hq'
  rcases split i u hi with⟨e1,e2⟩ | ⟨hlt,hi'⟩
  ·rcases split j u' hj with⟨e3,e4⟩ | ⟨hlt',hj'⟩
   ·omega
   ·rw[e2]at hq;have a1:=hnew q hq;have a2:=hold j u' hj' q hq';omega
  ·rcases split j u' hj with⟨e3,e4⟩ | ⟨hlt',hj'⟩
   ·rw[e4]at hq';have a1:=hnew q hq';have a2:=hold i u hi' q hq;omega
   ·exact h4 i j u u' hi' hj' hij q hq hq'
 ·intro i u hi q hq
  rcases split i u hi with⟨e1,e2⟩ | ⟨hlt,hi'⟩
  ·rw[e2]at hq;exact VG hT h2'' hus q hq
  ·obtain⟨r',hr'⟩:=Zd (xs:=p) (k:=i) Om
   exact VG hT h2'' (hrows i u r' hi' hr') q hq
theorem ZL.nil {α:Type}{E:El α}(T1 T2:TypeId) (w:World) (base:Nat):ZL E T1 T2 w base (.slice none 0 0) []:=
 ⟨[],rfl,Own.nil _ _ _,fun i u r h=>by simp at h,fun i j u u' h=>by simp at h,fun i u h=>by simp at h⟩
theorem ZL.empty {α:Type}{E:El α}(T1 T2:TypeId) (w:World) {base:Nat}(hb:base≤w.heap.size):ZL E T1 T2 (w.alloc (.cells #[] T1)) base (.slice (some ⟨w.heap.size,0,none⟩) 0 0) []:=
 ⟨[],rfl,Own.empty _ _ hb,fun i u r h=>by simp at h,fun i j u u' h=>by simp at h,fun i u h=>by simp at h⟩
theorem ZL.mono {α:Type}{E:El α}{T1 T2:TypeId}{w:World}{base base':Nat}{v:Value}{p:List (List α)}(h:ZL E T1 T2 w base v p) (hb:base'≤base):ZL E T1 T2 w base' v p:=by
 obtain⟨us,h1,h2,h3,h4,h5⟩:=h;exact⟨us,h1,h2.mono hb,fun i u r hu hr=>(h3 i u r hu hr).mono hb,h4,h5⟩
theorem ZL.PO {α:Type}{E:El α}{T1 T2:TypeId}{lo hi:Nat}{w w':World}{base:Nat}{v:Value}{p:List (List α)}(h0:ZL E T1 T2 w base v p)
 (h:Outside lo hi w w') (hhi:hi≤base):ZL E T1 T2 w' base v p:=by
 obtain⟨us,hU,hlt⟩:=h0.told;obtain⟨h1,h2,h3,h4,h5⟩:=hU;refine⟨us,h1,h.own h2 (fun q hq => .inr (by have:=(World.ownsRow.lt h2 q hq).1;omega)),fun i u r hu hr=>h.own (h3 i u r hu hr) (fun q hq => .inr (by have:=(hlt i u hu q hq).1;omega)),h4,h5⟩
end Go.Proofs.YtngekjpklkjnbaaGreat
namespace Go.Proofs.YtngekjpklkjnbaaGreat
structure Gp where
 t:Int
 i:Int
deriving DecidableEq
abbrev Gp.v (x:Gp):Value:=.agg #[.int .i64 x.t,.int .i64 x.i]
def ZZ:El Gp:=⟨2,Dc,fun x=>[.int .i64 x.t,.int .i64 x.i],fun _=>rfl,fun x u h=>by simp at h;rcases h with rfl | rfl <;> rfl⟩
def JH (r:List Ins) (i:Nat):Bool:=
 match r[i - 1]?,r[i]? with
 | some x,some y=>decide (1≤i)&&(x.op != 4&&y.op != 4)
 | _,_=>false
def ZH (t:Nat) (r:List Ins) (n:Nat):List Gp:=((List.range n).filter (JH r)).map fun (i:Nat)=>⟨t,i⟩
def Xt (p:List (List Ins)) (j:Nat):List Gp:=(List.range j).flatMap fun t=>match p[t]? with
 | some r=>ZH t r r.length
 | none=>[]
def ZF (p:List (List Ins)):List Gp:=Xt p p.length
theorem Ka (t:Nat) (r:List Ins) (n:Nat):ZH t r (n+1)=ZH t r n++if JH r n=true then [⟨t,n⟩] else []:=by
 unfold ZH;rw[List.range_succ,List.filter_append,List.map_append];by_cases h:JH r n=true <;> simp[h]
theorem XJ (t:Nat) (r:List Ins):ZH t r 1=[]:=by
 have h:JH r 0=false:=by unfold JH;split <;> simp
 rw[Ka,if_neg (by simp[h])];simp[ZH]
theorem Kb (t:Nat) (r:List Ins):ZH t r 0=[]:=by simp[ZH]
theorem Qt {p:List (List Ins)}{j:Nat}{r:List Ins}(h:p[j]? = some r):Xt p (j+1)=Xt p j++ZH j r r.length:=by
 unfold Xt;rw[List.range_succ,List.flatMap_append];simp[h]
theorem QW (t:Nat) (r:List Ins) (n:Nat):(ZH t r n).length≤n:=by
 unfold ZH;rw[List.length_map];exact Nat.le_trans (List.length_filter_le _ _) Sm
theorem J4 (p:List (List Ins)):∀ j,j≤p.length→(Xt p j).length≤(p.take j).flatten.length:=by
 intro j
 induction j with
 | zero=>intro _;simp[Xt]
 | succ j ih =>
  intro hj;obtain⟨r,hr⟩:=Zd (xs:=p) (k:=j) hj;rw[Qt hr,List.take_add_one,hr,List.flatten_append,List.length_append,List.length_append];have h1:=ih Om;have h2:=QW j r r.length;simp only[Option.toList_some,List.flatten_cons,List.flatten_nil,List.append_nil];omega
theorem Uh {t:Nat}{r:List Ins}{s:Nat}{x y:Ins}(hx:r[s]? = some x) (hy:r[s+1]? = some y):ZH t r (s+1+1)=ZH t r (s+1)++if (x.op != 4&&y.op != 4)=true then [⟨t,(s+1:Nat)⟩] else []:=by
 rw[Ka];have:JH r (s+1)=(x.op != 4&&y.op != 4):=by unfold JH;simp[hx,hy]
 rw[this]
end Go.Proofs.YtngekjpklkjnbaaGreat
namespace Go.Proofs.YtngekjpklkjnbaaGreat
open Go.RowKit
structure YX (L:List TypeId) (B:Nat) (w w':World):Prop where
 os:w'.os=w.os
 tape:w'.tape=w.tape
 output:w'.output=w.output
 size:w.heap.size≤w'.heap.size
 block:∀ k ob,w.heap[k]? = some ob→(k < B∨∀ a T fz,ob = .cells a T fz→T∉L)→w'.heap[k]? = some ob
theorem YX.refl (L:List TypeId) (B:Nat) (w:World):YX L B w w:=⟨rfl,rfl,rfl,Nat.le_refl _,fun _ _ h _=>h⟩
theorem YX.trans {L:List TypeId}{B:Nat}{a b c:World}(h:YX L B a b) (k:YX L B b c):YX L B a c:=
 ⟨k.os.trans h.os,k.tape.trans h.tape,k.output.trans h.output,Nat.le_trans h.size k.size,fun q ob hq hl=>k.block q ob (h.block q ob hq hl) hl⟩
theorem YX.Zf {L:List TypeId}{B:Nat}{w w':World}(h:Below w.heap.size w w'):YX L B w w':=
 ⟨h.os,h.tape,h.output,h.size,fun k _ hk _=>(h.block k (Array.getElem?_eq_some_iff.1 hk).1).trans hk⟩
theorem YX.below {L:List TypeId}{B:Nat}{w w':World}(h:YX L B w w') (hB:B≤w.heap.size):Below B w w':=
 ⟨h.os,h.tape,h.output,h.size,fun k hk=>by
  have hk':k < w.heap.size:=Om;have e:w.heap[k]? = some (w.heap[k]'hk'):=Array.getElem?_eq_getElem hk';rw[e];exact h.block k _ e (.inl hk)⟩
theorem YX.more {L L':List TypeId}{B B':Nat}{w w':World}(h:YX L B w w') (hL:∀ T∈L,T∈L') (hB:B'≤B):YX L' B' w w':=
 ⟨h.os,h.tape,h.output,h.size,fun k ob hk hl=>h.block k ob hk (hl.imp (fun q=>Nat.lt_of_lt_of_le q hB) fun q a T fz e hT=>q a T fz e (hL T hT))⟩
theorem YX.alloc {L:List TypeId}{B:Nat}(w:World) (o:Obj):YX L B w (w.alloc o):=.Zf ((Below.refl _ _).alloc (Nat.le_refl _) o)
theorem Own.XZ {α:Type}{E:El α}{T:TypeId}{w:World}{base g:Nat}{v:Value}{xs:List α}(h:Own E T w base v xs) (hg:v.ownBlock=some g):∃ a,w.heap[g]? = some (.cells a T (0,0)):=by
 rcases h.2 with⟨rfl,_⟩ | ⟨g',cap,cur,rfl,_,hg',_⟩
 ·simp[Value.ownBlock]at hg
 ·simp[Value.ownBlock]at hg
  subst hg;exact⟨cur,hg'⟩
theorem Own.Vt {α:Type}{E:El α}{T:TypeId}{w w':World}{base:Nat}{v:Value}{xs:List α}(h:Own E T w base v xs) (hs:∀ q,v.ownBlock=some q→w'.heap[q]? = w.heap[q]?):Own E T w' base v xs:=by
 refine⟨h.1,?_⟩;rcases h.2 with hn | ⟨g,cap,cur,rfl,hb1,hgg,rest⟩
 ·exact .inl hn
 ·exact .inr ⟨g,cap,cur,rfl,hb1,(hs g rfl).trans hgg,rest⟩
theorem YX.grown {α:Type}{E:El α}{T:TypeId}{L:List TypeId}{B base:Nat}{w w':World}{v:Value}{xs:List α}(ho:Own E T w base v xs) (hT:T∈L) (hB:B≤base) (hg:w.grownBy w' v.ownBlock):YX L B w w':=
 ⟨hg.os,hg.tape,hg.output,hg.size,fun k ob hk hl=>(hg.block k (Array.getElem?_eq_some_iff.1 hk).1 (fun e=>by
  obtain⟨a,ha⟩:=ho.XZ e.symm;have hbk:=(World.ownsRow.lt ho k e.symm).1;rw[hk]at ha;rcases hl with hl | hl
  ·omega
  ·exact hl a T _ (Option.some.inj ha) hT)).trans hk⟩
theorem YX.set {T:TypeId}{L:List TypeId}{B g j:Nat}{w:World}{a:Array Value}{fz:Nat × Nat}(hg:w.heap[g]? = some (.cells a T fz)) (hT:T∈L) (hB:B≤g) (u:Value):YX L B w (w.setCell ⟨g,j,none⟩ u):=
 ⟨rfl,rfl,rfl,Sm,fun k ob hk hl=>(heap_setCell_other w ⟨g,j,none⟩ k u (show k≠g by
  rintro rfl;rw[hg]at hk;rcases hl with hl | hl
  ·omega
  ·exact hl a T fz (Option.some.inj hk).symm hT)).trans hk⟩
structure Yu (L:List TypeId) (B:Nat) (w:World) (φ:World→Prop):Prop where
 now:φ w
 Yf:∀ w',YX L B w w'→φ w'
theorem Yu.step {L:List TypeId}{B:Nat}{w w':World}{φ:World→Prop}(h:Yu L B w φ) (k:YX L B w w'):Yu L B w' φ:=⟨h.Yf w' k,fun w'' k'=>h.Yf w'' (k.trans k')⟩
theorem Yu.map {L:List TypeId}{B:Nat}{w:World}{φ ψ:World→Prop}(h:Yu L B w φ) (f:∀ V,φ V→ψ V):Yu L B w ψ:=⟨f _ h.now,fun w' k=>f _ (h.Yf w' k)⟩
theorem Yu.and {L:List TypeId}{B:Nat}{w:World}{φ ψ:World→Prop}(h:Yu L B w φ) (k:Yu L B w ψ):Yu L B w (fun W=>φ W∧ψ W):=⟨⟨h.now,k.now⟩,fun w' s=>⟨h.Yf w' s,k.Yf w' s⟩⟩
theorem Yu.all {ι:Type}{L:List TypeId}{B:Nat}{w:World}{φ:ι→World→Prop}(h:∀ i,Yu L B w (φ i)):Yu L B w (fun W => ∀ i,φ i W):=⟨fun i=>(h i).now,fun w' s i=>(h i).Yf w' s⟩
theorem Yu.imp {L:List TypeId}{B:Nat}{w:World}{p:Prop}{φ:World→Prop}(h:p→Yu L B w φ):Yu L B w (fun W=>p→φ W):=⟨fun i=>(h i).now,fun w' s i=>(h i).Yf w' s⟩
theorem Yu.own {α:Type}{E:El α}{T:TypeId}{L:List TypeId}{B base:Nat}{w:World}{v:Value}{xs:List α}(h:Own E T w base v xs) (hT:T∉L):Yu L B w (fun W=>Own E T W base v xs):=
 ⟨h,fun w' k=>h.Vt fun q hq=>by
  obtain⟨a,ha⟩:=h.XZ hq;rw[k.block q _ ha (.inr fun a' T' fz e=>by simp at e;rw[← e.2.1];exact hT),ha]⟩
theorem Yu.NG {α:Type}{E:El α}{T1 T2:TypeId}{L:List TypeId}{B base:Nat}{w:World}{v:Value}{p:List (List α)}(h:ZL E T1 T2 w base v p) (h1:T1∉L) (h2:T2∉L):Yu L B w (fun W=>ZL E T1 T2 W base v p):=by
 obtain⟨us,g1,g2,g3,g4,g5⟩:=h;have k1:=Yu.own (B:=B) g2 h1;have k2:Yu L B w (fun W => ∀ (i:Nat) (u:Zs) (r:List α),us[i]? = some u→p[i]? = some r→Own E T2 W base u.v r):=.all fun i => .all fun u => .all fun r => .imp fun hu => .imp fun hr=>Yu.own (g3 i u r hu hr) h2;exact(k1.and k2).map fun V ⟨a,b⟩=>⟨us,g1,a,b,g4,g5⟩
structure St where
 pc:List Int
 rg:List Int
 mm:List Int
 bf:List (List Int)
structure SV where
 p:Zs
 r:Zs
 m:Zs
 b:Zs
def Ob:El SV:=⟨4,Dc,fun x=>[x.p.v,x.r.v,x.m.v,x.b.v],fun _=>rfl,fun x u h=>by simp at h;rcases h with rfl | rfl | rfl | rfl <;> rfl⟩
structure ZE (w:World) (x:SV) (s:St):Prop where
 pc:ZC Zq w x.p.v s.pc
 rg:ZC Zq w x.r.v s.rg
 mm:ZC Zq w x.m.v s.mm
 bf:YV Zq w x.b.v s.bf
theorem ZE.below {w w':World}{x:SV}{s:St}(h:ZE w x s) (hb:Below w.heap.size w w'):ZE w' x s:=⟨h.pc.below hb,h.rg.below hb,h.mm.below hb,h.bf.below hb⟩
structure Y6 (w:World) (base:Nat) (c1 c2 c3:Zs) (l1 l2 l3:List Int):Prop where
 o1:Own Zq 3 w base c1.v l1
 o2:Own Zq 3 w base c2.v l2
 o3:Own Zq 3 w base c3.v l3
 d12:∀ q,c1.v.ownBlock=some q→c2.v.ownBlock≠some q
 d13:∀ q,c1.v.ownBlock=some q→c3.v.ownBlock≠some q
 d23:∀ q,c2.v.ownBlock=some q→c3.v.ownBlock≠some q
theorem Y6.below {w w':World}{base:Nat}{c1 c2 c3:Zs}{l1 l2 l3:List Int}(h:Y6 w base c1 c2 c3 l1 l2 l3) (hb:Below w.heap.size w w'):Y6 w' base c1 c2 c3 l1 l2 l3:=
 ⟨h.o1.below hb,h.o2.below hb,h.o3.below hb,h.d12,h.d13,h.d23⟩
theorem Y6.Pw {w:World}{base:Nat}{c1 c2 c3:Zs}{l1 l2 l3:List Int}(h:Y6 w base c1 c2 c3 l1 l2 l3):Y6 w base c2 c3 c1 l2 l3 l1:=
 ⟨h.o2,h.o3,h.o1,h.d23,fun q a b=>h.d12 q b a,fun q a b=>h.d13 q b a⟩
theorem Y6.mono {w:World}{base base':Nat}{c1 c2 c3:Zs}{l1 l2 l3:List Int}(h:Y6 w base c1 c2 c3 l1 l2 l3) (hb:base'≤base):Y6 w base' c1 c2 c3 l1 l2 l3:=
 ⟨h.o1.mono hb,h.o2.mono hb,h.o3.mono hb,h.d12,h.d13,h.d23⟩
theorem Y6.nil (w:World) (base:Nat):Y6 w base ⟨none,0,0⟩ ⟨none,0,0⟩ ⟨none,0,0⟩ [] [] []:=
 ⟨Own.nil _ _ _,Own.nil _ _ _,Own.nil _ _ _,fun q h=>by simp[Value.ownBlock]at h,fun q h=>by simp[Value.ownBlock]at h,fun q h=>by simp[Value.ownBlock]at h⟩
theorem Y6.IJ {w w':World}{base:Nat}{c1 c1' c2 c3:Zs}{l1 l1' l2 l3:List Int}(h:Y6 w base c1 c2 c3 l1 l2 l3) (ho:Own Zq 3 w' base c1'.v l1') (hg:w.grownBy w' c1.v.ownBlock)
 (hb:c1'.v.ownBlock=c1.v.ownBlock∨∀ q,c1'.v.ownBlock=some q→w.heap.size≤q):Y6 w' base c1' c2 c3 l1' l2 l3:=by
 have n2:∀ q,c1'.v.ownBlock=some q→c2.v.ownBlock≠some q:=fun q hq e=>by
  rcases hb with hb | hb
  ·exact h.d12 q (hb ▸ hq) e
  ·have:=hb q hq;have:=(World.ownsRow.lt h.o2 q e).2;omega
 have n3:∀ q,c1'.v.ownBlock=some q→c3.v.ownBlock≠some q:=fun q hq e=>by
  rcases hb with hb | hb
  ·exact h.d13 q (hb ▸ hq) e
  ·have:=hb q hq;have:=(World.ownsRow.lt h.o3 q e).2;omega
 refine⟨ho,h.o2.grown hg ?_,h.o3.grown hg ?_,n2,n3,h.d23⟩
 ·rcases hq:c2.v.ownBlock with _ | q
  ·exact .inl rfl
  ·exact .inr fun e=>h.d12 q e.symm hq
 ·rcases hq:c3.v.ownBlock with _ | q
  ·exact .inl rfl
  ·exact .inr fun e=>h.d13 q e.symm hq
theorem Y6.NI {w w':World}{base:Nat}{c1 c2 c2' c3:Zs}{l1 l2 l2' l3:List Int}(h:Y6 w base c1 c2 c3 l1 l2 l3) (ho:Own Zq 3 w' base c2'.v l2') (hg:w.grownBy w' c2.v.ownBlock)
 (hb:c2'.v.ownBlock=c2.v.ownBlock∨∀ q,c2'.v.ownBlock=some q→w.heap.size≤q):Y6 w' base c1 c2' c3 l1 l2' l3:=(h.Pw.IJ ho hg hb).Pw.Pw
theorem Y6.Mw {w w':World}{base:Nat}{c1 c2 c3 c3':Zs}{l1 l2 l3 l3':List Int}(h:Y6 w base c1 c2 c3 l1 l2 l3) (ho:Own Zq 3 w' base c3'.v l3') (hg:w.grownBy w' c3.v.ownBlock)
 (hb:c3'.v.ownBlock=c3.v.ownBlock∨∀ q,c3'.v.ownBlock=some q→w.heap.size≤q):Y6 w' base c1 c2 c3' l1 l2 l3':=(h.Pw.Pw.IJ ho hg hb).Pw
theorem Own.Z6 {α:Type}{E:El α}{U T:TypeId}(hT:U≠T) {w:World}{base g j:Nat}{a:Array Value}{fz:Nat × Nat}{v u:Value}{xs:List α}(h:Own E U w base v xs) (hg:w.heap[g]? = some (.cells a T fz)):Own E U (w.setCell ⟨g,j,none⟩ u) base v xs:=
 h.Vt fun q hq=>heap_setCell_other w ⟨g,j,none⟩ q u (show q≠g by
  rintro rfl;obtain⟨a',ha⟩:=h.XZ hq;rw[hg]at ha;simp at ha;exact hT ha.2.1.symm)
theorem ZL.Z6 {α:Type}{E:El α}{U1 U2 T:TypeId}(h1:U1≠T) (h2:U2≠T) {w:World}{base g j:Nat}{a:Array Value}{fz:Nat × Nat}{v u:Value}{p:List (List α)}(h:ZL E U1 U2 w base v p) (hg:w.heap[g]? = some (.cells a T fz)):ZL E U1 U2 (w.setCell ⟨g,j,none⟩ u) base v p:=by
 obtain⟨us,g1,g2,g3,g4,g5⟩:=h;exact⟨us,g1,g2.Z6 h1 hg,fun i u r hu hr=>(g3 i u r hu hr).Z6 h2 hg,g4,g5⟩
theorem Y6.Z6 {T:TypeId}(hT:3≠T) {w:World}{base g j:Nat}{a:Array Value}{fz:Nat × Nat}{u:Value}{c1 c2 c3:Zs}{l1 l2 l3:List Int}(h:Y6 w base c1 c2 c3 l1 l2 l3) (hg:w.heap[g]? = some (.cells a T fz)):Y6 (w.setCell ⟨g,j,none⟩ u) base c1 c2 c3 l1 l2 l3:=
 ⟨h.o1.Z6 hT hg,h.o2.Z6 hT hg,h.o3.Z6 hT hg,h.d12,h.d13,h.d23⟩
def BH (T:TypeId) (w:World) (g:Nat):Prop:=∃ a,w.heap[g]? = some (.cells a T (0,0))
theorem BH.set {T:TypeId}{w:World}{g:Nat}(h:BH T w g) (b j:Nat) (u:Value):BH T (w.setCell ⟨b,j,none⟩ u) g:=by
 obtain⟨a,ha⟩:=h;by_cases e:g=b
 ·subst e
  exact⟨_,heap_setCell_same w g j _ _ u ha⟩
 ·exact⟨a,(heap_setCell_other w ⟨b,j,none⟩ g u e).trans ha⟩
theorem YX.same {L:List TypeId}{B k:Nat}{w w':World}{a:Array Value}{T:TypeId}{fz:Nat × Nat}(h:YX L B w w') (hk:w.heap[k]? = some (.cells a T fz)) (hT:T∉L):w'.heap[k]? = some (.cells a T fz):=
 h.block k _ hk (.inr fun a' T' fz' e=>by simp at e;rw[← e.2.1];exact hT)
theorem YX.Ys {T:TypeId}{L:List TypeId}{B g j:Nat}{w:World}(hg:BH T w g) (hT:T∈L) (hB:B≤g) (u:Value):YX L B w (w.setCell ⟨g,j,none⟩ u):=by
 obtain⟨a,ha⟩:=hg;exact .set ha hT hB u
theorem Y6.kp {L:List TypeId}{B:Nat}{w w':World}{base:Nat}{c1 c2 c3:Zs}{l1 l2 l3:List Int}(h:Y6 w base c1 c2 c3 l1 l2 l3) (k:YX L B w w') (hT:3∉L):Y6 w' base c1 c2 c3 l1 l2 l3:=
 ⟨(Yu.own h.o1 hT).Yf w' k,(Yu.own h.o2 hT).Yf w' k,(Yu.own h.o3 hT).Yf w' k,h.d12,h.d13,h.d23⟩
structure YI (w:World) (base m:Nat) (x:SV) (s:St):Prop where
 ln:Y6 w base x.p x.r x.m s.pc s.rg s.mm
 bf:ZL Zq 66 3 w m x.b.v s.bf
 p1:∀ q,x.p.v.ownBlock=some q→q < m
 p2:∀ q,x.r.v.ownBlock=some q→q < m
 p3:∀ q,x.m.v.ownBlock=some q→q < m
 le:base≤m
 lh:m≤w.heap.size
theorem YI.below {w w':World}{base m:Nat}{x:SV}{s:St}(h:YI w base m x s) (hb:Below w.heap.size w w'):YI w' base m x s:=
 ⟨h.ln.below hb,h.bf.below hb,h.p1,h.p2,h.p3,h.le,Nat.le_trans h.lh hb.size⟩
theorem YI.rep {w:World}{base m:Nat}{x:SV}{s:St}(h:YI w base m x s):ZE w x s:=⟨h.ln.o1.rep,h.ln.o2.rep,h.ln.o3.rep,h.bf.rep⟩
theorem YI.mono {w:World}{base base' m:Nat}{x:SV}{s:St}(h:YI w base m x s) (hb:base'≤base):YI w base' m x s:=⟨h.ln.mono hb,h.bf,h.p1,h.p2,h.p3,Nat.le_trans hb h.le,h.lh⟩
theorem YI.Z6 {T:TypeId}(h1:3≠T) (h2:66≠T) {w:World}{base m g j:Nat}{a:Array Value}{fz:Nat × Nat}{u:Value}{x:SV}{s:St}(h:YI w base m x s) (hg:w.heap[g]? = some (.cells a T fz)):YI (w.setCell ⟨g,j,none⟩ u) base m x s:=
 ⟨h.ln.Z6 h1 hg,h.bf.Z6 h2 h1 hg,h.p1,h.p2,h.p3,h.le,by simpa using h.lh⟩
theorem YI.loc {L:List TypeId}{B:Nat}{w:World}{base m:Nat}{x:SV}{s:St}(h:YI w base m x s) (h1:3∉L) (h2:66∉L):Yu L B w (fun W=>ZE W x s):=
 ((((Yu.own h.ln.o1 h1).and (Yu.own h.ln.o2 h1)).and (Yu.own h.ln.o3 h1)).and (Yu.NG h.bf h2 h1)).map fun _ ⟨⟨⟨a,b⟩,c⟩,d⟩=>⟨a.rep,b.rep,c.rep,d.rep⟩
theorem YI.Ys {T:TypeId}(h1:3≠T) (h2:66≠T) {w:World}{base m g j:Nat}{u:Value}{x:SV}{s:St}(h:YI w base m x s) (hg:BH T w g):YI (w.setCell ⟨g,j,none⟩ u) base m x s:=by
 obtain⟨a,ha⟩:=hg;exact h.Z6 h1 h2 ha
theorem Own.Nx {w:World}{base g n cap:Nat}{xs:List Int}(h:Own Zq 3 w base (.slice (some ⟨g,0,none⟩) n cap) xs) {k:Nat}{x:Int}(hx:xs[k]? = some x) (y:Int) :
 g < w.heap.size∧w.cell? ⟨g,k,none⟩=some (.int .i64 x)∧(∀ j,w.frozen? ⟨g,j,none⟩=false)∧Own Zq 3 (w.setCell ⟨g,k,none⟩ (.int .i64 y)) base (.slice (some ⟨g,0,none⟩) n cap) (xs.set k y)∧w.grownBy (w.setCell ⟨g,k,none⟩ (.int .i64 y)) (some g):=by
 have hc:=h.cell hx (j:=0) rfl;have hs:=h.set (i:=k) (j:=0) y (u:=.int .i64 y) Dc hx rfl;simp only[Zq,Nat.mul_one,Nat.add_zero]at hc hs;exact⟨(World.ownsRow.lt h g rfl).2,hc,fun j=>h.frozen j,hs,YZ (World.grownBy.refl _ _) _ _⟩
theorem Own.Kg {α:Type}{E:El α}{T:TypeId}{w:World}{base:Nat}{c:Zs}{xs:List α}(h:Own E T w base c.v xs) {k:Nat}{x:α}(hx:xs[k]? = some x):∃ g,c.a=some ⟨g,0,none⟩∧c.n=xs.length:=by
 rcases h.shape with⟨_,h2⟩ | ⟨g,cap,h2,_⟩
 ·rw[h2]at hx;simp at hx
 ·simp only[Zs.v,Value.slice.injEq]at h2
  exact⟨g,h2.1,h2.2.1⟩
def XG (w:World) (s:St) (e:Ending) (w':World):Prop:=∃ (x:SV) (m:Nat),e = .returned (.agg #[.slice x.p.a x.p.n x.p.cap,.slice x.r.a x.r.n x.r.cap,.slice x.m.a x.m.n x.m.cap,.slice x.b.a x.b.n x.b.cap])∧YI w' w.heap.size m x s∧Below w.heap.size w w'
theorem step_mk {α:Type}(E:El α) {P:Program}{w:World}{ops:Array Oper}{o:Oper}{a:Act}{K:Act→World→Prop}{Q:Exit→Act→World→Prop}{F:Prop}
 (T:TypeId) (z:α) {zv:Value}{bytes:Nat}(hinfo:(P.info? T).map (fun i=>(i.zero,i.size,i.bytes))=some (some zv,E.sz,bytes)) (hz:zv.cells.toList=E.c z) {t:TypeId}(h1:P.underlying t=some (.slice T))
 (n:Nat) (hby:bytes≤256) (hn:n≤1099511627776) (hg:o.guard=none) (l c:Operand) (hop:o.op=Op.makeSlice t l c) (hl:a.eval l = .int .i64 n) (hc:a.eval c = .int .i64 n)
 (hK:∀ w',Own E T w' w.heap.size (.slice (some ⟨w.heap.size,0,none⟩) n n) (List.replicate n z)→w.grownBy w' none→K (a.put o.dst (.slice (some ⟨w.heap.size,0,none⟩) n n)) w') :
 if Region.wanted o (yielded ops a.tmps)=true then Oper.wp P o a w K Q else F:=by
 obtain⟨it,hi,hz0,hz1,hz2⟩:=info_parts hinfo;have hw:Region.wanted o (yielded ops a.tmps)=true:=by simp[Region.wanted,hg]
 rw[if_pos hw];obtain⟨w',hrun,r1,r2⟩:=run_make_full (P:=P) w w.heap.size t T it zv E.sz h1 hi hz0 hz1 .i64 .i64 n (by rw[hz2];have:=Nat.mul_le_mul hby hn;omega) (by unfold maxLen;omega) (Nat.le_refl _);unfold Oper.wp;simp[execOp,hop,hl,hc,hrun,Result.andThen];refine hK w' ?_ r2;unfold Own;rw[List.length_replicate,← Cx z zv hz n];exact r1
theorem U8 {P:Program}{w:World}{base:Nat}{t ty e:TypeId}{i:TypeInfo}{size:Nat}(ht:P.underlying t=some (.slice e)) (hi:P.info? e=some i)
 {v:Value}{n c:Nat}{xs:List Value}(hown:w.ownsRow base e size v n xs) (ad:Addr):(Builtin.append_ #[t,t] ty #[v,.slice (some ad) 0 c]).run P w = .ok v w:=by
 rcases hown.2 with⟨rfl,rfl⟩ | ⟨g,cap,cur,rfl,_,_,hnc,_⟩
 ·simp[Builtin.append_,run_underlying ht,sizeOf,typeInfo,hi,Builtin.lenOf,Builtin.firstCells,loadCells,loadCellsFrom]
 ·simp[Builtin.append_,run_underlying ht,sizeOf,typeInfo,hi,Builtin.lenOf,Builtin.firstCells,hnc,loadCells,loadCellsFrom,storeCells]
theorem Yl {α:Type}(E:El α) {P:Program}{w:World}{ops:Array Oper}{o:Oper}{a:Act}{K:Act→World→Prop}{Q:Exit→Act→World→Prop}{F:Prop}
 (T:TypeId) {zv:Value}{bytes:Nat}(hinfo:(P.info? T).map (fun i=>(i.zero,i.size,i.bytes))=some (some zv,E.sz,bytes)) (hz:zv.cells.size=E.sz) {t:TypeId}(h1:P.underlying t=some (.slice T))
 (base:Nat) (s0:Zs) (xs ys:List α) (u:Value) (hown:Own E T w base s0.v xs) (hrep:ZC E w u ys) (hby:bytes≤256) (hn:xs.length+ys.length≤68719476736) (hbase:base≤w.heap.size)
 (hg:o.guard=none) (s y:Operand) (hop:o.op = .call { callee:=.builtin .append,args:=#[s,y],argTypes:=#[t,t] })
 (hs:a.eval s=s0.v) (hy:a.eval y=u)
 (hK:∀ (s':Zs) w',Own E T w' base s'.v (xs++ys)→w.grownBy w' s0.v.ownBlock→(s'.v.ownBlock=s0.v.ownBlock∨∀ q,s'.v.ownBlock=some q→w.heap.size≤q)→K (a.put o.dst (.slice s'.a s'.n s'.cap)) w') :
 if Region.wanted o (yielded ops a.tmps)=true then Oper.wp P o a w K Q else F:=by
 obtain⟨it,hi,hz0,hz1,hz2⟩:=info_parts hinfo;obtain⟨ad,c,rfl,hc1,hc2,hcell⟩:=hrep;have hw:Region.wanted o (yielded ops a.tmps)=true:=by simp[Region.wanted,hg]
 have hnone:∀ r:(Builtin.append_ #[t,t] o.type #[s0.v,.slice ad ys.length c]).run P w = .ok s0.v w,ys=[]→(if Region.wanted o (yielded ops a.tmps)=true then Oper.wp P o a w K Q else F):=fun r hys=>by
  rw[if_pos hw];unfold Oper.wp;simp[execOp,hop,resolve,invoke,builtin,hs,hy,r,Result.andThen];exact hK s0 _ (by subst hys;simpa using hown) (World.grownBy.refl _ _) (.inl rfl)
 cases ad with
 | none =>
  have hys:ys=[]:=by
   cases ys with
   | nil=>rfl
   | cons y ys=>obtain⟨b,o,hb,_⟩:=hcell 0 y rfl;cases hb
  exact hnone (by subst hys;exact Qy h1 hi hown) hys
 | some ad =>
  by_cases hys:ys=[]
  ·exact hnone (by subst hys;exact U8 h1 hi hown ad) hys
  have hpos:0 < ys.length:=List.length_pos_iff.2 hys;refine step_append_lies w hg s y t hop base T it zv E.sz bytes h1 hi hz0 hz1 hz2 hz E.pos s0.v xs.length _ hs hown ad ys.length c (ys.flatMap E.c) hy (E.length ys) ?_ ?_ hpos (by unfold maxLen;omega) ?_ hbase _ rfl ?_
  ·intro j u hu
   have hpos:=E.pos;have hj:j=j / E.sz * E.sz+j % E.sz:=by rw[Nat.mul_comm];exact(Nat.div_add_mod j E.sz).symm
   have hm:j % E.sz < E.sz:=Nat.mod_lt _ hpos;have hu2:=hu;rw[hj,E.get ys _ _ hm]at hu2;cases hx:ys[j / E.sz]? with
   | none=>rw[hx]at hu2;cases hu2
   | some x =>
    rw[hx]at hu2;obtain⟨b,o,hb,h⟩:=hcell _ x hx;simp only[Option.some.injEq]at hb;subst hb;have hc:=h (j % E.sz) u hu2;rw[Addr.add_lit,hj,← Nat.add_assoc];exact hc
  ·intro u hu
   rw[List.mem_flatMap]at hu;obtain⟨x,_,hx⟩:=hu;exact E.one x u hx
  ·have:=Nat.mul_le_mul (show xs.length+ys.length≤68719476736 from hn) hby
   omega
  ·intro g cap w' h2 h3 h4 _
   refine hK ⟨some ⟨g,0,none⟩,xs.length+ys.length,cap⟩ w' ?_ h3 ?_
   ·unfold Own
    simpa[List.flatMap_append] using h2
   ·rcases h4 with h4 | h4
    ·exact .inl h4.symm
    ·exact .inr fun q hq=>by simp[Value.ownBlock]at hq;omega
theorem Tryz.Y0:(Tryz.prog.info? 66).map (fun i=>(i.zero,i.size,i.bytes))=some (some (.slice none 0 0),1,24):=Kr
theorem Jb {a:Int}(h1 : -9223372036854775808≤a) (h2:a≤9223372036854775807):IntKind.i64.wrap a=a:=by rw[IntKind.wrap_i64];omega
theorem Zc {w:World}{b k:Nat}{cur:Array Value}{t:TypeId}{v:Value}{fz:Nat × Nat}(h:w.heap[b]? = some (.cells cur t fz)) (hk:cur[k]? = some v):w.cell? ⟨b,k,none⟩=some v:=by
 simp[World.cell?,h,hk]
theorem Z7 {w:World}{b:Nat}{cur:Array Value}{t:TypeId}(h:w.heap[b]? = some (.cells cur t (0,0))) (j:Nat):w.frozen? ⟨b,j,none⟩=false:=by
 simp[World.frozen?,h]
theorem Dg {α:Type}(E:El α) (z:α) (zv:Value) (hz:zv.cells.toList=E.c z) (n:Nat):(Builtin.zeroCells zv.cells n).toList=(List.replicate n z).flatMap E.c:=by
 have h:=Cx (E:=E) z zv hz n;have hsz:zv.cells.size=E.sz:=by rw[← Array.length_toList,hz,E.len]
 rw[← h];simp[Builtin.zeroCells,madeCells,hsz]
theorem El.take {α:Type}(E:El α) (xs:List α) (i:Nat):(xs.flatMap E.c).take (i * E.sz)=(xs.take i).flatMap E.c:=by
 induction xs generalizing i with
 | nil=>simp
 | cons x xs ih =>
  cases i with
  | zero=>simp
  | succ i =>
   rw[List.flatMap_cons,List.take_succ_cons,List.flatMap_cons,List.take_append,E.len,List.take_of_length_le (by rw[E.len,Nat.add_mul];omega),
    show (i+1) * E.sz - E.sz=i * E.sz by rw[Nat.add_mul];omega,ih]
section
variable {α : Type} {E : El α} {T : TypeId}
theorem Own.cut {w:World}{base g n cap:Nat}{xs:List α}(h:Own E T w base (.slice (some ⟨g,0,none⟩) n cap) xs) {i:Nat}(hi:i≤n):Own E T w base (.slice (some ⟨g,0,none⟩) i cap) (xs.take i):=by
 have hn:=h.len;subst hn;unfold Own at *;have hl:(xs.take i).length=i:=by rw[List.length_take];omega
 rcases h.2 with⟨h1,_⟩ | ⟨g',cap',cur,h1,h2,h3,h4,h5,h6,h7⟩
 ·simp at h1
 ·simp only[Value.slice.injEq,Option.some.injEq,Addr.mk.injEq,and_true,true_and]at h1
  obtain⟨rfl,rfl⟩:=h1;rw[hl];refine⟨by rw[E.length,hl],.inr ⟨g,cap,cur,rfl,h2,h3,Om,h5,h6,?_⟩⟩;rw[← E.take,← h7,List.take_take,Nat.min_eq_left (Nat.mul_le_mul_right _ hi)]
theorem IV {P:Program}{w:World}{base g n cap i c':Nat}{xs:List α}(z:α) {zv:Value}{bytes:Nat}(hinfo:(P.info? T).map (fun i=>(i.zero,i.size,i.bytes))=some (some zv,E.sz,bytes)) (hz:zv.cells.toList=E.c z)
 {t ty:TypeId}(h1:P.underlying t=some (.slice T)) (hown:Own E T w base (.slice (some ⟨g,0,none⟩) n cap) xs) (hi:i < n) :
 ∃ w',(Builtin.clear_ #[t] ty #[.slice (some ⟨g,i * E.sz,none⟩) (n - i) c']).run P w = .ok (.tuple #[]) w'∧Own E T w' base (.slice (some ⟨g,0,none⟩) n cap) (xs.take i++List.replicate (n - i) z)∧w.grownBy w' (some g):=by
 have hn:=hown.len;subst hn;obtain⟨it,hi1,hz0,hz1,hz2⟩:=info_parts hinfo;rcases hown.2 with⟨h2,_⟩ | ⟨g',cap',cur,h2,hb,hg,hnc,hcm,hcs,htake⟩
 ·simp at h2
 ·simp only[Value.slice.injEq,Option.some.injEq,Addr.mk.injEq,and_true,true_and]at h2
  obtain⟨rfl,rfl⟩:=h2;have hzl:(Builtin.zeroCells zv.cells (xs.length - i)).toList=(List.replicate (xs.length - i) z).flatMap E.c:=Dg E z zv hz _;have hlen:((List.replicate (xs.length - i) z).flatMap E.c).length=(xs.length - i) * E.sz:=by rw[E.length];simp
  have hmul:i * E.sz+(xs.length - i) * E.sz=xs.length * E.sz:=by rw[← Nat.add_mul];congr 1;omega
  have hmul2:xs.length * E.sz≤cap * E.sz:=Nat.mul_le_mul_right _ hnc;have hst:=run_storeCells_at P g (i * E.sz) T ((List.replicate (xs.length - i) z).flatMap E.c) 0 cur w hg (by rw[hlen,hcs];omega) (fun v hv=>by
   rw[List.mem_flatMap]at hv;obtain⟨x,_,hx⟩:=hv;exact E.one x v hx)
  simp only[Nat.add_zero]at hst;refine⟨w.setRow g (cur.toList.take (i * E.sz)++(List.replicate (xs.length - i) z).flatMap E.c++cur.toList.drop (i * E.sz+((List.replicate (xs.length - i) z).flatMap E.c).length)).toArray,?_,?_,⟨rfl,rfl,rfl,Sm,fun k _ hk=>setRow_other w g k _ (fun e=>hk (by simp[e]))⟩⟩
  ·have hne:xs.length - i≠0:=Om
   obtain⟨m,hm⟩:=Nat.exists_eq_succ_of_ne_zero hne;rw[hm]at hst hzl ⊢;simp only[Nat.succ_eq_add_one]at hst hzl ⊢;simp[Builtin.clear_,run_underlying h1,zeroValue,typeInfo,hi1,hz0,hzl,hst]
  ·have hl2:(xs.take i++List.replicate (xs.length - i) z).length=xs.length:=So
   unfold Own;rw[hl2];refine⟨by rw[E.length,hl2],.inr ⟨g,cap,_,rfl,hb,setRow_heap w g cur _ T _ hg,hnc,hcm,?_,?_⟩⟩
   ·simp only[List.size_toArray,List.length_append,List.length_take,List.length_drop,Array.length_toList,hlen,hcs]
    omega
   ·rw[List.flatMap_append,← E.take,← htake,List.take_take,Nat.min_eq_left Om]
    rw[show xs.length * E.sz=(cur.toList.take (i * E.sz)++(List.replicate (xs.length - i) z).flatMap E.c).length by
     have hcl:cur.toList.length=cap * E.sz:=by rw[Array.length_toList,hcs]
     rw[List.length_append,hlen,List.length_take,hcl];omega]
    exact List.take_left
end
section
variable {α : Type} {f : α → Bool} {xs L : List α} {i j : Nat}
end
theorem QS {w w':World}(h:Below w.heap.size w w') (row:Option Nat):w.grownBy w' row:=⟨h.os,h.tape,h.output,h.size,fun k hk _=>h.block k hk⟩
theorem UQ {w w' w'':World}{row:Option Nat}(h:w.grownBy w' row) (k:w'.grownBy w'' row):w.grownBy w'' row:=
 ⟨k.os.trans h.os,k.tape.trans h.tape,k.output.trans h.output,Nat.le_trans h.size k.size,fun q hq hne=>(k.block q (Nat.lt_of_lt_of_le hq h.size) hne).trans (h.block q hq hne)⟩
theorem De {α:Type}(E:El α) {P:Program}{w:World}{ops:Array Oper}{rest:List Oper}{o:Oper}{a:Act}{Q:Exit→Act→World→Prop}
 (T:TypeId) (z:α) {zv:Value}{bytes:Nat}(hinfo:(P.info? T).map (fun i=>(i.zero,i.size,i.bytes))=some (some zv,E.sz,bytes)) (hz:zv.cells.toList=E.c z) {t:TypeId}(h1:P.underlying t=some (.slice T))
 (base g n cap i c':Nat) (xs:List α) (hown:Own E T w base (.slice (some ⟨g,0,none⟩) n cap) xs) (hi:i < n) (hg:o.guard=none) (y:Operand)
 (hop:o.op = .call { callee:=.builtin .clear,args:=#[y],argTypes:=#[t] }) (hy:a.eval y = .slice (some ⟨g,i * E.sz,none⟩) (n - i) c')
 (hK:∀ w',Own E T w' base (.slice (some ⟨g,0,none⟩) n cap) (xs.take i++List.replicate (n - i) z)→w.grownBy w' (some g)→wpList P ops Q rest (a.put o.dst (.tuple #[])) w') :
 wpList P ops Q (o :: rest) a w:=by
 refine wpList_plain hg fun K hK' => ?_;obtain⟨w',hrun,r1,r2⟩:=IV (ty:=o.type) (c':=c') z hinfo hz h1 hown hi;unfold Oper.wp;simp[execOp,hop,resolve,invoke,builtin,hy,hrun,Result.andThen];exact hK' _ _ (hK w' r1 r2)
end Go.Proofs.YtngekjpklkjnbaaGreat
namespace Go.Proofs.YtngekjpklkjnbaaGreat
open Go.RowKit Go.MapKept
def XC (w:World) (b:Nat) (ks:List ByteArray):Prop:=∃ (es:Array MapEntry) (clock:Nat),w.heap[b]? = some (.map es clock)∧es.toList.map (fun e=>(e.key,e.val))=ks.map fun s=>(Value.string s,Value.bool true)
theorem XC.made (w:World):XC (w.alloc (.map #[] 0)) w.heap.size []:=⟨#[],0,heap_alloc_new w _,rfl⟩
theorem XC.lt {w:World}{b:Nat}{ks:List ByteArray}(h:XC w b ks):b < w.heap.size:=by
 obtain⟨es,clock,h1,-⟩:=h;exact(Array.getElem?_eq_some_iff.1 h1).1
theorem XC.same {w w':World}{b:Nat}{ks:List ByteArray}(h:XC w b ks) (hb:w'.heap[b]? = w.heap[b]?):XC w' b ks:=by
 obtain⟨es,clock,h1,h2⟩:=h;exact⟨es,clock,hb.trans h1,h2⟩
theorem XC.below {w w':World}{b:Nat}{ks:List ByteArray}(h:XC w b ks) (hb:Below w.heap.size w w'):XC w' b ks:=h.same (hb.block b h.lt)
theorem XC.keys {es:Array MapEntry}{ks:List ByteArray}(h:es.toList.map (fun e=>(e.key,e.val))=ks.map fun s=>(Value.string s,Value.bool true)):(∀ x∈es.toList,IsKey .string x.key)∧(∀ x∈es.toList,x.val = .bool true)∧∀ s,(∃ x∈es.toList,x.key = .string s)↔s∈ks:=by
 refine⟨fun x hx => ?_,fun x hx => ?_,fun s=>⟨fun ⟨x,hx,e⟩ => ?_,fun hs => ?_⟩⟩
 ·have:(x.key,x.val)∈es.toList.map (fun e=>(e.key,e.val)):=List.mem_map.2 ⟨x,hx,rfl⟩
  rw[h]at this;obtain⟨s,-,e⟩:=List.mem_map.1 this;simp only[Prod.mk.injEq]at e;rw[← e.1];simp[IsKey]
 ·have:(x.key,x.val)∈es.toList.map (fun e=>(e.key,e.val)):=List.mem_map.2 ⟨x,hx,rfl⟩
  rw[h]at this;obtain⟨s,-,e⟩:=List.mem_map.1 this;simp only[Prod.mk.injEq]at e;exact e.2.symm
 ·have:(x.key,x.val)∈es.toList.map (fun e=>(e.key,e.val)):=List.mem_map.2 ⟨x,hx,rfl⟩
  rw[h]at this;obtain⟨s',hs',e'⟩:=List.mem_map.1 this;simp only[Prod.mk.injEq]at e';rw[e]at e';simp at e';rw[← e'.1];exact hs'
 ·have:(Value.string s,Value.bool true)∈ks.map fun s=>(Value.string s,Value.bool true):=List.mem_map.2 ⟨s,hs,rfl⟩
  rw[← h]at this;obtain⟨x,hx,e⟩:=List.mem_map.1 this;simp only[Prod.mk.injEq]at e;exact⟨x,hx,e.1⟩
section
variable {P : Program} {w : World} {b : Nat} {ks : List ByteArray} {t k e : TypeId}
theorem XC.look (h:XC w b ks) (ht:P.underlying t=some (.map k e)) (hk:P.underlying k=some .string) (hz:(zeroValue e).run P w = .ok (.bool false) w) (s:ByteArray) :
 ∃ D:Bool,(Instr.lookup t (.map (some b)) (.string s) false).run P w = .ok (.bool D) w∧(D=true↔s∈ks):=by
 obtain⟨es,clock,h1,h2⟩:=h;obtain⟨k1,k2,k3⟩:=XC.keys h2;have hik:IsKey .string (.string s):=by simp[IsKey]
 rcases findNow_spec hik es.toList 0 k1 with⟨f1,f2⟩ | ⟨j,x,f1,f2,f3⟩
 ·refine⟨false,?_,?_⟩
  ·have hf:=run_findKey (w:=w) hk f1
   have hc:=run_checkKey (w:=w) hk hik es.isEmpty 9999;simp[Instr.lookup,run_underlying ht,MapKept.run_getObj_map h1,hc,hf,hz,Result.andThen]
  ·simp only[Bool.false_eq_true,false_iff]
   intro hs;obtain⟨x,hx,e⟩:=(k3 s).2 hs;exact f2 x hx e
 ·refine⟨true,?_,?_⟩
  ·have hf:=run_findKey (w:=w) hk f1
   have hc:=run_checkKey (w:=w) hk hik es.isEmpty 9999;have hm:=List.mem_of_getElem? f2;simp[Instr.lookup,run_underlying ht,MapKept.run_getObj_map h1,hc,hf,k2 x hm,Result.andThen]
  ·simp only[true_iff]
   exact(k3 s).1 ⟨x,List.mem_of_getElem? f2,f3⟩
theorem XC.put (h:XC w b ks) (ht:P.underlying t=some (.map k e)) (hk:P.underlying k=some .string) {s:ByteArray}(hs:s∉ks) :
 ∃ w',(Instr.mapUpdate t (.map (some b)) (.string s) (.bool true)).run P w = .ok () w'∧XC w' b (ks++[s])∧w.grownBy w' (some b):=by
 obtain⟨es,clock,h1,h2⟩:=h;obtain⟨k1,k2,k3⟩:=XC.keys h2;have hik:IsKey .string (.string s):=by simp[IsKey]
 rcases findNow_spec hik es.toList 0 k1 with⟨f1,f2⟩ | ⟨j,x,f1,f2,f3⟩
 ·have hf:=run_findKey (w:=w) hk f1
  have hc:=run_checkKey (w:=w) hk hik false 9999;have hset:=MapKept.run_setObj_map (P:=P) (.map (es.push { key:=.string s,val:=.bool true,born:=clock }) (clock+1)) h1;obtain⟨g1,g2⟩:=heap_set (o':=.map (es.push { key:=.string s,val:=.bool true,born:=clock }) (clock+1)) h1;refine⟨{ w with heap:=w.heap.setIfInBounds b (.map (es.push { key:=.string s,val:=.bool true,born:=clock }) (clock+1)) },?_,⟨_,_,g1,?_⟩,⟨rfl,rfl,rfl,Sm,fun q _ hq=>g2 q (fun e=>hq (by rw[e]))⟩⟩
  ·simp[Instr.mapUpdate,run_underlying ht,MapKept.run_getObj_map h1,hc,hf,hset,Result.andThen]
  ·simp[h2]
 ·exact absurd ((k3 s).1 ⟨x,List.mem_of_getElem? f2,f3⟩) hs
end
end Go.Proofs.YtngekjpklkjnbaaGreat
namespace Go.Proofs.YtngekjpklkjnbaaGreat
open Go.RowKit
end Go.Proofs.YtngekjpklkjnbaaGreat
namespace Go.Proofs.YtngekjpklkjnbaaGreat
def Yx (r:List Ins) (g:Int):Bool:=r.any fun x=>ZG x.op&&x.Ya==g
def Ul (p:List (List Ins)) (l:Int):Bool:=p.any fun row=>row.any fun x=>ZR x.op&&x.loc==l
end Go.Proofs.YtngekjpklkjnbaaGreat
namespace Go.Proofs.YtngekjpklkjnbaaGreat
open Go.RowKit
def Rz:List Int→List Int→Int
 | x :: xs,y :: ys=>if x < y then -1 else if y < x then 1 else Rz xs ys
 | _,_=>0
theorem Mg {a b:List Int}{k:Nat}{x y:Int}(hx:a[k]? = some x) (hy:b[k]? = some y):Rz (a.drop k) (b.drop k)=if x < y then -1 else if y < x then 1 else Rz (a.drop (k+1)) (b.drop (k+1)):=by
 obtain⟨hk,rfl⟩:=List.getElem?_eq_some_iff.1 hx;obtain⟨hk',rfl⟩:=List.getElem?_eq_some_iff.1 hy;rw[List.drop_eq_getElem_cons hk,List.drop_eq_getElem_cons hk',Rz]
theorem Mi {a b:List Int}(h:a.length=b.length):Rz a b=0↔a=b:=by
 induction a generalizing b with
 | nil=>cases b <;> simp_all [Rz]
 | cons x a ih =>
  cases b with
  | nil=>simp at h
  | cons y b =>
   simp only[Rz];have:=ih (b:=b) (by simpa using h);split
   ·constructor
    ·intro h;omega
    ·intro h;simp at h;omega
   ·split
    ·constructor
     ·intro h;omega
     ·intro h;simp at h;omega
    ·rw[this]
     constructor
     ·intro h;rw[h,show x=y by omega]
     ·intro h;simp at h;exact h.2
theorem Hv {a b:List Int}{k:Nat}(h:a.length≤k∨b.length≤k):Rz (a.drop k) (b.drop k)=0:=by
 rcases h with h | h
 ·rw[List.drop_of_length_le h];simp[Rz]
 ·rw[List.drop_of_length_le h];cases a.drop k <;> simp[Rz]
theorem VB (v v':Value) (xs ys:List Int) (w:World) (hx:ZC Zq w v xs) (hy:ZC Zq w v' ys) :
 Calls Tryz.prog 94 #[v,v'] w fun e w'=>e = .returned (.int .i64 (Rz xs ys))∧Below w.heap.size w w':=by
 obtain⟨a,c,rfl,hc1,hc2,hc3,hx⟩:=hx.open;obtain⟨a',c',rfl,hc1',hc2',hc3',hy⟩:=hy.open;have HX:=Za hx;clear hx;have HY:=Za hy;clear hy;have HS:Hid (Rz (xs.drop 0) (ys.drop 0)=Rz xs ys):=Za Sm;generalize hR:Rz xs ys=R at *;clear hR;generalize hn:xs.length=n at *;generalize hn':ys.length=n' at *;have H:=Za hn;clear hn;have H':=Za hn';clear hn';go_enter Tryz.func94,Tryz.ntmps94;go_wp2_with fail
 go_loopw [5] (fun v wr => ∃ k:Nat,k≤n∧k≤n'∧v = .int .i64 k∧Hid (Rz (xs.drop k) (ys.drop k)=R)∧Below w.heap.size w wr) (fun v _=>n - (intOf v).toNat)
 case atStart=>exact⟨0,Nat.zero_le _,Nat.zero_le _,rfl,HS,Below.refl _ _⟩
 case round =>
  obtain⟨k,hk,hk',rfl,T,hb⟩:=hrel;by_cases hlt:k < n
  ·have hlt1:=Zh hlt
   by_cases hlt2:k < n'
   ·have hlt3:=Zh hlt2
    obtain⟨x,hxk⟩:=Zd (xs:=xs) (k:=k) (by rw[H.out];exact hlt);obtain⟨y,hyk⟩:=Zd (xs:=ys) (k:=k) (by rw[H'.out];exact hlt2);obtain⟨b,o,rfl,hbl,i0⟩:=(HX.out.below hb).int hxk;obtain⟨b',o',rfl,hbl',j0⟩:=(HY.out.below hb).int hyk;have ST:=Za (Mg hxk hyk);clear hxk hyk;by_cases hxy:x < y
    ·have E:Hid (R = -1):=Za (by rw[← T.out,ST.out,if_pos hxy])
     go_wp2_with fail;refine Zo Kr Kr ?_
     repeat (go_big_quiet_step (fail))
     refine wpQuiet_nil ?_;intro w1 hw1;obtain⟨c1,-⟩:=UG hw1;go_wp2_with fail;go_ret;rw[E.out];exact⟨rfl,hb.trans (hw1.mono hb.size)⟩
    ·have E0:Hid ((if y < x then 1 else Rz (xs.drop (k+1)) (ys.drop (k+1)))=R):=Za (by rw[← T.out,ST.out,if_neg hxy])
     have hxy':y≤x:=Int.not_lt.1 hxy;clear hxy;go_wp2_with fail;refine Zo Kr Kr ?_
     repeat (go_big_quiet_step (fail))
     refine wpQuiet_nil ?_;intro w1 hw1;obtain⟨c1,-⟩:=UG hw1;have hbl1:b < w1.heap.size:=by have:=hw1.size;omega
     have hbl1':b' < w1.heap.size:=by have:=hw1.size;omega
     have i1:=(c1 b (o+k) hbl).trans i0;have j1:=(c1 b' (o'+k) hbl').trans j0;by_cases hyx:y < x
     ·have E:Hid (R=1):=Za (by rw[← E0.out,if_pos hyx])
      go_wp2_with fail;refine Zo Kr Kr ?_
      repeat (go_big_quiet_step (fail))
      refine wpQuiet_nil ?_;intro w2 hw2;go_wp2_with fail;go_ret;rw[E.out];exact⟨rfl,(hb.trans (hw1.mono hb.size)).trans (hw2.mono (by have:=hb.size;have:=hw1.size;omega))⟩
     ·have E:Hid (Rz (xs.drop (k+1)) (ys.drop (k+1))=R):=Za (by rw[← E0.out,if_neg hyx])
      have hyx':x≤y:=Int.not_lt.1 hyx;clear hyx;go_wp2_with fail;refine Zo Kr Kr ?_
      repeat (go_big_quiet_step (fail))
      refine wpQuiet_nil ?_;intro w2 hw2;go_wp2_with fail;go_roundw
      case rel=>exact⟨k+1,Om,Om,Gn,E,(hb.trans (hw1.mono hb.size)).trans (hw2.mono (by have:=hb.size;have:=hw1.size;omega))⟩
      case measure=>simp[intOf];omega
   ·have hlt3:decide ((k:Int) < n')=false:=So
    have E:Hid (R=0):=Za (by rw[← T.out];exact Hv (.inr (by rw[H'.out];omega)));go_wp2_with fail;go_ret;rw[E.out];exact⟨rfl,hb⟩
  ·have hlt3:decide ((k:Int) < n)=false:=So
   have E:Hid (R=0):=Za (by rw[← T.out];exact Hv (.inl (by rw[H.out];omega)));go_wp2_with fail;go_ret;rw[E.out];exact⟨rfl,hb⟩
abbrev UE (w:World) (v:Value) (p:List (List Int)):Prop:=YV Zq w v p
theorem GF (v v':Value) (xs ys:List Int) (w:World) (hx:ZC Zq w v xs) (hy:ZC Zq w v' ys) :
 Calls Tryz.prog 73 #[v,v'] w fun e w'=>e = .returned (.bool (decide (xs=ys)))∧Below w.heap.size w w':=by
 obtain⟨a,c,rfl,hc1,hc2,hc3,hx⟩:=hx.open;obtain⟨a',c',rfl,hc1',hc2',hc3',hy⟩:=hy.open;have HX:=Za hx;clear hx;have HY:=Za hy;clear hy;generalize hn:xs.length=n at *;generalize hn':ys.length=n' at *;have H:=Za hn;clear hn;have H':=Za hn';clear hn';by_cases hc:n=n'
 ·subst hc
  have hc':((n:Int) != n)=false:=by simp
  go_enter Tryz.func73,Tryz.ntmps73;go_wp2_with fail
  go_loopw [13] (fun v wr => ∃ k:Nat,k≤n∧v = .int .i64 k∧Hid (xs.take k=ys.take k)∧Below w.heap.size w wr) (fun v _=>n - (intOf v).toNat)
  case atStart=>exact⟨0,Nat.zero_le _,rfl,Za Sm,Below.refl _ _⟩
  case round =>
   obtain⟨k,hk,rfl,T,hb⟩:=hrel;by_cases hlt:k < n
   ·obtain⟨x,hxk⟩:=Zd (xs:=xs) (k:=k) (by rw[H.out];exact hlt)
    obtain⟨y,hyk⟩:=Zd (xs:=ys) (k:=k) (by rw[H'.out];exact hlt);obtain⟨b,o,rfl,hbl,i0⟩:=(HX.out.below hb).int hxk;obtain⟨b',o',rfl,hbl',j0⟩:=(HY.out.below hb).int hyk;have hlt':=Zh hlt;have X:=Za hxk;clear hxk;have Y:=Za hyk;clear hyk;by_cases hxy:x=y
    ·have T':=Za (QE T.out X.out Y.out hxy)
     have hd:(x != y)=false:=by simp[hxy]
     clear hxy;go_wp2_with fail;refine Zo Kr Kr ?_
     repeat (go_big_quiet_step (fail))
     refine wpQuiet_nil ?_;intro w1 hb1;have hb2:=hb.trans (hb1.mono hb.size);go_wp2_with fail;go_roundw
     case rel=>exact⟨k+1,Om,Gn,T',hb2⟩
     case measure=>simp[intOf];omega
    ·have hq:=KL X.out Y.out hxy
     have hd:(x != y)=true:=by simp[hxy]
     clear hxy;go_wp2_with fail;refine Zo Kr Kr ?_
     repeat (go_big_quiet_step (fail))
     refine wpQuiet_nil ?_;intro w1 hb1;have hb2:=hb.trans (hb1.mono hb.size);go_wp2_with fail;go_ret;exact⟨by simp[hq],hb2⟩
   ·have e2:xs=ys:=Jw T.out (by rw[H.out];omega) (by rw[H'.out];omega)
    subst e2;go_wp2_with fail;go_ret;exact⟨Sm,hb⟩
 ·have hc':((n:Int) != n')=true:=So
  have hq:xs≠ys:=fun h=>hc (by rw[← H.out,← H'.out,h]);go_enter Tryz.func73,Tryz.ntmps73;go_wp2_with fail;go_ret;exact⟨by simp[hq],Below.refl _ _⟩
theorem Qm {P:Program}{sz:Nat}(w:World) (dT sT ty elem:TypeId) (g o dLen dCap:Nat) (a:Addr) (sLen sCap:Nat) (cur:Array Value) (t:TypeId) (cs:List Value)
 (hu:P.underlying dT=some (.slice elem)) (hs:(P.info? elem).map (·.size)=some sz)
 (hg:w.heap[g]? = some (.cells cur t (0,0))) (hn:cs.length=Nat.min sLen dLen * sz)
 (hsrc:∀ j v,cs[j]? = some v→w.cell? (a.add j)=some v) (hfit:o+cs.length≤cur.size) (h1:∀ v∈cs,v.oneCell'=true) :
 (Builtin.copy_ #[dT,sT] ty #[.slice (some ⟨g,o,none⟩) dLen dCap,.slice (some a) sLen sCap]).run P w =
  .ok (goInt (Nat.min sLen dLen)) (w.setRow g (cur.toList.take o++cs++cur.toList.drop (o+cs.length)).toArray):=by
 have hl:=run_loadCells_list (P:=P) w a cs hsrc;have hst:=run_storeCells_at P g o t cs 0 cur w hg (by simpa using hfit) h1;cases hq:P.info? elem with
 | none=>simp[hq]at hs
 | some i =>
  have hi:i.size=sz:=by simpa[hq] using hs
  simp[Builtin.copy_,run_underlying hu,Builtin.lenOf,Builtin.firstCells,sizeOf,typeInfo,hq,hi,← hn,hl,hst]
theorem Br {P:Program}(w:World) {ops:Array Oper}{rest:List Oper}{o:Oper}{a:Act}{Q:Exit→Act→World→Prop}(hgd:o.guard=none) (d s:Operand) (t t':TypeId)
 (ho:o.op = .call { callee:=.builtin .copy,args:=#[d,s],argTypes:=#[t,t'] }) (v u:Value) (hd:a.eval d=v) (hs:a.eval s=u) {v':Value}{w':World}
 (hr:(Builtin.copy_ #[t,t'] o.type #[v,u]).run P w = .ok v' w') (h:wpList P ops Q rest (a.put o.dst v') w'):wpList P ops Q (o :: rest) a w:=by
 refine wpList_plain hgd fun K hK => ?_;unfold Oper.wp execOp;simp only[ho,resolve,invoke,builtin,Sem.run_bind,Sem.run_pure,Result.andThen_ok,List.map_toArray,List.map_cons,List.map_nil,hd,hs,hr];exact hK _ _ h
theorem Ia {P:Program}{ops:Array Oper}{o:Oper}{a:Act}{w:World}{K:Act→World→Prop}{Q:Exit→Act→World→Prop}{E:Prop}
 (hg:o.guard=none) (d x:Operand) (dT sT:TypeId) (hop:o.op=Op.call { callee:=Callee.builtin Builtin.copy,args:=#[d,x],argTypes:=#[dT,sT] })
 (v u:Value) (hd:a.eval d=v) (hx:a.eval x=u) {v':Value}{w':World}(hr:(Builtin.copy_ #[dT,sT] o.type #[v,u]).run P w = .ok v' w') (hK:K (a.put o.dst v') w') :
 if Region.wanted o (yielded ops a.tmps)=true then Oper.wp P o a w K Q else E:=by
 have hw:Region.wanted o (yielded ops a.tmps)=true:=by simp[Region.wanted,hg]
 rw[if_pos hw];unfold Oper.wp;simp[execOp,hop,resolve,invoke,builtin,hd,hx,hr,Result.andThen];exact hK
theorem cell_of_heap {w:World}{b k:Nat}{cur:Array Value}{t:TypeId}{v:Value}(h:w.heap[b]? = some (.cells cur t (0,0))) (hk:cur[k]? = some v):w.cell? ⟨b,k,none⟩=some v:=by
 simp[World.cell?,h,hk]
theorem Kl (b o j:Nat):(⟨b,o,none⟩:Addr).add j=⟨b,o+j,none⟩:=by unfold Addr.add;split <;> simp_all
def Gu (w:World) (base:Nat) (v:Value) (ys:List Ins) (e:Ending) (w':World):Prop:=
 ∃ v',e = .returned v'∧Own Zx 44 w' base v' ys∧w.grownBy w' v.ownBlock∧(v'.ownBlock=v.ownBlock∨∀ q,v'.ownBlock=some q→w.heap.size≤q)
theorem AU (x:Ins):Zx.c x=[.int .i64 x.op,.int .i64 x.loc,.int .i64 x.Ya,.int .i64 x.val]:=rfl
theorem Nw (w:World):(Go.sizeOf 44).run Tryz.prog w = .ok 4 w:=by
 obtain⟨it,hi,hz0,hz1,hz2⟩:=info_parts Tryz.Xe;simp[sizeOf,typeInfo,hi,hz1]
theorem Ui (w:World) (g:Nat) (vs:Array Value):w.grownBy (w.setRow g vs) (some g):=⟨rfl,rfl,rfl,Sm,fun k _ hk=>setRow_other w g k _ (fun e=>hk (by simp[e]))⟩
theorem KD {α:Type}(a b:List α) (n:Nat) (h:a.length=n):(a++b).take n=a:=by subst h;simp
theorem LO {α:Type}(a b:List α) (n:Nat) (h:a.length=n):(a++b).drop n=b:=by subst h;simp
theorem Bz (g n cap i vb base:Nat) (xs:List Ins) (x:Ins) (w:World) (h:Own Zx 44 w base (.slice (some ⟨g,0,none⟩) n cap) xs) (hi:i < n) (hl:n≤1048576) (hroom:n+1≤cap) (hvb:vb≠g)
 (hv:w.heap[vb]? = some (.cells #[.int .i64 x.op,.int .i64 x.loc,.int .i64 x.Ya,.int .i64 x.val] 44 (0,0))) :
 Calls Tryz.prog 57 #[.slice (some ⟨g,0,none⟩) n cap,.int .i64 i,.slice (some ⟨vb,0,none⟩) 1 1] w (Gu w base (.slice (some ⟨g,0,none⟩) n cap) (xs.take i++x :: xs.drop i)):=by
 have hln:=h.len;rcases h.2 with⟨h2,_⟩ | ⟨g',cap',cur,h2,hb,hg,hnc,hcm,hcs,htake⟩
 ·simp at h2
 simp only[Value.slice.injEq,Option.some.injEq,Addr.mk.injEq,and_true]at h2;obtain⟨-,rfl,rfl⟩:_∧g=g'∧cap=cap':=by
  refine⟨trivial,?_,?_⟩ <;> simp_all
 rw[← hln]at htake hnc;have hcs:cur.size=cap * 4:=hcs;have htake:cur.toList.take (n * 4)=xs.flatMap Zx.c:=htake;have hXl:(xs.flatMap Zx.c).length=n * 4:=by rw[Zx.length,← hln];rfl
 have hDl:((xs.drop i).flatMap Zx.c).length=(n - i) * 4:=by rw[Zx.length,List.length_drop,← hln];rfl
 have hTl:((xs.take i).flatMap Zx.c).length=i * 4:=by rw[Zx.length,List.length_take,← hln,Nat.min_eq_left Om];rfl
 have hsplit:xs.flatMap Zx.c=(xs.take i).flatMap Zx.c++(xs.drop i).flatMap Zx.c:=by rw[← List.flatMap_append,List.take_append_drop]
 have hcurl:cur.toList.length=cap * 4:=by rw[Array.length_toList,hcs]
 have hgw:g < w.heap.size:=(Array.getElem?_eq_some_iff.1 hg).1;have hcelli:∀ k v,(xs.flatMap Zx.c)[k]? = some v→cur[k]? = some v:=fun k v hk=>by
  rw[← htake,List.getElem?_take]at hk;split at hk
  ·rw[Array.getElem?_toList]at hk;exact hk
  ·cases hk
 obtain⟨C1,hC1⟩:∃ C1:Array Value,C1=(cur.toList.take ((i+1) * 4)++(xs.drop i).flatMap Zx.c++cur.toList.drop ((i+1) * 4+((xs.drop i).flatMap Zx.c).length)).toArray:=⟨_,rfl⟩
 have hsz:(Tryz.prog.info? 44).map (·.size)=some 4:=Kr;have hC1s:C1.size=cap * 4:=by
  rw[hC1];simp only[List.size_toArray,List.length_append,List.length_take,List.length_drop,hDl,hcurl];omega
 have hcp1:∀ ty dc sc,(Builtin.copy_ #[42,42] ty #[.slice (some ⟨g,(i+1) * 4,none⟩) (n+1 - (i+1)) dc,.slice (some ⟨g,i * 4,none⟩) (n+1 - i) sc]).run Tryz.prog w.drew = .ok (goInt (n - i:Nat)) (w.drew.setRow g C1):=fun ty dc sc=>by
  have hm:Nat.min (n+1 - i) (n+1 - (i+1))=n - i:=by simp only[Nat.min_def];split <;> omega
  have:=Qm (P:=Tryz.prog) (sz:=4) w.drew 42 42 ty 44 g ((i+1) * 4) (n+1 - (i+1)) dc ⟨g,i * 4,none⟩ (n+1 - i) sc cur 44 ((xs.drop i).flatMap Zx.c) Tryz.underlying42 hsz hg (by rw[hDl,hm])
   (fun j v hj=>by
    rw[Kl];refine cell_of_heap (w:=w.drew) hg (hcelli _ v ?_);rw[hsplit,List.getElem?_append_right Om,hTl,Nat.add_sub_cancel_left];exact hj) (by rw[hDl,hcs];omega) (fun v hv=>by
    rw[List.mem_flatMap]at hv;obtain⟨y,_,hy⟩:=hv;exact Zx.one y v hy)
  rw[this,hm,hC1]
 obtain⟨C2,hC2⟩:∃ C2:Array Value,C2=(C1.toList.take (i * 4)++Zx.c x++C1.toList.drop (i * 4+(Zx.c x).length)).toArray:=⟨_,rfl⟩
 have hg1:(w.drew.setRow g C1).heap[g]? = some (.cells C1 44 (0,0)):=setRow_heap w.drew g cur _ _ _ hg;have hv1:(w.drew.setRow g C1).heap[vb]? = some (.cells #[.int .i64 x.op,.int .i64 x.loc,.int .i64 x.Ya,.int .i64 x.val] 44 (0,0)):=(setRow_other w.drew g vb _ hvb).trans hv;have hcp2:∀ (W:World),W.heap=(w.drew.setRow g C1).heap→∀ ty dc,(Builtin.copy_ #[42,42] ty #[.slice (some ⟨g,i * 4,none⟩) (n+1 - i) dc,.slice (some ⟨vb,0,none⟩) 1 1]).run Tryz.prog W = .ok (goInt 1) (W.setRow g C2):=fun W hW ty dc=>by
  have hm:Nat.min 1 (n+1 - i)=1:=by simp only[Nat.min_def];split <;> omega
  have:=Qm (P:=Tryz.prog) (sz:=4) W 42 42 ty 44 g (i * 4) (n+1 - i) dc ⟨vb,0,none⟩ 1 1 C1 44 (Zx.c x) Tryz.underlying42 hsz (by rw[hW];exact hg1) (by rw[hm];rfl)
   (fun j v hj=>by
    rw[Kl];refine cell_of_heap (w:=W) (by rw[hW];exact hv1) ?_;rw[Nat.zero_add];simpa[AU] using hj) (by rw[hC1s];show i * 4+4≤_;omega) (Zx.one x)
  rw[this,hm,hC2];rfl
 have hfin:C2.toList.take ((n+1) * 4)=(xs.take i++x :: xs.drop i).flatMap Zx.c:=by
  have e1:C1.toList.take (i * 4)=(xs.take i).flatMap Zx.c:=by
   rw[hC1,List.append_assoc,List.take_append_of_le_length (by rw[List.length_take,hcurl];omega),List.take_take,Nat.min_eq_left Om];have:(xs.flatMap Zx.c).take (i * 4)=(xs.take i).flatMap Zx.c:=by rw[hsplit];exact KD _ _ _ hTl
   rw[← this,← htake,List.take_take,Nat.min_eq_left Om]
  have e2:C1.toList.drop (i * 4+(Zx.c x).length)=(xs.drop i).flatMap Zx.c++cur.toList.drop ((i+1) * 4+((xs.drop i).flatMap Zx.c).length):=by
   have:i * 4+(Zx.c x).length=(i+1) * 4:=by show i * 4+4=_;omega
   rw[this,hC1,List.append_assoc];exact LO _ _ _ (by rw[List.length_take,hcurl];omega)
  rw[hC2,e1,e2,List.flatMap_append,List.flatMap_cons];show (((xs.take i).flatMap Zx.c++Zx.c x++_)).take _=_;rw[← List.append_assoc,KD _ _ _ (by
   rw[List.length_append,List.length_append,hTl,hDl];show i * 4+4+_=_;omega)]
  simp
 have hC2s:C2.size=cap * 4:=by
  rw[hC2];simp only[List.size_toArray,List.length_append,List.length_take,List.length_drop,Array.length_toList,hC1s];show min (i * 4) (cap * 4)+4+(cap * 4 - (i * 4+4))=_;omega
 have hov:∀ lb cb,(callFunc 87 #[.slice (some ⟨vb,0,none⟩) 1 1,.slice (some ⟨g,(i+1) * 4,none⟩) lb cb]).run Tryz.prog w = .ok (.value (.bool false)) w:=fun lb cb=>by
  rw[run_callFunc_extern Tryz.func87 Kr Kr Kr (e:=Extern.SlicesOverlaps.overlaps #[42,42] #[4]) Kr,
   Lib.run_overlaps_apart w 42 4 44 Tryz.underlying42 4 Nw ⟨vb,0,none⟩ ⟨g,(i+1) * 4,none⟩ 1 1 lb cb hvb 44 44 4 (cap * 4) (by simp[World.shape?,hv]) (by simp[World.shape?,hg,hcs]) Om (by simp[World.frozen?,hv]) (by simp[World.frozen?,hv])]
  rfl
 have hw1:¬ ((i:Int)=(n:Int)):=Om;have hw0:IntKind.i64.wrap ((i:Int)+1)=(i:Int)+1:=by rw[IntKind.wrap_i64];omega
 have hb1:(0:Int)≤(i:Int)+1:=Om;have hin:i≤n:=Om;have htn:((i:Int)+1).toNat=i+1:=Om;have hb2:¬ (cap=i+1):=Om;have hb3:(i:Int)≤(n:Int)+1:=Om;have hb4:¬ (cap=i):=Om;have hm63:cap≤9223372036854775807:=by unfold maxLen at hcm;omega
 have HLN:=Za hln;clear htake hC1 hC2 hsplit hcelli hXl hDl hTl hln h2;go_enter Tryz.func57,Tryz.ntmps57;go_wp2_with (simp only[hov])
 go_region_law (refine Ia rfl _ _ 42 42 rfl (.slice (some ⟨g,(i+1) * 4,none⟩) (n+1 - (i+1)) (cap - (i+1))) (.slice (some ⟨g,i * 4,none⟩) (n+1 - i) (cap - i)) (by simp[Act.eval,Act.put]) (by simp[Act.eval,Act.put]) (hcp1 _ _ _) ?_)
 all_goals
  go_wp2_with (at_builtin;refine Br _ rfl _ _ 42 42 rfl _ _ rfl rfl (hcp2 _ rfl _ _) ?_);go_ret;have hL:(xs.take i++x :: xs.drop i).length=n+1:=by
   have:=HLN.out;simp;omega
  have hown:Own Zx 44 ((w.drew.setRow g C1).setRow g C2) base (.slice (some ⟨g,0,none⟩) (n+1) cap) (xs.take i++x :: xs.drop i):=
   ⟨by rw[Zx.length],.inr ⟨g,cap,C2,by rw[hL],hb,setRow_heap _ g C1 _ _ _ hg1,by rw[hL];omega,hcm,hC2s,by rw[hL];exact hfin⟩⟩
  have hgd:w.grownBy w.drew (some g):=⟨rfl,rfl,rfl,Nat.le_refl _,fun _ _ _=>rfl⟩
  exact⟨_,rfl,hown,UQ (UQ hgd (Ui w.drew g C1)) (Ui _ g C2),.inl rfl⟩
theorem By (g n cap i vb base:Nat) (xs:List Ins) (x:Ins) (w:World) (h:Own Zx 44 w base (.slice (some ⟨g,0,none⟩) n cap) xs) (hi:i < n) (hl:n≤1048576) (hroom:¬ n+1≤cap)
 (hv:w.heap[vb]? = some (.cells #[.int .i64 x.op,.int .i64 x.loc,.int .i64 x.Ya,.int .i64 x.val] 44 (0,0))) (hbase:base≤w.heap.size) :
 Calls Tryz.prog 57 #[.slice (some ⟨g,0,none⟩) n cap,.int .i64 i,.slice (some ⟨vb,0,none⟩) 1 1] w (Gu w base (.slice (some ⟨g,0,none⟩) n cap) (xs.take i++x :: xs.drop i)):=by
 have hln:=h.len;have hgl:=World.ownsRow.lt h g rfl;have hlen2:n≤cap:=by
  rcases h.shape with⟨h1,_⟩ | ⟨g2,cap2,h1,_,_,h2,_⟩
  ·simp at h1
  ·simp only[Value.slice.injEq]at h1
   rw[h1.2.2];omega
 have hcell:∀ k v,(xs.flatMap Zx.c)[k]? = some v→w.cell? ⟨g,k,none⟩=some v:=fun k v hk=>by
  have hkl:k < n * 4:=by
   have:=(List.getElem?_eq_some_iff.1 hk).1;rw[Zx.length]at this;rw[hln];exact this
  have hke:k=k / 4 * 4+k % 4:=Om;obtain⟨y,hy⟩:=Zd (xs:=xs) (k:=k / 4) Om;have hk2:(xs.flatMap Zx.c)[k / 4 * Zx.sz+k % 4]? = some v:=by
   rw[show k / 4 * Zx.sz+k % 4=k from hke.symm];exact hk
  rw[Zx.get xs (k / 4) (k % 4) (by show k % 4 < 4;omega),hy]at hk2;have:=h.cell hy (j:=k % 4) hk2;rw[show k / 4 * Zx.sz+k % 4=k from hke.symm]at this;exact this
 have hXl:(xs.flatMap Zx.c).length=n * 4:=by rw[Zx.length,← hln];rfl
 have hDl:((xs.drop i).flatMap Zx.c).length=(n - i) * 4:=by rw[Zx.length,List.length_drop,← hln];rfl
 have hTl:((xs.take i).flatMap Zx.c).length=i * 4:=by rw[Zx.length,List.length_take,← hln,Nat.min_eq_left Om];rfl
 have hsplit:xs.flatMap Zx.c=(xs.take i).flatMap Zx.c++(xs.drop i).flatMap Zx.c:=by rw[← List.flatMap_append,List.take_append_drop]
 have hsz:(Tryz.prog.info? 44).map (·.size)=some 4:=Kr;obtain⟨it,hit,hz0,hz1,hz2⟩:=info_parts Tryz.Xe;have hit4:it.size=4:=hz1;obtain⟨G,hG⟩:∃ G,G=grownCap w (n+1) cap 44:=⟨_,rfl⟩
 obtain⟨ROW,hROW⟩:∃ ROW:Array Value,ROW=((xs.take i).flatMap Zx.c).toArray++Builtin.zeroCells (Value.agg #[.int .i64 0,.int .i64 0,.int .i64 0,.int .i64 0]).cells (n+1 - i)++Builtin.zeroCells (Value.agg #[.int .i64 0,.int .i64 0,.int .i64 0,.int .i64 0]).cells (G - (n+1)):=⟨_,rfl⟩
 have hGn:n+1≤G:=by rw[hG];exact grownCap_ge w _ _ _
 have hGm:G≤maxLen:=by rw[hG];exact grownCap_le_maxLen w (n+1) cap _ (by unfold maxLen;omega)
 have hG63:G≤9223372036854775807:=by unfold maxLen at hGm;omega
 have hz4:((Value.agg #[.int .i64 0,.int .i64 0,.int .i64 0,.int .i64 0]).cells).size=4:=Rf;have hRs:ROW.size=G * 4:=by
  rw[hROW];simp only[Array.size_append,List.size_toArray,hTl,Builtin.zeroCells,Array.size_map,Array.size_range,hz4];omega
 have hkk:(n:Int)+1 - (i:Int)=((n+1 - i:Nat):Int):=Om;have hik:i+(n+1 - i)=n+1:=Om;have hold:(Builtin.firstCells it.size i (.slice (some ⟨g,0,none⟩) i cap)).run Tryz.prog w.drew = .ok ((xs.take i).flatMap Zx.c).toArray w.drew:=by
  refine run_firstCells_some w.drew it.size i ⟨g,0,none⟩ i cap _ (by rw[hTl,hit4]) (fun j v hj => ?_);rw[Kl,Nat.zero_add];refine hcell j v ?_;have hjl:=(List.getElem?_eq_some_iff.1 hj).1;rw[hsplit,List.getElem?_append_left hjl];exact hj
 have hrz:∀ ty,(Builtin.append_ #[42,3] ty #[.slice (some ⟨g,0,none⟩) i cap,.int .i64 ((n:Int)+1 - (i:Int))]).run Tryz.prog w =
  .ok (.slice (some ⟨w.heap.size,0,none⟩) (n+1) G) (w.drew.alloc (.cells ROW 44)):=fun ty=>by
  have h:=Lib.run_append_grow_zeros w 42 3 ty 44 it _ .i64 .i64 Tryz.underlying42 Tryz.underlying3 hit hz0 (some ⟨g,0,none⟩) i cap _ hold (n+1 - i) Om Om Om Om (by rw[hz2];omega) (by rw[hz2,hik];exact growslice_fits Om Om);rw[hik,← hG,← hROW]at h;rw[hkk];exact h
 have hgw:g < w.heap.size:=hgl.2;have hvw:vb < w.heap.size:=(Array.getElem?_eq_some_iff.1 hv).1;have hRt:ROW.toList.take (i * 4)=(xs.take i).flatMap Zx.c:=by
  rw[hROW];simp only[Array.toList_append,List.append_assoc];exact KD _ _ _ hTl
 have hRl:ROW.toList.length=G * 4:=by rw[Array.length_toList,hRs]
 obtain⟨C1,hC1⟩:∃ C1:Array Value,C1=(ROW.toList.take (i * 4)++Zx.c x++ROW.toList.drop (i * 4+(Zx.c x).length)).toArray:=⟨_,rfl⟩
 have hXc:(Zx.c x).length=4:=rfl;have hC1s:C1.size=G * 4:=by
  rw[hC1];simp only[List.size_toArray,List.length_append,List.length_take,List.length_drop,hRl,hXc];omega
 obtain⟨C2,hC2⟩:∃ C2:Array Value,C2=(C1.toList.take ((i+1) * 4)++(xs.drop i).flatMap Zx.c++C1.toList.drop ((i+1) * 4+((xs.drop i).flatMap Zx.c).length)).toArray:=⟨_,rfl⟩
 have hC1l:C1.toList.length=G * 4:=by rw[Array.length_toList,hC1s]
 have hC2s:C2.size=G * 4:=by
  rw[hC2];simp only[List.size_toArray,List.length_append,List.length_take,List.length_drop,hC1l,hDl];omega
 have hC1t:C1.toList.take ((i+1) * 4)=(xs.take i).flatMap Zx.c++Zx.c x:=by
  rw[hC1,hRt];exact KD _ _ _ (by rw[List.length_append,hTl,hXc];omega)
 have hfin:C2.toList.take ((n+1) * 4)=(xs.take i++x :: xs.drop i).flatMap Zx.c:=by
  rw[hC2,hC1t,List.flatMap_append,List.flatMap_cons];show (((xs.take i).flatMap Zx.c++Zx.c x++(xs.drop i).flatMap Zx.c++_)).take _=_;rw[KD _ _ _ (by rw[List.length_append,List.length_append,hTl,hDl,hXc];omega)];simp
 obtain⟨N,hN⟩:∃ N,N=w.heap.size:=⟨_,rfl⟩
 have hA:(w.drew.alloc (.cells ROW 44)).heap[N]? = some (.cells ROW 44 (0,0)):=by rw[hN];exact heap_alloc_new w.drew _
 have hAo:∀ k,k < w.heap.size→(w.drew.alloc (.cells ROW 44)).heap[k]? = w.heap[k]?:=fun k hk=>heap_alloc_old w.drew _ hk;have hcpA:∀ (W:World),W.heap=(w.drew.alloc (.cells ROW 44)).heap→∀ ty dc,(Builtin.copy_ #[42,42] ty #[.slice (some ⟨N,i * 4,none⟩) (n+1 - i) dc,.slice (some ⟨vb,0,none⟩) 1 1]).run Tryz.prog W = .ok (goInt 1) (W.setRow N C1):=fun W hW ty dc=>by
  have hm:Nat.min 1 (n+1 - i)=1:=by simp only[Nat.min_def];split <;> omega
  have:=Qm (P:=Tryz.prog) (sz:=4) W 42 42 ty 44 N (i * 4) (n+1 - i) dc ⟨vb,0,none⟩ 1 1 ROW 44 (Zx.c x) Tryz.underlying42 hsz (by rw[hW];exact hA) (by rw[hm];rfl)
   (fun j v hj=>by
    rw[Kl];refine cell_of_heap (w:=W) (by rw[hW,hAo vb hvw];exact hv) ?_;rw[Nat.zero_add];simpa[AU] using hj) (by rw[hRs,hXc];omega) (Zx.one x)
  rw[this,hm,hC1];rfl
 have hcpB:∀ (W:World),W.heap=((w.drew.alloc (.cells ROW 44)).setRow N C1).heap→∀ ty dc sc,(Builtin.copy_ #[42,42] ty #[.slice (some ⟨N,(i+1) * 4,none⟩) (n+1 - (i+1)) dc,.slice (some ⟨g,i * 4,none⟩) (n - i) sc]).run Tryz.prog W = .ok (goInt (n - i:Nat)) (W.setRow N C2):=fun W hW ty dc sc=>by
  have hm:Nat.min (n - i) (n+1 - (i+1))=n - i:=by simp only[Nat.min_def];split <;> omega
  have:=Qm (P:=Tryz.prog) (sz:=4) W 42 42 ty 44 N ((i+1) * 4) (n+1 - (i+1)) dc ⟨g,i * 4,none⟩ (n - i) sc C1 44 ((xs.drop i).flatMap Zx.c) Tryz.underlying42 hsz
   (by rw[hW];exact setRow_heap _ N ROW _ _ _ hA) (by rw[hm,hDl])
   (fun j v hj=>by
    rw[Kl];have h1:w.cell? ⟨g,i * 4+j,none⟩=some v:=hcell _ v (by rw[hsplit,List.getElem?_append_right Om,hTl,Nat.add_sub_cancel_left];exact hj);rw[← h1];have h2:W.heap[g]? = w.heap[g]?:=by rw[hW,← hAo g hgw];exact setRow_other _ N g _ Om
    unfold World.cell?;rw[h2]) (by rw[hDl,hC1s];omega) (fun v hv=>by
    rw[List.mem_flatMap]at hv;obtain⟨y,_,hy⟩:=hv;exact Zx.one y v hy)
  rw[this,hm,hC2]
 have hw1:¬ ((i:Int)=(n:Int)):=Om;have hw0:IntKind.i64.wrap ((i:Int)+1)=(i:Int)+1:=by rw[IntKind.wrap_i64];omega
 have hw3:(cap:Int) < (n:Int)+1:=Om;have hb1:(0:Int)≤(i:Int)+1:=Om;have hin:i≤n:=Om;have htn:((i:Int)+1).toNat=i+1:=Om;have hb2:¬ (cap=i+1)∨True:=.inr trivial;have hb3:(i:Int)≤(n:Int)+1:=Om;have hb4:¬ (cap=i):=Om;have hb5:¬ (G=i):=Om;have hb6:¬ (G=i+1):=Om;have hgd:w.grownBy w.drew (some g):=⟨rfl,rfl,rfl,Nat.le_refl _,fun _ _ _=>rfl⟩
 have hga:w.grownBy (w.drew.alloc (.cells ROW 44)) (some g):=⟨rfl,rfl,rfl,Sm,fun k hk _=>hAo k hk⟩
 have hgr:w.grownBy ((((w.alloc (.cells ROW 44)).drew.setRow N C1).drew).setRow N C2) (some g):=⟨rfl,rfl,rfl,Sm,fun k hk _=>by
  rw[setRow_other _ N k _ Om];exact(setRow_other (w.drew.alloc (.cells ROW 44)) N k _ Om).trans (hAo k hk)⟩
 have hL:(xs.take i++x :: xs.drop i).length=n+1:=So;have hown:Own Zx 44 ((((w.alloc (.cells ROW 44)).drew.setRow N C1).drew).setRow N C2) base (.slice (some ⟨N,0,none⟩) (n+1) G) (xs.take i++x :: xs.drop i):=
  ⟨by rw[Zx.length],.inr ⟨N,G,C2,by rw[hL],Om,setRow_heap _ N C1 _ _ _ (setRow_heap _ N ROW _ _ _ hA),by rw[hL];omega,hGm,hC2s,by rw[hL];exact hfin⟩⟩
 have FIN:Hid (Gu w base (.slice (some ⟨g,0,none⟩) n cap) (xs.take i++x :: xs.drop i) (.returned (.slice (some ⟨N,0,none⟩) (n+1) G)) ((((w.alloc (.cells ROW 44)).drew.setRow N C1).drew).setRow N C2)):=
  Za ⟨_,rfl,hown,hgr,.inr fun q hq=>by simp[Value.ownBlock]at hq;omega⟩
 have hE1:((w.alloc (.cells ROW 44)).drew).heap=(w.drew.alloc (.cells ROW 44)).heap:=rfl;have hF1:(((w.alloc (.cells ROW 44)).drew.setRow N C1).drew).heap=((w.drew.alloc (.cells ROW 44)).setRow N C1).heap:=rfl;rw[← hN]at hrz;clear hgr hga hgd hown hL hfin hC1t hC2s hC1l hC1s hXc hRl hRt hkk hik hold hROW hG hC1 hC2 hsplit hcell hXl hDl hTl hRs hz4 hA hAo hln h hN;go_enter Tryz.func57,Tryz.ntmps57;go_wp2_with (first
  | (at_builtin;refine Lib.wpList_append_run _ rfl _ _ _ _ rfl _ _ rfl rfl _ _ (hrz _) ?_)
  | (at_builtin;refine Br _ rfl _ _ 42 42 rfl _ _ rfl rfl (hcpA _ hE1 _ _) ?_))
 go_region_law (refine Ia rfl _ _ 42 42 rfl (.slice (some ⟨N,(i+1) * 4,none⟩) (n+1 - (i+1)) (G - (i+1))) (.slice (some ⟨g,i * 4,none⟩) (n - i) (cap - i)) (by simp[Act.eval,Act.put]) (by simp[Act.eval,Act.put]) (hcpB _ hF1 _ _ _) ?_)
 all_goals
  go_wp2_with fail;go_ret;exact FIN.out
theorem Fe (g n cap i vb base:Nat) (xs:List Ins) (x:Ins) (w:World) (h:Own Zx 44 w base (.slice (some ⟨g,0,none⟩) n cap) xs) (hi:i < n) (hl:n≤1048576) (hvb:vb≠g)
 (hv:w.heap[vb]? = some (.cells #[.int .i64 x.op,.int .i64 x.loc,.int .i64 x.Ya,.int .i64 x.val] 44 (0,0))) (hbase:base≤w.heap.size) :
 Calls Tryz.prog 57 #[.slice (some ⟨g,0,none⟩) n cap,.int .i64 i,.slice (some ⟨vb,0,none⟩) 1 1] w (Gu w base (.slice (some ⟨g,0,none⟩) n cap) (xs.take i++x :: xs.drop i)):=by
 by_cases hroom:n+1≤cap
 ·exact Bz g n cap i vb base xs x w h hi hl hroom hvb hv
 ·exact By g n cap i vb base xs x w h hi hl hroom hv hbase
end Go.Proofs.YtngekjpklkjnbaaGreat
namespace Go.Proofs.YtngekjpklkjnbaaGreat
end Go.Proofs.YtngekjpklkjnbaaGreat
namespace Go.Proofs.YtngekjpklkjnbaaGreat
open Go.RowKit
def KY (list:List (List Int)) (o:List Int):Bool:=list.any fun x=>decide (x=o)
def Gs (a b:List (List Int)):Bool:=a.all fun o=>KY b o
theorem J2 {α:Type}{f:α→Bool}{xs:List α}{k:Nat}{x:α}(h:(xs.take k).any f=false) (hx:xs[k]? = some x) (hf:f x=false):(xs.take (k+1)).any f=false:=by
 rw[List.take_add_one,hx,List.any_append,h];simp[hf]
theorem GM {α:Type}{f:α→Bool}{xs:List α}{k:Nat}{x:α}(hx:xs[k]? = some x) (hf:f x=true):xs.any f=true:=List.any_eq_true.2 ⟨x,List.mem_of_getElem? hx,hf⟩
theorem Km {α:Type}{f:α→Bool}{xs:List α}{k:Nat}{x:α}(h:(xs.take k).all f=true) (hx:xs[k]? = some x) (hf:f x=true):(xs.take (k+1)).all f=true:=by
 rw[List.take_add_one,hx,List.all_append,h];simp[hf]
theorem GK {α:Type}{f:α→Bool}{xs:List α}{k:Nat}{x:α}(hx:xs[k]? = some x) (hf:f x=false):xs.all f=false:=List.all_eq_false.2 ⟨x,List.mem_of_getElem? hx,by simp[hf]⟩
theorem Gi (u:Value) (x q:List Int) (b:Nat) (qa:Option Addr) (qn qc:Nat) (w:World) (hx:ZC Zq w u x) (hc:w.cell? ⟨b,0,none⟩=some (.slice qa qn qc)) (hq:ZC Zq w (.slice qa qn qc) q) :
 Calls Tryz.prog 72 #[u,.pointer (some ⟨b,0,none⟩)] w fun e w'=>e = .returned (.bool (decide (x=q)))∧Below w.heap.size w w':=by
 have HX:=Za hx;have HQ:=Za hq
 clear hx hq;go_enter Tryz.func72,Tryz.ntmps72;go_wp2_with (go_at_call 73;(with_reducible refine(GF _ _ x q w HX.out HQ.out).mono ?_);rintro e w1 ⟨rfl,hb1⟩);go_ret;exact⟨rfl,hb1⟩
def Hm (R:Bool) (w:World) (e:Ending) (w':World):Prop:=(∃ k:Int,e = .returned (.int .i64 k)∧decide (0≤k)=R)∧Below w.heap.size w w'
theorem Gg (v:Value) (p:List (List Int)) (q:List Int) (b:Nat) (qa:Option Addr) (qn qc:Nat) (w:World) (hp:UE w v p) (hcl:w.cell? ⟨b,0,none⟩=some (.slice qa qn qc)) (hq:ZC Zq w (.slice qa qn qc) q) :
 Calls Tryz.prog 98 #[v,.func (.func 72) #[] #[.pointer (some ⟨b,0,none⟩)]] w (Hm (KY p q) w):=by
 obtain⟨a,c,rfl,hc1,hc2,hc3,hp⟩:=hp.open;have HP:=Za hp;clear hp;have HQ:=Za hq;clear hq;have HN:Hid (KY p q=p.any fun x=>decide (x=q)):=Za rfl;have hbl0:=Zb hcl;have HCL:=Za hcl;clear hcl;generalize hR:KY p q=R at *;clear hR;generalize hn:p.length=n at *;have H:=Za hn;clear hn;have HPE:Hid (∀ (k:Int) (w':World),decide (0≤k)=R→Below w.heap.size w w'→Hm R w (.returned (.int .i64 k)) w'):=Za (fun k w' h1 h2=>⟨⟨k,rfl,h1⟩,h2⟩);go_enter Tryz.func98,Tryz.ntmps98;go_wp2_with fail
 go_loopw [8] (fun i wr => ∃ t:Nat,t≤n∧i = .int .i64 t∧Hid ((p.take t).any (fun x=>decide (x=q))=false)∧Below w.heap.size w wr) (fun i _=>n - (intOf i).toNat)
 case atStart=>exact⟨0,Nat.zero_le _,rfl,Za Sm,Below.refl _ _⟩
 case round =>
  obtain⟨t,ht,rfl,T,hb⟩:=hrel;by_cases hlt:t < n
  ·obtain⟨x,hxk⟩:=Zd (xs:=p) (k:=t) (by rw[H.out];exact hlt)
   obtain⟨b',o,ra,rc,rfl,hbl,i0,i1⟩:=(HP.out.below hb).row hxk;have hlt':=Zh hlt;have hcl:=(hb.cell (p:=⟨b,0,none⟩) hbl0).trans HCL.out;have HC:=Za (Gi _ x q b qa qn qc wr i1 hcl (HQ.out.below hb));have X:=Za hxk;clear hxk i1 hcl;generalize hfx:decide (x=q)=fx at *;have FX:=Za hfx;clear hfx;cases fx
   ·have T2:=Za (J2 (f:=fun x=>decide (x=q)) T.out X.out FX.out)
    go_wp2_with (go_at_call 72;(with_reducible refine HC.out.mono ?_);rintro e w2 ⟨rfl,hb2⟩);go_roundw
    case rel=>exact⟨t+1,Om,Gn,T2,hb.trans (hb2.mono hb.size)⟩
    case measure=>simp[intOf];omega
   ·have E:Hid (R=true):=Za (by rw[HN.out];exact GM X.out FX.out)
    go_wp2_with (go_at_call 72;(with_reducible refine HC.out.mono ?_);rintro e w2 ⟨rfl,hb2⟩);go_ret;exact HPE.out _ _ (by rw[E.out];simp) (hb.trans (hb2.mono hb.size))
  ·have E:Hid (R=false):=Za (by have h:=T.out;rwa[List.take_of_length_le (by rw[H.out];omega),← HN.out]at h)
   go_wp2_with fail;go_ret;exact HPE.out _ _ (by rw[E.out];rfl) hb
theorem Vx (v:Value) (p:List (List Int)) (q:List Int) (b:Nat) (qa:Option Addr) (qn qc:Nat) (w:World) (hp:UE w v p) (hcl:w.cell? ⟨b,0,none⟩=some (.slice qa qn qc)) (hq:ZC Zq w (.slice qa qn qc) q) :
 Calls Tryz.prog 71 #[v,.func (.func 72) #[] #[.pointer (some ⟨b,0,none⟩)]] w fun e w'=>e = .returned (.bool (KY p q))∧Below w.heap.size w w':=by
 have HC:=Za (Gg v p q b qa qn qc w hp hcl hq);clear hp hcl hq;go_enter Tryz.func71,Tryz.ntmps71;go_wp2_with fail
 (with_reducible refine HC.out.mono ?_)
 rintro e w1 ⟨⟨k,rfl,hk⟩,hb⟩;have HK:=Za hk;clear hk;go_wp2_with fail;go_ret;refine⟨?_,hb⟩;rw[← HK.out];rfl
theorem Ce (v u:Value) (p q:List (List Int)) (w:World) (hp:UE w v p) (hq:UE w u q) :
 Calls Tryz.prog 38 #[v,u] w fun e w'=>e = .returned (.bool (Gs p q))∧Below w.heap.size w w':=by
 obtain⟨a,c,rfl,hc1,hc2,hc3,hp⟩:=hp.open;have HP:=Za hp;clear hp;have HQ:=Za hq;clear hq;have HN:Hid (Gs p q=p.all fun x=>KY q x):=Za rfl;generalize hR:Gs p q=R at *;clear hR;generalize hn:p.length=n at *;have H:=Za hn;clear hn;go_enter Tryz.func38,Tryz.ntmps38;go_wp2_with fail
 go_loopw [9] (fun i wr => ∃ k:Nat,k≤n∧i = .int .i64 k∧Hid ((p.take k).all (fun x=>KY q x)=true)∧Below w.heap.size w wr) (fun i _=>n - (intOf i).toNat)
 case atStart=>exact⟨0,Nat.zero_le _,rfl,Za Sm,Below.refl _ _⟩
 case round =>
  obtain⟨k,hk,rfl,T,hb⟩:=hrel;by_cases hlt:k < n
  ·have hlt1:=Zh hlt
   obtain⟨x,hxk⟩:=Zd (xs:=p) (k:=k) (by rw[H.out];exact hlt);obtain⟨b,o,ra,rc,rfl,hbl,i0,i1⟩:=(HP.out.below hb).row hxk;have X:=Za hxk;have I1:=Za i1
   clear hxk i1;have ha:=hb.alloc hb.size (.cells #[.slice ra x.length rc] 66);have ha2:=(Below.refl wr.heap.size wr).alloc (Nat.le_refl _) (.cells #[.slice ra x.length rc] 66);have HC:=Za (Vx u q x wr.heap.size ra x.length rc (wr.alloc (.cells #[.slice ra x.length rc] 66)) (HQ.out.below ha) (by simp[go_sem]) (I1.out.below ha2));generalize hz:KY q x=z at *;have Z:=Za hz;clear hz;cases z
   ·have E:Hid (R=false):=Za (by rw[HN.out];exact GK X.out Z.out)
    go_wp2_with (go_at_call 71;(with_reducible refine HC.out.mono ?_);rintro e w1 ⟨rfl,hb1⟩);go_ret;rw[E.out];exact⟨rfl,ha.trans (hb1.mono ha.size)⟩
   ·have T2:=Za (Km T.out X.out Z.out)
    go_wp2_with (go_at_call 71;(with_reducible refine HC.out.mono ?_);rintro e w1 ⟨rfl,hb1⟩);go_roundw
    case rel=>exact⟨k+1,Om,Gn,T2,ha.trans (hb1.mono ha.size)⟩
    case measure=>simp[intOf];omega
  ·have E:Hid (R=true):=Za (by have h:=T.out;rwa[List.take_of_length_le (by rw[H.out];omega),← HN.out]at h)
   go_wp2_with fail;go_ret;rw[E.out];exact⟨rfl,hb⟩
theorem I8 (v u:Value) (p:List (List Int)) (q:List Int) (w:World) (hp:UE w v p) (hq:ZC Zq w u q) :
 Calls Tryz.prog 65 #[v,u] w fun e w'=>e = .returned (.bool (KY p q))∧Below w.heap.size w w':=by
 obtain⟨a,c,rfl,hc1,hc2,hc3,hp⟩:=hp.open;obtain⟨a',c',rfl,hc1',hc2',hc3',hq⟩:=hq.open;have HP:=Za hp;clear hp;have HQ:=Za hq;clear hq;have HN:Hid (KY p q=p.any fun x=>decide (x=q)):=Za rfl;generalize hR:KY p q=R at *;clear hR;generalize hn:p.length=n at *;have H:=Za hn;clear hn;generalize hm:q.length=m at *;have HM:=Za hm;clear hm;go_enter Tryz.func65,Tryz.ntmps65;go_wp2_with fail
 go_loopw [5] (fun i wr => ∃ k:Nat,k≤n∧i = .int .i64 k∧Hid ((p.take k).any (fun x=>decide (x=q))=false)∧Below w.heap.size w wr) (fun i _=>n - (intOf i).toNat)
 case atStart=>exact⟨0,Nat.zero_le _,rfl,Za Sm,Below.refl _ _⟩
 case round =>
  obtain⟨k,hk,rfl,T,hb⟩:=hrel;by_cases hlt:k < n
  ·have hlt1:=Zh hlt
   obtain⟨x,hxk⟩:=Zd (xs:=p) (k:=k) (by rw[H.out];exact hlt);obtain⟨b,o,ra,rc,rfl,hbl,i0,i1⟩:=(HP.out.below hb).row hxk;have X:=Za hxk;have I1:=Za i1
   clear hxk i1;by_cases hl:x.length=m
   ·have hl':((x.length:Int)==m)=true:=by simp[hl]
    have HZ:=Za (Mi (a:=x) (b:=q) (by rw[hl,HM.out]));have I1':Hid (ZC Zq wr (.slice ra m rc) x):=Za (by rw[← hl];exact I1.out);rw[hl]at i0 hl';clear hl I1;by_cases hxq:x=q
    ·have E:Hid (R=true):=Za (by rw[HN.out];exact GM X.out (by simp[hxq]))
     have hz:Rz x q=0:=HZ.out.2 hxq;have HC:=Za (VB _ _ x q wr I1'.out (HQ.out.below hb));generalize Rz x q=z at *;subst hz;clear hxq;go_wp2_with (go_at_call 94;(with_reducible refine HC.out.mono ?_);rintro e w1 ⟨rfl,hb1⟩);go_ret;rw[E.out];exact⟨rfl,hb.trans (hb1.mono hb.size)⟩
    ·have T2:=Za (J2 T.out X.out (by simp[hxq]))
     have hz:¬ Rz x q=0:=fun h=>hxq (HZ.out.1 h);have HC:=Za (VB _ _ x q wr I1'.out (HQ.out.below hb));generalize Rz x q=z at *;have hz':(z==0)=false:=by simpa using hz
     clear hxq hz;go_wp2_with (go_at_call 94;(with_reducible refine HC.out.mono ?_);rintro e w1 ⟨rfl,hb1⟩);go_roundw
     case rel=>exact⟨k+1,Om,Gn,T2,hb.trans (hb1.mono hb.size)⟩
     case measure=>simp[intOf];omega
   ·have hl':((x.length:Int)==m)=false:=So
    have T2:=Za (J2 T.out X.out (by simp;intro h;exact hl (by rw[h,HM.out])));clear hl;go_wp2_with fail;go_roundw
    case rel=>exact⟨k+1,Om,Gn,T2,hb⟩
    case measure=>simp[intOf];omega
  ·have E:Hid (R=false):=Za (by have h:=T.out;rwa[List.take_of_length_le (by rw[H.out];omega),← HN.out]at h)
   go_wp2_with fail;go_ret;rw[E.out];exact⟨rfl,hb⟩
theorem Cq (v u:Value) (p q:List (List Int)) (w:World) (hp:UE w v p) (hq:UE w u q) :
 Calls Tryz.prog 32 #[v,u] w fun e w'=>e = .returned (.bool (Gs p q))∧Below w.heap.size w w':=by
 obtain⟨a,c,rfl,hc1,hc2,hc3,hp⟩:=hp.open;have HP:=Za hp;clear hp;have HQ:=Za hq;clear hq;have HN:Hid (Gs p q=p.all fun x=>KY q x):=Za rfl;generalize hR:Gs p q=R at *;clear hR;generalize hn:p.length=n at *;have H:=Za hn;clear hn;go_enter Tryz.func32,Tryz.ntmps32;go_wp2_with fail
 go_loopw [5] (fun i wr => ∃ k:Nat,k≤n∧i = .int .i64 k∧Hid ((p.take k).all (fun x=>KY q x)=true)∧Below w.heap.size w wr) (fun i _=>n - (intOf i).toNat)
 case atStart=>exact⟨0,Nat.zero_le _,rfl,Za Sm,Below.refl _ _⟩
 case round =>
  obtain⟨k,hk,rfl,T,hb⟩:=hrel;by_cases hlt:k < n
  ·have hlt1:=Zh hlt
   obtain⟨x,hxk⟩:=Zd (xs:=p) (k:=k) (by rw[H.out];exact hlt);obtain⟨b,o,ra,rc,rfl,hbl,i0,i1⟩:=(HP.out.below hb).row hxk;have X:=Za hxk;have I1:=Za i1
   clear hxk i1;have HC:=Za (I8 u _ q x wr (HQ.out.below hb) I1.out);generalize hz:KY q x=z at *;have Z:=Za hz;clear hz;cases z
   ·have E:Hid (R=false):=Za (by rw[HN.out];exact GK X.out Z.out)
    go_wp2_with (go_at_call 65;(with_reducible refine HC.out.mono ?_);rintro e w1 ⟨rfl,hb1⟩);go_ret;rw[E.out];exact⟨rfl,hb.trans (hb1.mono hb.size)⟩
   ·have T2:=Za (Km T.out X.out Z.out)
    go_wp2_with (go_at_call 65;(with_reducible refine HC.out.mono ?_);rintro e w1 ⟨rfl,hb1⟩);go_roundw
    case rel=>exact⟨k+1,Om,Gn,T2,hb.trans (hb1.mono hb.size)⟩
    case measure=>simp[intOf];omega
  ·have E:Hid (R=true):=Za (by have h:=T.out;rwa[List.take_of_length_le (by rw[H.out];omega),← HN.out]at h)
   go_wp2_with fail;go_ret;rw[E.out];exact⟨rfl,hb⟩
end Go.Proofs.YtngekjpklkjnbaaGreat
/-
  Events of a program, conflicts, ways back; a run with one memory out of an order of events (plain law). No condition.
-/
import Derived.Test.YtnkfphndfijcoaaZo00
import Derived.Deep.AppendLies
set_option maxHeartbeats 6400000
set_option maxRecDepth 100000
namespace Go.Proofs.Ytnkfphndfijcoaa
open Go.RowKit
theorem run_append_none {P:Program}{w:World}{base:Nat}{t ty e:TypeId}{i:TypeInfo}{size:Nat}(ht:P.underlying t=some (.slice e)) (hi:P.info? e=some i)
 {v:Value}{n c:Nat}{xs:List Value}(hown:w.ownsRow base e size v n xs):(Builtin.append_ #[t,t] ty #[v,.slice none 0 c]).run P w = .ok v w:=by
 rcases hown.2 with⟨rfl,rfl⟩ | ⟨g,cap,cur,rfl,_,_,hnc,_⟩
 ·simp[Builtin.append_,run_underlying ht,sizeOf,typeInfo,hi,Builtin.lenOf,Builtin.firstCells]
 ·simp[Builtin.append_,run_underlying ht,sizeOf,typeInfo,hi,Builtin.lenOf,Builtin.firstCells,hnc,storeCells]
theorem wpList_appS {α:Type}(E:El α) {P:Program}{w:World}{ops:Array Oper}{rest:List Oper}{o:Oper}{a:Act}{Q:Exit→Act→World→Prop}
 (T:TypeId) {zv:Value}{bytes:Nat}(hinfo:(P.info? T).map (fun i=>(i.zero,i.size,i.bytes))=some (some zv,E.sz,bytes)) (hz:zv.cells.size=E.sz) {t:TypeId}(h1:P.underlying t=some (.slice T))
 (base:Nat) (v:Value) (xs ys:List α) (u:Value) (hown:Own E T w base v xs) (hrep:Rep E w u ys) (hby:bytes≤256) (hn:xs.length+ys.length≤68719476736) (hbase:base≤w.heap.size)
 (hg:o.guard=none) (s y:Operand) (hop:o.op = .call { callee:=.builtin .append,args:=#[s,y],argTypes:=#[t,t] })
 (hs:a.eval s=v) (hy:a.eval y=u)
 (hK:∀ v' w',Own E T w' base v' (xs++ys)→w.grownBy w' v.ownBlock→wpList P ops Q rest (a.put o.dst v') w') :
 wpList P ops Q (o :: rest) a w:=by
 obtain⟨it,hi,hz0,hz1,hz2⟩:=info_parts hinfo;obtain⟨ad,c,rfl,hc1,hc2,hcell⟩:=hrep;cases ad with
 | none =>
  have hys:ys=[]:=by
   cases ys with
   | nil=>rfl
   | cons y ys=>obtain⟨b,o,hb,_⟩:=hcell 0 y rfl;cases hb
  subst hys;refine wpList_plain hg fun K hK' => ?_;have hrun:=run_append_none (P:=P) (w:=w) (ty:=o.type) (c:=c) h1 hi hown;unfold Oper.wp;simp[execOp,hop,resolve,invoke,builtin,hs,hy,hrun,Result.andThen];exact hK' _ _ (hK _ _ (by simpa using hown) (World.grownBy.refl _ _))
 | some ad =>
  refine wpList_append_own w hg s y t hop base T it zv E.sz bytes h1 hi hz0 hz1 hz2 hz E.pos v xs.length _ hs hown ad ys.length c (ys.flatMap E.c) hy (E.length ys) ?_ ?_ (by unfold maxLen;omega) ?_ hbase ?_
  ·intro j u hu
   have hpos:=E.pos;have hj:j=j / E.sz * E.sz+j % E.sz:=by rw[Nat.mul_comm];exact(Nat.div_add_mod j E.sz).symm
   have hm:j % E.sz < E.sz:=Nat.mod_lt _ hpos;have hu2:=hu;rw[hj,E.get ys _ _ hm]at hu2;cases hx:ys[j / E.sz]? with
   | none=>rw[hx]at hu2;cases hu2
   | some x =>
    rw[hx]at hu2;obtain⟨b,o,hb,h⟩:=hcell _ x hx;simp only[Option.some.injEq]at hb;subst hb;have hc:=h (j % E.sz) u hu2;rw[Addr.add_lit,hj,← Nat.add_assoc];exact hc
  ·intro u hu
   rw[List.mem_flatMap]at hu;obtain⟨x,_,hx⟩:=hu;exact E.one x u hx
  ·have:=Nat.mul_le_mul (show xs.length+ys.length≤68719476736 from hn) hby
   omega
  ·intro v' w' h2 h3 _
   refine hK v' w' ?_ h3;unfold Own;simpa[List.flatMap_append] using h2
theorem own_ne {α β:Type}{E:El α}{F:El β}{T U:TypeId}(hT:T≠U) {w:World}{base base':Nat}{v u:Value}{xs:List α}{ys:List β}(h:Own E T w base v xs) (k:Own F U w base' u ys):∀ q,u.ownBlock=some q→v.ownBlock≠some q:=by
 intro q hq hv;rcases h.2 with⟨rfl,_⟩ | ⟨g,cap,cur,rfl,_,hg,_⟩
 ·simp[Value.ownBlock]at hv
 ·rcases k.2 with⟨rfl,_⟩ | ⟨g',cap',cur',rfl,_,hg',_⟩
  ·simp[Value.ownBlock]at hq
  ·simp[Value.ownBlock]at hq hv
   subst hq;subst hv;rw[hg]at hg';simp at hg';exact hT hg'.2
theorem Own2U.app {α:Type}{E:El α}{T1 T2:TypeId}(hT:T1≠T2) {us:List Slc}{w w1 w2:World}{base:Nat}{v v':Value}{p:List (List α)}(h:Own2U E T1 T2 us w base v p) (hb:Below w.heap.size w w1) (hbase:base≤w.heap.size) {r:List α}{s:Slc}
 (hu:Own E T2 w1 w.heap.size s.v r) (h2'':Own SlcE T1 w2 base v' (us++[s])) (hg:w1.grownBy w2 v.ownBlock):Own2 E T1 T2 w2 base v' (p++[r]):=by
 obtain⟨h1,h2,h3,h4,h5⟩:=h;have h2':=h2.below hb;have hnew:∀ q,s.v.ownBlock=some q→w.heap.size≤q:=fun q hq=>(World.ownsRow.lt hu q hq).1;have hold:∀ (i:Nat) (u':Slc),us[i]? = some u'→∀ q,u'.v.ownBlock=some q→q < w.heap.size:=fun i u' hi q hq=>by
  obtain⟨r',hr'⟩:=get_of_lt (xs:=p) (k:=i) (by have:=(List.getElem?_eq_some_iff.1 hi).1;omega);exact(World.ownsRow.lt (h3 i u' r' hi hr') q hq).2
 have split:∀ (i:Nat) (u':Slc),(us++[s])[i]? = some u'→(i=us.length∧u'=s)∨(i < us.length∧us[i]? = some u'):=fun i u' hi=>by
  by_cases hlt:i < us.length
  ·rw[List.getElem?_append_left hlt]at hi;exact .inr ⟨hlt,hi⟩
  ·rw[List.getElem?_append_right (by omega)]at hi
   have:i - us.length=0:=by
    rcases Nat.eq_zero_or_pos (i - us.length) with h | h
    ·exact h
    ·rw[List.getElem?_eq_none (by simp;omega)]at hi;cases hi
   rw[this]at hi;simp at hi;exact .inl ⟨by omega,hi.symm⟩
 have hus:Own E T2 w2 base s.v r:=(hu.mono hbase).grown hg (by
  rcases hq:s.v.ownBlock with _ | q
  ·exact .inl rfl
  ·exact .inr (fun e=>own_ne hT h2' hu q hq e.symm))
 have hrows:∀ (i:Nat) (u:Slc) (r':List α),us[i]? = some u→p[i]? = some r'→Own E T2 w2 base u.v r':=fun i u r' hi hr' =>
  ((h3 i u r' hi hr').below hb).grown hg (by
   rcases hq:u.v.ownBlock with _ | q
   ·exact .inl rfl
   ·exact .inr (fun e=>h5 i u hi q hq e.symm))
 refine⟨us++[s],by simp[h1],h2'',?_,?_,?_⟩
 ·intro i u r' hi hr'
  rcases split i u hi with⟨e1,e2⟩ | ⟨hlt,hi'⟩
  ·rw[e1,List.getElem?_append_right (by omega),h1,Nat.sub_self]at hr'
   simp at hr';rw[e2,← hr'];exact hus
  ·rw[List.getElem?_append_left (by omega)]at hr'
   exact hrows i u r' hi' hr'
 ·intro i j u u' hi hj hij q hq hq'
  rcases split i u hi with⟨e1,e2⟩ | ⟨hlt,hi'⟩
  ·rcases split j u' hj with⟨e3,e4⟩ | ⟨hlt',hj'⟩
   ·omega
   ·rw[e2]at hq;have a1:=hnew q hq;have a2:=hold j u' hj' q hq';omega
  ·rcases split j u' hj with⟨e3,e4⟩ | ⟨hlt',hj'⟩
   ·rw[e4]at hq';have a1:=hnew q hq';have a2:=hold i u hi' q hq;omega
   ·exact h4 i j u u' hi' hj' hij q hq hq'
 ·intro i u hi q hq
  rcases split i u hi with⟨e1,e2⟩ | ⟨hlt,hi'⟩
  ·rw[e2]at hq;exact own_ne hT h2'' hus q hq
  ·obtain⟨r',hr'⟩:=get_of_lt (xs:=p) (k:=i) (by omega)
   exact own_ne hT h2'' (hrows i u r' hi' hr') q hq
theorem Own2.nil {α:Type}{E:El α}(T1 T2:TypeId) (w:World) (base:Nat):Own2 E T1 T2 w base (.slice none 0 0) []:=
 ⟨[],rfl,Own.nil _ _ _,fun i u r h=>by simp at h,fun i j u u' h=>by simp at h,fun i u h=>by simp at h⟩
theorem Own2.empty {α:Type}{E:El α}(T1 T2:TypeId) (w:World) {base:Nat}(hb:base≤w.heap.size):Own2 E T1 T2 (w.alloc (.cells #[] T1)) base (.slice (some ⟨w.heap.size,0,none⟩) 0 0) []:=
 ⟨[],rfl,Own.empty _ _ hb,fun i u r h=>by simp at h,fun i j u u' h=>by simp at h,fun i u h=>by simp at h⟩
theorem Own2.mono {α:Type}{E:El α}{T1 T2:TypeId}{w:World}{base base':Nat}{v:Value}{p:List (List α)}(h:Own2 E T1 T2 w base v p) (hb:base'≤base):Own2 E T1 T2 w base' v p:=by
 obtain⟨us,h1,h2,h3,h4,h5⟩:=h;exact⟨us,h1,h2.mono hb,fun i u r hu hr=>(h3 i u r hu hr).mono hb,h4,h5⟩
theorem Own2.outHi {α:Type}{E:El α}{T1 T2:TypeId}{lo hi:Nat}{w w':World}{base:Nat}{v:Value}{p:List (List α)}(h0:Own2 E T1 T2 w base v p)
 (h:Outside lo hi w w') (hhi:hi≤base):Own2 E T1 T2 w' base v p:=by
 obtain⟨us,hU,hlt⟩:=h0.told;obtain⟨h1,h2,h3,h4,h5⟩:=hU;refine⟨us,h1,h.own h2 (fun q hq => .inr (by have:=(World.ownsRow.lt h2 q hq).1;omega)),fun i u r hu hr=>h.own (h3 i u r hu hr) (fun q hq => .inr (by have:=(hlt i u hu q hq).1;omega)),h4,h5⟩
end Go.Proofs.Ytnkfphndfijcoaa
namespace Go.Proofs.Ytnkfphndfijcoaa
open Go.RowKit
end Go.Proofs.Ytnkfphndfijcoaa
namespace Go.Proofs.Ytnkfphndfijcoaa
open Go.RowKit
structure KpT (L:List TypeId) (B:Nat) (w w':World):Prop where
 os:w'.os=w.os
 tape:w'.tape=w.tape
 output:w'.output=w.output
 size:w.heap.size≤w'.heap.size
 block:∀ k ob,w.heap[k]? = some ob→(k < B∨∀ a T fz,ob = .cells a T fz→T∉L)→w'.heap[k]? = some ob
theorem KpT.refl (L:List TypeId) (B:Nat) (w:World):KpT L B w w:=⟨rfl,rfl,rfl,Nat.le_refl _,fun _ _ h _=>h⟩
theorem KpT.trans {L:List TypeId}{B:Nat}{a b c:World}(h:KpT L B a b) (k:KpT L B b c):KpT L B a c:=
 ⟨k.os.trans h.os,k.tape.trans h.tape,k.output.trans h.output,Nat.le_trans h.size k.size,fun q ob hq hl=>k.block q ob (h.block q ob hq hl) hl⟩
theorem KpT.of_below {L:List TypeId}{B:Nat}{w w':World}(h:Below w.heap.size w w'):KpT L B w w':=
 ⟨h.os,h.tape,h.output,h.size,fun k _ hk _=>(h.block k (Array.getElem?_eq_some_iff.1 hk).1).trans hk⟩
theorem KpT.below {L:List TypeId}{B:Nat}{w w':World}(h:KpT L B w w') (hB:B≤w.heap.size):Below B w w':=
 ⟨h.os,h.tape,h.output,h.size,fun k hk=>by
  have hk':k < w.heap.size:=by omega
  have e:w.heap[k]? = some (w.heap[k]'hk'):=Array.getElem?_eq_getElem hk';rw[e];exact h.block k _ e (.inl hk)⟩
theorem KpT.more {L L':List TypeId}{B B':Nat}{w w':World}(h:KpT L B w w') (hL:∀ T∈L,T∈L') (hB:B'≤B):KpT L' B' w w':=
 ⟨h.os,h.tape,h.output,h.size,fun k ob hk hl=>h.block k ob hk (hl.imp (fun q=>Nat.lt_of_lt_of_le q hB) fun q a T fz e hT=>q a T fz e (hL T hT))⟩
theorem KpT.alloc {L:List TypeId}{B:Nat}(w:World) (o:Obj):KpT L B w (w.alloc o):=.of_below ((Below.refl _ _).alloc (Nat.le_refl _) o)
theorem Own.typeT {α:Type}{E:El α}{T:TypeId}{w:World}{base g:Nat}{v:Value}{xs:List α}(h:Own E T w base v xs) (hg:v.ownBlock=some g):∃ a,w.heap[g]? = some (.cells a T (0,0)):=by
 rcases h.2 with⟨rfl,_⟩ | ⟨g',cap,cur,rfl,_,hg',_⟩
 ·simp[Value.ownBlock]at hg
 ·simp[Value.ownBlock]at hg
  subst hg;exact⟨cur,hg'⟩
theorem Own.sameT {α:Type}{E:El α}{T:TypeId}{w w':World}{base:Nat}{v:Value}{xs:List α}(h:Own E T w base v xs) (hs:∀ q,v.ownBlock=some q→w'.heap[q]? = w.heap[q]?):Own E T w' base v xs:=by
 refine⟨h.1,?_⟩;rcases h.2 with hn | ⟨g,cap,cur,rfl,hb1,hgg,rest⟩
 ·exact .inl hn
 ·exact .inr ⟨g,cap,cur,rfl,hb1,(hs g rfl).trans hgg,rest⟩
theorem KpT.grown {α:Type}{E:El α}{T:TypeId}{L:List TypeId}{B base:Nat}{w w':World}{v:Value}{xs:List α}(ho:Own E T w base v xs) (hT:T∈L) (hB:B≤base) (hg:w.grownBy w' v.ownBlock):KpT L B w w':=
 ⟨hg.os,hg.tape,hg.output,hg.size,fun k ob hk hl=>(hg.block k (Array.getElem?_eq_some_iff.1 hk).1 (fun e=>by
  obtain⟨a,ha⟩:=ho.typeT e.symm;have hbk:=(World.ownsRow.lt ho k e.symm).1;rw[hk]at ha;rcases hl with hl | hl
  ·omega
  ·exact hl a T _ (Option.some.inj ha) hT)).trans hk⟩
theorem KpT.set {T:TypeId}{L:List TypeId}{B g j:Nat}{w:World}{a:Array Value}{fz:Nat × Nat}(hg:w.heap[g]? = some (.cells a T fz)) (hT:T∈L) (hB:B≤g) (u:Value):KpT L B w (w.setCell ⟨g,j,none⟩ u):=
 ⟨rfl,rfl,rfl,by simp,fun k ob hk hl=>(heap_setCell_other w ⟨g,j,none⟩ k u (show k≠g by
  rintro rfl;rw[hg]at hk;rcases hl with hl | hl
  ·omega
  ·exact hl a T fz (Option.some.inj hk).symm hT)).trans hk⟩
structure LocT (L:List TypeId) (B:Nat) (w:World) (φ:World→Prop):Prop where
 now:φ w
 keep:∀ w',KpT L B w w'→φ w'
theorem LocT.step {L:List TypeId}{B:Nat}{w w':World}{φ:World→Prop}(h:LocT L B w φ) (k:KpT L B w w'):LocT L B w' φ:=⟨h.keep w' k,fun w'' k'=>h.keep w'' (k.trans k')⟩
theorem LocT.map {L:List TypeId}{B:Nat}{w:World}{φ ψ:World→Prop}(h:LocT L B w φ) (f:∀ V,φ V→ψ V):LocT L B w ψ:=⟨f _ h.now,fun w' k=>f _ (h.keep w' k)⟩
theorem LocT.and {L:List TypeId}{B:Nat}{w:World}{φ ψ:World→Prop}(h:LocT L B w φ) (k:LocT L B w ψ):LocT L B w (fun W=>φ W∧ψ W):=⟨⟨h.now,k.now⟩,fun w' s=>⟨h.keep w' s,k.keep w' s⟩⟩
theorem LocT.all {ι:Type}{L:List TypeId}{B:Nat}{w:World}{φ:ι→World→Prop}(h:∀ i,LocT L B w (φ i)):LocT L B w (fun W => ∀ i,φ i W):=⟨fun i=>(h i).now,fun w' s i=>(h i).keep w' s⟩
theorem LocT.imp {L:List TypeId}{B:Nat}{w:World}{p:Prop}{φ:World→Prop}(h:p→LocT L B w φ):LocT L B w (fun W=>p→φ W):=⟨fun i=>(h i).now,fun w' s i=>(h i).keep w' s⟩
theorem LocT.own {α:Type}{E:El α}{T:TypeId}{L:List TypeId}{B base:Nat}{w:World}{v:Value}{xs:List α}(h:Own E T w base v xs) (hT:T∉L):LocT L B w (fun W=>Own E T W base v xs):=
 ⟨h,fun w' k=>h.sameT fun q hq=>by
  obtain⟨a,ha⟩:=h.typeT hq;rw[k.block q _ ha (.inr fun a' T' fz e=>by simp at e;rw[← e.2.1];exact hT),ha]⟩
theorem LocT.own2 {α:Type}{E:El α}{T1 T2:TypeId}{L:List TypeId}{B base:Nat}{w:World}{v:Value}{p:List (List α)}(h:Own2 E T1 T2 w base v p) (h1:T1∉L) (h2:T2∉L):LocT L B w (fun W=>Own2 E T1 T2 W base v p):=by
 obtain⟨us,g1,g2,g3,g4,g5⟩:=h;have k1:=LocT.own (B:=B) g2 h1;have k2:LocT L B w (fun W => ∀ (i:Nat) (u:Slc) (r:List α),us[i]? = some u→p[i]? = some r→Own E T2 W base u.v r):=.all fun i => .all fun u => .all fun r => .imp fun hu => .imp fun hr=>LocT.own (g3 i u r hu hr) h2;exact(k1.and k2).map fun V ⟨a,b⟩=>⟨us,g1,a,b,g4,g5⟩
structure St where
 pc:List Int
 rg:List Int
 mm:List Int
 bf:List (List Int)
structure SV where
 p:Slc
 r:Slc
 m:Slc
 b:Slc
def StE:El SV:=⟨4,by decide,fun x=>[x.p.v,x.r.v,x.m.v,x.b.v],fun _=>rfl,fun x u h=>by simp at h;rcases h with rfl | rfl | rfl | rfl <;> rfl⟩
structure RepSt (w:World) (x:SV) (s:St):Prop where
 pc:Rep IntE w x.p.v s.pc
 rg:Rep IntE w x.r.v s.rg
 mm:Rep IntE w x.m.v s.mm
 bf:Rep2 IntE w x.b.v s.bf
theorem RepSt.below {w w':World}{x:SV}{s:St}(h:RepSt w x s) (hb:Below w.heap.size w w'):RepSt w' x s:=⟨h.pc.below hb,h.rg.below hb,h.mm.below hb,h.bf.below hb⟩
structure Lanes (w:World) (base:Nat) (c1 c2 c3:Slc) (l1 l2 l3:List Int):Prop where
 o1:Own IntE 3 w base c1.v l1
 o2:Own IntE 3 w base c2.v l2
 o3:Own IntE 3 w base c3.v l3
 d12:∀ q,c1.v.ownBlock=some q→c2.v.ownBlock≠some q
 d13:∀ q,c1.v.ownBlock=some q→c3.v.ownBlock≠some q
 d23:∀ q,c2.v.ownBlock=some q→c3.v.ownBlock≠some q
theorem Lanes.below {w w':World}{base:Nat}{c1 c2 c3:Slc}{l1 l2 l3:List Int}(h:Lanes w base c1 c2 c3 l1 l2 l3) (hb:Below w.heap.size w w'):Lanes w' base c1 c2 c3 l1 l2 l3:=
 ⟨h.o1.below hb,h.o2.below hb,h.o3.below hb,h.d12,h.d13,h.d23⟩
theorem Lanes.rot {w:World}{base:Nat}{c1 c2 c3:Slc}{l1 l2 l3:List Int}(h:Lanes w base c1 c2 c3 l1 l2 l3):Lanes w base c2 c3 c1 l2 l3 l1:=
 ⟨h.o2,h.o3,h.o1,h.d23,fun q a b=>h.d12 q b a,fun q a b=>h.d13 q b a⟩
theorem Lanes.mono {w:World}{base base':Nat}{c1 c2 c3:Slc}{l1 l2 l3:List Int}(h:Lanes w base c1 c2 c3 l1 l2 l3) (hb:base'≤base):Lanes w base' c1 c2 c3 l1 l2 l3:=
 ⟨h.o1.mono hb,h.o2.mono hb,h.o3.mono hb,h.d12,h.d13,h.d23⟩
theorem Lanes.nil (w:World) (base:Nat):Lanes w base ⟨none,0,0⟩ ⟨none,0,0⟩ ⟨none,0,0⟩ [] [] []:=
 ⟨Own.nil _ _ _,Own.nil _ _ _,Own.nil _ _ _,fun q h=>by simp[Value.ownBlock]at h,fun q h=>by simp[Value.ownBlock]at h,fun q h=>by simp[Value.ownBlock]at h⟩
theorem Lanes.put1 {w w':World}{base:Nat}{c1 c1' c2 c3:Slc}{l1 l1' l2 l3:List Int}(h:Lanes w base c1 c2 c3 l1 l2 l3) (ho:Own IntE 3 w' base c1'.v l1') (hg:w.grownBy w' c1.v.ownBlock)
 (hb:c1'.v.ownBlock=c1.v.ownBlock∨∀ q,c1'.v.ownBlock=some q→w.heap.size≤q):Lanes w' base c1' c2 c3 l1' l2 l3:=by
 have n2:∀ q,c1'.v.ownBlock=some q→c2.v.ownBlock≠some q:=fun q hq e=>by
  rcases hb with hb | hb
  ·exact h.d12 q (hb ▸ hq) e
  ·have:=hb q hq;have:=(World.ownsRow.lt h.o2 q e).2;omega
 have n3:∀ q,c1'.v.ownBlock=some q→c3.v.ownBlock≠some q:=fun q hq e=>by
  rcases hb with hb | hb
  ·exact h.d13 q (hb ▸ hq) e
  ·have:=hb q hq;have:=(World.ownsRow.lt h.o3 q e).2;omega
 refine⟨ho,h.o2.grown hg ?_,h.o3.grown hg ?_,n2,n3,h.d23⟩
 ·rcases hq:c2.v.ownBlock with _ | q
  ·exact .inl rfl
  ·exact .inr fun e=>h.d12 q e.symm hq
 ·rcases hq:c3.v.ownBlock with _ | q
  ·exact .inl rfl
  ·exact .inr fun e=>h.d13 q e.symm hq
theorem Lanes.put2 {w w':World}{base:Nat}{c1 c2 c2' c3:Slc}{l1 l2 l2' l3:List Int}(h:Lanes w base c1 c2 c3 l1 l2 l3) (ho:Own IntE 3 w' base c2'.v l2') (hg:w.grownBy w' c2.v.ownBlock)
 (hb:c2'.v.ownBlock=c2.v.ownBlock∨∀ q,c2'.v.ownBlock=some q→w.heap.size≤q):Lanes w' base c1 c2' c3 l1 l2' l3:=(h.rot.put1 ho hg hb).rot.rot
theorem Lanes.put3 {w w':World}{base:Nat}{c1 c2 c3 c3':Slc}{l1 l2 l3 l3':List Int}(h:Lanes w base c1 c2 c3 l1 l2 l3) (ho:Own IntE 3 w' base c3'.v l3') (hg:w.grownBy w' c3.v.ownBlock)
 (hb:c3'.v.ownBlock=c3.v.ownBlock∨∀ q,c3'.v.ownBlock=some q→w.heap.size≤q):Lanes w' base c1 c2 c3' l1 l2 l3':=(h.rot.rot.put1 ho hg hb).rot
theorem Own.setOther {α:Type}{E:El α}{U T:TypeId}(hT:U≠T) {w:World}{base g j:Nat}{a:Array Value}{fz:Nat × Nat}{v u:Value}{xs:List α}(h:Own E U w base v xs) (hg:w.heap[g]? = some (.cells a T fz)):Own E U (w.setCell ⟨g,j,none⟩ u) base v xs:=
 h.sameT fun q hq=>heap_setCell_other w ⟨g,j,none⟩ q u (show q≠g by
  rintro rfl;obtain⟨a',ha⟩:=h.typeT hq;rw[hg]at ha;simp at ha;exact hT ha.2.1.symm)
theorem Own2.setOther {α:Type}{E:El α}{U1 U2 T:TypeId}(h1:U1≠T) (h2:U2≠T) {w:World}{base g j:Nat}{a:Array Value}{fz:Nat × Nat}{v u:Value}{p:List (List α)}(h:Own2 E U1 U2 w base v p) (hg:w.heap[g]? = some (.cells a T fz)):Own2 E U1 U2 (w.setCell ⟨g,j,none⟩ u) base v p:=by
 obtain⟨us,g1,g2,g3,g4,g5⟩:=h;exact⟨us,g1,g2.setOther h1 hg,fun i u r hu hr=>(g3 i u r hu hr).setOther h2 hg,g4,g5⟩
theorem Lanes.setOther {T:TypeId}(hT:3≠T) {w:World}{base g j:Nat}{a:Array Value}{fz:Nat × Nat}{u:Value}{c1 c2 c3:Slc}{l1 l2 l3:List Int}(h:Lanes w base c1 c2 c3 l1 l2 l3) (hg:w.heap[g]? = some (.cells a T fz)):Lanes (w.setCell ⟨g,j,none⟩ u) base c1 c2 c3 l1 l2 l3:=
 ⟨h.o1.setOther hT hg,h.o2.setOther hT hg,h.o3.setOther hT hg,h.d12,h.d13,h.d23⟩
def TyB (T:TypeId) (w:World) (g:Nat):Prop:=∃ a,w.heap[g]? = some (.cells a T (0,0))
theorem TyB.set {T:TypeId}{w:World}{g:Nat}(h:TyB T w g) (b j:Nat) (u:Value):TyB T (w.setCell ⟨b,j,none⟩ u) g:=by
 obtain⟨a,ha⟩:=h;by_cases e:g=b
 ·subst e
  exact⟨_,heap_setCell_same w g j _ _ u ha⟩
 ·exact⟨a,(heap_setCell_other w ⟨b,j,none⟩ g u e).trans ha⟩
theorem KpT.same {L:List TypeId}{B k:Nat}{w w':World}{a:Array Value}{T:TypeId}{fz:Nat × Nat}(h:KpT L B w w') (hk:w.heap[k]? = some (.cells a T fz)) (hT:T∉L):w'.heap[k]? = some (.cells a T fz):=
 h.block k _ hk (.inr fun a' T' fz' e=>by simp at e;rw[← e.2.1];exact hT)
theorem KpT.setT {T:TypeId}{L:List TypeId}{B g j:Nat}{w:World}(hg:TyB T w g) (hT:T∈L) (hB:B≤g) (u:Value):KpT L B w (w.setCell ⟨g,j,none⟩ u):=by
 obtain⟨a,ha⟩:=hg;exact .set ha hT hB u
theorem Lanes.kp {L:List TypeId}{B:Nat}{w w':World}{base:Nat}{c1 c2 c3:Slc}{l1 l2 l3:List Int}(h:Lanes w base c1 c2 c3 l1 l2 l3) (k:KpT L B w w') (hT:3∉L):Lanes w' base c1 c2 c3 l1 l2 l3:=
 ⟨(LocT.own h.o1 hT).keep w' k,(LocT.own h.o2 hT).keep w' k,(LocT.own h.o3 hT).keep w' k,h.d12,h.d13,h.d23⟩
structure OwnSt (w:World) (base m:Nat) (x:SV) (s:St):Prop where
 ln:Lanes w base x.p x.r x.m s.pc s.rg s.mm
 bf:Own2 IntE 34 3 w m x.b.v s.bf
 p1:∀ q,x.p.v.ownBlock=some q→q < m
 p2:∀ q,x.r.v.ownBlock=some q→q < m
 p3:∀ q,x.m.v.ownBlock=some q→q < m
 le:base≤m
 lh:m≤w.heap.size
theorem OwnSt.below {w w':World}{base m:Nat}{x:SV}{s:St}(h:OwnSt w base m x s) (hb:Below w.heap.size w w'):OwnSt w' base m x s:=
 ⟨h.ln.below hb,h.bf.below hb,h.p1,h.p2,h.p3,h.le,Nat.le_trans h.lh hb.size⟩
theorem OwnSt.rep {w:World}{base m:Nat}{x:SV}{s:St}(h:OwnSt w base m x s):RepSt w x s:=⟨h.ln.o1.rep,h.ln.o2.rep,h.ln.o3.rep,h.bf.rep⟩
theorem OwnSt.mono {w:World}{base base' m:Nat}{x:SV}{s:St}(h:OwnSt w base m x s) (hb:base'≤base):OwnSt w base' m x s:=⟨h.ln.mono hb,h.bf,h.p1,h.p2,h.p3,Nat.le_trans hb h.le,h.lh⟩
theorem OwnSt.setOther {T:TypeId}(h1:3≠T) (h2:34≠T) {w:World}{base m g j:Nat}{a:Array Value}{fz:Nat × Nat}{u:Value}{x:SV}{s:St}(h:OwnSt w base m x s) (hg:w.heap[g]? = some (.cells a T fz)):OwnSt (w.setCell ⟨g,j,none⟩ u) base m x s:=
 ⟨h.ln.setOther h1 hg,h.bf.setOther h2 h1 hg,h.p1,h.p2,h.p3,h.le,by simpa using h.lh⟩
theorem OwnSt.loc {L:List TypeId}{B:Nat}{w:World}{base m:Nat}{x:SV}{s:St}(h:OwnSt w base m x s) (h1:3∉L) (h2:34∉L):LocT L B w (fun W=>RepSt W x s):=
 ((((LocT.own h.ln.o1 h1).and (LocT.own h.ln.o2 h1)).and (LocT.own h.ln.o3 h1)).and (LocT.own2 h.bf h2 h1)).map fun _ ⟨⟨⟨a,b⟩,c⟩,d⟩=>⟨a.rep,b.rep,c.rep,d.rep⟩
theorem OwnSt.setT {T:TypeId}(h1:3≠T) (h2:34≠T) {w:World}{base m g j:Nat}{u:Value}{x:SV}{s:St}(h:OwnSt w base m x s) (hg:TyB T w g):OwnSt (w.setCell ⟨g,j,none⟩ u) base m x s:=by
 obtain⟨a,ha⟩:=hg;exact h.setOther h1 h2 ha
theorem Own.int1 {w:World}{base g n cap:Nat}{xs:List Int}(h:Own IntE 3 w base (.slice (some ⟨g,0,none⟩) n cap) xs) {k:Nat}{x:Int}(hx:xs[k]? = some x) (y:Int) :
 g < w.heap.size∧w.cell? ⟨g,k,none⟩=some (.int .i64 x)∧(∀ j,w.frozen? ⟨g,j,none⟩=false)∧Own IntE 3 (w.setCell ⟨g,k,none⟩ (.int .i64 y)) base (.slice (some ⟨g,0,none⟩) n cap) (xs.set k y)∧w.grownBy (w.setCell ⟨g,k,none⟩ (.int .i64 y)) (some g):=by
 have hc:=h.cell hx (j:=0) rfl;have hs:=h.set (i:=k) (j:=0) y (u:=.int .i64 y) (by decide) hx rfl;simp only[IntE,Nat.mul_one,Nat.add_zero]at hc hs;exact⟨(World.ownsRow.lt h g rfl).2,hc,fun j=>h.frozen j,hs,grown_set (World.grownBy.refl _ _) _ _⟩
theorem Own.open1 {α:Type}{E:El α}{T:TypeId}{w:World}{base:Nat}{c:Slc}{xs:List α}(h:Own E T w base c.v xs) {k:Nat}{x:α}(hx:xs[k]? = some x):∃ g,c.a=some ⟨g,0,none⟩∧c.n=xs.length:=by
 rcases h.shape with⟨_,h2⟩ | ⟨g,cap,h2,_⟩
 ·rw[h2]at hx;simp at hx
 ·simp only[Slc.v,Value.slice.injEq]at h2
  exact⟨g,h2.1,h2.2.1⟩
def RetSt (w:World) (s:St) (e:Ending) (w':World):Prop:=∃ (x:SV) (m:Nat),e = .returned (.agg #[.slice x.p.a x.p.n x.p.cap,.slice x.r.a x.r.n x.r.cap,.slice x.m.a x.m.n x.m.cap,.slice x.b.a x.b.n x.b.cap])∧OwnSt w' w.heap.size m x s∧Below w.heap.size w w'
theorem step_mk {α:Type}(E:El α) {P:Program}{w:World}{ops:Array Oper}{o:Oper}{a:Act}{K:Act→World→Prop}{Q:Exit→Act→World→Prop}{F:Prop}
 (T:TypeId) (z:α) {zv:Value}{bytes:Nat}(hinfo:(P.info? T).map (fun i=>(i.zero,i.size,i.bytes))=some (some zv,E.sz,bytes)) (hz:zv.cells.toList=E.c z) {t:TypeId}(h1:P.underlying t=some (.slice T))
 (n:Nat) (hby:bytes≤256) (hn:n≤1099511627776) (hg:o.guard=none) (l c:Operand) (hop:o.op=Op.makeSlice t l c) (hl:a.eval l = .int .i64 n) (hc:a.eval c = .int .i64 n)
 (hK:∀ w',Own E T w' w.heap.size (.slice (some ⟨w.heap.size,0,none⟩) n n) (List.replicate n z)→w.grownBy w' none→K (a.put o.dst (.slice (some ⟨w.heap.size,0,none⟩) n n)) w') :
 if Region.wanted o (yielded ops a.tmps)=true then Oper.wp P o a w K Q else F:=by
 obtain⟨it,hi,hz0,hz1,hz2⟩:=info_parts hinfo;have hw:Region.wanted o (yielded ops a.tmps)=true:=by simp[Region.wanted,hg]
 rw[if_pos hw];obtain⟨w',hrun,r1,r2⟩:=run_make_full (P:=P) w w.heap.size t T it zv E.sz h1 hi hz0 hz1 .i64 .i64 n (by rw[hz2];have:=Nat.mul_le_mul hby hn;omega) (by unfold maxLen;omega) (Nat.le_refl _);unfold Oper.wp;simp[execOp,hop,hl,hc,hrun,Result.andThen];refine hK w' ?_ r2;unfold Own;rw[List.length_replicate,← made_eq z zv hz n];exact r1
theorem run_append_zeroM {P:Program}{w:World}{base:Nat}{t ty e:TypeId}{i:TypeInfo}{size:Nat}(ht:P.underlying t=some (.slice e)) (hi:P.info? e=some i)
 {v:Value}{n c:Nat}{xs:List Value}(hown:w.ownsRow base e size v n xs) (ad:Addr):(Builtin.append_ #[t,t] ty #[v,.slice (some ad) 0 c]).run P w = .ok v w:=by
 rcases hown.2 with⟨rfl,rfl⟩ | ⟨g,cap,cur,rfl,_,_,hnc,_⟩
 ·simp[Builtin.append_,run_underlying ht,sizeOf,typeInfo,hi,Builtin.lenOf,Builtin.firstCells,loadCells,loadCellsFrom]
 ·simp[Builtin.append_,run_underlying ht,sizeOf,typeInfo,hi,Builtin.lenOf,Builtin.firstCells,hnc,loadCells,loadCellsFrom,storeCells]
theorem step_appSAtM {α:Type}(E:El α) {P:Program}{w:World}{ops:Array Oper}{o:Oper}{a:Act}{K:Act→World→Prop}{Q:Exit→Act→World→Prop}{F:Prop}
 (T:TypeId) {zv:Value}{bytes:Nat}(hinfo:(P.info? T).map (fun i=>(i.zero,i.size,i.bytes))=some (some zv,E.sz,bytes)) (hz:zv.cells.size=E.sz) {t:TypeId}(h1:P.underlying t=some (.slice T))
 (base:Nat) (s0:Slc) (xs ys:List α) (u:Value) (hown:Own E T w base s0.v xs) (hrep:Rep E w u ys) (hby:bytes≤256) (hn:xs.length+ys.length≤68719476736) (hbase:base≤w.heap.size)
 (hg:o.guard=none) (s y:Operand) (hop:o.op = .call { callee:=.builtin .append,args:=#[s,y],argTypes:=#[t,t] })
 (hs:a.eval s=s0.v) (hy:a.eval y=u)
 (hK:∀ (s':Slc) w',Own E T w' base s'.v (xs++ys)→w.grownBy w' s0.v.ownBlock→(s'.v.ownBlock=s0.v.ownBlock∨∀ q,s'.v.ownBlock=some q→w.heap.size≤q)→K (a.put o.dst (.slice s'.a s'.n s'.cap)) w') :
 if Region.wanted o (yielded ops a.tmps)=true then Oper.wp P o a w K Q else F:=by
 obtain⟨it,hi,hz0,hz1,hz2⟩:=info_parts hinfo;obtain⟨ad,c,rfl,hc1,hc2,hcell⟩:=hrep;have hw:Region.wanted o (yielded ops a.tmps)=true:=by simp[Region.wanted,hg]
 have hnone:∀ r:(Builtin.append_ #[t,t] o.type #[s0.v,.slice ad ys.length c]).run P w = .ok s0.v w,ys=[]→(if Region.wanted o (yielded ops a.tmps)=true then Oper.wp P o a w K Q else F):=fun r hys=>by
  rw[if_pos hw];unfold Oper.wp;simp[execOp,hop,resolve,invoke,builtin,hs,hy,r,Result.andThen];exact hK s0 _ (by subst hys;simpa using hown) (World.grownBy.refl _ _) (.inl rfl)
 cases ad with
 | none =>
  have hys:ys=[]:=by
   cases ys with
   | nil=>rfl
   | cons y ys=>obtain⟨b,o,hb,_⟩:=hcell 0 y rfl;cases hb
  exact hnone (by subst hys;exact run_append_none h1 hi hown) hys
 | some ad =>
  by_cases hys:ys=[]
  ·exact hnone (by subst hys;exact run_append_zeroM h1 hi hown ad) hys
  have hpos:0 < ys.length:=List.length_pos_iff.2 hys;refine step_append_lies w hg s y t hop base T it zv E.sz bytes h1 hi hz0 hz1 hz2 hz E.pos s0.v xs.length _ hs hown ad ys.length c (ys.flatMap E.c) hy (E.length ys) ?_ ?_ hpos (by unfold maxLen;omega) ?_ hbase _ rfl ?_
  ·intro j u hu
   have hpos:=E.pos;have hj:j=j / E.sz * E.sz+j % E.sz:=by rw[Nat.mul_comm];exact(Nat.div_add_mod j E.sz).symm
   have hm:j % E.sz < E.sz:=Nat.mod_lt _ hpos;have hu2:=hu;rw[hj,E.get ys _ _ hm]at hu2;cases hx:ys[j / E.sz]? with
   | none=>rw[hx]at hu2;cases hu2
   | some x =>
    rw[hx]at hu2;obtain⟨b,o,hb,h⟩:=hcell _ x hx;simp only[Option.some.injEq]at hb;subst hb;have hc:=h (j % E.sz) u hu2;rw[Addr.add_lit,hj,← Nat.add_assoc];exact hc
  ·intro u hu
   rw[List.mem_flatMap]at hu;obtain⟨x,_,hx⟩:=hu;exact E.one x u hx
  ·have:=Nat.mul_le_mul (show xs.length+ys.length≤68719476736 from hn) hby
   omega
  ·intro g cap w' h2 h3 h4 _
   refine hK ⟨some ⟨g,0,none⟩,xs.length+ys.length,cap⟩ w' ?_ h3 ?_
   ·unfold Own
    simpa[List.flatMap_append] using h2
   ·rcases h4 with h4 | h4
    ·exact .inl h4.symm
    ·exact .inr fun q hq=>by simp[Value.ownBlock]at hq;omega
theorem Try.infoIntSM:(Try.prog.info? 34).map (fun i=>(i.zero,i.size,i.bytes))=some (some (.slice none 0 0),1,24):=by kernel_rfl
theorem wrapM {a:Int}(h1 : -9223372036854775808≤a) (h2:a≤9223372036854775807):IntKind.i64.wrap a=a:=by rw[IntKind.wrap_i64];omega
theorem cellH {w:World}{b k:Nat}{cur:Array Value}{t:TypeId}{v:Value}{fz:Nat × Nat}(h:w.heap[b]? = some (.cells cur t fz)) (hk:cur[k]? = some v):w.cell? ⟨b,k,none⟩=some v:=by
 simp[World.cell?,h,hk]
theorem frozH {w:World}{b:Nat}{cur:Array Value}{t:TypeId}(h:w.heap[b]? = some (.cells cur t (0,0))) (j:Nat):w.frozen? ⟨b,j,none⟩=false:=by
 simp[World.frozen?,h]
end Go.Proofs.Ytnkfphndfijcoaa
namespace Go.Proofs.Ytnkfphndfijcoaa
open Go.RowKit
theorem El.take {α:Type}(E:El α) (xs:List α) (i:Nat):(xs.flatMap E.c).take (i * E.sz)=(xs.take i).flatMap E.c:=by
 induction xs generalizing i with
 | nil=>simp
 | cons x xs ih =>
  cases i with
  | zero=>simp
  | succ i =>
   rw[List.flatMap_cons,List.take_succ_cons,List.flatMap_cons,List.take_append,E.len,List.take_of_length_le (by rw[E.len,Nat.add_mul];omega),
    show (i+1) * E.sz - E.sz=i * E.sz by rw[Nat.add_mul];omega,ih]
section
variable {α : Type} {E : El α} {T : TypeId}
theorem Own.cut {w:World}{base g n cap:Nat}{xs:List α}(h:Own E T w base (.slice (some ⟨g,0,none⟩) n cap) xs) {i:Nat}(hi:i≤n):Own E T w base (.slice (some ⟨g,0,none⟩) i cap) (xs.take i):=by
 have hn:=h.len;subst hn;unfold Own at *;have hl:(xs.take i).length=i:=by rw[List.length_take];omega
 rcases h.2 with⟨h1,_⟩ | ⟨g',cap',cur,h1,h2,h3,h4,h5,h6,h7⟩
 ·simp at h1
 ·simp only[Value.slice.injEq,Option.some.injEq,Addr.mk.injEq,and_true,true_and]at h1
  obtain⟨rfl,rfl⟩:=h1;rw[hl];refine⟨by rw[E.length,hl],.inr ⟨g,cap,cur,rfl,h2,h3,by omega,h5,h6,?_⟩⟩;rw[← E.take,← h7,List.take_take,Nat.min_eq_left (Nat.mul_le_mul_right _ hi)]
end
section
variable {α : Type} {f : α → Bool} {xs L : List α} {i j : Nat}
end
theorem grown_of_below {w w':World}(h:Below w.heap.size w w') (row:Option Nat):w.grownBy w' row:=⟨h.os,h.tape,h.output,h.size,fun k hk _=>h.block k hk⟩
end Go.Proofs.Ytnkfphndfijcoaa
namespace Go.Proofs.Ytnkfphndfijcoaa
section
variable {S K : Type} (start : S) (next : S → Nat → Option S) (key : S → K)
inductive ReachM:S→Prop
 | start:ReachM start
 | step {s t:S}{i:Nat}(h:ReachM s) (ht:next s i=some t):ReachM t
structure SInv (work seen:List S):Prop where
 st:start∈seen
 sub:∀ s∈work,s∈seen
 rc:∀ s∈seen,ReachM start next s
 cl:∀ s∈seen,s∉work→∀ i t,next s i=some t→t∈seen
structure SMid (s:S) (k:Nat) (work seen:List S):Prop where
 st:start∈seen
 ms:s∈seen
 sub:∀ s∈work,s∈seen
 rc:∀ s∈seen,ReachM start next s
 cl:∀ u∈seen,u≠s→u∉work→∀ i t,next u i=some t→t∈seen
 nx:∀ (i:Nat) (t:S),i < k→next s i=some t→t∈seen
variable {start next key}
theorem SInv.init:SInv start next [start] [start]:=
 ⟨by simp,fun s h=>h,fun s h=>by simp at h;subst h;exact .start,fun s h h'=>absurd h h'⟩
theorem SInv.enter {work work' seen:List S}{s:S}(h:SInv start next work seen) (hw:∀ u,u∈work↔u=s∨u∈work'):SMid start next s 0 work' seen:=
 ⟨h.st,h.sub s ((hw s).2 (.inl rfl)),fun u hu=>h.sub u ((hw u).2 (.inr hu)),h.rc,fun u hu hne hn=>h.cl u hu (fun e=>((hw u).1 e).elim hne hn),fun i _ hi=>absurd hi (Nat.not_lt_zero i)⟩
theorem SMid.skip {work seen:List S}{s:S}{k:Nat}(h:SMid start next s k work seen) (ht:next s k=none):SMid start next s (k+1) work seen:=
 ⟨h.st,h.ms,h.sub,h.rc,h.cl,fun i x hi hx=>by
  rcases Nat.lt_or_ge i k with hik | hik
  ·exact h.nx i x hik hx
  ·obtain rfl:i=k:=by omega
   rw[ht]at hx;cases hx⟩
theorem SMid.old {work seen:List S}{s t u:S}{k:Nat}(h:SMid start next s k work seen) (ht:next s k=some t) (hu:u∈seen) (he:key u=key t)
 (hk:∀ a b,ReachM start next a→ReachM start next b→key a=key b→a=b):SMid start next s (k+1) work seen:=by
 have hr:ReachM start next t:=.step (h.rc s h.ms) ht;have e:u=t:=hk u t (h.rc u hu) hr he;refine⟨h.st,h.ms,h.sub,h.rc,h.cl,fun i x hi hx => ?_⟩;rcases Nat.lt_or_ge i k with hik | hik
 ·exact h.nx i x hik hx
 ·obtain rfl:i=k:=by omega
  rw[ht]at hx;simp only[Option.some.injEq]at hx;subst hx;exact e ▸ hu
theorem SMid.new {work work' seen seen':List S}{s t:S}{k:Nat}(h:SMid start next s k work seen) (ht:next s k=some t) (hw:∀ u,u∈work'↔u=t∨u∈work) (hs:∀ u,u∈seen'↔u=t∨u∈seen):SMid start next s (k+1) work' seen':=by
 have hr:ReachM start next t:=.step (h.rc s h.ms) ht;have up:∀ u,u∈seen→u∈seen':=fun u hu=>(hs u).2 (.inr hu);refine⟨up _ h.st,up _ h.ms,fun u hu => ?_,fun u hu => ?_,fun u hu hne hn j x hx => ?_,fun i x hi hx => ?_⟩
 ·rcases (hw u).1 hu with e | e
  ·exact(hs u).2 (.inl e)
  ·exact up u (h.sub u e)
 ·rcases (hs u).1 hu with e | e
  ·exact e ▸ hr
  ·exact h.rc u e
 ·rcases (hs u).1 hu with e | e
  ·exact absurd ((hw u).2 (.inl e)) hn
  ·exact up x (h.cl u e hne (fun q=>hn ((hw u).2 (.inr q))) j x hx)
 ·rcases Nat.lt_or_ge i k with hik | hik
  ·exact up x (h.nx i x hik hx)
  ·obtain rfl:i=k:=by omega
   rw[ht]at hx;simp only[Option.some.injEq]at hx;exact(hs x).2 (.inl hx.symm)
theorem SMid.leave {work seen:List S}{s:S}{k:Nat}(h:SMid start next s k work seen) (hk:∀ i t,next s i=some t→i < k):SInv start next work seen:=
 ⟨h.st,h.sub,h.rc,fun u hu hn i t ht=>by
  by_cases e:u=s
  ·subst e
   exact h.nx i t (hk i t ht) ht
  ·exact h.cl u hu e hn i t ht⟩
def wMs (B:Nat) (rank:S→Nat) (work:List S):Nat:=(work.map fun s=>B ^ rank s).sum
theorem wMs_cons (B:Nat) (rank:S→Nat) (s:S) (work:List S):wMs B rank (s :: work)=B ^ rank s+wMs B rank work:=by simp[wMs]
theorem wMs_append (B:Nat) (rank:S→Nat) (xs ys:List S):wMs B rank (xs++ys)=wMs B rank xs+wMs B rank ys:=by simp[wMs,List.sum_append]
theorem wMs_next {B:Nat}{rank:S→Nat}{s:S}{new:List S}(hB:new.length < B) (hr:∀ t∈new,rank t < rank s):wMs B rank new < B ^ rank s:=by
 have h1:∀ (l:List S),(∀ t∈l,rank t < rank s)→wMs B rank l≤l.length * B ^ (rank s - 1):=by
  intro l
  induction l with
  | nil=>intro _;simp[wMs]
  | cons t l ih =>
   intro hl;have h2:=ih fun u hu=>hl u (by simp[hu]);have h3:B ^ rank t≤B ^ (rank s - 1):=Nat.pow_le_pow_right (by omega) (by have:=hl t (by simp);omega);rw[wMs_cons,List.length_cons,Nat.add_mul,Nat.one_mul];omega
 cases new with
 | nil=>simp only[wMs,List.map_nil,List.sum_nil];exact Nat.pow_pos (by omega)
 | cons t l =>
  have h2:=hr t (by simp);have h3:=h1 (t :: l) hr;have h4:B ^ rank s=B * B ^ (rank s - 1):=by
   conv=>lhs;rw[show rank s=(rank s - 1)+1 by omega,Nat.pow_succ]
   exact Nat.mul_comm _ _
  have h5:0 < B ^ (rank s - 1):=Nat.pow_pos (by omega);have h6:(t :: l).length * B ^ (rank s - 1) < B * B ^ (rank s - 1):=Nat.mul_lt_mul_of_pos_right hB h5;omega
end
def lexO:List Int→List Int→Int
 | x :: xs,y :: ys=>if x < y then -1 else if y < x then 1 else lexO xs ys
 | _,_=>0
theorem lexO_three (a b:List Int):lexO a b = -1∨lexO a b=0∨lexO a b=1:=by
 induction a generalizing b with
 | nil=>simp[lexO]
 | cons x a ih =>
  cases b with
  | nil=>simp[lexO]
  | cons y b =>
   simp only[lexO];split
   ·simp
   ·split
    ·simp
    ·exact ih b
theorem lexO_eq {a b:List Int}(h:a.length=b.length):lexO a b=0↔a=b:=by
 induction a generalizing b with
 | nil=>cases b <;> simp_all [lexO]
 | cons x a ih =>
  cases b with
  | nil=>simp at h
  | cons y b =>
   have:=ih (b:=b) (by simpa using h);simp only[lexO,List.cons.injEq];split
   ·constructor
    ·intro h;omega
    ·intro h;omega
   ·split
    ·constructor
     ·intro h;omega
     ·intro h;omega
    ·rw[this]
     constructor
     ·intro h;exact⟨by omega,h⟩
     ·intro h;exact h.2
theorem lexO_swap (a b:List Int):lexO b a = - lexO a b:=by
 induction a generalizing b with
 | nil=>cases b <;> simp[lexO]
 | cons x a ih =>
  cases b with
  | nil=>simp[lexO]
  | cons y b =>
   simp only[lexO];have:=ih b
   repeat' split
   all_goals omega
theorem lexO_trans {n:Nat}{a b c:List Int}(ha:a.length=n) (hb:b.length=n) (hc:c.length=n) (h1:lexO a b = -1) (h2:lexO b c = -1):lexO a c = -1:=by
 induction a generalizing b c n with
 | nil=>simp[lexO]at h1
 | cons x a ih =>
  match b,c,hb,hc,h1,h2 with
  | [],_,_,_,h1,_=>simp[lexO]at h1
  | _ :: _,[],_,_,_,h2=>simp[lexO]at h2
  | y :: b,z :: c,hb,hc,h1,h2 =>
   simp only[List.length_cons]at ha hb hc;simp only[lexO]at h1 h2 ⊢;have hh:=fun p q=>ih (n:=n - 1) (b:=b) (c:=c) (by omega) (by omega) (by omega) p q;by_cases e1:x < y
   ·by_cases e2:y < z
    ·rw[if_pos (by omega)]
    ·rw[if_neg e2]at h2
     by_cases e3:z < y
     ·rw[if_pos e3]at h2;omega
     ·rw[if_pos (by omega)]
   ·rw[if_neg e1]at h1
    by_cases e4:y < x
    ·rw[if_pos e4]at h1;omega
    ·rw[if_neg e4]at h1
     by_cases e2:y < z
     ·rw[if_pos (by omega)]
     ·rw[if_neg e2]at h2
      by_cases e3:z < y
      ·rw[if_pos e3]at h2;omega
      ·rw[if_neg e3]at h2
       rw[if_neg (by omega),if_neg (by omega)];exact hh h1 h2
structure OutsOk (n:Nat) (l:List (List Int)):Prop where
 len:∀ o∈l,o.length=n
 pw:l.Pairwise fun a b=>lexO a b = -1
theorem outs_unique {n:Nat}:∀ {xs ys:List (List Int)},OutsOk n xs→OutsOk n ys→(∀ o,o∈xs↔o∈ys)→xs=ys:=by
 have irr:∀ a:List Int,lexO a a≠-1:=fun a h=>by have:=(lexO_eq (a:=a) rfl).2 rfl;omega
 intro xs
 induction xs with
 | nil=>intro ys _ _ h;cases ys with
  | nil=>rfl
  | cons y ys=>have:=(h y).2 (by simp);simp at this
 | cons x xs ih =>
  intro ys hx hy h;cases ys with
  | nil=>have:=(h x).1 (by simp);simp at this
  | cons y ys =>
   obtain⟨px,pxs⟩:=List.pairwise_cons.1 hx.pw;obtain⟨py,pys⟩:=List.pairwise_cons.1 hy.pw;have e:x=y:=by
    rcases List.mem_cons.1 ((h x).1 (by simp)) with e | e
    ·exact e
    ·rcases List.mem_cons.1 ((h y).2 (by simp)) with e2 | e2
     ·exact e2.symm
     ·have h1:=py x e
      have h2:=px y e2;have:=lexO_swap x y;omega
   subst e
   congr 1
   refine ih ⟨fun o ho=>hx.len o (by simp[ho]),pxs⟩ ⟨fun o ho=>hy.len o (by simp[ho]),pys⟩ fun o => ?_;constructor
   ·intro ho
    rcases List.mem_cons.1 ((h o).1 (by simp[ho])) with e | e
    ·subst e;exact absurd (px o ho) (irr o)
    ·exact e
   ·intro ho
    rcases List.mem_cons.1 ((h o).2 (by simp[ho])) with e | e
    ·subst e;exact absurd (py o ho) (irr o)
    ·exact e
def putO (o:List Int):List (List Int)→List (List Int)
 | []=>[o]
 | x :: xs=>if lexO x o = -1 then x :: putO o xs else if lexO x o=0 then x :: xs else o :: x :: xs
theorem putO_mem {n:Nat}{o:List Int}(ho:o.length=n):∀ {l:List (List Int)},(∀ x∈l,x.length=n)→∀ y,y∈putO o l↔y=o∨y∈l:=by
 intro l
 induction l with
 | nil=>intro _ y;simp[putO]
 | cons x xs ih =>
  intro hl y;have h1:=ih (fun z hz=>hl z (by simp[hz])) y;unfold putO;split
  ·rw[List.mem_cons,h1,List.mem_cons]
   constructor
   ·rintro (h | h | h)
    ·exact .inr (.inl h)
    ·exact .inl h
    ·exact .inr (.inr h)
   ·rintro (h | h | h)
    ·exact .inr (.inl h)
    ·exact .inl h
    ·exact .inr (.inr h)
  ·split
   ·rename_i h
    have e:x=o:=(lexO_eq (by rw[hl x (by simp),ho])).1 h;subst e;simp
   ·simp[List.mem_cons]
theorem putO_ok {n:Nat}{o:List Int}(ho:o.length=n):∀ {l:List (List Int)},OutsOk n l→OutsOk n (putO o l):=by
 intro l
 induction l with
 | nil=>intro _;exact⟨fun x hx=>by simp[putO]at hx;subst hx;exact ho,by simp[putO]⟩
 | cons x xs ih =>
  intro hl;obtain⟨px,pxs⟩:=List.pairwise_cons.1 hl.pw;have hxs:OutsOk n xs:=⟨fun z hz=>hl.len z (by simp[hz]),pxs⟩
  have hx:=hl.len x (by simp);refine⟨fun y hy => ?_,?_⟩
  ·rcases (putO_mem ho hl.len y).1 hy with e | e
   ·rw[e];exact ho
   ·exact hl.len y e
  ·unfold putO
   split
   ·rename_i h
    refine List.pairwise_cons.2 ⟨fun y hy => ?_,(ih hxs).pw⟩;rcases (putO_mem ho hxs.len y).1 hy with e | e
    ·rw[e];exact h
    ·exact px y e
   ·rename_i h1
    split
    ·exact hl.pw
    ·rename_i h2
     have h3:=lexO_three x o;have h4:=lexO_swap x o;have h5:lexO o x = -1:=by omega
     refine List.pairwise_cons.2 ⟨fun y hy => ?_,hl.pw⟩;rcases List.mem_cons.1 hy with e | e
     ·rw[e];exact h5
     ·exact lexO_trans ho hx (hxs.len y e) h5 (px y e)
end Go.Proofs.Ytnkfphndfijcoaa
namespace Go.Proofs.Ytnkfphndfijcoaa
section
variable {S : Type} (mv : S → List Nat) (af : S → Nat → S)
def nxM (s:S) (j:Nat):Option S:=((mv s)[j]?).map (af s)
theorem nxM_some {s t:S}{j:Nat}:nxM mv af s j=some t↔∃ m,(mv s)[j]? = some m∧af s m=t:=by
 unfold nxM;cases (mv s)[j]? with
 | none=>simp
 | some m=>simp
variable (done : S → Bool) (out : S → List Int) (C R : Nat) (rank : S → Nat) (start : S)
structure PI (work taken:List S) (outs:List (List Int)):Prop where
 nd:(taken++work).Nodup
 rc:∀ s∈taken++work,ReachM start (nxM mv af) s
 st:start∈taken++work
 cl:∀ s∈taken,∀ j t,nxM mv af s j=some t→t∈taken++work
 om:∀ o,o∈outs↔∃ s∈taken,done s=true∧out s=o
 ol:outs.length=(taken.filter done).length
 sk:∀ i s,work[i]? = some s→i+1≤C * (R+1 - rank s)
 rk:∀ s∈work,rank s≤R
structure PMw (s:S) (j:Nat) (init new taken:List S) (outs:List (List Int)):Prop where
 nd:((s :: taken)++(init++new)).Nodup
 rc:∀ u∈(s :: taken)++(init++new),ReachM start (nxM mv af) u
 st:start∈(s :: taken)++(init++new)
 cl:∀ u∈taken,∀ i t,nxM mv af u i=some t→t∈(s :: taken)++(init++new)
 nx:∀ i t,i < j→nxM mv af s i=some t→t∈(s :: taken)++(init++new)
 om:∀ o,o∈outs↔∃ u∈s :: taken,done u=true∧out u=o
 ol:outs.length=((s :: taken).filter done).length
 sk:∀ i u,(init++new)[i]? = some u→i+1≤C * (R+1 - rank u)
 rk:∀ u∈init++new,rank u≤R
 rs:rank s≤R
 si:init.length+1≤C * (R+1 - rank s)
 nl:new.length≤j
 nr:∀ t∈new,rank t < rank s
variable {mv af done out C R rank start}
theorem PI.init (hC:1≤C) (hR:rank start≤R):PI mv af done out C R rank start [start] [] []:=by
 refine⟨by simp,fun s hs => ?_,by simp,fun s hs=>by simp at hs,fun o=>by simp,rfl,fun i s hi => ?_,fun s hs => ?_⟩
 ·simp at hs;subst hs;exact .start
 ·cases i with
  | zero =>
   simp at hi;subst hi;have:1≤R+1 - rank start:=by omega
   exact Nat.mul_le_mul hC this
  | succ i=>simp at hi
 ·simp at hs;subst hs;exact hR
theorem mem_pop {s u:S}{init taken:List S}:u∈taken++(init++[s])↔u∈(s :: taken)++(init++[]):=by
 simp only[List.mem_append,List.mem_cons,List.append_nil,List.not_mem_nil,or_false];constructor
 ·rintro (h | h | h)
  ·exact .inl (.inr h)
  ·exact .inr h
  ·exact .inl (.inl h)
 ·rintro ((h | h) | h)
  ·exact .inr (.inr h)
  ·exact .inl h
  ·exact .inr (.inl h)
theorem PI.pop_core {init taken:List S}{s:S}{outs outs':List (List Int)}(h:PI mv af done out C R rank start (init++[s]) taken outs)
 (hm:∀ o,o∈outs'↔∃ u∈s :: taken,done u=true∧out u=o) (hl:outs'.length=((s :: taken).filter done).length):PMw mv af done out C R rank start s 0 init [] taken outs':=by
 refine⟨?_,fun u hu=>h.rc u (mem_pop.2 hu),mem_pop.1 h.st,fun u hu i t ht=>mem_pop.1 (h.cl u hu i t ht),fun i t hi=>absurd hi (Nat.not_lt_zero i),hm,hl,fun i u hi => ?_,fun u hu => ?_,h.rk s (by simp),?_,by simp,fun t ht=>by simp at ht⟩
 ·have hp:(taken++(init++[s])).Perm ((s :: taken)++(init++[])):=by
   rw[List.append_nil];have h1:(init++[s]).Perm (s :: init):=List.perm_append_comm;have h2:(taken++(s :: init)).Perm (s :: (taken++init)):=List.perm_middle;exact(h1.append_left taken).trans h2
  exact hp.nodup_iff.1 h.nd
 ·rw[List.append_nil]at hi
  have hlt:=(List.getElem?_eq_some_iff.1 hi).1;exact h.sk i u (by rw[List.getElem?_append_left hlt];exact hi)
 ·exact h.rk u (by simp at hu ⊢;exact .inl hu)
 ·exact h.sk init.length s (by simp)
theorem PI.pop_yes {init taken:List S}{s:S}{outs:List (List Int)}(h:PI mv af done out C R rank start (init++[s]) taken outs) (hd:done s=true):PMw mv af done out C R rank start s 0 init [] taken (outs++[out s]):=by
 refine h.pop_core (fun o => ?_) ?_
 ·rw[List.mem_append,h.om]
  constructor
  ·rintro (⟨u,h1,h2,h3⟩ | e)
   ·exact⟨u,by simp[h1],h2,h3⟩
   ·exact⟨s,by simp,hd,(List.mem_singleton.1 e).symm⟩
  ·rintro ⟨u,h1,h2,h3⟩
   rcases List.mem_cons.1 h1 with e | e
   ·exact .inr (by simp[← h3,e])
   ·exact .inl ⟨u,e,h2,h3⟩
 ·rw[List.length_append,h.ol,List.filter_cons,if_pos hd];simp
theorem PI.pop_no {init taken:List S}{s:S}{outs:List (List Int)}(h:PI mv af done out C R rank start (init++[s]) taken outs) (hd:done s=false):PMw mv af done out C R rank start s 0 init [] taken outs:=by
 refine h.pop_core (fun o => ?_) ?_
 ·rw[h.om]
  constructor
  ·rintro ⟨u,h1,h2,h3⟩
   exact⟨u,by simp[h1],h2,h3⟩
  ·rintro ⟨u,h1,h2,h3⟩
   rcases List.mem_cons.1 h1 with e | e
   ·subst e;rw[hd]at h2;cases h2
   ·exact⟨u,e,h2,h3⟩
 ·rw[h.ol,List.filter_cons,if_neg (by simp[hd])]
theorem PMw.mem_s {s:S}{j:Nat}{init new taken:List S}{outs:List (List Int)}(_:PMw mv af done out C R rank start s j init new taken outs):s∈(s :: taken)++(init++new):=by simp
theorem PMw.old {s t u:S}{j:Nat}{init new taken:List S}{outs:List (List Int)}{K:Type}{key:S→K}(h:PMw mv af done out C R rank start s j init new taken outs) (ht:nxM mv af s j=some t)
 (hu:u∈(s :: taken)++(init++new)) (he:key u=key t) (hk:∀ a b,ReachM start (nxM mv af) a→ReachM start (nxM mv af) b→key a=key b→a=b):PMw mv af done out C R rank start s (j+1) init new taken outs:=by
 have hr:ReachM start (nxM mv af) t:=.step (h.rc s h.mem_s) ht;have e:u=t:=hk u t (h.rc u hu) hr he;subst e;refine⟨h.nd,h.rc,h.st,h.cl,fun i x hi hx => ?_,h.om,h.ol,h.sk,h.rk,h.rs,h.si,by have:=h.nl;omega,h.nr⟩;rcases Nat.lt_or_ge i j with hij | hij
 ·exact h.nx i x hij hx
 ·obtain rfl:i=j:=by omega
  rw[ht]at hx;simp only[Option.some.injEq]at hx;exact hx ▸ hu
theorem PMw.new {s t:S}{j:Nat}{init new taken:List S}{outs:List (List Int)}(h:PMw mv af done out C R rank start s j init new taken outs) (ht:nxM mv af s j=some t)
 (hn:t∉(s :: taken)++(init++new)) (hj:j < C) (hr:rank t < rank s):PMw mv af done out C R rank start s (j+1) init (new++[t]) taken outs:=by
 have hreach:ReachM start (nxM mv af) t:=.step (h.rc s h.mem_s) ht;have up:∀ u,u∈(s :: taken)++(init++new)→u∈(s :: taken)++(init++(new++[t])):=fun u hu=>by
  simp only[List.mem_append,List.mem_cons]at hu ⊢;rcases hu with hu | hu | hu
  ·exact .inl hu
  ·exact .inr (.inl hu)
  ·exact .inr (.inr (.inl hu))
 have hasc:(s :: taken)++(init++(new++[t]))=((s :: taken)++(init++new))++[t]:=by simp[List.append_assoc]
 have hnl:=h.nl;have hrs:=h.rs;refine⟨?_,fun u hu => ?_,up _ h.st,fun u hu i x hx=>up x (h.cl u hu i x hx),fun i x hi hx => ?_,h.om,h.ol,fun i u hi => ?_,fun u hu => ?_,h.rs,h.si,by simp;omega,fun u hu => ?_⟩
 ·rw[hasc]
  exact List.nodup_append.2 ⟨h.nd,by simp,fun a ha b hb=>by simp at hb;subst hb;exact fun e=>hn (e ▸ ha)⟩
 ·rw[hasc]at hu
  rcases List.mem_append.1 hu with e | e
  ·exact h.rc u e
  ·simp at e;subst e;exact hreach
 ·rcases Nat.lt_or_ge i j with hij | hij
  ·exact up x (h.nx i x hij hx)
  ·obtain rfl:i=j:=by omega
   rw[ht]at hx;simp only[Option.some.injEq]at hx;subst hx;simp
 ·rw[← List.append_assoc]at hi
  by_cases hlt:i < (init++new).length
  ·rw[List.getElem?_append_left hlt]at hi
   exact h.sk i u hi
  ·rw[List.getElem?_append_right (by omega)]at hi
   have h0:i - (init++new).length=0:=by
    have:=(List.getElem?_eq_some_iff.1 hi).1;simp only[List.length_singleton]at this;omega
   rw[h0]at hi;simp at hi;subst hi;have hi2:i=init.length+new.length:=by simp only[List.length_append]at hlt h0;omega
   have h1:=h.si;have h2:R+1 - rank s+1≤R+1 - rank t:=by omega
   have h3:=Nat.mul_le_mul_left C h2;rw[Nat.mul_add,Nat.mul_one]at h3;omega
 ·rw[← List.append_assoc]at hu
  rcases List.mem_append.1 hu with e | e
  ·exact h.rk u e
  ·simp at e;subst e;omega
 ·rcases List.mem_append.1 hu with e | e
  ·exact h.nr u e
  ·simp at e;subst e;exact hr
theorem PMw.leave {s:S}{j:Nat}{init new taken:List S}{outs:List (List Int)}(h:PMw mv af done out C R rank start s j init new taken outs) (hj:(mv s).length≤j):PI mv af done out C R rank start (init++new) (s :: taken) outs:=
 ⟨h.nd,h.rc,h.st,fun u hu i t ht=>by
  rcases List.mem_cons.1 hu with e | e
  ·subst e
   obtain⟨m,hm,-⟩:=(nxM_some mv af).1 ht;exact h.nx i t (by have:=(List.getElem?_eq_some_iff.1 hm).1;omega) ht
  ·exact h.cl u e i t ht,h.om,h.ol,h.sk,h.rk⟩
theorem PMw.falls {s:S}{j:Nat}{init new taken:List S}{outs:List (List Int)}(h:PMw mv af done out C R rank start s j init new taken outs) (hj:j≤C):wMs (C+1) rank (init++new) < wMs (C+1) rank (init++[s]):=by
 have h1:=wMs_next (B:=C+1) (rank:=rank) (s:=s) (new:=new) (by have:=h.nl;omega) h.nr;rw[wMs_append,wMs_append];have:wMs (C+1) rank [s]=(C+1) ^ rank s:=by simp[wMs]
 omega
theorem stack_short {work:List S}(h:∀ i s,work[i]? = some s→i+1≤C * (R+1 - rank s)):work.length≤C * (R+1):=by
 rcases Nat.eq_zero_or_pos work.length with e | e
 ·rw[e];exact Nat.zero_le _
 ·have h1:=h (work.length - 1) (work[work.length - 1]'(by omega)) (List.getElem?_eq_getElem (by omega))
  have h2:C * (R+1 - rank (work[work.length - 1]'(by omega)))≤C * (R+1):=Nat.mul_le_mul_left C (by omega);omega
theorem PI.short {work taken:List S}{outs:List (List Int)}(h:PI mv af done out C R rank start work taken outs):work.length≤C * (R+1):=stack_short h.sk
theorem PMw.short {s:S}{j:Nat}{init new taken:List S}{outs:List (List Int)}(h:PMw mv af done out C R rank start s j init new taken outs):(init++new).length≤C * (R+1):=stack_short h.sk
theorem PI.fin {taken:List S}{outs:List (List Int)}(h:PI mv af done out C R rank start [] taken outs) (o:List Int):o∈outs↔∃ s,ReachM start (nxM mv af) s∧done s=true∧out s=o:=by
 have hall:∀ s,ReachM start (nxM mv af) s→s∈taken:=fun s hr=>by
  induction hr with
  | start=>simpa using h.st
  | step _ ht ih=>simpa using h.cl _ ih _ _ ht
 rw[h.om];constructor
 ·rintro ⟨s,h1,h2,h3⟩;exact⟨s,h.rc s (by simp[h1]),h2,h3⟩
 ·rintro ⟨s,h1,h2,h3⟩;exact⟨s,hall s h1,h2,h3⟩
theorem PI.few {work taken:List S}{outs:List (List Int)}(h:PI mv af done out C R rank start work taken outs) {N:Nat}(hN:∀ l:List S,l.Nodup→(∀ s∈l,ReachM start (nxM mv af) s∧done s=true)→l.length≤N):outs.length≤N:=by
 rw[h.ol];refine hN _ ((List.nodup_append.1 h.nd).1.filter _) fun s hs => ?_;rw[List.mem_filter]at hs;exact⟨h.rc s (by simp[hs.1]),hs.2⟩
theorem reach_mv {next:S→Nat→Option S}{ok:S→Prop}(h0:ok start) (h1:∀ s i t,ok s→next s i=some t→ok t) (hm:∀ s,ok s→∀ i,i∈mv s↔(next s i).isSome) (ha:∀ s,ok s→∀ i t,next s i=some t→af s i=t) (s:S) :
 ReachM start (nxM mv af) s↔ReachM start next s:=by
 have e:∀ s,ok s→∀ t,(∃ j,nxM mv af s j=some t)↔∃ i,next s i=some t:=fun s hs t=>by
  constructor
  ·rintro ⟨j,hj⟩
   obtain⟨m,h2,h3⟩:=(nxM_some mv af).1 hj;have h4:=(hm s hs m).1 (List.mem_of_getElem? h2);obtain⟨t',ht'⟩:=Option.isSome_iff_exists.1 h4;exact⟨m,by rw[ht',← ha s hs m t' ht',h3]⟩
  ·rintro ⟨i,hi⟩
   obtain⟨j,hj,e⟩:=List.mem_iff_getElem.1 ((hm s hs i).2 (by simp[hi]));exact⟨j,(nxM_some mv af).2 ⟨i,by rw[List.getElem?_eq_getElem hj,e],ha s hs i t hi⟩⟩
 constructor
 ·intro h
  have:ReachM start next s∧ok s:=by
   induction h with
   | start=>exact⟨.start,h0⟩
   | step _ ht ih =>
    obtain⟨i,hi⟩:=(e _ ih.2 _).1 ⟨_,ht⟩;exact⟨.step ih.1 hi,h1 _ _ _ ih.2 hi⟩
  exact this.1
 ·intro h
  have:ReachM start (nxM mv af) s∧ok s:=by
   induction h with
   | start=>exact⟨.start,h0⟩
   | step _ ht ih =>
    obtain⟨j,hj⟩:=(e _ ih.2 _).2 ⟨_,ht⟩;exact⟨.step ih.1 hj,h1 _ _ _ ih.2 ht⟩
  exact this.1
end
end Go.Proofs.Ytnkfphndfijcoaa
namespace Go.Proofs.Ytnkfphndfijcoaa
structure Sq where
 pc:List Int
 rg:List Int
 mm:List Int
def sqStart (p:List (List Ins)):Sq:=⟨List.replicate p.length 0,List.replicate (p.length * 3) 0,List.replicate 3 0⟩
def sqVal (s:Sq) (t:Nat) (x:Ins):Int:=if x.op=3 then s.rg.getD (t * 3+x.reg.toNat) 0 else x.val
def sqDo (s:Sq) (t:Nat) (k:Int) (x:Ins):Sq:=
 ⟨s.pc.set t (k+1),if isRop x.op=true then s.rg.set (t * 3+x.reg.toNat) (s.mm.getD x.loc.toNat 0) else s.rg,if isWop x.op=true then s.mm.set x.loc.toNat (sqVal s t x) else s.mm⟩
def sqNext (p:List (List Ins)) (s:Sq) (t:Nat):Option Sq:=
 match p[t]?,s.pc[t]? with
 | some r,some k=>match r[k.toNat]? with
  | some x=>some (sqDo s t k x)
  | none=>none
 | _,_=>none
def sqOut (s:Sq):List Int:=s.rg++s.mm
structure SqOk (p:List (List Ins)) (s:Sq):Prop where
 lp:s.pc.length=p.length
 lr:s.rg.length=p.length * 3
 lm:s.mm.length=3
 pc:∀ (t:Nat) (k:Int) (r:List Ins),s.pc[t]? = some k→p[t]? = some r→0≤k∧k≤r.length
 rg:∀ x∈s.rg,0≤x∧x≤3
 mm:∀ x∈s.mm,0≤x∧x≤3
theorem SqOk.start (p:List (List Ins)):SqOk p (sqStart p):=
 ⟨by simp[sqStart],by simp[sqStart],by simp[sqStart],fun t k r h _=>by
  simp only[sqStart,List.getElem?_replicate]at h;split at h
  ·simp at h;subst h;omega
  ·simp at h,fun x hx=>by simp[sqStart]at hx;omega,fun x hx=>by simp[sqStart]at hx;omega⟩
theorem getD_range {l:List Int}(h:∀ x∈l,0≤x∧x≤3) (k:Nat):0≤l.getD k 0∧l.getD k 0≤3:=by
 rw[List.getD_eq_getElem?_getD];cases hk:l[k]? with
 | none=>simp
 | some x=>simpa using h x (List.mem_of_getElem? hk)
theorem set_range {l:List Int}(h:∀ x∈l,0≤x∧x≤3) {v:Int}(hv:0≤v∧v≤3) (k:Nat):∀ x∈l.set k v,0≤x∧x≤3:=fun x hx=>by
 rcases List.mem_or_eq_of_mem_set hx with e | e
 ·exact h x e
 ·rw[e];exact hv
theorem val_range {s:Sq}{t:Nat}{x:Ins}(h:∀ y∈s.rg,0≤y∧y≤3) (hx:insValid x=true) (hw:isWop x.op=true):0≤sqVal s t x∧sqVal s t x≤3:=by
 unfold sqVal;split
 ·exact getD_range h _
 ·rename_i h3
  unfold isWop at hw;unfold insValid inB at hx;simp only[Bool.or_eq_true,beq_iff_eq]at hw;rcases hw with (hw | hw) | hw
  ·simp[hw]at hx;omega
  ·exact absurd hw h3
  ·simp[hw]at hx;omega
theorem sqNext_parts {p:List (List Ins)}{s s':Sq}{t:Nat}(h:sqNext p s t=some s'):∃ r k x,p[t]? = some r∧s.pc[t]? = some k∧r[k.toNat]? = some x∧s'=sqDo s t k x:=by
 unfold sqNext at h;split at h
 ·rename_i r k hr hk
  split at h
  ·rename_i x hx
   simp only[Option.some.injEq]at h;exact⟨r,k,x,hr,hk,hx,h.symm⟩
  ·cases h
 ·cases h
theorem SqOk.next {p:List (List Ins)}{s s':Sq}{t:Nat}(h:SqOk p s) (hp:∀ r∈p,∀ x∈r,insValid x=true) (hn:sqNext p s t=some s'):SqOk p s':=by
 obtain⟨r,k,x,hr,hk,hx,rfl⟩:=sqNext_parts hn;have hv:=hp r (List.mem_of_getElem? hr) x (List.mem_of_getElem? hx);have hk0:=h.pc t k r hk hr;have hlt:=(List.getElem?_eq_some_iff.1 hx).1;refine⟨by simp[sqDo,h.lp],?_,?_,?_,?_,?_⟩
 ·unfold sqDo;simp only;split
  ·rw[List.length_set];exact h.lr
  ·exact h.lr
 ·unfold sqDo;simp only;split
  ·rw[List.length_set];exact h.lm
  ·exact h.lm
 ·intro t' k' r' h1 h2
  simp only[sqDo]at h1;rw[List.getElem?_set]at h1;by_cases e:t=t'
  ·subst e
   rw[if_pos rfl]at h1;split at h1
   ·simp only[Option.some.injEq]at h1
    rw[hr]at h2;simp only[Option.some.injEq]at h2;subst h2;omega
   ·cases h1
  ·rw[if_neg e]at h1;exact h.pc t' k' r' h1 h2
 ·unfold sqDo;simp only;split
  ·exact set_range h.rg (getD_range h.mm _) _
  ·exact h.rg
 ·unfold sqDo;simp only;split
  ·rename_i hw;exact set_range h.mm (val_range h.rg hv hw) _
  ·exact h.mm
def sqLeft (p:List (List Ins)) (s:Sq):Nat:=((List.range p.length).map fun t=>(p.getD t []).length - (s.pc.getD t 0).toNat).sum
theorem sum_lt {f g:Nat→Nat}{t:Nat}:∀ {n:Nat},t < n→(∀ i,i≠t→f i=g i)→f t < g t→((List.range n).map f).sum < ((List.range n).map g).sum:=by
 intro n
 induction n with
 | zero=>intro h;omega
 | succ n ih =>
  intro ht he hlt;rw[List.range_succ,List.map_append,List.map_append,List.sum_append,List.sum_append];simp only[List.map_cons,List.map_nil,List.sum_cons,List.sum_nil];by_cases e:t=n
  ·subst e
   have:((List.range t).map f)=((List.range t).map g):=List.map_congr_left fun i hi=>he i (by have:=List.mem_range.1 hi;omega);rw[this];omega
  ·have h1:=ih (by omega) he hlt
   have h2:=he n (fun q=>e q.symm);omega
theorem sqLeft_next {p:List (List Ins)}{s s':Sq}{t:Nat}(h:SqOk p s) (hn:sqNext p s t=some s'):sqLeft p s' < sqLeft p s:=by
 obtain⟨r,k,x,hr,hk,hx,rfl⟩:=sqNext_parts hn;have ht:=(List.getElem?_eq_some_iff.1 hr).1;have ht2:=(List.getElem?_eq_some_iff.1 hk).1;have hlt:=(List.getElem?_eq_some_iff.1 hx).1;have hk0:=h.pc t k r hk hr;unfold sqLeft;refine sum_lt (t:=t) ht (fun i hi => ?_) ?_
 ·simp only[sqDo,List.getD_eq_getElem?_getD]
  rw[List.getElem?_set,if_neg (fun e=>hi e.symm)]
 ·simp only[sqDo,List.getD_eq_getElem?_getD,hr,hk,Option.getD_some]
  rw[List.getElem?_set,if_pos rfl,if_pos ht2];simp only[Option.getD_some];omega
def sqKey (s:Sq):List Int:=s.pc++s.rg++s.mm
theorem sqKey_inj {p:List (List Ins)}{s s':Sq}(h:SqOk p s) (h':SqOk p s') (e:sqKey s=sqKey s'):s=s':=by
 unfold sqKey at e;have e1:=List.append_inj e (by simp[h.lp,h.lr,h'.lp,h'.lr]);have e2:=List.append_inj e1.1 (by rw[h.lp,h'.lp]);cases s;cases s';simp only at e1 e2;rw[e2.1,e2.2,e1.2]
theorem SqOk.reach {p:List (List Ins)}(hp:∀ r∈p,∀ x∈r,insValid x=true) {s:Sq}(h:ReachM (sqStart p) (sqNext p) s):SqOk p s:=by
 induction h with
 | start=>exact SqOk.start p
 | step _ ht ih=>exact ih.next hp ht
theorem sqKey_reach {p:List (List Ins)}(hp:∀ r∈p,∀ x∈r,insValid x=true) (a b:Sq) (ha:ReachM (sqStart p) (sqNext p) a) (hb:ReachM (sqStart p) (sqNext p) b) (e:sqKey a=sqKey b):a=b:=sqKey_inj (SqOk.reach hp ha) (SqOk.reach hp hb) e
end Go.Proofs.Ytnkfphndfijcoaa
namespace Go.Proofs.Ytnkfphndfijcoaa
section
variable {S : Type} {start : S} {next : S → Nat → Option S} (done : S → Bool) (out : S → List Int) (n : Nat)
structure OInv (taken:List S) (outs:List (List Int)):Prop where
 ok:OutsOk n outs
 mem:∀ o,o∈outs↔∃ s∈taken,done s=true∧out s=o
structure SAll (start:S) (next:S→Nat→Option S) (work seen taken:List S) (outs:List (List Int)):Prop where
 inv:SInv start next work seen
 o:OInv done out n taken outs
 t1:∀ s∈seen,s∈work∨s∈taken
 t2:∀ s∈taken,s∈seen
variable {done out n}
theorem OInv.nil:OInv done out n [] []:=⟨⟨fun o h=>by simp at h,.nil⟩,fun o=>by simp⟩
theorem OInv.yes {taken:List S}{outs:List (List Int)}(h:OInv done out n taken outs) {s:S}(hd:done s=true) (hl:(out s).length=n):OInv done out n (s :: taken) (putO (out s) outs):=by
 refine⟨putO_ok hl h.ok,fun o => ?_⟩;rw[putO_mem hl h.ok.len,h.mem];constructor
 ·rintro (e | ⟨u,hu,h1,h2⟩)
  ·exact⟨s,by simp,hd,e.symm⟩
  ·exact⟨u,by simp[hu],h1,h2⟩
 ·rintro ⟨u,hu,h1,h2⟩
  rcases List.mem_cons.1 hu with e | e
  ·exact .inl (by rw[← h2,e])
  ·exact .inr ⟨u,e,h1,h2⟩
theorem OInv.no {taken:List S}{outs:List (List Int)}(h:OInv done out n taken outs) {s:S}(hd:done s=false):OInv done out n (s :: taken) outs:=by
 refine⟨h.ok,fun o => ?_⟩;rw[h.mem];constructor
 ·rintro ⟨u,hu,h1,h2⟩
  exact⟨u,by simp[hu],h1,h2⟩
 ·rintro ⟨u,hu,h1,h2⟩
  rcases List.mem_cons.1 hu with e | e
  ·rw[e,hd]at h1;cases h1
  ·exact⟨u,e,h1,h2⟩
end
def sqDone (p:List (List Ins)) (s:Sq):Bool:=(List.range p.length).all fun t=>decide (¬ s.pc.getD t 0 < ((p.getD t []).length:Int))
theorem sqOut_length {p:List (List Ins)}{s:Sq}(h:SqOk p s):(sqOut s).length=p.length * 3+3:=by
 unfold sqOut;rw[List.length_append,h.lr,h.lm]
end Go.Proofs.Ytnkfphndfijcoaa
namespace Go.Proofs.Ytnkfphndfijcoaa
theorem sum_le_mul {f:Nat→Nat}{b:Nat}(h:∀ i,f i≤b):∀ n,((List.range n).map f).sum≤n * b:=by
 intro n
 induction n with
 | zero=>simp
 | succ n ih =>
  rw[List.range_succ,List.map_append,List.sum_append,Nat.add_mul];have:=h n;simp only[List.map_cons,List.map_nil,List.sum_cons,List.sum_nil];omega
theorem sqLeft_le {p:List (List Ins)}(h:progValid p=true) (s:Sq):sqLeft p s≤21:=by
 obtain⟨h1,-,h2,-⟩:=valid_le h;unfold sqLeft;have h3:=sum_le_mul (f:=fun t=>(p.getD t []).length - (s.pc.getD t 0).toNat) (b:=7) (fun t=>by
  show (p.getD t []).length - (s.pc.getD t 0).toNat≤7;have h4:(p.getD t []).length≤7:=by
   rw[List.getD_eq_getElem?_getD];cases hr:p[t]? with
   | none=>simp
   | some r=>exact(h2 r (List.mem_of_getElem? hr)).1
  omega) p.length
 have:p.length * 7≤3 * 7:=Nat.mul_le_mul_right _ h1;omega
theorem valid_ins {p:List (List Ins)}(h:progValid p=true):∀ r∈p,∀ x∈r,insValid x=true:=fun r hr x hx=>((valid_le h).2.2.1 r hr).2 x hx
end Go.Proofs.Ytnkfphndfijcoaa
namespace Go.Proofs.Ytnkfphndfijcoaa
def encR:List Int→Nat
 | []=>0
 | x :: xs=>x.toNat * 4 ^ xs.length+encR xs
theorem encR_lt {l:List Int}(h:∀ x∈l,0≤x∧x≤3):encR l < 4 ^ l.length:=by
 induction l with
 | nil=>simp[encR]
 | cons x l ih =>
  have h1:=ih fun y hy=>h y (by simp[hy]);have h2:=h x (by simp);have h3:x.toNat * 4 ^ l.length≤3 * 4 ^ l.length:=Nat.mul_le_mul_right _ (by omega);simp only[encR,List.length_cons,Nat.pow_succ];omega
theorem encR_lex {a b:List Int}(hl:a.length=b.length) (ha:∀ x∈a,0≤x∧x≤3) (hb:∀ x∈b,0≤x∧x≤3) (h:lexO a b = -1):encR a < encR b:=by
 induction a generalizing b with
 | nil=>simp[lexO]at h
 | cons x a ih =>
  cases b with
  | nil=>simp at hl
  | cons y b =>
   have hl':a.length=b.length:=by simpa using hl
   have e1:=encR_lt (l:=a) fun z hz=>ha z (by simp[hz]);have hx:=ha x (by simp);have hy:=hb y (by simp);simp only[lexO]at h;simp only[encR];by_cases h1:x < y
   ·have h2:(x.toNat+1) * 4 ^ a.length≤y.toNat * 4 ^ a.length:=Nat.mul_le_mul_right _ (by omega)
    rw[Nat.add_mul,Nat.one_mul]at h2;rw[← hl'];omega
   ·rw[if_neg h1]at h
    by_cases h2:y < x
    ·rw[if_pos h2]at h;omega
    ·rw[if_neg h2]at h
     have e:x=y:=by omega
     subst e;have:=ih hl' (fun z hz=>ha z (by simp[hz])) (fun z hz=>hb z (by simp[hz])) h;rw[← hl'];omega
end Go.Proofs.Ytnkfphndfijcoaa
namespace Go.Proofs.Ytnkfphndfijcoaa
structure Bf where
 q:Sq
 bf:List (List (Int × Int))
def bfN (split:Bool):Nat:=if split then 3 else 1
def bfStart (p:List (List Ins)) (split:Bool):Bf:=⟨sqStart p,List.replicate (p.length * bfN split) []⟩
def bfPlace (t:Nat) (loc:Int) (split:Bool):Nat:=if split then t * 3+loc.toNat else t
def bfEmpty (s:Bf) (t:Nat) (split:Bool):Bool:=(List.range (bfN split)).all fun i=>(s.bf.getD (t * bfN split+i) []).isEmpty
def bfSeen (s:Bf) (t:Nat) (loc:Int) (split:Bool):Int:=
 match (s.bf.getD (bfPlace t loc split) []).reverse.find? (fun e=>e.1==loc) with
 | some e=>e.2
 | none=>s.q.mm.getD loc.toNat 0
def bfDo (s:Bf) (split:Bool) (t:Nat) (k:Int) (x:Ins):Option Bf:=
 if x.op=4∨x.op=5 then if bfEmpty s t split=true then some ⟨sqDo s.q t k x,s.bf⟩ else none
 else if x.op=1 then some ⟨⟨s.q.pc.set t (k+1),s.q.rg.set (t * 3+x.reg.toNat) (bfSeen s t x.loc split),s.q.mm⟩,s.bf⟩
 else some ⟨⟨s.q.pc.set t (k+1),s.q.rg,s.q.mm⟩,s.bf.set (bfPlace t x.loc split) (s.bf.getD (bfPlace t x.loc split) []++[(x.loc,sqVal s.q t x)])⟩
def bfNext (p:List (List Ins)) (split:Bool) (s:Bf) (m:Nat):Option Bf:=
 if m < p.length then
  match p[m]?,s.q.pc[m]? with
  | some r,some k=>match r[k.toNat]? with
   | some x=>bfDo s split m k x
   | none=>none
  | _,_=>none
 else match s.bf[m - p.length]? with
  | some ((l,v) :: rest)=>some ⟨⟨s.q.pc,s.q.rg,s.q.mm.set l.toNat v⟩,s.bf.set (m - p.length) rest⟩
  | _=>none
def entOk (e:Int × Int):Prop:=(0≤e.1∧e.1≤2)∧0≤e.2∧e.2≤3
structure BfOk (p:List (List Ins)) (split:Bool) (s:Bf):Prop where
 q:SqOk p s.q
 lb:s.bf.length=p.length * bfN split
 en:∀ l∈s.bf,∀ e∈l,entOk e
theorem BfOk.start (p:List (List Ins)) (split:Bool):BfOk p split (bfStart p split):=
 ⟨SqOk.start p,by simp[bfStart],fun l hl=>by simp[bfStart]at hl;intro e he;rw[hl.2]at he;simp at he⟩
theorem pc_next {p:List (List Ins)}{s:Sq}{t:Nat}{k:Int}{r:List Ins}{x:Ins}(h:SqOk p s) (hr:p[t]? = some r) (hk:s.pc[t]? = some k) (hx:r[k.toNat]? = some x) {rg mm:List Int}(h1:rg.length=p.length * 3) (h2:mm.length=3) (h3:∀ x∈rg,0≤x∧x≤3) (h4:∀ x∈mm,0≤x∧x≤3):SqOk p ⟨s.pc.set t (k+1),rg,mm⟩:=by
 have hk0:=h.pc t k r hk hr;have hlt:=(List.getElem?_eq_some_iff.1 hx).1;refine⟨by simp[h.lp],h1,h2,fun t' k' r' g1 g2 => ?_,h3,h4⟩;simp only at g1;rw[List.getElem?_set]at g1;by_cases e:t=t'
 ·subst e
  rw[if_pos rfl]at g1;split at g1
  ·simp only[Option.some.injEq]at g1
   rw[hr]at g2;simp only[Option.some.injEq]at g2;subst g2;omega
  ·cases g1
 ·rw[if_neg e]at g1;exact h.pc t' k' r' g1 g2
theorem getD_mem {l:List (List (Int × Int))}(h:∀ x∈l,∀ e∈x,entOk e) (k:Nat):∀ e∈l.getD k [],entOk e:=by
 rw[List.getD_eq_getElem?_getD];cases hk:l[k]? with
 | none=>simp
 | some x=>simpa using h x (List.mem_of_getElem? hk)
theorem seen_range {p:List (List Ins)}{split:Bool}{s:Bf}(h:BfOk p split s) (t:Nat) (loc:Int):0≤bfSeen s t loc split∧bfSeen s t loc split≤3:=by
 unfold bfSeen;split
 ·rename_i e he
  exact(getD_mem h.en _ e (List.mem_reverse.1 (List.mem_of_find?_eq_some he))).2
 ·exact getD_range h.q.mm _
theorem bfNext_thread {p:List (List Ins)}{split:Bool}{s s':Bf}{m:Nat}(h:bfNext p split s m=some s') (hm:m < p.length):∃ r k x,p[m]? = some r∧s.q.pc[m]? = some k∧r[k.toNat]? = some x∧bfDo s split m k x=some s':=by
 unfold bfNext at h;rw[if_pos hm]at h;split at h
 ·rename_i r k hr hk
  split at h
  ·rename_i x hx
   exact⟨r,k,x,hr,hk,hx,h⟩
  ·cases h
 ·cases h
theorem bfNext_flush {p:List (List Ins)}{split:Bool}{s s':Bf}{m:Nat}(h:bfNext p split s m=some s') (hm:¬ m < p.length):∃ l v rest,s.bf[m - p.length]? = some ((l,v) :: rest)∧s'=⟨⟨s.q.pc,s.q.rg,s.q.mm.set l.toNat v⟩,s.bf.set (m - p.length) rest⟩:=by
 unfold bfNext at h;rw[if_neg hm]at h;split at h
 ·rename_i l v rest hb
  simp only[Option.some.injEq]at h;exact⟨l,v,rest,hb,h.symm⟩
 ·cases h
theorem BfOk.next {p:List (List Ins)}{split:Bool}{s s':Bf}{m:Nat}(h:BfOk p split s) (hp:∀ r∈p,∀ x∈r,insValid x=true) (hn:bfNext p split s m=some s'):BfOk p split s':=by
 by_cases hm:m < p.length
 ·obtain⟨r,k,x,hr,hk,hx,hd⟩:=bfNext_thread hn hm
  have hv:=hp r (List.mem_of_getElem? hr) x (List.mem_of_getElem? hx);unfold bfDo at hd;split at hd
  ·split at hd
   ·simp only[Option.some.injEq]at hd
    subst hd;exact⟨h.q.next (t:=m) hp (by unfold sqNext;simp[hr,hk,hx]),h.lb,h.en⟩
   ·cases hd
  ·rename_i h45
   split at hd
   ·simp only[Option.some.injEq]at hd
    subst hd;exact⟨pc_next h.q hr hk hx (by rw[List.length_set];exact h.q.lr) h.q.lm (set_range h.q.rg (seen_range h _ _) _) h.q.mm,h.lb,h.en⟩
   ·rename_i h1
    simp only[Option.some.injEq]at hd;subst hd;refine⟨pc_next h.q hr hk hx h.q.lr h.q.lm h.q.rg h.q.mm,by rw[List.length_set];exact h.lb,fun l hl e he => ?_⟩;rcases List.mem_or_eq_of_mem_set hl with g | g
    ·exact h.en l g e he
    ·rw[g]at he
     rcases List.mem_append.1 he with g2 | g2
     ·exact getD_mem h.en _ e g2
     ·simp only[List.mem_singleton]at g2
      subst g2;have h23:x.op=2∨x.op=3:=by
       unfold insValid at hv;split at hv
       ·omega
       ·split at hv
        ·omega
        ·split at hv
         ·omega
         ·split at hv
          ·omega
          ·cases hv
      have hloc:0≤x.loc∧x.loc≤2:=by
       unfold insValid inB at hv;rcases h23 with e2 | e2 <;> (simp[e2]at hv;omega)
      exact⟨hloc,val_range h.q.rg hv (by unfold isWop;rcases h23 with e2 | e2 <;> simp[e2])⟩
 ·obtain⟨l,v,rest,hb,rfl⟩:=bfNext_flush hn hm
  have he:=h.en _ (List.mem_of_getElem? hb) (l,v) (by simp);refine⟨⟨h.q.lp,h.q.lr,by rw[List.length_set];exact h.q.lm,h.q.pc,h.q.rg,set_range h.q.mm he.2 _⟩,by rw[List.length_set];exact h.lb,fun l' hl e he => ?_⟩;rcases List.mem_or_eq_of_mem_set hl with g | g
  ·exact h.en l' g e he
  ·rw[g]at he
   exact h.en _ (List.mem_of_getElem? hb) e (by simp[he])
def bfLeft (p:List (List Ins)) (s:Bf):Nat:=2 * sqLeft p s.q+(s.bf.map List.length).sum
theorem sum_set {l:List (List (Int × Int))}{k:Nat}{x:List (Int × Int)}(h:l[k]? = some x) (y:List (Int × Int)):((l.set k y).map List.length).sum+x.length=(l.map List.length).sum+y.length:=by
 induction l generalizing k with
 | nil=>simp at h
 | cons z l ih =>
  cases k with
  | zero=>simp at h;subst h;simp;omega
  | succ k =>
   simp only[List.getElem?_cons_succ]at h;have:=ih h;simp only[List.set_cons_succ,List.map_cons,List.sum_cons];omega
theorem place_lt {p:List (List Ins)}{split:Bool}{t:Nat}{loc:Int}(ht:t < p.length) (h0:0≤loc) (h2:loc≤2):bfPlace t loc split < p.length * bfN split:=by
 unfold bfPlace bfN;cases split
 ·simp;exact ht
 ·simp;omega
theorem sqLeft_pc {p:List (List Ins)}{s:Sq}{t:Nat}{k:Int}{r:List Ins}{x:Ins}(h:SqOk p s) (hr:p[t]? = some r) (hk:s.pc[t]? = some k) (hx:r[k.toNat]? = some x) (rg mm:List Int):sqLeft p ⟨s.pc.set t (k+1),rg,mm⟩ < sqLeft p s:=by
 have h1:=sqLeft_next h (show sqNext p s t=some (sqDo s t k x) by unfold sqNext;simp[hr,hk,hx]);exact h1
theorem bfLeft_next {p:List (List Ins)}{split:Bool}{s s':Bf}{m:Nat}(h:BfOk p split s) (hn:bfNext p split s m=some s'):bfLeft p s' < bfLeft p s:=by
 unfold bfLeft;by_cases hm:m < p.length
 ·obtain⟨r,k,x,hr,hk,hx,hd⟩:=bfNext_thread hn hm
  unfold bfDo at hd;split at hd
  ·split at hd
   ·simp only[Option.some.injEq]at hd
    subst hd;have:=sqLeft_next h.q (show sqNext p s.q m=some (sqDo s.q m k x) by unfold sqNext;simp[hr,hk,hx]);simp only;omega
   ·cases hd
  ·split at hd
   ·simp only[Option.some.injEq]at hd
    subst hd;have:=sqLeft_pc h.q hr hk hx (s.q.rg.set (m * 3+x.reg.toNat) (bfSeen s m x.loc split)) s.q.mm;simp only;omega
   ·simp only[Option.some.injEq]at hd
    subst hd;have h1:=sqLeft_pc h.q hr hk hx s.q.rg s.q.mm;simp only;cases hb:s.bf[bfPlace m x.loc split]? with
    | none =>
     have e:s.bf.set (bfPlace m x.loc split) (s.bf.getD (bfPlace m x.loc split) []++[(x.loc,sqVal s.q m x)])=s.bf:=List.set_eq_of_length_le (by simpa using hb);rw[e];omega
    | some b =>
     have h2:=sum_set hb (s.bf.getD (bfPlace m x.loc split) []++[(x.loc,sqVal s.q m x)]);simp only[List.getD_eq_getElem?_getD,hb,Option.getD_some,List.length_append,List.length_singleton]at h2 ⊢;omega
 ·obtain⟨l,v,rest,hb,rfl⟩:=bfNext_flush hn hm
  have h2:=sum_set hb rest;simp only[List.length_cons]at h2;simp only[show sqLeft p ⟨s.q.pc,s.q.rg,s.q.mm.set l.toNat v⟩=sqLeft p s.q from rfl];omega
def bfDone (p:List (List Ins)) (s:Bf):Bool:=s.bf.all List.isEmpty&&sqDone p s.q
def bfOut (s:Bf):List Int:=sqOut s.q
end Go.Proofs.Ytnkfphndfijcoaa
namespace Go.Proofs.Ytnkfphndfijcoaa
open Go.RowKit
section
variable {α : Type} {f : α → α} {k : Nat} {xs : List α}
end
end Go.Proofs.Ytnkfphndfijcoaa
namespace Go.Proofs.Ytnkfphndfijcoaa
def At (p:List (List Ins)) (t i:Nat) (x:Ins):Prop:=∃ r,p[t]? = some r∧r[i]? = some x
theorem At.row {p:List (List Ins)}{t i:Nat}{x:Ins}(h:At p t i x):(p.getD t [])[i]? = some x:=by
 obtain⟨r,h1,h2⟩:=h;rw[List.getD_eq_getElem?_getD,h1];exact h2
theorem At.lt {p:List (List Ins)}{t i:Nat}{x:Ins}(h:At p t i x):t < p.length:=by
 obtain⟨r,h1,h2⟩:=h;exact(List.getElem?_eq_some_iff.1 h1).1
theorem At.ilt {p:List (List Ins)}{t i:Nat}{x:Ins}(h:At p t i x):i < (p.getD t []).length:=(List.getElem?_eq_some_iff.1 h.row).1
theorem At.of {p:List (List Ins)}{t i:Nat}(ht:t < p.length) (hi:i < (p.getD t []).length):∃ x,At p t i x:=by
 obtain⟨r,hr⟩:∃ r,p[t]? = some r:=⟨_,List.getElem?_eq_getElem ht⟩
 rw[List.getD_eq_getElem?_getD,hr]at hi;exact⟨_,r,hr,List.getElem?_eq_getElem hi⟩
def Evt (p:List (List Ins)) (t i:Nat) (x:Ins):Prop:=At p t i x∧x.op≠4
def confl (x y:Ins):Prop:=x.loc=y.loc∧(isW x=true∨isW y=true)
def Cf (p:List (List Ins)) (a b:Nat × Nat):Prop:=a.1≠b.1∧∃ x y,Evt p a.1 a.2 x∧Evt p b.1 b.2 y∧confl x y
def Po (p:List (List Ins)) (a b:Nat × Nat):Prop:=a.1=b.1∧a.2 < b.2∧(∃ x,Evt p a.1 a.2 x)∧∃ y,Evt p b.1 b.2 y
inductive WPth (p:List (List Ins)):Nat × Nat→Nat × Nat→Prop
 | refl (a:Nat × Nat):WPth p a a
 | cf {a b c:Nat × Nat}(h:Cf p a b) (k:WPth p b c):WPth p a c
 | po {a b c:Nat × Nat}(h:Po p a b) (k:WPth p b c):WPth p a c
theorem WPth.trans {p:List (List Ins)}{a b c:Nat × Nat}(h:WPth p a b) (k:WPth p b c):WPth p a c:=by
 induction h with
 | refl a=>exact k
 | cf h _ ih=>exact .cf h (ih k)
 | po h _ ih=>exact .po h (ih k)
def Way (p:List (List Ins)) (a b:Nat × Nat):Prop:=∃ x y,Cf p a x∧WPth p x y∧Cf p y b
def Sep (p:List (List Ins)) (t i k:Nat):Prop:=∃ m x,i≤m∧m≤k∧At p t m x∧(x.op=4∨x.op=5)
def Delayed (p:List (List Ins)) (t i k:Nat):Prop:=i < k∧(∃ x,Evt p t i x)∧(∃ y,Evt p t k y)∧Way p (t,k) (t,i)
theorem ins_facts {x:Ins}(h:insValid x=true):(x.op=1∨x.op=2∨x.op=3∨x.op=4∨x.op=5)∧(x.op≠4→0≤x.loc∧x.loc≤2)∧0≤x.reg∧x.reg≤2:=by
 unfold insValid inB at h;split at h
 ·simp at h;omega
 ·split at h
  ·simp at h;omega
  ·split at h
   ·simp at h;omega
   ·split at h
    ·simp at h;omega
    ·cases h
def rr (r:List Ins) (f:Nat→Int):Nat→Nat→Int
 | 0,_=>0
 | k+1,g=>match r[k]? with
  | some x=>if isRop x.op=true∧x.reg.toNat=g then f k else rr r f k g
  | none=>rr r f k g
def wv (p:List (List Ins)) (rv:Nat→Nat→Int) (t i:Nat):Int:=match (p.getD t [])[i]? with
 | some x=>if x.op=3 then rr (p.getD t []) (rv t) i x.reg.toNat else x.val
 | none=>0
def Lst (p:List (List Ins)) (rv:Nat→Nat→Int) (key:Nat→Nat→Nat) (P:Nat→Nat→Ins→Prop) (v:Int):Prop:=
 (∃ u j y,Evt p u j y∧isW y=true∧P u j y∧v=wv p rv u j∧∀ u' j' y',Evt p u' j' y'→isW y'=true→P u' j' y'→key u' j'≤key u j) ∨
 (v=0∧∀ u j y,Evt p u j y→isW y=true→P u j y→False)
structure Ord (p:List (List Ins)) (rv:Nat→Nat→Int) (key:Nat→Nat→Nat):Prop where
 inj:∀ t i x u j y,Evt p t i x→Evt p u j y→key t i=key u j→t=u∧i=j
 loc:∀ t i x k y,Evt p t i x→Evt p t k y→i < k→x.loc=y.loc→key t i < key t k
 sep:∀ t i x k y,Evt p t i x→Evt p t k y→i < k→Sep p t i k→key t i < key t k
 rd:∀ t i x,Evt p t i x→isR x=true→Lst p rv key (fun u j y=>y.loc=x.loc∧key u j < key t i) (rv t i)
def pcN (s:Sq) (t:Nat):Nat:=(s.pc.getD t 0).toNat
theorem getD_set_other {l:List Int}{k j:Nat}(h:k≠j) (v d:Int):(l.set k v).getD j d=l.getD j d:=by
 rw[List.getD_eq_getElem?_getD,List.getElem?_set,if_neg h,List.getD_eq_getElem?_getD]
theorem max_of {α:Type}(R:α→α→Prop) (tr:∀ a b c,R a b→R b c→R a c) (ir:∀ a,¬ R a a):∀ l:List α,l≠[]→∃ m∈l,∀ x∈l,¬ R m x:=by
 intro l
 induction l with
 | nil=>intro h;exact absurd rfl h
 | cons a l ih =>
  intro _;cases l with
  | nil=>exact⟨a,by simp,fun x hx=>by simp at hx;subst hx;exact ir x⟩
  | cons b l =>
   obtain⟨m,hm,hx⟩:=ih (by simp);by_cases e:R m a
   ·refine⟨a,by simp,fun x hx' => ?_⟩
    rcases List.mem_cons.1 hx' with q | q
    ·subst q;exact ir x
    ·intro g;exact hx x q (tr m a x e g)
   ·refine⟨m,List.mem_cons_of_mem _ hm,fun x hx' => ?_⟩
    rcases List.mem_cons.1 hx' with q | q
    ·subst q;exact e
    ·exact hx x q
theorem min_of {α:Type}(P:α→Prop) (f:α→Nat) (h:∃ a,P a):∃ a,P a∧∀ b,P b→f a≤f b:=by
 have key:∀ n a,P a→f a≤n→∃ a,P a∧∀ b,P b→f a≤f b:=by
  intro n
  induction n with
  | zero=>intro a ha hn;exact⟨a,ha,fun b _=>by omega⟩
  | succ n ih =>
   intro a ha hn;by_cases q:∃ b,P b∧f b < f a
   ·obtain⟨b,hb,hlt⟩:=q
    exact ih b hb (by omega)
   ·exact⟨a,ha,fun b hb=>by
     rcases Nat.lt_or_ge (f b) (f a) with g | g
     ·exact absurd ⟨b,hb,g⟩ q
     ·exact g⟩
 obtain⟨a,ha⟩:=h;exact key (f a) a ha (Nat.le_refl _)
section
variable (p : List (List Ins)) (key : Nat → Nat → Nat) (s : Sq)
def Back (t u:Nat):Prop:=∃ j,pcN s u≤j∧Cf p (u,j) (t,pcN s t)∧key u j < key t (pcN s t)
inductive BackT:Nat→Nat→Prop
 | one {t u:Nat}(h:Back p key s t u):BackT t u
 | cons {t u v:Nat}(h:Back p key s t u) (k:BackT u v):BackT t v
end
theorem BackT.trans {p:List (List Ins)}{key:Nat→Nat→Nat}{s:Sq}{t u v:Nat}(h:BackT p key s t u) (k:BackT p key s u v):BackT p key s t v:=by
 induction h with
 | one h=>exact .cons h k
 | cons h _ ih=>exact .cons h (ih k)
theorem BackT.way {p:List (List Ins)}{key:Nat→Nat→Nat}{s:Sq}(hh:∀ t x,At p t (pcN s t) x→x.op≠4) {t u:Nat}(h:BackT p key s t u):∃ y,WPth p (u,pcN s u) y∧Cf p y (t,pcN s t):=by
 have first:∀ t u,Back p key s t u→∃ y,WPth p (u,pcN s u) y∧Cf p y (t,pcN s t):=fun t u h=>by
  obtain⟨j,hj,hc,hk⟩:=h;refine⟨(u,j),?_,hc⟩;rcases Nat.lt_or_ge (pcN s u) j with q | q
  ·obtain⟨-,y,-,hy,-,-⟩:=hc
   obtain⟨z,hz⟩:=At.of (p:=p) (t:=u) (i:=pcN s u) hy.1.lt (by have h1:=hy.1.ilt;simp only at h1;omega);exact .po (b:=(u,j)) ⟨rfl,q,⟨z,hz,hh u z hz⟩,y,hy⟩ (.refl _)
  ·obtain rfl:j=pcN s u:=by omega
   exact .refl _
 induction h with
 | one h=>exact first _ _ h
 | cons h _ ih =>
  obtain⟨y,h1,h2⟩:=ih;obtain⟨z,h3,h4⟩:=first _ _ h;exact⟨z,h1.trans (.cf h2 h3),h4⟩
theorem source {p:List (List Ins)}{rv:Nat→Nat→Int}{key:Nat→Nat→Nat}{s:Sq}(od:Ord p rv key) (hd:∀ t i k,Delayed p t i k→Sep p t i k)
 (hh:∀ t x,At p t (pcN s t) x→x.op≠4) (hne:∃ t x,At p t (pcN s t) x):∃ t x,At p t (pcN s t) x∧∀ u,¬ Back p key s t u:=by
 apply Classical.byContradiction;intro hno;have hb:∀ t x,At p t (pcN s t) x→∃ u,Back p key s t u:=fun t x hx=>Classical.byContradiction fun q=>hno ⟨t,x,hx,fun u g=>q ⟨u,g⟩⟩;have hat:∀ t u,Back p key s t u→∃ x,At p u (pcN s u) x:=fun t u h=>by
  obtain⟨j,hj,⟨-,y,-,hy,-,-⟩,-⟩:=h;exact At.of hy.1.lt (by have h1:=hy.1.ilt;simp only at h1;omega)
 have hcyc:∃ t,BackT p key s t t:=by
  apply Classical.byContradiction;intro hn;obtain⟨t0,x0,h0⟩:=hne;obtain⟨m,hm,hmax⟩:=max_of (BackT p key s) (fun a b c=>BackT.trans) (fun a h=>hn ⟨a,h⟩) ((List.range p.length).filter fun t=>decide (pcN s t < (p.getD t []).length)) (by
   intro e;have:t0∈(List.range p.length).filter fun t=>decide (pcN s t < (p.getD t []).length):=by
    rw[List.mem_filter];exact⟨List.mem_range.2 h0.lt,decide_eq_true h0.ilt⟩
   rw[e]at this;simp at this)
  rw[List.mem_filter]at hm;obtain⟨x,hx⟩:=At.of (List.mem_range.1 hm.1) (of_decide_eq_true hm.2);obtain⟨u,hu⟩:=hb m x hx;obtain⟨y,hy⟩:=hat m u hu;exact hmax u (by rw[List.mem_filter];exact⟨List.mem_range.2 hy.lt,decide_eq_true hy.ilt⟩) (.one hu)
 obtain⟨t,ht,hmin⟩:=min_of (fun t=>BackT p key s t t) (fun t=>key t (pcN s t)) hcyc;have hfin:∀ u,Back p key s t u→BackT p key s u t→False:=fun u h1 h2=>by
  have hu:=hmin u (h2.trans (.one h1));have h0:=h1;obtain⟨j,hj,hc,hk⟩:=h1;obtain⟨z,hz⟩:=hat t u h0;obtain⟨y,g1,g2⟩:=BackT.way hh (.one h0:BackT p key s t u);obtain⟨w,k1,k2⟩:=BackT.way hh h2;have hway:Way p (u,j) (u,pcN s u):=⟨(t,pcN s t),w,hc,k1,k2⟩
  obtain⟨-,e,-,he,-,-⟩:=hc;simp only at he;rcases Nat.lt_or_ge (pcN s u) j with q | q
  ·have hsep:=hd u (pcN s u) j ⟨q,⟨z,hz,hh u z hz⟩,⟨e,he⟩,hway⟩
   have:=od.sep u (pcN s u) z j e ⟨hz,hh u z hz⟩ he q hsep;omega
  ·obtain rfl:j=pcN s u:=by omega
   omega
 cases ht with
 | one h =>
  obtain⟨j,hj,hc,hk⟩:=h;exact hc.1 rfl
 | cons h k=>exact hfin _ h k
end Go.Proofs.Ytnkfphndfijcoaa
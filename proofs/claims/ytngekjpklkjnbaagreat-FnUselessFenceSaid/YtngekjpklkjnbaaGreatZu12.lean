/-
  Plain: the candidates of a program as products, and that fences do not count. No condition.
-/
import Derived.Test.YtngekjpklkjnbaaGreatZu09
import Derived.Test.YtngekjpklkjnbaaGreatZu08
import Derived.Test.YtngekjpklkjnbaaGreatZu07
import Derived.Shelf.SlSortCmp.NoneTotal
set_option maxHeartbeats 6400000
set_option maxRecDepth 100000
namespace Go.Proofs.YtngekjpklkjnbaaGreat
open Go.RowKit
theorem Yz.mono {w:World}{base base':Nat}{v:Value}{outs:List (List Int)}(h:Yz w base v outs) (hb:base'≤base):Yz w base' v outs:=by
 obtain⟨us,h1,h2,h3⟩:=h;exact⟨us,h1,h2.mono hb,fun i u o hu ho=>(h3 i u o hu ho).mono hb⟩
def YE (n:Nat) (φ:List Int→Prop) (w:World) (e:Ending) (w':World):Prop:=
 ∃ v l,e = .returned v∧Yz w' w.heap.size v l∧YD n l∧(∀ o,o∈l↔φ o)∧Below w.heap.size w w'
theorem Gi {p:List (List Ins)}{s:Sq}(h:Xu p s) (hpr:∀ r∈p,r.length≤7):∀ x∈EX s,0≤x∧x≤255:=by
 have h1:∀ k,0≤s.pc.getD k 0∧s.pc.getD k 0≤255:=fun k=>by
  rw[List.getD_eq_getElem?_getD];cases hk:s.pc[k]? with
  | none=>simp
  | some c =>
   obtain⟨r,hr⟩:=Zd (xs:=p) (k:=k) (by rw[← h.lp];exact(List.getElem?_eq_some_iff.1 hk).1);have h2:=h.pc k c r hk hr;have h3:=hpr r (List.mem_of_getElem? hr);simp only[Option.getD_some];omega
 have h2:∀ k,0≤s.rg.getD k 0∧s.rg.getD k 0≤255:=fun k=>by have:=ZP h.rg k;omega
 have h3:∀ k,0≤s.mm.getD k 0∧s.mm.getD k 0≤255:=fun k=>by have:=ZP h.mm k;omega
 intro x hx;simp only[EX,List.cons_append,List.nil_append,List.mem_cons,List.not_mem_nil,or_false]at hx;rcases hx with rfl | rfl | rfl | rfl | rfl | rfl | rfl | rfl | rfl | rfl | rfl | rfl | rfl | rfl | rfl
 all_goals first | exact h1 _ | exact h2 _ | exact h3 _
theorem AW {l l':List Int}(h:∀ x∈l,0≤x∧x≤255) (h':∀ x∈l',0≤x∧x≤255) (e:strOfNums l=strOfNums l'):l=l':=by
 have e1:(l.map fun x=>UInt8.ofNat x.toNat)=l'.map fun x=>UInt8.ofNat x.toNat:=by
  have:=congrArg (fun b:ByteArray=>b.data.toList) e;simpa[strOfNums] using this
 clear e
 induction l generalizing l' with
 | nil=>cases l' with
  | nil=>rfl
  | cons y l'=>simp at e1
 | cons x l ih =>
  cases l' with
  | nil=>simp at e1
  | cons y l' =>
   simp only[List.map_cons,List.cons.injEq]at e1;have h1:=h x Sm;have h2:=h' y Sm;have e2:=congrArg UInt8.toNat e1.1;simp only[UInt8.toNat_ofNat']at e2;rw[Nat.mod_eq_of_lt Om,Nat.mod_eq_of_lt Om]at e2;rw[ih (fun z hz=>h z (by simp[hz])) (fun z hz=>h' z (by simp[hz])) e1.2,show x=y by omega]
theorem Ci {p:List (List Ins)}{a b:Sq}(ha:Xu p a) (hb:Xu p b) (da:Yi p a=true) (db:Yi p b=true) (e:Kd a=Kd b):a=b:=by
 have h1:a.rg=b.rg∧a.mm=b.mm:=List.append_inj e (by rw[ha.lr,hb.lr]);have h2:a.pc=b.pc:=by
  apply List.ext_getElem (by rw[ha.lp,hb.lp]);intro i h1 h2;have hp:i < p.length:=by rw[← ha.lp];exact h1
  unfold Yi at da db;rw[List.all_eq_true]at da db;have k1:=da i (List.mem_range.2 hp);have k2:=db i (List.mem_range.2 hp);have g1:=ha.pc i a.pc[i] p[i] (List.getElem?_eq_getElem h1) (List.getElem?_eq_getElem hp);have g2:=hb.pc i b.pc[i] p[i] (List.getElem?_eq_getElem h2) (List.getElem?_eq_getElem hp);simp[List.getD_eq_getElem?_getD,h1,h2,hp]at k1 k2;omega
 cases a;cases b;simp only[Sq.mk.injEq];exact⟨h2,h1.1,h1.2⟩
theorem FE {p:List (List Ins)}{k:Nat}{e:Ev}(h:(Ya p)[k]? = some e) (hr:e.r=true):∃ (t i:Nat) (r:List Ins),e.t=t∧e.i=i∧p[t]? = some r∧r[i]? = some (Aq p e):=by
 rcases Ah h with h1 | ⟨t,i,r,h1,h2,h3,h4,-⟩
 ·exfalso
  have h2:=List.mem_of_getElem? h;unfold Ya at h2;rcases List.mem_append.1 h2 with h3 | h3
  ·simp[VL]at h3
   obtain⟨l,-,rfl⟩:=h3;cases hr
  ·unfold Ag at h3
   rw[List.mem_flatMap]at h3;obtain⟨t,ht,h3⟩:=h3;cases hp:p[t]? with
   | none=>rw[hp]at h3;simp at h3
   | some r =>
    rw[hp]at h3;simp only[JQ,List.mem_flatMap,List.mem_range]at h3;obtain⟨i,hi,h3⟩:=h3;obtain⟨x,hx⟩:=Zd (xs:=r) (k:=i) hi;rw[hx]at h3;obtain⟨rfl,-⟩:=AF h3;simp at h1
 ·exact⟨t,i,r,h1,h2,h3,h4⟩
end Go.Proofs.YtngekjpklkjnbaaGreat
namespace Go.Proofs.YtngekjpklkjnbaaGreat
open Go.RowKit
structure Dd where
 lo:Nat
 hi:Nat
 us:List Zt
section
variable {α β : Type} {E : El α} {T : TypeId} {R : Dd → Dd → Prop} {φ : Dd → World → α → β → Prop}
end
theorem Vh {P:Program}{w:World}{base:Nat}{t ty e:TypeId}{i:TypeInfo}{size:Nat}(ht:P.underlying t=some (.slice e)) (hi:P.info? e=some i)
 {v:Value}{n c:Nat}{xs:List Value}(hown:w.ownsRow base e size v n xs) (ad:Addr):(Builtin.append_ #[t,t] ty #[v,.slice (some ad) 0 c]).run P w = .ok v w:=by
 rcases hown.2 with⟨rfl,rfl⟩ | ⟨g,cap,cur,rfl,_,_,hnc,_⟩
 ·simp[Builtin.append_,run_underlying ht,sizeOf,typeInfo,hi,Builtin.lenOf,Builtin.firstCells,loadCells,loadCellsFrom]
 ·simp[Builtin.append_,run_underlying ht,sizeOf,typeInfo,hi,Builtin.lenOf,Builtin.firstCells,hnc,loadCells,loadCellsFrom,storeCells]
theorem Jt {α:Type}(E:El α) {P:Program}{w:World}{ops:Array Oper}{o:Oper}{a:Act}{K:Act→World→Prop}{Q:Exit→Act→World→Prop}{F:Prop}
 (T:TypeId) {zv:Value}{bytes:Nat}(hinfo:(P.info? T).map (fun i=>(i.zero,i.size,i.bytes))=some (some zv,E.sz,bytes)) (hz:zv.cells.size=E.sz) {t:TypeId}(h1:P.underlying t=some (.slice T))
 (base:Nat) (v:Value) (xs ys:List α) (u:Value) (hown:Own E T w base v xs) (hrep:Z7 E w u ys) (hby:bytes≤256) (hn:xs.length+ys.length≤68719476736) (hbase:base≤w.heap.size)
 (hg:o.guard=none) (s y:Operand) (hop:o.op = .call { callee:=.builtin .append,args:=#[s,y],argTypes:=#[t,t] })
 (hs:a.eval s=v) (hy:a.eval y=u)
 (hK:∀ v' w',Own E T w' base v' (xs++ys)→w.grownBy w' v.ownBlock→K (a.put o.dst v') w') :
 if Region.wanted o (yielded ops a.tmps)=true then Oper.wp P o a w K Q else F:=by
 obtain⟨it,hi,hz0,hz1,hz2⟩:=info_parts hinfo;obtain⟨ad,c,rfl,hc1,hc2,hcell⟩:=hrep;have hw:Region.wanted o (yielded ops a.tmps)=true:=by simp[Region.wanted,hg]
 have hnone:∀ r:(Builtin.append_ #[t,t] o.type #[v,.slice ad ys.length c]).run P w = .ok v w,ys=[]→(if Region.wanted o (yielded ops a.tmps)=true then Oper.wp P o a w K Q else F):=fun r hys=>by
  rw[if_pos hw];unfold Oper.wp;simp[execOp,hop,resolve,invoke,builtin,hs,hy,r,Result.andThen];exact hK _ _ (by subst hys;simpa using hown) (World.grownBy.refl _ _)
 cases ad with
 | none =>
  have hys:ys=[]:=by
   cases ys with
   | nil=>rfl
   | cons y ys=>obtain⟨b,o,hb,_⟩:=hcell 0 y rfl;cases hb
  exact hnone (by subst hys;exact XC h1 hi hown) hys
 | some ad =>
  by_cases hys:ys=[]
  ·exact hnone (by subst hys;exact Vh h1 hi hown ad) hys
  have hpos:0 < ys.length:=List.length_pos_iff.2 hys;refine step_append_lies w hg s y t hop base T it zv E.sz bytes h1 hi hz0 hz1 hz2 hz E.pos v xs.length _ hs hown ad ys.length c (ys.flatMap E.c) hy (E.length ys) ?_ ?_ hpos (by unfold maxLen;omega) ?_ hbase _ rfl ?_
  ·intro j u hu
   have hpos:=E.pos;have hj:j=j / E.sz * E.sz+j % E.sz:=by rw[Nat.mul_comm];exact(Nat.div_add_mod j E.sz).symm
   have hm:j % E.sz < E.sz:=Nat.mod_lt _ hpos;have hu2:=hu;rw[hj,E.get ys _ _ hm]at hu2;cases hx:ys[j / E.sz]? with
   | none=>rw[hx]at hu2;cases hu2
   | some x =>
    rw[hx]at hu2;obtain⟨b,o,hb,h⟩:=hcell _ x hx;simp only[Option.some.injEq]at hb;subst hb;have hc:=h (j % E.sz) u hu2;rw[Addr.add_lit,hj,← Nat.add_assoc];exact hc
  ·intro u hu
   rw[List.mem_flatMap]at hu;obtain⟨x,_,hx⟩:=hu;exact E.one x u hx
  ·have:=Nat.mul_le_mul (show xs.length+ys.length≤68719476736 from hn) hby
   omega
  ·intro g cap w' h2 h3 _ _
   refine hK _ w' ?_ h3;unfold Own;simpa[List.flatMap_append] using h2
end Go.Proofs.YtngekjpklkjnbaaGreat
namespace Go.Proofs.YtngekjpklkjnbaaGreat
def Ak (es:List Ev) (i:Nat):List Int:=match es[i]? with
 | some e=>if e.r=true then Bb es e.l else [-1]
 | none=>[]
def FU (i:Nat) (rest:List (List Int)) (k:Int):List (List Int):=if k=(i:Int) then [] else rest.map (k :: ·)
def Ew (es:List Ev):Nat→Nat→List (List Int)
 | 0,_=>[[]]
 | n+1,i=>(Ak es i).flatMap (FU i (Ew es n (i+1)))
def XR (es:List Ev) (i:Nat):List (List Int):=Ew es (es.length - i) i
def Ky:Nat→List Int→List (List Int)
 | 0,_=>[[]]
 | n+1,xs=>(List.range xs.length).flatMap fun i=>(Ky n (xs.eraseIdx i)).map (xs.getD i 0 :: ·)
def Rg (xs:List Int):List (List Int):=Ky xs.length xs
def Hr (es:List Ev):Nat→Nat→List (List (List Int))
 | 0,_=>[[]]
 | n+1,l=>(Rg (Bb es l).tail).flatMap fun q=>(Hr es n (l+1)).map (((Bb es l).headD 0 :: q) :: ·)
def Qg (es:List Ev) (l:Nat):List (List (List Int)):=Hr es (3 - l) l
theorem Bx (es:List Ev):XR es es.length=[[]]:=by unfold XR;rw[Nat.sub_self];rfl
theorem Al {es:List Ev}{i:Nat}(h:i < es.length):XR es i=(Ak es i).flatMap (FU i (XR es (i+1))):=by
 unfold XR;rw[show es.length - i=(es.length - (i+1))+1 by omega];rfl
theorem BU {es:List Ev}{l:Nat}(h:l < 3):Qg es l=(Rg (Bb es l).tail).flatMap fun q=>(Qg es (l+1)).map (((Bb es l).headD 0 :: q) :: ·):=by
 unfold Qg;rw[show 3 - l=(3 - (l+1))+1 by omega];rfl
theorem Xe {α β:Type}(f:α→List β) (b:Nat) (xs:List α) (h:∀ x∈xs,(f x).length≤b):(xs.flatMap f).length≤xs.length * b:=by
 induction xs with
 | nil=>simp
 | cons x xs ih =>
  rw[List.flatMap_cons,List.length_append,List.length_cons,Nat.succ_mul];have h1:=h x Sm;have h2:=ih (fun y hy=>h y (by simp[hy]));omega
theorem UI:∀ (n:Nat) (xs:List Int),xs.length=n→(Ky n xs).length≤fact n:=by
 intro n
 induction n with
 | zero=>intro xs _;simp[Ky,fact]
 | succ n ih =>
  intro xs hx;unfold Ky;have h:=Xe (fun i=>(Ky n (xs.eraseIdx i)).map (xs.getD i 0 :: ·)) (fact n) (List.range xs.length) (fun i hi=>by
   rw[List.mem_range]at hi;rw[List.length_map];exact ih _ (by rw[List.length_eraseIdx,if_pos hi,hx];rfl))
  rw[List.length_range,hx]at h;rw[fact,Nat.mul_comm];rw[hx];exact h
theorem UJ (xs:List Int):(Rg xs).length≤fact xs.length:=UI _ xs rfl
def UD (es:List Ev) (e:Ev):Nat:=if e.r=true then (Bb es e.l).length else 1
def Qh (f:Ev→Nat):List Ev→Nat
 | []=>1
 | e :: es=>f e * Qh f es
theorem UE {es:List Ev}:∀ (n i:Nat),i+n=es.length→(XR es i).length≤Qh (UD es) (es.drop i):=by
 intro n
 induction n with
 | zero =>
  intro i hi;obtain rfl:i=es.length:=Om;rw[Bx,List.drop_length];exact Nat.le_refl _
 | succ n ih =>
  intro i hi;obtain⟨e,he⟩:=Zd (xs:=es) (k:=i) Om;obtain⟨hlt,hee⟩:=List.getElem?_eq_some_iff.1 he;rw[Al hlt,List.drop_eq_getElem_cons hlt,hee,Qh];have h1:(Ak es i).length=UD es e:=by
   unfold Ak UD;rw[he];simp only;split <;> rfl
  have h2:=Xe (FU i (XR es (i+1))) (Qh (UD es) (es.drop (i+1))) (Ak es i) (fun k _=>by
   unfold FU;split
   ·simp
   ·rw[List.length_map];exact ih (i+1) Om)
  rw[h1]at h2;exact h2
theorem Es {es:List Ev}(h:∀ e∈es,e.r=true→1≤(Bb es e.l).length):∀ e∈es,1≤UD es e:=by
 intro e he;unfold UD;split
 ·exact h e he (by assumption)
 ·exact Nat.le_refl _
theorem Dx {f:Ev→Nat}:∀ {es:List Ev},(∀ e∈es,1≤f e)→1≤Qh f es:=by
 intro es
 induction es with
 | nil=>intro _;exact Nat.le_refl _
 | cons e es ih=>intro h;exact Nat.mul_pos (h e Sm) (ih (fun x hx=>h x (by simp[hx])))
theorem BY {f:Ev→Nat}:∀ {es:List Ev},(∀ e∈es,1≤f e)→∀ i,Qh f (es.drop i)≤Qh f es:=by
 intro es
 induction es with
 | nil=>intro _ i;simp
 | cons e es ih =>
  intro h i;cases i with
  | zero=>exact Nat.le_refl _
  | succ i =>
   have h1:=ih (fun x hx=>h x (by simp[hx])) i;have h2:=h e Sm;simp only[List.drop_succ_cons,Qh];exact Nat.le_trans h1 (Nat.le_mul_of_pos_left _ h2)
def Fy (l:Int) (e:Ev):Bool:=e.r&&(e.l==l)
def Hu (l:Int) (e:Ev):Bool:=e.w&&(e.l==l)
theorem EH (c:Int→Nat):∀ (es:List Ev),(∀ e∈es,e.r=true→e.l=0∨e.l=1∨e.l=2)→Qh (fun e=>if e.r=true then c e.l else 1) es=c 0 ^ es.countP (Fy 0) * c 1 ^ es.countP (Fy 1) * c 2 ^ es.countP (Fy 2):=by
 intro es
 induction es with
 | nil=>intro _;simp[Qh]
 | cons e es ih =>
  intro h;have h1:=ih (fun x hx=>h x (by simp[hx]));rw[Qh,h1];cases hr:e.r with
  | false =>
   simp[Fy,hr]
  | true =>
   rcases h e Sm hr with hl | hl | hl <;> simp[Fy,hr,hl,Nat.pow_succ] <;> ac_rfl
theorem Cp (es:List Ev) (l:Int):∀ k,k≤es.length→(DN es l k).length=(es.take k).countP (Hu l):=by
 intro k
 induction k with
 | zero=>intro _;simp[DN]
 | succ k ih =>
  intro hk;obtain⟨e,he⟩:=Zd (xs:=es) (k:=k) hk;rw[DO l he,List.length_append,ih Om,List.take_add_one,he,List.countP_append];unfold LC Hu;cases hw:(e.w&&e.l==l) <;> simp[hw]
theorem DM (es:List Ev) (l:Int):(Bb es l).length=es.countP (Hu l):=by
 unfold Bb;rw[Cp es l _ (Nat.le_refl _),List.take_length]
theorem Af (G:Ev→Bool) (f:Ins→Bool) (hG:∀ (t i:Nat) (x:Ins),(UC t i x).countP G=if f x=true then 1 else 0) (t:Nat) (r:List Ins):∀ k,k≤r.length→(JQ t r k).countP G=(r.take k).countP f:=by
 intro k
 induction k with
 | zero=>intro _;simp[JQ]
 | succ k ih =>
  intro hk;obtain⟨x,hx⟩:=Zd (xs:=r) (k:=k) hk;rw[Bw hx,List.countP_append,ih Om,List.take_add_one,hx,List.countP_append,hG];simp[List.countP_cons]
theorem VM (G:Ev→Bool) (f:Ins→Bool) (hG:∀ (t i:Nat) (x:Ins),(UC t i x).countP G=if f x=true then 1 else 0) (p:List (List Ins)):∀ j,j≤p.length→(Ag p j).countP G=Y1 f (p.take j):=by
 intro j
 induction j with
 | zero=>intro _;simp[Ag,Y1]
 | succ j ih =>
  intro hj;obtain⟨r,hr⟩:=Zd (xs:=p) (k:=j) hj;have h:=Af G f hG j r r.length (Nat.le_refl _);rw[List.take_length]at h;rw[Dj hr,List.countP_append,ih Om,Y9 f hr,h]
theorem Ia (l:Int) (t i:Nat) (x:Ins):(UC t i x).countP (Fy l)=if fR l x=true then 1 else 0:=by
 unfold UC fR;by_cases h:x.op=4
 ·rw[if_pos h];simp[Z8,h]
 ·rw[if_neg h];simp[List.countP_cons,Fy,Bool.and_comm]
theorem Ib (l:Int) (t i:Nat) (x:Ins):(UC t i x).countP (Hu l)=if fW l x=true then 1 else 0:=by
 unfold UC fW;by_cases h:x.op=4
 ·rw[if_pos h];simp[ZF,h]
 ·rw[if_neg h];simp[List.countP_cons,Hu,Bool.and_comm]
theorem GI (p:List (List Ins)) (l:Int):(Ya p).countP (Fy l)=Y1 (fR l) p:=by
 unfold Ya;rw[List.countP_append,VM (Fy l) (fR l) (Ia l) p p.length (Nat.le_refl _),List.take_length];simp[VL,List.range_succ,Fy]
theorem FD (p:List (List Ins)) {l:Nat}(hl:l < 3):(Ya p).countP (Hu l)=Y1 (fW l) p+1:=by
 unfold Ya;rw[List.countP_append,VM (Hu l) (fW l) (Ib l) p p.length (Nat.le_refl _),List.take_length];have:l=0∨l=1∨l=2:=Om;rcases this with rfl | rfl | rfl <;> simp[VL,List.range_succ,Hu,Nat.add_comm]
theorem Rb (es:List Ev) (f:Nat→Nat) (hf:∀ l:Nat,l < 3→fact (Bb es l).tail.length≤f l):(Qg es 0).length≤f 0 * (f 1 * f 2)∧(Qg es 1).length≤f 1 * f 2∧(Qg es 2).length≤f 2∧Qg es 3=[[]]:=by
 have st:∀ l:Nat,l < 3→∀ b,(Qg es (l+1)).length≤b→(Qg es l).length≤f l * b:=fun l hl b hb=>by
  rw[BU hl];have h:=Xe (fun q=>(Qg es (l+1)).map (((Bb es l).headD 0 :: q) :: ·)) b (Rg (Bb es l).tail) (fun q _=>by rw[List.length_map];exact hb);have h2:=Nat.le_trans (UJ (Bb es l).tail) (hf l hl);exact Nat.le_trans h (Nat.mul_le_mul_right _ h2)
 have h3:(Qg es 3).length≤1:=Nat.le_refl _;have h2:=st 2 Om 1 h3;rw[Nat.mul_one]at h2;have h1:=st 1 Om _ h2;have h0:=st 0 Om _ h1;exact⟨h0,h1,h2,rfl⟩
structure LN (p:List (List Ins)):Prop where
 LG:∀ i,(XR (Ya p) i).length≤3000
 Md:∀ l,(Qg (Ya p) l).length≤3000
 perms:∀ l:Nat,l < 3→fact (Bb (Ya p) l).tail.length≤3000
 all:(XR (Ya p) 0).length * (Qg (Ya p) 0).length≤3000
theorem GK {x:Ins}(h:Zg x=true):x.loc=0∨x.loc=1∨x.loc=2:=by
 unfold Zg Kj at h;split at h
 ·simp at h;omega
 ·split at h
  ·simp at h;omega
  ·split at h
   ·simp at h;omega
   ·split at h
    ·simp at h;omega
    ·cases h
theorem Lk {p:List (List Ins)}(h:Zi p=true):LN p:=by
 have hv:=Z4 h;unfold Zi at h;simp only[Bool.and_eq_true,decide_eq_true_eq]at h;have hP:=h.2;have hloc:∀ e∈Ya p,e.r=true→e.l=0∨e.l=1∨e.l=2:=fun e he hr=>by
  obtain⟨k,hk⟩:=List.mem_iff_getElem?.1 he;obtain⟨t',i',r,h1,-⟩:=FE (p:=p) hk hr;rcases Ah hk with h2 | ⟨t2,i2,r2,-,-,h5,h6,-,-,h9⟩
  ·omega
  ·rw[h9];exact GK ((hv.2.2.1 r2 (List.mem_of_getElem? h5)).2 _ (List.mem_of_getElem? h6))
 have hc:∀ l:Nat,l < 3→(Bb (Ya p) l).length=Y1 (fW l) p+1:=fun l hl=>by rw[DM,FD p hl]
 have hpos:∀ e∈Ya p,1≤UD (Ya p) e:=Es fun e he hr=>by
  rcases hloc e he hr with hl | hl | hl
  ·rw[hl];have:=hc 0 Om;simp at this;omega
  ·rw[hl];have:=hc 1 Om;simp at this;omega
  ·rw[hl];have:=hc 2 Om;simp at this;omega
 have hA:=EH (fun l=>(Bb (Ya p) l).length) (Ya p) hloc;have hA2:Qh (UD (Ya p)) (Ya p)=(Y1 (fW (0:Nat)) p+1) ^ Y1 (fR (0:Nat)) p * (Y1 (fW (1:Nat)) p+1) ^ Y1 (fR (1:Nat)) p * (Y1 (fW (2:Nat)) p+1) ^ Y1 (fR (2:Nat)) p:=by
  refine Eq.trans hA ?_;rw[← hc 0 Om,← hc 1 Om,← hc 2 Om,← GI,← GI,← GI];rfl
 have ht:∀ l:Nat,l < 3→fact (Bb (Ya p) l).tail.length≤fact (Y1 (fW l) p):=fun l hl=>by
  rw[List.length_tail,hc l hl];exact Nat.le_refl _
 have t0:=ht 0 Om;have t1:=ht 1 Om;have t2:=ht 2 Om
 obtain⟨o0,o1,o2,o3⟩:=Rb (Ya p) (fun l=>fact (Y1 (fW l) p)) ht;have hfr:∀ i,(XR (Ya p) i).length≤Qh (UD (Ya p)) (Ya p):=fun i=>by
  by_cases hi:i≤(Ya p).length
  ·exact Nat.le_trans (UE ((Ya p).length - i) i Om) (BY hpos i)
  ·unfold XR
   rw[show (Ya p).length - i=0 by omega];exact Dx hpos
 generalize Qh (UD (Ya p)) (Ya p)=A at *;have f0:=JR (Y1 (fW (0:Nat)) p);have f1:=JR (Y1 (fW (1:Nat)) p);have f2:=JR (Y1 (fW (2:Nat)) p)
 have hA1:1≤A:=by rw[hA2];exact Nat.mul_pos (Nat.mul_pos (Nat.pow_pos Om) (Nat.pow_pos Om)) (Nat.pow_pos Om)
 have hPe:A * (fact (Y1 (fW (0:Nat)) p) * (fact (Y1 (fW (1:Nat)) p) * fact (Y1 (fW (2:Nat)) p)))≤3000:=by
  refine Nat.le_trans (Nat.le_of_eq ?_) hP;rw[hA2];simp only[YP,YB,pl];simp only[Nat.one_mul]
  ac_rfl
 clear hA hA2 hP hpos hloc hv hc h ht;generalize fact (Y1 (fW (0:Nat)) p)=F0 at *;generalize fact (Y1 (fW (1:Nat)) p)=F1 at *;generalize fact (Y1 (fW (2:Nat)) p)=F2 at *;have h12:F1 * F2≤F0 * (F1 * F2):=Nat.le_mul_of_pos_left _ f0;have h2:F2≤F1 * F2:=Nat.le_mul_of_pos_left _ f1;have h1:F1≤F1 * F2:=Nat.le_mul_of_pos_right _ f2;have h0:F0≤F0 * (F1 * F2):=Nat.le_mul_of_pos_right _ (Nat.mul_pos f1 f2);have hB1:1≤F0 * (F1 * F2):=Nat.mul_pos f0 (Nat.mul_pos f1 f2);have hB:F0 * (F1 * F2)≤A * (F0 * (F1 * F2)):=Nat.le_mul_of_pos_left _ hA1;have hAB:A≤A * (F0 * (F1 * F2)):=Nat.le_mul_of_pos_right _ hB1;refine⟨fun i=>Nat.le_trans (hfr i) Om,fun l => ?_,fun l hl => ?_,?_⟩
 ·have hl:l=0∨l=1∨l=2∨3≤l:=Om
  rcases hl with rfl | rfl | rfl | hl
  ·omega
  ·omega
  ·omega
  ·unfold Qg;rw[show 3 - l=0 by omega];show 1≤3000;omega
 ·have hl':l=0∨l=1∨l=2:=Om
  rcases hl' with rfl | rfl | rfl
  ·exact Nat.le_trans t0 Om
  ·exact Nat.le_trans t1 Om
  ·exact Nat.le_trans t2 Om
 ·exact Nat.le_trans (Nat.mul_le_mul (hfr 0) o0) hPe
end Go.Proofs.YtngekjpklkjnbaaGreat
namespace Go.Proofs.YtngekjpklkjnbaaGreat
open Go.RowKit
theorem UQ {w w':World}{l:Array Value}{T:TypeId}{n c:Nat}(hg:(w.alloc (.cells l T)).drew.grownBy w' (Value.slice (some ⟨w.heap.size,0,none⟩) n c).ownBlock):Below w.heap.size w w':=
 ((Below.refl w.heap.size w).alloc (Nat.le_refl _) (.cells l T)).drew.grown hg Sm (fun q hq=>by simp[Value.ownBlock]at hq;omega)
theorem Yz.Hh {w:World}{base:Nat}{v:Value}{outs:List (List Int)}(h:Yz w base v outs):∃ l:List (Zt × List Int),l.map Prod.snd=outs∧Own Rx 66 w base v l∧∀ x∈l,Own Zo 3 w base x.1.v x.2:=by
 obtain⟨us,h1,h2,h3⟩:=h;refine⟨us.zip outs,List.map_snd_zip (Nat.le_of_eq h1.symm),Own.Hs.2 (by rw[List.map_fst_zip (Nat.le_of_eq h1)];exact h2),fun x hx => ?_⟩;obtain⟨i,hi⟩:=List.mem_iff_getElem?.1 hx;rw[List.getElem?_zip_eq_some]at hi;exact h3 i x.1 x.2 hi.1 hi.2
theorem Yz.FR {w:World}{base:Nat}{v:Value}{l:List (Zt × List Int)}(h:Own Rx 66 w base v l) (hr:∀ x∈l,Own Zo 3 w base x.1.v x.2):Yz w base v (l.map Prod.snd):=by
 refine⟨l.map Prod.fst,Sm,Own.Hs.1 h,fun i u o hu ho => ?_⟩;rw[List.getElem?_map]at hu ho;cases hx:l[i]? with
 | none=>rw[hx]at hu;simp at hu
 | some x =>
  rw[hx]at hu ho;simp only[Option.map_some,Option.some.injEq]at hu ho;subst hu;subst ho;exact hr x (List.mem_of_getElem? hx)
theorem R7 (w:World):Calls Tryz.prog 133 #[.slice none 0 0,.func (.func 134) #[] #[]] w fun e w'=>e = .returned (.slice none 0 0)∧w=w':=by
 go_enter Tryz.func133,Tryz.ntmps133;go_wp2_with fail;go_ret;exact⟨rfl,rfl⟩
theorem XX (n N:Nat) (hN:N≤68719476736) : @Jo n N:=by
 intro w base v outs ho hb hn hl;obtain⟨l,rfl,hp,hr⟩:=ho.Hh;have hn2:∀ x∈l,x.2.length=n:=fun x hx=>hn x.2 (List.mem_map.2 ⟨x,hx,rfl⟩);have hl2:l.length≤68719476736:=by rw[List.length_map]at hl;omega
 rcases hp.shape with⟨rfl,rfl⟩ | ⟨g,c0,rfl,-⟩
 ·have H1:=Za (AnyF.slices_SortFunc_none (P:=Tryz.prog) (ρ:=Tryz.Ud) { Tryz.E8 with } none 0 (.func (.func 132) #[] #[]) w)
  have H2:=Za (R7 w);have F:Hid (∃ v' l',Ending.returned (Value.slice none 0 0) = .returned v'∧Yz w base v' l'∧YD n l'∧(∀ o,o∈l'↔o∈List.map Prod.snd ([]:List (Zt × List Int)))∧YS [66] base w w):=Za ⟨_,[],rfl,.nil _ _,⟨fun o h=>by simp at h,.nil⟩,fun o=>by simp,.refl _ _ _⟩;clear ho hp hr hn hl hn2;go_enter Tryz.func103,Tryz.ntmps103;go_wp2_with (first
   | (go_at_call 131;refine H1.out.mono ?_;rintro e w1 ⟨rfl,rfl⟩)
   | (go_at_call 133;(with_reducible refine H2.out.mono ?_);rintro e w2 ⟨rfl,rfl⟩))
  go_ret;exact F.out
 ·have H1:=Za (CP base g c0 n l w hp hr hn2 hl2)
  have HC:=Za (fun (l':List (Zt × List Int)) (w1:World) (h1:l'.Perm l) h2 h3 h4=>Rz base g c0 n l' w1 h2 h3 (fun x hx=>hn2 x (h1.mem_iff.1 hx)) h4 (by rw[h1.length_eq];exact hl2));clear ho hp hr hn hl hn2;generalize hm:l.length=m at *;have HM:=Za hm;clear hm;go_enter Tryz.func103,Tryz.ntmps103;go_wp2_with fail
  (with_reducible refine H1.out.mono ?_);rintro e w1 ⟨rfl,l',hpm,ho1,hs1,hr1,hk1⟩
  have hlm:l'.length=m:=by rw[hpm.length_eq];exact HM.out
  have H2:=Za (HC.out l' w1 hpm (by rw[hlm];exact ho1) hr1 hs1);rw[hlm]at H2;have HPM:=Za hpm;have HK1:=Za hk1;have HLM:=Za hlm
  clear hpm ho1 hs1 hr1 hk1 hlm H1 HC;go_wp2_with fail
  (with_reducible refine H2.out.mono ?_);rintro e w2 ⟨v',r,rfl,ho2,hci,hr2,hk2⟩
  have F:Hid (∃ v'' l'',Ending.returned v' = .returned v''∧Yz w2 base v'' l''∧YD n l''∧(∀ o,o∈l''↔o∈l.map Prod.snd)∧YS [66] base w w2):=Za ⟨v',r.map Prod.snd,rfl,.FR ho2 (fun x hx=>hr2 x (hci.sub x hx)),hci.ok,fun o=>by
   rw[hci.mem,List.take_length];exact(HPM.out.map Prod.snd).mem_iff,HK1.out.trans hk2⟩
  clear ho2 hci hr2 hk2;go_wp2_with fail;go_ret;exact F.out
end Go.Proofs.YtngekjpklkjnbaaGreat
namespace Go.Proofs.YtngekjpklkjnbaaGreat
section
variable {es es' : List Ev}
end
theorem Ab (f:Ins→Bool) (hf:∀ x:Ins,x.op=4→f x=false) (r:List Ins):(UU r).countP f=r.countP f:=by
 unfold UU;rw[List.countP_filter];apply List.countP_congr;intro x _;unfold GM;by_cases h:x.op=4
 ·simp[h,hf x h]
 ·simp[h]
theorem JP (f:Ins→Bool) (hf:∀ x:Ins,x.op=4→f x=false) (p:List (List Ins)):Y1 f (UW p)=Y1 f p:=by
 unfold Y1 UW
 induction p with
 | nil=>rfl
 | cons r p ih=>rw[List.map_cons,List.flatten_cons,List.flatten_cons,List.countP_append,List.countP_append,ih,Ab f hf]
theorem CF (p:List (List Ins)) (l:Nat):pl (UW p) l=pl p l:=by
 unfold pl;rw[JP (fW l) (fun x hx=>by simp[fW,ZF,hx]),JP (fR l) (fun x hx=>by simp[fR,Z8,hx])]
end Go.Proofs.YtngekjpklkjnbaaGreat
/-
  What a search has put out, plain; one memory has an outcome. No condition.
-/
import Derived.Test.YtkfhgnkonaafgaaGreatDoorZx00
import Derived.Maps.AppendAt
set_option maxHeartbeats 6400000
set_option maxRecDepth 100000
namespace Go.Proofs.YtkfhgnkonaafgaaGreatDoor
end Go.Proofs.YtkfhgnkonaafgaaGreatDoor
namespace Go.Proofs.YtkfhgnkonaafgaaGreatDoor
open Go.RowKit
inductive Re where
 | mk (op:Int) (nm:ByteArray) (kids:List Re)
def Re.op:Re→Int
 | .mk o _ _=>o
def Re.nm:Re→ByteArray
 | .mk _ p _=>p
def Re.kids:Re→List Re
 | .mk _ _ k=>k
theorem Re.eta (c:Re):Re.mk c.op c.nm c.kids=c:=by cases c;rfl
theorem Re.all {P:List Re→Prop} (h:∀ ks,(∀ c∈ks,P c.kids)→P ks) (ks:List Re):P ks:=by
 apply h
 induction ks with
 | nil=>intro c hc;simp at hc
 | cons c ks ih =>
  intro d hd
  have hc:P c.kids:=by
   refine Re.rec (motive_1:=fun c=>P c.kids) (motive_2:=fun l => ∀ c∈l,P c.kids) ?_ ?_ ?_ c
   ·intro o p l hl;exact h l hl
   ·intro c hc;simp at hc
   ·intro a l ha hl c hc
    rcases List.mem_cons.1 hc with rfl | hc
    ·exact ha
    ·exact hl c hc
  rcases List.mem_cons.1 hd with rfl | hd
  ·exact hc
  ·exact ih d hd
structure Rs where
 op:Int
 nm:ByteArray
 s:Slc
def RsE:El Rs:=⟨3,by decide,fun x=>[.int .i64 x.op, .string x.nm, .slice x.s.a x.s.n x.s.cap],fun _=>rfl,fun x u h=>by simp at h;rcases h with rfl | rfl | rfl <;> rfl⟩
inductive RepRe (lo:Nat) (w:World):Rs→Re→Prop
 | mk {o:Int} {p:ByteArray} {s:Slc} {us:List Rs} {ks:List Re} (h1:us.length=ks.length) (h2:Rep RsE w s.v us) (h3:From lo s us)
  (h4:∀ (i:Nat) (u:Rs) (k:Re),us[i]? = some u→ks[i]? = some k→RepRe lo w u k):RepRe lo w ⟨o,p,s⟩ (.mk o p ks)
def RepRk (lo:Nat) (w:World) (s:Slc) (ks:List Re):Prop:=
 ∃ us:List Rs,us.length=ks.length∧Rep RsE w s.v us∧From lo s us∧∀ (i:Nat) (u:Rs) (k:Re),us[i]? = some u→ks[i]? = some k→RepRe lo w u k
theorem RepRe.kids {lo:Nat} {w:World} {u:Rs} {c:Re} (h:RepRe lo w u c):u.op=c.op∧u.nm=c.nm∧RepRk lo w u.s c.kids:=by
 cases h with
 | mk h1 h2 h3 h4=>exact ⟨rfl,rfl,_,h1,h2,h3,h4⟩
theorem RepRk.cond {lo:Nat} {w:World} {s:Slc} {ks:List Re} (h:RepRk lo w s ks) (o:Int) (p:ByteArray):RepRe lo w ⟨o,p,s⟩ (.mk o p ks):=by
 obtain ⟨us,h1,h2,h3,h4⟩:=h
 exact .mk h1 h2 h3 h4
theorem Rep.fromR {lo:Nat} {w w':World} {s:Slc} {us:List Rs} (h:Rep RsE w s.v us) (hf:From lo s us) (hk:∀ q,lo≤q→q < w.heap.size→w'.heap[q]? = w.heap[q]?):Rep RsE w' s.v us:=by
 obtain ⟨a,c,hv,h1,h2,h⟩:=h
 refine ⟨a,c,hv,h1,h2,fun i x hx => ?_⟩
 obtain ⟨b,o,rfl,hi⟩:=h i x hx
 refine ⟨b,o,rfl,fun j u hu => ?_⟩
 have hc:=hi j u hu
 rw [← hc]
 refine cell_of_block (hk b ?_ (lt_of_cell hc)) _
 rcases hf with rfl | hf
 ·simp at hx
 ·simp only [Slc.v,Value.slice.injEq] at hv
  exact hf b o hv.1
theorem RepRe.keep {lo:Nat} {w w':World} {u:Rs} {c:Re} (h:RepRe lo w u c) (hk:∀ q,lo≤q→q < w.heap.size→w'.heap[q]? = w.heap[q]?):RepRe lo w' u c:=by
 induction h with
 | mk h1 h2 h3 h4 ih=>exact .mk h1 (h2.fromR h3 hk) h3 ih
theorem RepRe.low {lo lo':Nat} {w:World} {u:Rs} {c:Re} (h:RepRe lo w u c) (hl:lo'≤lo):RepRe lo' w u c:=by
 induction h with
 | mk h1 h2 h3 h4 ih =>
  refine .mk h1 h2 ?_ ih
  rcases h3 with h3 | h3
  ·exact .inl h3
  ·exact .inr fun b o e=>Nat.le_trans hl (h3 b o e)
theorem RepRk.keep {lo:Nat} {w w':World} {s:Slc} {ks:List Re} (h:RepRk lo w s ks) (hk:∀ q,lo≤q→q < w.heap.size→w'.heap[q]? = w.heap[q]?):RepRk lo w' s ks:=by
 obtain ⟨us,h1,h2,h3,h4⟩:=h
 exact ⟨us,h1,h2.fromR h3 hk,h3,fun i u k hu hk'=>(h4 i u k hu hk').keep hk⟩
theorem RepRk.low {lo lo':Nat} {w:World} {s:Slc} {ks:List Re} (h:RepRk lo w s ks) (hl:lo'≤lo):RepRk lo' w s ks:=by
 obtain ⟨us,h1,h2,h3,h4⟩:=h
 refine ⟨us,h1,h2, ?_,fun i u k hu hk'=>(h4 i u k hu hk').low hl⟩
 rcases h3 with h3 | h3
 ·exact .inl h3
 ·exact .inr fun b o e=>Nat.le_trans hl (h3 b o e)
theorem RepRk.below {lo:Nat} {w w':World} {s:Slc} {ks:List Re} (h:RepRk lo w s ks) (hb:Below w.heap.size w w'):RepRk lo w' s ks:=h.keep fun q _ hq=>hb.block q hq
theorem RepRk.nil (lo:Nat) (w:World):RepRk lo w ⟨none,0,0⟩ []:=⟨[],rfl,Rep.nil w, .inl rfl,fun i u k h=>by simp at h⟩
theorem RepRk.open {lo:Nat} {w:World} {s:Slc} {ks:List Re} (h:RepRk lo w s ks):s.n=ks.length∧ks.length≤s.cap∧ks.length≤9223372036854775807∧s.cap≤maxLen:=by
 obtain ⟨us,h1,h2,h3,h4⟩:=h
 obtain ⟨a,c,hv,h5,h6,h7,_⟩:=h2.open
 simp only [Slc.v,Value.slice.injEq] at hv
 obtain ⟨_,e2,e3⟩:=hv
 rw [e2,e3];omega
theorem RepRk.kid {lo:Nat} {w:World} {a:Option Addr} {n c:Nat} {ks:List Re} (h:RepRk lo w ⟨a,n,c⟩ ks) {k:Nat} {x:Re} (hx:ks[k]? = some x) :
 ∃ (b o:Nat) (s:Slc),a=some ⟨b,o,none⟩∧b < w.heap.size∧w.cell? ⟨b,o+k * 3,none⟩=some (.int .i64 x.op)∧w.cell? ⟨b,o+k * 3+1,none⟩=some (.string x.nm)∧w.cell? ⟨b,o+k * 3+2,none⟩=some (.slice s.a s.n s.cap)∧RepRk lo w s x.kids:=by
 obtain ⟨us,h1,h2,h3,h4⟩:=h
 obtain ⟨u,hu⟩:=get_of_lt (xs:=us) (k:=k) (by rw [h1];exact (List.getElem?_eq_some_iff.1 hx).1)
 obtain ⟨e1,e2,hk⟩:=(h4 k u x hu hx).kids
 obtain ⟨a',c',hv,_,_,h⟩:=h2
 simp only [Slc.v,Value.slice.injEq] at hv
 obtain ⟨rfl,_,_⟩:=hv
 obtain ⟨b,o,rfl,h'⟩:=h k u hu
 rw [← e1,← e2]
 exact ⟨b,o,u.s,rfl,lt_of_cell (h' 0 _ rfl),h' 0 _ rfl,h' 1 _ rfl,h' 2 _ rfl,hk⟩
def Re.desc:Re→Nat
 | .mk _ _ ks=>ks.length+(ks.attach.map fun ⟨k,_⟩=>k.desc).sum
termination_by c=>SizeOf.sizeOf c
decreasing_by
 have:=List.sizeOf_lt_of_mem ‹_›
 simp;omega
def descR (ks:List Re):Nat:=(ks.map fun k=>k.desc+1).sum
theorem sum_attachR (ks:List Re):ks.length+(ks.attach.map fun k=>k.1.desc).sum=descR ks:=by
 have:(ks.attach.map fun k=>k.1.desc)=ks.map fun k=>k.desc:=by
  rw [List.attach_map_val (l:=ks) (f:=fun k=>k.desc)]
 rw [this]
 unfold descR
 clear this
 induction ks with
 | nil=>rfl
 | cons k ks ih=>simp;omega
theorem Re.desc_eq (c:Re):c.desc=descR c.kids:=by
 cases c with
 | mk o p ks =>
  rw [Re.desc,Re.kids]
  exact sum_attachR ks
theorem descR_take_succ {ks:List Re} {k:Nat} {x:Re} (h:ks[k]? = some x):descR (ks.take (k+1))=descR (ks.take k)+(descR x.kids+1):=by
 unfold descR
 rw [List.take_add_one,h,List.map_append,List.sum_append,← descR]
 simp only [Option.toList_some,List.map_cons,List.map_nil,List.sum_cons,List.sum_nil]
 rw [Re.desc_eq]
 rfl
theorem descR_take_le (ks:List Re) (k:Nat):descR (ks.take k)≤descR ks:=by
 have:descR ks=descR (ks.take k)+descR (ks.drop k):=by
  unfold descR
  rw [← List.sum_append,← List.map_append,List.take_append_drop]
 omega
theorem descR_kid {ks:List Re} {k:Nat} {x:Re} (h:ks[k]? = some x):descR (ks.take k)+(descR x.kids+1)≤descR ks:=by
 rw [← descR_take_succ h];exact descR_take_le _ _
theorem length_le_descR (ks:List Re):ks.length≤descR ks:=by
 unfold descR
 induction ks with
 | nil=>simp
 | cons k ks ih=>simp;omega
end Go.Proofs.YtkfhgnkonaafgaaGreatDoor
namespace Go.Proofs.YtkfhgnkonaafgaaGreatDoor
def nameTab:List ByteArray:=[⟨#[112,111]⟩,⟨#[108,111,99]⟩,⟨#[101,120,116]⟩,⟨#[114,102]⟩,⟨#[99,111]⟩,⟨#[102,114]⟩,⟨#[102,101,110,99,101]⟩,⟨#[119,114]⟩,⟨#[119,119]⟩,⟨#[105,100]⟩]
def isName (p:ByteArray):Bool:=nameTab.any fun s=>p.toList==s.toList
def kidsO (o:Int):Int:=if o=1 then 0 else if o=2∨o=3∨o=4∨o=5 then 2 else if o=6∨o=7 then 1 else -1
def nodeO (o:Int) (p:ByteArray) (n:Nat):Bool:=((n:Int)==kidsO o)&&(((o==1)==isName p)&&(o==1||(p.toList==[])))
def nodeE (c:Re):Bool:=nodeO c.op c.nm c.kids.length
def shapeR:Nat→Re→Bool
 | 0,_=>false
 | d+1,c=>nodeE c&&c.kids.all (shapeR d)
def nodesR (c:Re):Nat:=descR c.kids+1
def validR (c:Re):Bool:=shapeR 12 c&&decide (nodesR c≤40)
theorem shapeR_succ (d:Nat) (c:Re):shapeR (d+1) c=true↔nodeE c=true∧∀ k∈c.kids,shapeR d k=true:=by
 simp [shapeR]
structure SzR (d:Nat) (c:Re) (r:Int):Prop where
 low:1≤r
 high:r≤41+40 * d
 iff:r≤40↔(shapeR d c=true∧nodesR c≤40)
 eq:r≤40→r=nodesR c
theorem SzR.bad0 (c:Re):SzR 0 c 41:=⟨by omega,by omega,by simp [shapeR],by omega⟩
theorem SzR.bad {d:Nat} {c:Re} (h:nodeE c=false):SzR (d+1) c 41:=⟨by omega,by omega,by
 constructor
 ·intro h;omega
 ·rintro ⟨h1,_⟩
  rw [shapeR_succ,h] at h1
  simp at h1,by omega⟩
structure SzRTo (d:Nat) (ks:List Re) (k:Nat) (r:Int):Prop where
 eq:r=1+descR (ks.take k)
 le:r≤40
 all:∀ c∈ks.take k,shapeR d c=true
theorem SzRTo.zero (d:Nat) (ks:List Re):SzRTo d ks 0 1:=⟨by simp [descR],by omega,by simp⟩
theorem SzRTo.low {d:Nat} {ks:List Re} {k:Nat} {r:Int} (h:SzRTo d ks k r):1≤r:=by have:=h.eq;omega
theorem SzRTo.next {d:Nat} {ks:List Re} {k:Nat} {r r':Int} {x:Re} (h:SzRTo d ks k r) (hx:ks[k]? = some x) (hr:SzR d x r') (hle:r+r'≤40):SzRTo d ks (k+1) (r+r'):=by
 have h1:=h.low
 have h2:=hr.eq (by omega)
 obtain ⟨h3,h4⟩:=hr.iff.1 (by omega)
 refine ⟨?_,hle, ?_⟩
 ·rw [descR_take_succ hx,h.eq,h2];unfold nodesR;omega
 ·intro c hc
  rw [List.take_add_one,hx] at hc
  simp at hc
  rcases hc with hc | rfl
  ·exact h.all c hc
  ·exact h3
theorem SzRTo.more {d:Nat} {c:Re} {k:Nat} {r r':Int} {x:Re} (h:SzRTo d c.kids k r) (hx:c.kids[k]? = some x) (hr:SzR d x r') (hgt:¬ r+r'≤40):SzR (d+1) c (r+r'):=by
 have h1:=h.low
 have h0:=hr.low
 have h5:=hr.high
 refine ⟨by omega,by have:=h.le;omega,⟨fun h=>absurd h hgt, ?_⟩,fun h=>absurd h hgt⟩
 rintro ⟨hs,hn⟩
 exfalso
 apply hgt
 rw [shapeR_succ] at hs
 have hm:=List.mem_of_getElem? hx
 have hk:=descR_kid hx
 have h6:=hr.iff.2 ⟨hs.2 x hm,by unfold nodesR at hn ⊢;omega⟩
 have h7:=hr.eq h6
 rw [h.eq,h7]
 unfold nodesR at hn ⊢;omega
theorem SzRTo.done {d:Nat} {c:Re} {k:Nat} {r:Int} (h:SzRTo d c.kids k r) (hn:nodeE c=true) (hk:c.kids.length≤k):SzR (d+1) c r:=by
 have h1:=h.low
 have h2:=h.le
 have h3:=h.eq
 have h4:=h.all
 rw [List.take_of_length_le hk] at h3 h4
 exact ⟨h1,by omega,⟨fun _=>⟨(shapeR_succ d c).2 ⟨hn,h4⟩,by unfold nodesR;omega⟩,fun _=>h2⟩,fun _=>by unfold nodesR;omega⟩
theorem SzR.valid {c:Re} {r:Int} (h:SzR 12 c r):decide (r≤40)=validR c:=by
 unfold validR
 rw [Bool.eq_iff_iff]
 simp [h.iff]
structure CnR (c:Re) (m r:Int):Prop where
 low:1≤r
 high:r≤nodesR c
 eq:r≤m→r=nodesR c
structure CnRTo (ks:List Re) (m:Int) (k:Nat) (r:Int):Prop where
 low:1≤r
 high:r≤1+descR (ks.take k)
 eq:r≤m→r=1+descR (ks.take k)
theorem CnRTo.zero (ks:List Re) (m:Int):CnRTo ks m 0 1:=⟨by omega,by omega,fun _=>by simp [descR]⟩
theorem CnRTo.next {ks:List Re} {m:Int} {k:Nat} {r r':Int} {x:Re} (h:CnRTo ks m k r) (hx:ks[k]? = some x) (hm:r≤m) (hr:CnR x (m - r) r'):CnRTo ks m (k+1) (r+r'):=by
 have h1:=h.low;have h2:=h.high;have h3:=h.eq hm
 have h4:=hr.low;have h5:=hr.high
 unfold nodesR at h5
 refine ⟨by omega,by rw [descR_take_succ hx];omega,fun hle => ?_⟩
 have:=hr.eq (by omega)
 unfold nodesR at this
 rw [descR_take_succ hx];omega
theorem CnRTo.done {c:Re} {m:Int} {k:Nat} {r:Int} (h:CnRTo c.kids m k r) (hk:c.kids.length≤k∨¬ r≤m):CnR c m r:=by
 have h1:=h.low;have h2:=h.high;have h3:=descR_take_le c.kids k
 refine ⟨h1,by unfold nodesR;omega,fun hm => ?_⟩
 rcases hk with hk | hk
 ·have:=h.eq hm
  rw [List.take_of_length_le hk] at this
  unfold nodesR;omega
 ·exact absurd hm hk
theorem CnR.le {c:Re} {r:Int} (h:CnR c 40 r):decide (r≤40)=decide (nodesR c≤40):=by
 have h1:=h.high
 rw [Bool.eq_iff_iff]
 simp only [decide_eq_true_eq]
 constructor
 ·intro hr;have:=h.eq hr;omega
 ·intro hn;omega
end Go.Proofs.YtkfhgnkonaafgaaGreatDoor
namespace Go.Proofs.YtkfhgnkonaafgaaGreatDoor
open Go.RowKit
theorem wpList_appAt {α:Type} (E:El α) {P:Program} {w:World} {ops:Array Oper} {rest:List Oper} {o:Oper} {a:Act} {Q:Exit→Act→World→Prop}
 (T:TypeId) {zv:Value} {bytes:Nat} (hinfo:(P.info? T).map (fun i=>(i.zero,i.size,i.bytes))=some (some zv,E.sz,bytes)) (hz:zv.cells.size=E.sz) {t:TypeId} (h1:P.underlying t=some (.slice T))
 (base:Nat) (v:Value) (xs:List α) (x:α) (hown:Own E T w base v xs) (hby:bytes≤256) (hn:xs.length≤68719476736) (hbase:base≤w.heap.size)
 (hg:o.guard=none) (s y:Operand) (hop:o.op = .call { callee:=.builtin .append,args:=#[s,y],argTypes:=#[t,t] })
 (hs:a.eval s=v) (b off c:Nat) (hy:a.eval y = .slice (some ⟨b,off,none⟩) 1 c) (hnews:∀ j u,(E.c x)[j]? = some u→w.cell? ⟨b,off+j,none⟩=some u)
 (hK:∀ v' w',Own E T w' base v' (xs++[x])→w.grownBy w' v.ownBlock→(v'.ownBlock=v.ownBlock∨∃ q,v'.ownBlock=some q∧w.heap.size≤q)→wpList P ops Q rest (a.put o.dst v') w') :
 wpList P ops Q (o :: rest) a w:=by
 obtain ⟨it,hi,hz0,hz1,hz2⟩:=info_parts hinfo
 refine wpList_append_own_at w hg s y t hop base T it zv E.sz bytes h1 hi hz0 hz1 hz2 hz E.pos v xs.length _ hs hown ⟨b,off,none⟩ 1 c (E.c x) hy (by rw [E.len,Nat.one_mul]) ?_ (E.one x) (by unfold maxLen;omega) ?_ hbase ?_
 ·intro j u hu
  have hadd:(⟨b,off,none⟩:Addr).add j=⟨b,off+j,none⟩:=by unfold Addr.add;split <;> simp_all
  rw [hadd]
  exact hnews j u hu
 ·have:=Nat.mul_le_mul (show xs.length+1≤68719476737 by omega) hby
  omega
 ·intro v' w' h2 h3 _ h5
  refine hK v' w' ?_ h3 ?_
  ·unfold Own
   simpa [List.flatMap_append] using h2
  ·rcases h5 with h5 | h5
   ·exact .inl h5
   ·exact .inr ⟨_,h5,Nat.le_refl _⟩
end Go.Proofs.YtkfhgnkonaafgaaGreatDoor
namespace Go.Proofs.YtkfhgnkonaafgaaGreatDoor
open Go.RowKit
def EqRk (xs:List Re):Prop:=∀ (ys:List Re) (a a':Option Addr) (n c n' c':Nat) (b:Bool) (w:World),RepRk 0 w ⟨a,n,c⟩ xs→RepRk 0 w ⟨a',n',c'⟩ ys→(b=true↔xs=ys) →
 Calls Tryz.prog 124 #[.slice a n c, .slice a' n' c'] w fun e w'=>e = .returned (.bool b)∧Below w.heap.size w w'
theorem bytes_eqR {a b:ByteArray} (h:a.toList=b.toList):a=b:=by
 rw [ByteArray.toList_eq,ByteArray.toList_eq] at h
 cases a;cases b;simp_all
theorem eqRel_of {xs:List Re} (H:EqRk xs) (o o':Int) (p p':ByteArray) (ys:List Re) (a a':Option Addr) (n c n' c':Nat) (b:Bool) (w:World) (h:RepRk 0 w ⟨a,n,c⟩ xs) (h':RepRk 0 w ⟨a',n',c'⟩ ys) (hb:b=true↔Re.mk o p xs=Re.mk o' p' ys) :
 Calls Tryz.prog 83 #[.agg #[.int .i64 o, .string p, .slice a n c], .agg #[.int .i64 o', .string p', .slice a' n' c']] w fun e w'=>e = .returned (.bool b)∧Below w.heap.size w w':=by
 have HB:=hide hb;clear hb
 have hbase:=((Below.refl w.heap.size w).alloc (Nat.le_refl _) (.cells #[.int .i64 o, .string p, .slice a n c] 75)).alloc (by simp) (.cells #[.int .i64 o', .string p', .slice a' n' c'] 75)
 have h:=h.below hbase
 have h':=h'.below hbase
 obtain ⟨d,hd⟩:=some_bool (xs=ys)
 have HC:=hide (H ys a a' n c n' c' d _ h h' hd)
 have HBB:=hide hbase;have HD:=hide hd
 clear hbase h h' hd
 by_cases h1:o=o'
 ·have g1:(o != o')=false:=by simp [h1]
  by_cases h2:p=p'
  ·have g2:(p.toList==p'.toList)=true:=by simp [h2]
   obtain rfl:b=d:=by rw [Bool.eq_iff_iff,HB.out,HD.out];simp [h1,h2]
   clear h1 h2
   go_enter Tryz.func83,Tryz.ntmps83
   go_wp2_with fail
   (with_reducible refine (HC.out).mono ?_);rintro e w1 ⟨rfl,hb1⟩
   cases b
   ·go_wp2_with fail
    go_ret
    exact ⟨rfl,HBB.out.trans (hb1.mono HBB.out.size)⟩
   ·go_wp2_with fail
    go_ret
    exact ⟨rfl,HBB.out.trans (hb1.mono HBB.out.size)⟩
  ·have g2:(p.toList==p'.toList)=false:=by
    rw [beq_eq_false_iff_ne];exact fun e=>h2 (bytes_eqR e)
   obtain rfl:b=false:=by rw [Bool.eq_false_iff,ne_eq,HB.out];simp [h2]
   clear h1 h2
   go_enter Tryz.func83,Tryz.ntmps83
   go_wp2_with fail
   go_ret
   exact ⟨rfl,HBB.out⟩
 ·have g1:(o != o')=true:=by simp [h1]
  obtain rfl:b=false:=by rw [Bool.eq_false_iff,ne_eq,HB.out];simp [h1]
  clear h1
  go_enter Tryz.func83,Tryz.ntmps83
  go_wp2_with fail
  go_ret
  exact ⟨rfl,HBB.out⟩
theorem eqRk_any:∀ xs,EqRk xs:=Re.all (by
 intro xs ih ys a a' n c n' c' bb w hx hy hbb
 obtain ⟨e1,hc1,hc2,hc3⟩:=hx.open
 obtain ⟨e1',hc1',hc2',hc3'⟩:=hy.open
 simp only at e1 e1' hc1 hc2 hc3 hc1' hc2' hc3'
 have HX:=hide hx;have HY:=hide hy;have HB:=hide hbb;have IH:=hide ih
 clear hx hy hbb ih
 have H:=hide e1.symm;have H':=hide e1'.symm
 clear e1 e1'
 rw [H.out] at hc1 hc2
 rw [H'.out] at hc1' hc2'
 by_cases hc:n=n'
 ·subst hc
  have hc':((n:Int) != n)=false:=by simp
  go_enter Tryz.func124,Tryz.ntmps124
  go_wp2_with fail
  go_loopw [5] (fun v wr => ∃ k:Nat,k≤n∧v = .int .i64 k∧Hid (xs.take k=ys.take k)∧Below w.heap.size w wr) (fun v _=>n - (intOf v).toNat)
  case atStart=>exact ⟨0,Nat.zero_le _,rfl,hide (by simp),Below.refl _ _⟩
  case round =>
   obtain ⟨k,hk,rfl,T,hb⟩:=hrel
   by_cases hlt:k < n
   ·obtain ⟨x,hxk⟩:=get_of_lt (xs:=xs) (k:=k) (by rw [H.out];exact hlt)
    obtain ⟨y,hyk⟩:=get_of_lt (xs:=ys) (k:=k) (by rw [H'.out];exact hlt)
    obtain ⟨b,o,s,rfl,hbl,i0,i1,i2,i5⟩:=(HX.out.below hb).kid hxk
    obtain ⟨b',o',s',rfl,hbl',j0,j1,j2,j5⟩:=(HY.out.below hb).kid hyk
    have hlt':=nat_of_lt hlt
    obtain ⟨d,hd⟩:=some_bool (x=y)
    have HC:=hide (fun w' h h'=>eqRel_of (IH.out x (List.mem_of_getElem? hxk)) x.op y.op x.nm y.nm y.kids s.a s'.a s.n s.cap s'.n s'.cap d w' h h' (by rw [hd,Re.eta,Re.eta]))
    have X:=hide hxk;clear hxk
    have Y:=hide hyk;clear hyk
    have I5:=hide i5;have J5:=hide j5;have D:=hide hd
    clear i5 j5 hd
    go_wp2_with fail
    refine wp_region_bw (by kernel_rfl) (by kernel_rfl) ?_
    repeat (go_big_quiet_step ((go_at_call 83;exact Calls.bw (HC.out _ (I5.out.below (BW.prop _)) (J5.out.below (BW.prop _))))))
    refine wpQuiet_nil ?_
    intro w1 hb1
    have hb2:=hb.trans (hb1.mono hb.size)
    cases d
    ·have hq:Hid (xs≠ys):=hide (ne_of_get X.out Y.out (fun e=>by have:=D.out.2 e;simp at this))
     go_wp2_with fail
     go_ret
     obtain rfl:bb=false:=by rw [Bool.eq_false_iff,ne_eq,HB.out];exact hq.out
     exact ⟨rfl,hb2⟩
    ·have T':=hide (take_eq_succ T.out X.out Y.out (D.out.1 rfl))
     go_wp2_with fail
     go_roundw
     case rel=>exact ⟨k+1,by omega,by go_num,T',hb2⟩
     case measure=>simp [intOf];omega
   ·have e2:Hid (xs=ys):=hide (take_all_eq T.out (by rw [H.out];omega) (by rw [H'.out];omega))
    go_wp2_with fail
    go_ret
    obtain rfl:bb=true:=HB.out.2 e2.out
    exact ⟨rfl,hb⟩
 ·have hc':((n:Int) != n')=true:=by simp;omega
  have hq:Hid (xs≠ys):=hide (fun h=>hc (by rw [← H.out,← H'.out,h]))
  go_enter Tryz.func124,Tryz.ntmps124
  go_wp2_with fail
  go_ret
  obtain rfl:bb=false:=by rw [Bool.eq_false_iff,ne_eq,HB.out];exact hq.out
  exact ⟨rfl,Below.refl _ _⟩)
theorem eqRelExpr_any (o o':Int) (p p':ByteArray) (xs ys:List Re) (a a':Option Addr) (n c n' c':Nat) (b:Bool) (w:World) (h:RepRk 0 w ⟨a,n,c⟩ xs) (h':RepRk 0 w ⟨a',n',c'⟩ ys) (hb:b=true↔Re.mk o p xs=Re.mk o' p' ys) :
 Calls Tryz.prog 83 #[.agg #[.int .i64 o, .string p, .slice a n c], .agg #[.int .i64 o', .string p', .slice a' n' c']] w fun e w'=>e = .returned (.bool b)∧Below w.heap.size w w':=
 eqRel_of (eqRk_any xs) o o' p p' ys a a' n c n' c' b w h h' hb
def Re.wt:Re→Nat
 | .mk _ p ks=>p.size+(ks.length+(ks.attach.map fun ⟨k,_⟩=>k.wt).sum)
termination_by c=>SizeOf.sizeOf c
decreasing_by
 have:=List.sizeOf_lt_of_mem ‹_›
 simp;omega
def wtR (ks:List Re):Nat:=(ks.map fun k=>k.wt+1).sum
theorem Re.wt_eq (c:Re):c.wt=c.nm.size+wtR c.kids:=by
 cases c with
 | mk o p ks =>
  rw [Re.wt,Re.kids,Re.nm]
  congr 1
  have:(ks.attach.map fun k=>k.1.wt)=ks.map fun k=>k.wt:=by
   rw [List.attach_map_val (l:=ks) (f:=fun k=>k.wt)]
  show ks.length+(ks.attach.map fun k=>k.1.wt).sum=_
  rw [this]
  unfold wtR
  clear this
  induction ks with
  | nil=>rfl
  | cons k ks ih=>simp;omega
theorem wtR_take_succ {ks:List Re} {k:Nat} {x:Re} (h:ks[k]? = some x):wtR (ks.take (k+1))=wtR (ks.take k)+(x.nm.size+wtR x.kids+1):=by
 unfold wtR
 rw [List.take_add_one,h,List.map_append,List.sum_append,← wtR]
 simp only [Option.toList_some,List.map_cons,List.map_nil,List.sum_cons,List.sum_nil]
 rw [Re.wt_eq]
 rfl
theorem length_le_wtR (ks:List Re):ks.length≤wtR ks:=by
 unfold wtR
 induction ks with
 | nil=>simp
 | cons k ks ih=>simp;omega
theorem descR_le_wtR:∀ ks:List Re,descR ks≤wtR ks:=Re.all (by
 intro ks ih
 unfold descR wtR
 induction ks with
 | nil=>simp
 | cons k ks ih2 =>
  simp only [List.map_cons,List.sum_cons]
  have h1:=ih k (by simp)
  have h2:=ih2 (fun c hc=>ih c (by simp [hc]))
  rw [Re.desc_eq,Re.wt_eq];omega)
theorem wtR_rest (ks:List Re) {k:Nat} (h:ks.length≤k):wtR (ks.take k)=wtR ks:=by rw [List.take_of_length_le h]
inductive NmOk:Re→Prop
 | mk {o:Int} {p:ByteArray} {ks:List Re} (h:p.size≤9223372036854775807) (hk:∀ k∈ks,NmOk k):NmOk (.mk o p ks)
theorem NmOk.size {c:Re} (h:NmOk c):c.nm.size≤9223372036854775807:=by cases h;assumption
theorem NmOk.kids {c:Re} (h:NmOk c):∀ k∈c.kids,NmOk k:=by cases h;assumption
def szRk (ks:List Re) (l:Int):Int:=if l - wtR ks < 0 then -1 else l - wtR ks
def SzRk (xs:List Re):Prop:=∀ (a:Option Addr) (n c:Nat) (l:Int) (w:World),RepRk 0 w ⟨a,n,c⟩ xs→(∀ k∈xs,NmOk k)→0≤l→l≤1048576 →
 Calls Tryz.prog 105 #[.slice a n c, .int .i64 l] w fun e w'=>e = .returned (.int .i64 (szRk xs l))∧Below w.heap.size w w'
def szRe (p:ByteArray) (xs:List Re) (l:Int):Int:=if l - (p.size+wtR xs:Nat) < 0 then -1 else l - (p.size+wtR xs:Nat)
theorem szRel_of {xs:List Re} (H:SzRk xs) (o:Int) (p:ByteArray) (a:Option Addr) (n c:Nat) (l:Int) (w:World) (h:RepRk 0 w ⟨a,n,c⟩ xs) (hnm:∀ k∈xs,NmOk k) (h0:0≤l) (h1:l≤1048576) (hsz:p.size≤9223372036854775807) :
 Calls Tryz.prog 61 #[.agg #[.int .i64 o, .string p, .slice a n c], .int .i64 l] w fun e w'=>e = .returned (.int .i64 (szRe p xs l))∧Below w.heap.size w w':=by
 have hbase:=(Below.refl w.heap.size w).alloc (Nat.le_refl _) (.cells #[.int .i64 o, .string p, .slice a n c] 62)
 have HBB:=hide hbase
 have SE:Hid (szRe p xs l=if l - (p.size+wtR xs:Nat) < 0 then -1 else l - (p.size+wtR xs:Nat)):=hide rfl
 generalize szRe p xs l=R at *
 by_cases hl:l - (p.size:Int) < 0
 ·have SR:Hid (R = -1):=hide (by rw [SE.out,if_pos (by omega)])
  clear h SE
  go_enter Tryz.func61,Tryz.ntmps61
  go_wp2_with fail
  go_ret
  exact ⟨by rw [SR.out];rfl,HBB.out⟩
 ·have HC:=hide (H a n c (l - (p.size:Int)) _ (h.below hbase) hnm (by omega) (by omega))
  have hs:szRk xs (l - (p.size:Int))=R:=by
   rw [SE.out];unfold szRk
   have e:l - (p.size:Int) - (wtR xs:Int)=l - ((p.size+wtR xs:Nat):Int):=by omega
   rw [e]
  rw [hs] at HC
  have hz:R = -1∨0≤R:=by rw [SE.out];split <;> omega
  clear hbase h hs SE
  rcases hz with rfl | hz
  ·go_enter Tryz.func61,Tryz.ntmps61
   go_wp2_with fail
   (with_reducible refine (HC.out).mono ?_);rintro e w1 ⟨rfl,hb1⟩
   go_wp2_with fail
   go_ret
   exact ⟨rfl,HBB.out.trans (hb1.mono HBB.out.size)⟩
  ·go_enter Tryz.func61,Tryz.ntmps61
   go_wp2_with fail
   (with_reducible refine (HC.out).mono ?_);rintro e w1 ⟨rfl,hb1⟩
   go_wp2_with fail
   go_ret
   exact ⟨rfl,HBB.out.trans (hb1.mono HBB.out.size)⟩
theorem szRk_any:∀ xs,SzRk xs:=Re.all (by
 intro xs ih a n c l w hx hnm h0 h1
 obtain ⟨e1,hc1,hc2,hc3⟩:=hx.open
 simp only at e1 hc1 hc2 hc3
 have HX:=hide hx;have IH:=hide ih;have HNM:=hide hnm
 clear hx ih hnm
 have H:=hide e1.symm
 clear e1
 rw [H.out] at hc1 hc2
 have SZ:Hid (szRk xs l=if l - wtR xs < 0 then -1 else l - wtR xs):=hide rfl
 have LD:=hide (length_le_wtR xs)
 generalize szRk xs l=z at *
 by_cases h:l - n < 0
 ·obtain rfl:z = -1:=by rw [SZ.out,if_pos (by have:=LD.out;rw [H.out] at this;omega)]
  go_enter Tryz.func105,Tryz.ntmps105
  go_wp2_with fail
  go_ret
  exact ⟨rfl,Below.refl _ _⟩
 ·go_enter Tryz.func105,Tryz.ntmps105
  go_wp2_with fail
  go_loopw [1,5] (fun q i wr => ∃ (k:Nat) (r:Int),k≤n∧i = .int .i64 k∧q = .int .i64 r∧0≤r∧Hid (r=l - n+k - wtR (xs.take k))∧r≤l∧Below w.heap.size w wr) (fun _ i _=>n - (intOf i).toNat)
  case atStart=>exact ⟨0,_,Nat.zero_le _,rfl,rfl,by omega,hide (by simp [wtR]),by omega,Below.refl _ _⟩
  case round =>
   obtain ⟨k,r,hk,rfl,rfl,hr0,R,hrl,hb⟩:=hrel
   by_cases hlt:k < n
   ·obtain ⟨x,hxk⟩:=get_of_lt (xs:=xs) (k:=k) (by rw [H.out];exact hlt)
    obtain ⟨b,o,s,rfl,hbl,i0,i1,i2,i5⟩:=(HX.out.below hb).kid hxk
    have hlt':=nat_of_lt hlt
    have hxn:=HNM.out x (List.mem_of_getElem? hxk)
    have HC:=hide (fun w' h=>szRel_of (IH.out x (List.mem_of_getElem? hxk)) x.op x.nm s.a s.n s.cap r w' h hxn.kids hr0 (by omega) hxn.size)
    have ST:=hide (wtR_take_succ hxk)
    have LK:=hide (length_le_wtR (xs.drop (k+1)))
    have DS:Hid (wtR xs=wtR (xs.take (k+1))+wtR (xs.drop (k+1))):=hide (by
     unfold wtR
     rw [← List.sum_append,← List.map_append,List.take_append_drop])
    have LL:Hid (n - (k+1)≤wtR (xs.drop (k+1))):=hide (by have:=LK.out;rw [List.length_drop,H.out] at this;exact this)
    have I5:=hide i5
    clear i5 hxk hxn
    have SK:Hid (szRe x.nm x.kids r=if r - (x.nm.size+wtR x.kids:Nat) < 0 then -1 else r - (x.nm.size+wtR x.kids:Nat)):=hide rfl
    generalize hzz:szRe x.nm x.kids r=zz at *
    clear hzz
    go_wp2_with fail
    (with_reducible refine (HC.out _ I5.out).mono ?_);rintro e w1 ⟨rfl,hb1⟩
    have hb2:=hb.trans (hb1.mono hb.size)
    by_cases hz:r - (x.nm.size+wtR x.kids:Nat) < 0
    ·have E1:zz = -1:=by rw [SK.out,if_pos hz]
     obtain rfl:z = -1:=by rw [SZ.out,if_pos (by have:=R.out;have:=DS.out;have:=ST.out;have:=LL.out;omega)]
     subst E1
     go_wp2_with fail
     go_ret
     exact ⟨rfl,hb2⟩
    ·have E1:Hid (zz=r - (x.nm.size+wtR x.kids:Nat)):=hide (by rw [SK.out,if_neg hz])
     have hz0:0≤zz:=by rw [E1.out];omega
     have hzl:zz≤l:=by rw [E1.out];omega
     clear hz
     go_wp2_with fail
     go_roundw
     case rel=>exact ⟨k+1,zz,by omega,by go_num,rfl,hz0,hide (by rw [E1.out,R.out,ST.out];omega),hzl,hb2⟩
     case measure=>simp [intOf];omega
   ·have e:k=n:=by omega
    obtain rfl:z=r:=by
     have h1:=R.out
     rw [wtR_rest xs (by rw [H.out];omega)] at h1
     rw [SZ.out,if_neg (by omega)];omega
    go_wp2_with fail
    go_ret
    exact ⟨rfl,hb⟩)
theorem szRelExpr_any (o:Int) (p:ByteArray) (xs:List Re) (a:Option Addr) (n c:Nat) (l:Int) (w:World) (h:RepRk 0 w ⟨a,n,c⟩ xs) (hnm:∀ k∈xs,NmOk k) (h0:0≤l) (h1:l≤1048576) (hsz:p.size≤9223372036854775807) :
 Calls Tryz.prog 61 #[.agg #[.int .i64 o, .string p, .slice a n c], .int .i64 l] w fun e w'=>e = .returned (.int .i64 (szRe p xs l))∧Below w.heap.size w w':=
 szRel_of (szRk_any xs) o p a n c l w h hnm h0 h1 hsz
end Go.Proofs.YtkfhgnkonaafgaaGreatDoor
namespace Go.Proofs.YtkfhgnkonaafgaaGreatDoor
section
variable {S K : Type} (start : S) (next : S → Nat → Option S) (key : S → K)
variable {start next key}
end
def lexO:List Int→List Int→Int
 | x :: xs,y :: ys=>if x < y then -1 else if y < x then 1 else lexO xs ys
 | _,_=>0
theorem lexO_three (a b:List Int):lexO a b = -1∨lexO a b=0∨lexO a b=1:=by
 induction a generalizing b with
 | nil=>simp [lexO]
 | cons x a ih =>
  cases b with
  | nil=>simp [lexO]
  | cons y b =>
   simp only [lexO]
   split
   ·simp
   ·split
    ·simp
    ·exact ih b
theorem lexO_eq {a b:List Int} (h:a.length=b.length):lexO a b=0↔a=b:=by
 induction a generalizing b with
 | nil=>cases b <;> simp_all [lexO]
 | cons x a ih =>
  cases b with
  | nil=>simp at h
  | cons y b =>
   have:=ih (b:=b) (by simpa using h)
   simp only [lexO,List.cons.injEq]
   split
   ·constructor
    ·intro h;omega
    ·intro h;omega
   ·split
    ·constructor
     ·intro h;omega
     ·intro h;omega
    ·rw [this]
     constructor
     ·intro h;exact ⟨by omega,h⟩
     ·intro h;exact h.2
theorem lexO_swap (a b:List Int):lexO b a = - lexO a b:=by
 induction a generalizing b with
 | nil=>cases b <;> simp [lexO]
 | cons x a ih =>
  cases b with
  | nil=>simp [lexO]
  | cons y b =>
   simp only [lexO]
   have:=ih b
   repeat' split
   all_goals omega
theorem lexO_trans {n:Nat} {a b c:List Int} (ha:a.length=n) (hb:b.length=n) (hc:c.length=n) (h1:lexO a b = -1) (h2:lexO b c = -1):lexO a c = -1:=by
 induction a generalizing b c n with
 | nil=>simp [lexO] at h1
 | cons x a ih =>
  match b,c,hb,hc,h1,h2 with
  | [],_,_,_,h1,_=>simp [lexO] at h1
  | _ :: _,[],_,_,_,h2=>simp [lexO] at h2
  | y :: b,z :: c,hb,hc,h1,h2 =>
   simp only [List.length_cons] at ha hb hc
   simp only [lexO] at h1 h2 ⊢
   have hh:=fun p q=>ih (n:=n - 1) (b:=b) (c:=c) (by omega) (by omega) (by omega) p q
   by_cases e1:x < y
   ·by_cases e2:y < z
    ·rw [if_pos (by omega)]
    ·rw [if_neg e2] at h2
     by_cases e3:z < y
     ·rw [if_pos e3] at h2;omega
     ·rw [if_pos (by omega)]
   ·rw [if_neg e1] at h1
    by_cases e4:y < x
    ·rw [if_pos e4] at h1;omega
    ·rw [if_neg e4] at h1
     by_cases e2:y < z
     ·rw [if_pos (by omega)]
     ·rw [if_neg e2] at h2
      by_cases e3:z < y
      ·rw [if_pos e3] at h2;omega
      ·rw [if_neg e3] at h2
       rw [if_neg (by omega),if_neg (by omega)]
       exact hh h1 h2
structure OutsOk (n:Nat) (l:List (List Int)):Prop where
 len:∀ o∈l,o.length=n
 pw:l.Pairwise fun a b=>lexO a b = -1
theorem outs_unique {n:Nat}:∀ {xs ys:List (List Int)},OutsOk n xs→OutsOk n ys→(∀ o,o∈xs↔o∈ys)→xs=ys:=by
 have irr:∀ a:List Int,lexO a a≠-1:=fun a h=>by have:=(lexO_eq (a:=a) rfl).2 rfl;omega
 intro xs
 induction xs with
 | nil=>intro ys _ _ h;cases ys with
  | nil=>rfl
  | cons y ys=>have:=(h y).2 (by simp);simp at this
 | cons x xs ih =>
  intro ys hx hy h
  cases ys with
  | nil=>have:=(h x).1 (by simp);simp at this
  | cons y ys =>
   obtain ⟨px,pxs⟩:=List.pairwise_cons.1 hx.pw
   obtain ⟨py,pys⟩:=List.pairwise_cons.1 hy.pw
   have e:x=y:=by
    rcases List.mem_cons.1 ((h x).1 (by simp)) with e | e
    ·exact e
    ·rcases List.mem_cons.1 ((h y).2 (by simp)) with e2 | e2
     ·exact e2.symm
     ·have h1:=py x e
      have h2:=px y e2
      have:=lexO_swap x y
      omega
   subst e
   congr 1
   refine ih ⟨fun o ho=>hx.len o (by simp [ho]),pxs⟩ ⟨fun o ho=>hy.len o (by simp [ho]),pys⟩ fun o => ?_
   constructor
   ·intro ho
    rcases List.mem_cons.1 ((h o).1 (by simp [ho])) with e | e
    ·subst e;exact absurd (px o ho) (irr o)
    ·exact e
   ·intro ho
    rcases List.mem_cons.1 ((h o).2 (by simp [ho])) with e | e
    ·subst e;exact absurd (py o ho) (irr o)
    ·exact e
def putO (o:List Int):List (List Int)→List (List Int)
 | []=>[o]
 | x :: xs=>if lexO x o = -1 then x :: putO o xs else if lexO x o=0 then x :: xs else o :: x :: xs
theorem putO_mem {n:Nat} {o:List Int} (ho:o.length=n):∀ {l:List (List Int)},(∀ x∈l,x.length=n)→∀ y,y∈putO o l↔y=o∨y∈l:=by
 intro l
 induction l with
 | nil=>intro _ y;simp [putO]
 | cons x xs ih =>
  intro hl y
  have h1:=ih (fun z hz=>hl z (by simp [hz])) y
  unfold putO
  split
  ·rw [List.mem_cons,h1,List.mem_cons]
   constructor
   ·rintro (h | h | h)
    ·exact .inr (.inl h)
    ·exact .inl h
    ·exact .inr (.inr h)
   ·rintro (h | h | h)
    ·exact .inr (.inl h)
    ·exact .inl h
    ·exact .inr (.inr h)
  ·split
   ·rename_i h
    have e:x=o:=(lexO_eq (by rw [hl x (by simp),ho])).1 h
    subst e
    simp
   ·simp [List.mem_cons]
theorem putO_ok {n:Nat} {o:List Int} (ho:o.length=n):∀ {l:List (List Int)},OutsOk n l→OutsOk n (putO o l):=by
 intro l
 induction l with
 | nil=>intro _;exact ⟨fun x hx=>by simp [putO] at hx;subst hx;exact ho,by simp [putO]⟩
 | cons x xs ih =>
  intro hl
  obtain ⟨px,pxs⟩:=List.pairwise_cons.1 hl.pw
  have hxs:OutsOk n xs:=⟨fun z hz=>hl.len z (by simp [hz]),pxs⟩
  have hx:=hl.len x (by simp)
  refine ⟨fun y hy => ?_, ?_⟩
  ·rcases (putO_mem ho hl.len y).1 hy with e | e
   ·rw [e];exact ho
   ·exact hl.len y e
  ·unfold putO
   split
   ·rename_i h
    refine List.pairwise_cons.2 ⟨fun y hy => ?_,(ih hxs).pw⟩
    rcases (putO_mem ho hxs.len y).1 hy with e | e
    ·rw [e];exact h
    ·exact px y e
   ·rename_i h1
    split
    ·exact hl.pw
    ·rename_i h2
     have h3:=lexO_three x o
     have h4:=lexO_swap x o
     have h5:lexO o x = -1:=by omega
     refine List.pairwise_cons.2 ⟨fun y hy => ?_,hl.pw⟩
     rcases List.mem_cons.1 hy with e | e
     ·rw [e];exact h5
     ·exact lexO_trans ho hx (hxs.len y e) h5 (px y e)
end Go.Proofs.YtkfhgnkonaafgaaGreatDoor
namespace Go.Proofs.YtkfhgnkonaafgaaGreatDoor
end Go.Proofs.YtkfhgnkonaafgaaGreatDoor
namespace Go.Proofs.YtkfhgnkonaafgaaGreatDoor
section
variable {S : Type} {start : S} {next : S → Nat → Option S} (done : S → Bool) (out : S → List Int) (n : Nat)
variable {done out n}
end
end Go.Proofs.YtkfhgnkonaafgaaGreatDoor
/-
  A law that answers true and turns nothing that was there, beside package-level variables. No condition.
-/
import Derived.Test.YtfbgppkdnfljhaaGreatDoorZt00
import Derived.Test.YtfbgppkdnfljhaaGreatDoorRows
import Derived.ProofKit
import Derived.Deep.Slices
import Derived.OpenVars
import Derived.ChangeSame
import Derived.ChangeVars
import Derived.JoinedOf
import Derived.RowKitTokens
import Derived.LaidLaws
import Derived.LaidMore
import Derived.Stop.Joined
set_option maxHeartbeats 6400000
set_option maxRecDepth 100000
namespace Go.Proofs.YtfbgppkdnfljhaaGreatDoor
open Go.RowKit
def ByteE:El Int:=⟨1,by decide,fun x=>[.int .u8 x],fun _=>rfl,fun x u h=>by simp at h;subst h;rfl⟩
theorem Rep.byte {w:World} {a:Option Addr} {n c:Nat} {xs:List Int} (h:Rep ByteE w (.slice a n c) xs) {k:Nat} {x:Int} (hx:xs[k]? = some x) :
 ∃ b o,a=some ⟨b,o,none⟩∧b < w.heap.size∧w.cell? ⟨b,o+k,none⟩=some (.int .u8 x):=by
 obtain ⟨a',c',hv,_,_,h⟩:=h
 simp only [Value.slice.injEq] at hv
 obtain ⟨rfl,rfl,rfl⟩:=hv
 obtain ⟨b,o,rfl,h'⟩:=h k x hx
 have:=h' 0 _ rfl
 simp only [ByteE,Nat.mul_one,Nat.add_zero] at this
 exact ⟨b,o,rfl,lt_of_cell this,this⟩
structure Rd (w:World) (b:Nat) (a:Option Addr) (c:Nat) (xs:List Int) (p:Int):Prop where
 lt:b < w.heap.size
 c0:w.cell? ⟨b,0,none⟩=some (.slice a xs.length c)
 c1:w.cell? ⟨b,1,none⟩=some (.int .i64 p)
 f1:w.frozen? ⟨b,1,none⟩=false
 rep:Rep ByteE w (.slice a xs.length c) xs
 far:∀ g o,xs≠[]→a=some ⟨g,o,none⟩→g < b
 by':∀ x∈xs,0≤x∧x≤255
 p0:0≤p
theorem Rd.keep {w w':World} {b:Nat} {a:Option Addr} {c:Nat} {xs:List Int} {p:Int} (h:Rd w b a c xs p) {B:Nat} (hb:Below B w w') (hB:b < B):Rd w' b a c xs p:=by
 have e:∀ g o,g < B→w'.cell? ⟨g,o,none⟩=w.cell? ⟨g,o,none⟩:=fun g o hg=>hb.cell (p:=⟨g,o,none⟩) hg
 refine ⟨Nat.lt_of_lt_of_le h.lt hb.size,(e b 0 hB).trans h.c0,(e b 1 hB).trans h.c1,(hb.frozen (p:=⟨b,1,none⟩) hB).trans h.f1, ?_,h.far,h.by',h.p0⟩
 obtain ⟨a',c',hv,h1,h2,h3⟩:=h.rep
 refine ⟨a',c',hv,h1,h2,fun i x hx => ?_⟩
 obtain ⟨g,o,rfl,hi⟩:=h3 i x hx
 refine ⟨g,o,rfl,fun j u hu => ?_⟩
 rw [← hi j u hu]
 refine e g _ ?_
 simp only [Value.slice.injEq] at hv
 have:=h.far g o (by intro e;subst e;simp at hx) hv.1
 omega
theorem cell_far {w:World} {b j g o:Nat} {v:Value} (hg:g≠b):(w.setCell ⟨b,j,none⟩ v).cell? ⟨g,o,none⟩=w.cell? ⟨g,o,none⟩:=by
 unfold World.cell?
 rw [heap_setCell_other w ⟨b,j,none⟩ g v (fun e=>hg (by simpa using e))]
theorem Rd.step {w:World} {b:Nat} {a:Option Addr} {c:Nat} {xs:List Int} {p:Int} (h:Rd w b a c xs p) (q:Int) (hq:0≤q):Rd (w.setCell ⟨b,1,none⟩ (.int .i64 q)) b a c xs q:=by
 have h0:=h.c0;have h1:=h.c1;have h2:=h.f1
 refine ⟨by simpa using h.lt,by simp [go_sem,h0],by simp [go_sem,h1],by simp [go_sem,h2], ?_,h.far,h.by',hq⟩
 obtain ⟨a',c',hv,h3,h4,h5⟩:=h.rep
 refine ⟨a',c',hv,h3,h4,fun i x hx => ?_⟩
 obtain ⟨g,o,rfl,hi⟩:=h5 i x hx
 refine ⟨g,o,rfl,fun j u hu => ?_⟩
 simp only [Value.slice.injEq] at hv
 have:=h.far g o (by intro e;subst e;simp at hx) hv.1
 rw [cell_far (by omega)]
 exact hi j u hu
def RetRd (w:World) (b:Nat) (a:Option Addr) (c:Nat) (xs:List Int) (p K:Int) (Q:Value→World→Prop) (e:Ending) (w':World):Prop:=
 ∃ (v:Value) (p':Int),e = .returned v∧Q v w'∧p'≤p+K∧Rd w' b a c xs p'∧Outside b (b+1) w w'
end Go.Proofs.YtfbgppkdnfljhaaGreatDoor
namespace Go.Proofs.YtfbgppkdnfljhaaGreatDoor
end Go.Proofs.YtfbgppkdnfljhaaGreatDoor
namespace Go.Proofs.YtfbgppkdnfljhaaGreatDoor
open Go.RowKit
inductive Re where
 | mk (op:Int) (nm:ByteArray) (kids:List Re)
def Re.op:Re→Int
 | .mk o _ _=>o
def Re.nm:Re→ByteArray
 | .mk _ p _=>p
def Re.kids:Re→List Re
 | .mk _ _ k=>k
theorem Re.eta (c:Re):Re.mk c.op c.nm c.kids=c:=by cases c;rfl
theorem Re.all {P:List Re→Prop} (h:∀ ks,(∀ c∈ks,P c.kids)→P ks) (ks:List Re):P ks:=by
 apply h
 induction ks with
 | nil=>intro c hc;simp at hc
 | cons c ks ih =>
  intro d hd
  have hc:P c.kids:=by
   refine Re.rec (motive_1:=fun c=>P c.kids) (motive_2:=fun l => ∀ c∈l,P c.kids) ?_ ?_ ?_ c
   ·intro o p l hl;exact h l hl
   ·intro c hc;simp at hc
   ·intro a l ha hl c hc
    rcases List.mem_cons.1 hc with rfl | hc
    ·exact ha
    ·exact hl c hc
  rcases List.mem_cons.1 hd with rfl | hd
  ·exact hc
  ·exact ih d hd
structure Rs where
 op:Int
 nm:ByteArray
 s:Slc
def RsE:El Rs:=⟨3,by decide,fun x=>[.int .i64 x.op, .string x.nm, .slice x.s.a x.s.n x.s.cap],fun _=>rfl,fun x u h=>by simp at h;rcases h with rfl | rfl | rfl <;> rfl⟩
inductive RepRe (lo:Nat) (w:World):Rs→Re→Prop
 | mk {o:Int} {p:ByteArray} {s:Slc} {us:List Rs} {ks:List Re} (h1:us.length=ks.length) (h2:Rep RsE w s.v us) (h3:From lo s us)
  (h4:∀ (i:Nat) (u:Rs) (k:Re),us[i]? = some u→ks[i]? = some k→RepRe lo w u k):RepRe lo w ⟨o,p,s⟩ (.mk o p ks)
def RepRk (lo:Nat) (w:World) (s:Slc) (ks:List Re):Prop:=
 ∃ us:List Rs,us.length=ks.length∧Rep RsE w s.v us∧From lo s us∧∀ (i:Nat) (u:Rs) (k:Re),us[i]? = some u→ks[i]? = some k→RepRe lo w u k
theorem RepRe.kids {lo:Nat} {w:World} {u:Rs} {c:Re} (h:RepRe lo w u c):u.op=c.op∧u.nm=c.nm∧RepRk lo w u.s c.kids:=by
 cases h with
 | mk h1 h2 h3 h4=>exact ⟨rfl,rfl,_,h1,h2,h3,h4⟩
theorem RepRk.cond {lo:Nat} {w:World} {s:Slc} {ks:List Re} (h:RepRk lo w s ks) (o:Int) (p:ByteArray):RepRe lo w ⟨o,p,s⟩ (.mk o p ks):=by
 obtain ⟨us,h1,h2,h3,h4⟩:=h
 exact .mk h1 h2 h3 h4
theorem Rep.fromR {lo:Nat} {w w':World} {s:Slc} {us:List Rs} (h:Rep RsE w s.v us) (hf:From lo s us) (hk:∀ q,lo≤q→q < w.heap.size→w'.heap[q]? = w.heap[q]?):Rep RsE w' s.v us:=by
 obtain ⟨a,c,hv,h1,h2,h⟩:=h
 refine ⟨a,c,hv,h1,h2,fun i x hx => ?_⟩
 obtain ⟨b,o,rfl,hi⟩:=h i x hx
 refine ⟨b,o,rfl,fun j u hu => ?_⟩
 have hc:=hi j u hu
 rw [← hc]
 refine cell_of_block (hk b ?_ (lt_of_cell hc)) _
 rcases hf with rfl | hf
 ·simp at hx
 ·simp only [Slc.v,Value.slice.injEq] at hv
  exact hf b o hv.1
theorem RepRe.keep {lo:Nat} {w w':World} {u:Rs} {c:Re} (h:RepRe lo w u c) (hk:∀ q,lo≤q→q < w.heap.size→w'.heap[q]? = w.heap[q]?):RepRe lo w' u c:=by
 induction h with
 | mk h1 h2 h3 h4 ih=>exact .mk h1 (h2.fromR h3 hk) h3 ih
theorem RepRe.low {lo lo':Nat} {w:World} {u:Rs} {c:Re} (h:RepRe lo w u c) (hl:lo'≤lo):RepRe lo' w u c:=by
 induction h with
 | mk h1 h2 h3 h4 ih =>
  refine .mk h1 h2 ?_ ih
  rcases h3 with h3 | h3
  ·exact .inl h3
  ·exact .inr fun b o e=>Nat.le_trans hl (h3 b o e)
theorem RepRk.keep {lo:Nat} {w w':World} {s:Slc} {ks:List Re} (h:RepRk lo w s ks) (hk:∀ q,lo≤q→q < w.heap.size→w'.heap[q]? = w.heap[q]?):RepRk lo w' s ks:=by
 obtain ⟨us,h1,h2,h3,h4⟩:=h
 exact ⟨us,h1,h2.fromR h3 hk,h3,fun i u k hu hk'=>(h4 i u k hu hk').keep hk⟩
theorem RepRk.low {lo lo':Nat} {w:World} {s:Slc} {ks:List Re} (h:RepRk lo w s ks) (hl:lo'≤lo):RepRk lo' w s ks:=by
 obtain ⟨us,h1,h2,h3,h4⟩:=h
 refine ⟨us,h1,h2, ?_,fun i u k hu hk'=>(h4 i u k hu hk').low hl⟩
 rcases h3 with h3 | h3
 ·exact .inl h3
 ·exact .inr fun b o e=>Nat.le_trans hl (h3 b o e)
theorem RepRk.below {lo:Nat} {w w':World} {s:Slc} {ks:List Re} (h:RepRk lo w s ks) (hb:Below w.heap.size w w'):RepRk lo w' s ks:=h.keep fun q _ hq=>hb.block q hq
theorem RepRk.nil (lo:Nat) (w:World):RepRk lo w ⟨none,0,0⟩ []:=⟨[],rfl,Rep.nil w, .inl rfl,fun i u k h=>by simp at h⟩
theorem RepRk.open {lo:Nat} {w:World} {s:Slc} {ks:List Re} (h:RepRk lo w s ks):s.n=ks.length∧ks.length≤s.cap∧ks.length≤9223372036854775807∧s.cap≤maxLen:=by
 obtain ⟨us,h1,h2,h3,h4⟩:=h
 obtain ⟨a,c,hv,h5,h6,h7,_⟩:=h2.open
 simp only [Slc.v,Value.slice.injEq] at hv
 obtain ⟨_,e2,e3⟩:=hv
 rw [e2,e3];omega
theorem RepRk.kid {lo:Nat} {w:World} {a:Option Addr} {n c:Nat} {ks:List Re} (h:RepRk lo w ⟨a,n,c⟩ ks) {k:Nat} {x:Re} (hx:ks[k]? = some x) :
 ∃ (b o:Nat) (s:Slc),a=some ⟨b,o,none⟩∧b < w.heap.size∧w.cell? ⟨b,o+k * 3,none⟩=some (.int .i64 x.op)∧w.cell? ⟨b,o+k * 3+1,none⟩=some (.string x.nm)∧w.cell? ⟨b,o+k * 3+2,none⟩=some (.slice s.a s.n s.cap)∧RepRk lo w s x.kids:=by
 obtain ⟨us,h1,h2,h3,h4⟩:=h
 obtain ⟨u,hu⟩:=get_of_lt (xs:=us) (k:=k) (by rw [h1];exact (List.getElem?_eq_some_iff.1 hx).1)
 obtain ⟨e1,e2,hk⟩:=(h4 k u x hu hx).kids
 obtain ⟨a',c',hv,_,_,h⟩:=h2
 simp only [Slc.v,Value.slice.injEq] at hv
 obtain ⟨rfl,_,_⟩:=hv
 obtain ⟨b,o,rfl,h'⟩:=h k u hu
 rw [← e1,← e2]
 exact ⟨b,o,u.s,rfl,lt_of_cell (h' 0 _ rfl),h' 0 _ rfl,h' 1 _ rfl,h' 2 _ rfl,hk⟩
def Re.desc:Re→Nat
 | .mk _ _ ks=>ks.length+(ks.attach.map fun ⟨k,_⟩=>k.desc).sum
termination_by c=>SizeOf.sizeOf c
decreasing_by
 have:=List.sizeOf_lt_of_mem ‹_›
 simp;omega
def descR (ks:List Re):Nat:=(ks.map fun k=>k.desc+1).sum
theorem sum_attachR (ks:List Re):ks.length+(ks.attach.map fun k=>k.1.desc).sum=descR ks:=by
 have:(ks.attach.map fun k=>k.1.desc)=ks.map fun k=>k.desc:=by
  rw [List.attach_map_val (l:=ks) (f:=fun k=>k.desc)]
 rw [this]
 unfold descR
 clear this
 induction ks with
 | nil=>rfl
 | cons k ks ih=>simp;omega
theorem Re.desc_eq (c:Re):c.desc=descR c.kids:=by
 cases c with
 | mk o p ks =>
  rw [Re.desc,Re.kids]
  exact sum_attachR ks
theorem descR_take_succ {ks:List Re} {k:Nat} {x:Re} (h:ks[k]? = some x):descR (ks.take (k+1))=descR (ks.take k)+(descR x.kids+1):=by
 unfold descR
 rw [List.take_add_one,h,List.map_append,List.sum_append,← descR]
 simp only [Option.toList_some,List.map_cons,List.map_nil,List.sum_cons,List.sum_nil]
 rw [Re.desc_eq]
 rfl
theorem descR_take_le (ks:List Re) (k:Nat):descR (ks.take k)≤descR ks:=by
 have:descR ks=descR (ks.take k)+descR (ks.drop k):=by
  unfold descR
  rw [← List.sum_append,← List.map_append,List.take_append_drop]
 omega
theorem descR_kid {ks:List Re} {k:Nat} {x:Re} (h:ks[k]? = some x):descR (ks.take k)+(descR x.kids+1)≤descR ks:=by
 rw [← descR_take_succ h];exact descR_take_le _ _
end Go.Proofs.YtfbgppkdnfljhaaGreatDoor
namespace Go.Proofs.YtfbgppkdnfljhaaGreatDoor
def nameTab:List ByteArray:=[⟨#[112,111]⟩,⟨#[108,111,99]⟩,⟨#[101,120,116]⟩,⟨#[114,102]⟩,⟨#[99,111]⟩,⟨#[102,114]⟩,⟨#[102,101,110,99,101]⟩,⟨#[119,114]⟩,⟨#[119,119]⟩,⟨#[105,100]⟩]
def isName (p:ByteArray):Bool:=nameTab.any fun s=>p.toList==s.toList
def kidsO (o:Int):Int:=if o=1 then 0 else if o=2∨o=3∨o=4∨o=5 then 2 else if o=6∨o=7 then 1 else -1
def nodeO (o:Int) (p:ByteArray) (n:Nat):Bool:=((n:Int)==kidsO o)&&(((o==1)==isName p)&&(o==1||(p.toList==[])))
def nodeE (c:Re):Bool:=nodeO c.op c.nm c.kids.length
def shapeR:Nat→Re→Bool
 | 0,_=>false
 | d+1,c=>nodeE c&&c.kids.all (shapeR d)
def nodesR (c:Re):Nat:=descR c.kids+1
def validR (c:Re):Bool:=shapeR 12 c&&decide (nodesR c≤40)
theorem shapeR_succ (d:Nat) (c:Re):shapeR (d+1) c=true↔nodeE c=true∧∀ k∈c.kids,shapeR d k=true:=by
 simp [shapeR]
structure SzR (d:Nat) (c:Re) (r:Int):Prop where
 low:1≤r
 high:r≤41+40 * d
 iff:r≤40↔(shapeR d c=true∧nodesR c≤40)
 eq:r≤40→r=nodesR c
theorem SzR.bad0 (c:Re):SzR 0 c 41:=⟨by omega,by omega,by simp [shapeR],by omega⟩
theorem SzR.bad {d:Nat} {c:Re} (h:nodeE c=false):SzR (d+1) c 41:=⟨by omega,by omega,by
 constructor
 ·intro h;omega
 ·rintro ⟨h1,_⟩
  rw [shapeR_succ,h] at h1
  simp at h1,by omega⟩
structure SzRTo (d:Nat) (ks:List Re) (k:Nat) (r:Int):Prop where
 eq:r=1+descR (ks.take k)
 le:r≤40
 all:∀ c∈ks.take k,shapeR d c=true
theorem SzRTo.zero (d:Nat) (ks:List Re):SzRTo d ks 0 1:=⟨by simp [descR],by omega,by simp⟩
theorem SzRTo.low {d:Nat} {ks:List Re} {k:Nat} {r:Int} (h:SzRTo d ks k r):1≤r:=by have:=h.eq;omega
theorem SzRTo.next {d:Nat} {ks:List Re} {k:Nat} {r r':Int} {x:Re} (h:SzRTo d ks k r) (hx:ks[k]? = some x) (hr:SzR d x r') (hle:r+r'≤40):SzRTo d ks (k+1) (r+r'):=by
 have h1:=h.low
 have h2:=hr.eq (by omega)
 obtain ⟨h3,h4⟩:=hr.iff.1 (by omega)
 refine ⟨?_,hle, ?_⟩
 ·rw [descR_take_succ hx,h.eq,h2];unfold nodesR;omega
 ·intro c hc
  rw [List.take_add_one,hx] at hc
  simp at hc
  rcases hc with hc | rfl
  ·exact h.all c hc
  ·exact h3
theorem SzRTo.more {d:Nat} {c:Re} {k:Nat} {r r':Int} {x:Re} (h:SzRTo d c.kids k r) (hx:c.kids[k]? = some x) (hr:SzR d x r') (hgt:¬ r+r'≤40):SzR (d+1) c (r+r'):=by
 have h1:=h.low
 have h0:=hr.low
 have h5:=hr.high
 refine ⟨by omega,by have:=h.le;omega,⟨fun h=>absurd h hgt, ?_⟩,fun h=>absurd h hgt⟩
 rintro ⟨hs,hn⟩
 exfalso
 apply hgt
 rw [shapeR_succ] at hs
 have hm:=List.mem_of_getElem? hx
 have hk:=descR_kid hx
 have h6:=hr.iff.2 ⟨hs.2 x hm,by unfold nodesR at hn ⊢;omega⟩
 have h7:=hr.eq h6
 rw [h.eq,h7]
 unfold nodesR at hn ⊢;omega
theorem SzRTo.done {d:Nat} {c:Re} {k:Nat} {r:Int} (h:SzRTo d c.kids k r) (hn:nodeE c=true) (hk:c.kids.length≤k):SzR (d+1) c r:=by
 have h1:=h.low
 have h2:=h.le
 have h3:=h.eq
 have h4:=h.all
 rw [List.take_of_length_le hk] at h3 h4
 exact ⟨h1,by omega,⟨fun _=>⟨(shapeR_succ d c).2 ⟨hn,h4⟩,by unfold nodesR;omega⟩,fun _=>h2⟩,fun _=>by unfold nodesR;omega⟩
theorem SzR.valid {c:Re} {r:Int} (h:SzR 12 c r):decide (r≤40)=validR c:=by
 unfold validR
 rw [Bool.eq_iff_iff]
 simp [h.iff]
structure CnR (c:Re) (m r:Int):Prop where
 low:1≤r
 high:r≤nodesR c
 eq:r≤m→r=nodesR c
structure CnRTo (ks:List Re) (m:Int) (k:Nat) (r:Int):Prop where
 low:1≤r
 high:r≤1+descR (ks.take k)
 eq:r≤m→r=1+descR (ks.take k)
theorem CnRTo.zero (ks:List Re) (m:Int):CnRTo ks m 0 1:=⟨by omega,by omega,fun _=>by simp [descR]⟩
theorem CnRTo.next {ks:List Re} {m:Int} {k:Nat} {r r':Int} {x:Re} (h:CnRTo ks m k r) (hx:ks[k]? = some x) (hm:r≤m) (hr:CnR x (m - r) r'):CnRTo ks m (k+1) (r+r'):=by
 have h1:=h.low;have h2:=h.high;have h3:=h.eq hm
 have h4:=hr.low;have h5:=hr.high
 unfold nodesR at h5
 refine ⟨by omega,by rw [descR_take_succ hx];omega,fun hle => ?_⟩
 have:=hr.eq (by omega)
 unfold nodesR at this
 rw [descR_take_succ hx];omega
theorem CnRTo.done {c:Re} {m:Int} {k:Nat} {r:Int} (h:CnRTo c.kids m k r) (hk:c.kids.length≤k∨¬ r≤m):CnR c m r:=by
 have h1:=h.low;have h2:=h.high;have h3:=descR_take_le c.kids k
 refine ⟨h1,by unfold nodesR;omega,fun hm => ?_⟩
 rcases hk with hk | hk
 ·have:=h.eq hm
  rw [List.take_of_length_le hk] at this
  unfold nodesR;omega
 ·exact absurd hm hk
theorem CnR.le {c:Re} {r:Int} (h:CnR c 40 r):decide (r≤40)=decide (nodesR c≤40):=by
 have h1:=h.high
 rw [Bool.eq_iff_iff]
 simp only [decide_eq_true_eq]
 constructor
 ·intro hr;have:=h.eq hr;omega
 ·intro hn;omega
end Go.Proofs.YtfbgppkdnfljhaaGreatDoor
namespace Go.Proofs.YtfbgppkdnfljhaaGreatDoor
open Go.RowKit Go.Deep Go.ChangeShapes Go.WideShapes Go.ChangeAt
theorem addr_of_cell {w:World} {a:Addr} {v:Value} (h:w.cell? a=some v):a.spot=none:=by
 unfold World.cell? at h
 split at h
 ·cases hs:a.spot with
  | none=>rfl
  | some x=>simp [hs] at h
 ·cases h
theorem cells_get {w:World} {base:Nat} {a:Addr} {n:Nat} {cs:List Value} (h:w.cells? base a n=some cs) {j:Nat} {u:Value} (hu:cs[j]? = some u):w.cell? (a.add j)=some u:=by
 unfold World.cells? at h
 split at h
 ·have hl:=mapM_some_length h
  have hj:j < n:=by
   have:=(List.getElem?_eq_some_iff.1 hu).1
   rw [hl] at this;simpa using this
  have:=mapM_some_get h j j (by simp [hj])
  rw [this];exact hu
 ·cases h
theorem add_none (b o j:Nat):(⟨b,o,none⟩:Addr).add j=⟨b,o+j,none⟩:=by unfold Addr.add;split <;> simp_all
section
variable {H : Type} {enc : TypeId × Value → H} {P : Program} {w : World} {base : Nat} {spare : Nat → Bool} {held : Bool} {fuel : Nat} {cs : List Value} {x : DataW H × List MemPlace}
theorem rep_of_trod {α:Type} [Inhabited α] (E:El α) {t e:TypeId} (ht:P.underlying t=some (.slice e)) (hc:P.cellsOf e=E.sz) (Q:α→Prop)
 (hel:∀ n cs x,DataW.trod enc P w base spare held n e cs=some x→∃ y,cs=E.c y∧Q y) (h:DataW.trod enc P w base spare held fuel t cs=some x):∃ v xs,cs=[v]∧Rep E w v xs∧∀ y∈xs,Q y:=by
 rcases open_slice ht h with ⟨rfl,_⟩ | ⟨a,len,cap,m,n,D,Pl,rfl,hb,hl,hm,hmm,_,hx⟩
 ·exact ⟨_,[],rfl,Rep.nil w,fun y h=>by simp at h⟩
 ·have hlm:len≤m:=by rw [hmm];split <;> omega
  have each:∀ i,i < len→∃ y,w.cells? base (a.add (i * E.sz)) E.sz=some (E.c y)∧Q y:=fun i hi=>by
   obtain ⟨cs',h1,h2⟩:=hx i (by omega)
   obtain ⟨y,rfl,hq⟩:=hel n cs' _ h2
   rw [hc] at h1
   exact ⟨y,h1,hq⟩
  obtain ⟨f,hf⟩:=choose_lt each
  refine ⟨_,(List.range len).map f,rfl,⟨some a,cap,by simp,by simpa using hl,hm,fun i y hy => ?_⟩, ?_⟩
  ·simp only [List.getElem?_map] at hy
   have hi:i < len:=by
    rcases Nat.lt_or_ge i len with h | h
    ·exact h
    ·rw [List.getElem?_eq_none (by simpa using h)] at hy;simp at hy
   rw [List.getElem?_range hi] at hy
   simp at hy
   subst hy
   have h0:=cells_get (hf 0 (by omega)).1 (El.first (E:=E) (f 0)).choose_spec
   rw [Nat.zero_mul] at h0
   have hsp:a.spot=none:=addr_of_cell (a:=a) (by simpa [Addr.add] using h0)
   obtain ⟨ab,ao,asp⟩:=a
   simp at hsp
   subst hsp
   refine ⟨ab,ao,rfl,fun j u hu => ?_⟩
   have:=cells_get (hf i hi).1 hu
   rwa [add_none,add_none] at this
  ·intro y hy
   simp only [List.mem_map,List.mem_range] at hy
   obtain ⟨i,hi,rfl⟩:=hy
   exact (hf i hi).2
instance:Inhabited Slc:=⟨⟨none,0,0⟩⟩
instance:Inhabited Ins:=⟨⟨0,0,0,0⟩⟩
end
section
variable {H : Type} {enc : TypeId × Value → H} {P : Program}
theorem trodAll_below (hl:laidOutB P=true) {W W':World} (hb:Below W.heap.size W W'):∀ {ts:List TypeId} {vs:List Value} {ds:List (DataW H)} {ps:List MemPlace},(∀ t∈ts,P.readableRec t=true∧t < P.types.size) →
 DataW.TrodAll enc P W 0 (fun _=>true) true ts vs ds ps→DataW.TrodAll enc P W' 0 (fun b=>decide (b < W.heap.size)) true ts vs ds ps
 | [],[],[],ps,_,h=>h
 | t :: ts,v :: vs,d :: ds,ps,ht,h=>by
  have hlt:=DataW.TrodAll.lt h
  obtain ⟨p,q,h1,h2,rfl⟩:=h
  exact ⟨p,q,Below.trod hl (ht t (List.mem_cons_self ..)).1 (ht t (List.mem_cons_self ..)).2 h1 hb (fun x hx=>hlt x (List.mem_append_left _ hx)),trodAll_below hl hb (fun t ht'=>ht t (List.mem_cons_of_mem _ ht')) h2,rfl⟩
 | [],[],_ :: _,_,_,h=>h.elim
 | [],_ :: _,_,_,_,h=>h.elim
 | _ :: _,[],_,_,_,h=>h.elim
 | _ :: _,_ :: _,[],_,_,h=>h.elim
end
end Go.Proofs.YtfbgppkdnfljhaaGreatDoor
namespace Go.Proofs.YtfbgppkdnfljhaaGreatDoor
open Go.RowKit Go.Deep Go.ChangeShapes Go.WideShapes Go.ChangeAt
theorem Tryz.own:ownKnob Tryz.prog.godebug=none:=by kernel_rfl
theorem Tryz.laidOut:laidOutB Tryz.prog=true:=by kernel_rfl
theorem Tryz.cellsByte:Tryz.prog.cellsOf 5=1:=by kernel_rfl
section
variable {H : Type} {enc : TypeId × Value → H} {w : World} {base : Nat} {spare : Nat → Bool} {held : Bool}
theorem bytes_of_trod {v:Value} {d:DataW H} {ps:List MemPlace} (hok:∃ a len cap,v = .slice a len cap) (h:DataW.Trod enc Tryz.prog w base spare held 39 v d ps):∃ p,Rep ByteE w v p∧∀ x∈p,0≤x∧x≤255:=by
 obtain ⟨fuel,hf⟩:=h
 obtain ⟨v',p,hv,hp,hq⟩:=rep_of_trod ByteE Tryz.underlying39 Tryz.cellsByte (fun x=>0≤x∧x≤255) (fun n cs x hx=>by
  obtain ⟨i,rfl,hi⟩:=DataW.trod_int Tryz.underlying5 hx
  exact ⟨i,rfl,by
   have:=hi.2
   simp only [Lit.wf,Bool.and_eq_true,decide_eq_true_eq,show IntKind.u8.min=0 from by decide,show IntKind.u8.max=255 from by decide] at this
   omega⟩) hf
 obtain ⟨a,len,cap,rfl⟩:=hok
 simp [Value.cells] at hv
 subst hv
 exact ⟨p,hp,hq⟩
end
end Go.Proofs.YtfbgppkdnfljhaaGreatDoor
namespace Go.Proofs.YtfbgppkdnfljhaaGreatDoor
open Go.RowKit Go.ChangeShapes Go.WideShapes Go.ChangeAt
section
variable {H : Type} {enc : TypeId × Value → H} {P : Program}
theorem post_lawV {f:Func} {s:ChangeSpec} {apart:Bool} {W W':World} {args:Array Value} {ds gs:List (DataW H)} {before:List MemPlace} {tb:TypeId} (hl:laidOutB P=true) (hts:∀ t∈f.params.toList,P.readableRec t=true∧t < P.types.size)
 (hv:varsRowed P s.vars=true) (hs:s.fn H (ds++gs) = { results:=[.lit (.bool true)],args:=ds,vars:=gs }) (hr:f.resultTypes = #[tb]) (htb:P.underlying tb=some .bool)
 (hW:DataW.Whole enc P f.params.toList s.vars apart W args.toList ds gs before) (hb:Below W.heap.size W W'):s.post enc P f apart true false false W args (.bool true) W':=by
 have hW2:=hW
 obtain ⟨p,q,hA,hV,rfl,hfz,hnd⟩:=hW2
 refine ⟨ds,gs,_,[],p,q,hW, ?_, ?_, ?_,hb.frame _,fun h=>by cases h⟩
 ·rw [hs,hr]
  exact trodAll_mk1 (shut_bool htb _)
 ·rw [hs]
  exact trodAll_below hl hb hts hA
 ·rw [hs]
  exact hb.trodVars hl hv hV
end
end Go.Proofs.YtfbgppkdnfljhaaGreatDoor
/-
  Lists of outcomes: whether one is among others. Condition: none but what slices read as.
-/
import Derived.Test.YtkfhgnkonaafgaaGreatDoorZs00
import Derived.Laws.BytesArg
set_option maxHeartbeats 6400000
set_option maxRecDepth 100000
namespace Go.Proofs.YtkfhgnkonaafgaaGreatDoor
open Go.RowKit
theorem cell_of_block {w w':World} {b:Nat} (h:w'.heap[b]? = w.heap[b]?) (o:Nat):w'.cell? ⟨b,o,none⟩=w.cell? ⟨b,o,none⟩:=by
 unfold World.cell?
 rw [h]
def From (lo:Nat) {α:Type} (s:Slc) (us:List α):Prop:=us=[]∨∀ b o,s.a=some ⟨b,o,none⟩→lo≤b
end Go.Proofs.YtkfhgnkonaafgaaGreatDoor
namespace Go.Proofs.YtkfhgnkonaafgaaGreatDoor
open Go.RowKit
end Go.Proofs.YtkfhgnkonaafgaaGreatDoor
namespace Go.Proofs.YtkfhgnkonaafgaaGreatDoor
end Go.Proofs.YtkfhgnkonaafgaaGreatDoor
namespace Go.Proofs.YtkfhgnkonaafgaaGreatDoor
open Go.RowKit
end Go.Proofs.YtkfhgnkonaafgaaGreatDoor
namespace Go.Proofs.YtkfhgnkonaafgaaGreatDoor
open Go.RowKit
end Go.Proofs.YtkfhgnkonaafgaaGreatDoor
namespace Go.Proofs.YtkfhgnkonaafgaaGreatDoor
open Go.RowKit
theorem one_byte (u:World) (B:Int):(convert 50 9 (.slice (some ⟨u.heap.size,0,none⟩) 1 1)).run Tryz.prog (u.alloc (.cells #[.int .u8 B] 5)) = .ok (.string (strOfNums [B])) (u.alloc (.cells #[.int .u8 B] 5)):=
 run_convert_bytes_arg (u.alloc (.cells #[.int .u8 B] 5)) 50 5 Tryz.underlying50 Tryz.underlying5 u.heap.size 0 1 1 [B] rfl (fun i hi=>by
  obtain rfl:i=0:=by omega
  simp [go_sem]) 9 Tryz.underlying9
theorem strN_app (a b:List Int):strOfNums a++strOfNums b=strOfNums (a++b):=by
 apply ByteArray.ext
 simp [strOfNums]
theorem strN_nil:strOfNums []=⟨#[]⟩:=by
 apply ByteArray.ext
 simp [strOfNums]
theorem strN_empty (a:List Int):strOfNums a++⟨#[]⟩=strOfNums a:=by rw [← strN_nil,strN_app,List.append_nil]
theorem l17Dec_dig (x:Int) (w:World) (h0:0≤x) (h1:x≤9) :
 Calls Tryz.prog 223 #[.int .i64 x] w fun e w'=>e = .returned (.string (strOfNums [48+x]))∧Below w.heap.size w w':=by
 have kc:=one_byte
 go_enter Tryz.func223,Tryz.ntmps223
 go_wp2_with fail
 go_loopw [0,3] (fun q i wr=>q = .int .i64 x∧i = .string ⟨#[]⟩∧wr=w) (fun _ i _=>0)
 case atStart=>exact ⟨rfl,rfl,rfl⟩
 case round =>
  obtain ⟨rfl,rfl,rfl⟩:=hrel
  go_wp2_with fail
  go_ret
  exact ⟨by rw [← strN_empty];rfl,(Below.refl _ _).alloc (Nat.le_refl _) _⟩
theorem l1Letter_any (b x:Int) (w:World) (h0:0≤x) (h1:x≤9) (h2:0≤b) (h3:b≤200) :
 Calls Tryz.prog 222 #[.int .u8 b, .int .i64 x] w fun e w'=>e = .returned (.string (strOfNums [b+x]))∧Below w.heap.size w w':=by
 have kc:=one_byte
 go_enter Tryz.func222,Tryz.ntmps222
 go_wp2_with fail
 go_ret
 exact ⟨rfl,(Below.refl _ _).alloc (Nat.le_refl _) _⟩
theorem size_strN (l:List Int):(strOfNums l).size=l.length:=by simp [strOfNums,ByteArray.size]
end Go.Proofs.YtkfhgnkonaafgaaGreatDoor
namespace Go.Proofs.YtkfhgnkonaafgaaGreatDoor
open Go.RowKit
inductive Re where
 | mk (op:Int) (nm:ByteArray) (kids:List Re)
def Re.op:Re→Int
 | .mk o _ _=>o
def Re.nm:Re→ByteArray
 | .mk _ p _=>p
def Re.kids:Re→List Re
 | .mk _ _ k=>k
theorem Re.eta (c:Re):Re.mk c.op c.nm c.kids=c:=by cases c;rfl
theorem Re.all {P:List Re→Prop} (h:∀ ks,(∀ c∈ks,P c.kids)→P ks) (ks:List Re):P ks:=by
 apply h
 induction ks with
 | nil=>intro c hc;simp at hc
 | cons c ks ih =>
  intro d hd
  have hc:P c.kids:=by
   refine Re.rec (motive_1:=fun c=>P c.kids) (motive_2:=fun l => ∀ c∈l,P c.kids) ?_ ?_ ?_ c
   ·intro o p l hl;exact h l hl
   ·intro c hc;simp at hc
   ·intro a l ha hl c hc
    rcases List.mem_cons.1 hc with rfl | hc
    ·exact ha
    ·exact hl c hc
  rcases List.mem_cons.1 hd with rfl | hd
  ·exact hc
  ·exact ih d hd
structure Rs where
 op:Int
 nm:ByteArray
 s:Slc
def RsE:El Rs:=⟨3,by decide,fun x=>[.int .i64 x.op, .string x.nm, .slice x.s.a x.s.n x.s.cap],fun _=>rfl,fun x u h=>by simp at h;rcases h with rfl | rfl | rfl <;> rfl⟩
inductive RepRe (lo:Nat) (w:World):Rs→Re→Prop
 | mk {o:Int} {p:ByteArray} {s:Slc} {us:List Rs} {ks:List Re} (h1:us.length=ks.length) (h2:Rep RsE w s.v us) (h3:From lo s us)
  (h4:∀ (i:Nat) (u:Rs) (k:Re),us[i]? = some u→ks[i]? = some k→RepRe lo w u k):RepRe lo w ⟨o,p,s⟩ (.mk o p ks)
def RepRk (lo:Nat) (w:World) (s:Slc) (ks:List Re):Prop:=
 ∃ us:List Rs,us.length=ks.length∧Rep RsE w s.v us∧From lo s us∧∀ (i:Nat) (u:Rs) (k:Re),us[i]? = some u→ks[i]? = some k→RepRe lo w u k
theorem RepRe.kids {lo:Nat} {w:World} {u:Rs} {c:Re} (h:RepRe lo w u c):u.op=c.op∧u.nm=c.nm∧RepRk lo w u.s c.kids:=by
 cases h with
 | mk h1 h2 h3 h4=>exact ⟨rfl,rfl,_,h1,h2,h3,h4⟩
theorem RepRk.cond {lo:Nat} {w:World} {s:Slc} {ks:List Re} (h:RepRk lo w s ks) (o:Int) (p:ByteArray):RepRe lo w ⟨o,p,s⟩ (.mk o p ks):=by
 obtain ⟨us,h1,h2,h3,h4⟩:=h
 exact .mk h1 h2 h3 h4
theorem Rep.fromR {lo:Nat} {w w':World} {s:Slc} {us:List Rs} (h:Rep RsE w s.v us) (hf:From lo s us) (hk:∀ q,lo≤q→q < w.heap.size→w'.heap[q]? = w.heap[q]?):Rep RsE w' s.v us:=by
 obtain ⟨a,c,hv,h1,h2,h⟩:=h
 refine ⟨a,c,hv,h1,h2,fun i x hx => ?_⟩
 obtain ⟨b,o,rfl,hi⟩:=h i x hx
 refine ⟨b,o,rfl,fun j u hu => ?_⟩
 have hc:=hi j u hu
 rw [← hc]
 refine cell_of_block (hk b ?_ (lt_of_cell hc)) _
 rcases hf with rfl | hf
 ·simp at hx
 ·simp only [Slc.v,Value.slice.injEq] at hv
  exact hf b o hv.1
theorem RepRe.keep {lo:Nat} {w w':World} {u:Rs} {c:Re} (h:RepRe lo w u c) (hk:∀ q,lo≤q→q < w.heap.size→w'.heap[q]? = w.heap[q]?):RepRe lo w' u c:=by
 induction h with
 | mk h1 h2 h3 h4 ih=>exact .mk h1 (h2.fromR h3 hk) h3 ih
theorem RepRe.low {lo lo':Nat} {w:World} {u:Rs} {c:Re} (h:RepRe lo w u c) (hl:lo'≤lo):RepRe lo' w u c:=by
 induction h with
 | mk h1 h2 h3 h4 ih =>
  refine .mk h1 h2 ?_ ih
  rcases h3 with h3 | h3
  ·exact .inl h3
  ·exact .inr fun b o e=>Nat.le_trans hl (h3 b o e)
theorem RepRk.keep {lo:Nat} {w w':World} {s:Slc} {ks:List Re} (h:RepRk lo w s ks) (hk:∀ q,lo≤q→q < w.heap.size→w'.heap[q]? = w.heap[q]?):RepRk lo w' s ks:=by
 obtain ⟨us,h1,h2,h3,h4⟩:=h
 exact ⟨us,h1,h2.fromR h3 hk,h3,fun i u k hu hk'=>(h4 i u k hu hk').keep hk⟩
theorem RepRk.low {lo lo':Nat} {w:World} {s:Slc} {ks:List Re} (h:RepRk lo w s ks) (hl:lo'≤lo):RepRk lo' w s ks:=by
 obtain ⟨us,h1,h2,h3,h4⟩:=h
 refine ⟨us,h1,h2, ?_,fun i u k hu hk'=>(h4 i u k hu hk').low hl⟩
 rcases h3 with h3 | h3
 ·exact .inl h3
 ·exact .inr fun b o e=>Nat.le_trans hl (h3 b o e)
theorem RepRk.below {lo:Nat} {w w':World} {s:Slc} {ks:List Re} (h:RepRk lo w s ks) (hb:Below w.heap.size w w'):RepRk lo w' s ks:=h.keep fun q _ hq=>hb.block q hq
theorem RepRk.nil (lo:Nat) (w:World):RepRk lo w ⟨none,0,0⟩ []:=⟨[],rfl,Rep.nil w, .inl rfl,fun i u k h=>by simp at h⟩
theorem RepRk.open {lo:Nat} {w:World} {s:Slc} {ks:List Re} (h:RepRk lo w s ks):s.n=ks.length∧ks.length≤s.cap∧ks.length≤9223372036854775807∧s.cap≤maxLen:=by
 obtain ⟨us,h1,h2,h3,h4⟩:=h
 obtain ⟨a,c,hv,h5,h6,h7,_⟩:=h2.open
 simp only [Slc.v,Value.slice.injEq] at hv
 obtain ⟨_,e2,e3⟩:=hv
 rw [e2,e3];omega
theorem RepRk.kid {lo:Nat} {w:World} {a:Option Addr} {n c:Nat} {ks:List Re} (h:RepRk lo w ⟨a,n,c⟩ ks) {k:Nat} {x:Re} (hx:ks[k]? = some x) :
 ∃ (b o:Nat) (s:Slc),a=some ⟨b,o,none⟩∧b < w.heap.size∧w.cell? ⟨b,o+k * 3,none⟩=some (.int .i64 x.op)∧w.cell? ⟨b,o+k * 3+1,none⟩=some (.string x.nm)∧w.cell? ⟨b,o+k * 3+2,none⟩=some (.slice s.a s.n s.cap)∧RepRk lo w s x.kids:=by
 obtain ⟨us,h1,h2,h3,h4⟩:=h
 obtain ⟨u,hu⟩:=get_of_lt (xs:=us) (k:=k) (by rw [h1];exact (List.getElem?_eq_some_iff.1 hx).1)
 obtain ⟨e1,e2,hk⟩:=(h4 k u x hu hx).kids
 obtain ⟨a',c',hv,_,_,h⟩:=h2
 simp only [Slc.v,Value.slice.injEq] at hv
 obtain ⟨rfl,_,_⟩:=hv
 obtain ⟨b,o,rfl,h'⟩:=h k u hu
 rw [← e1,← e2]
 exact ⟨b,o,u.s,rfl,lt_of_cell (h' 0 _ rfl),h' 0 _ rfl,h' 1 _ rfl,h' 2 _ rfl,hk⟩
def Re.desc:Re→Nat
 | .mk _ _ ks=>ks.length+(ks.attach.map fun ⟨k,_⟩=>k.desc).sum
termination_by c=>SizeOf.sizeOf c
decreasing_by
 have:=List.sizeOf_lt_of_mem ‹_›
 simp;omega
def descR (ks:List Re):Nat:=(ks.map fun k=>k.desc+1).sum
theorem sum_attachR (ks:List Re):ks.length+(ks.attach.map fun k=>k.1.desc).sum=descR ks:=by
 have:(ks.attach.map fun k=>k.1.desc)=ks.map fun k=>k.desc:=by
  rw [List.attach_map_val (l:=ks) (f:=fun k=>k.desc)]
 rw [this]
 unfold descR
 clear this
 induction ks with
 | nil=>rfl
 | cons k ks ih=>simp;omega
theorem Re.desc_eq (c:Re):c.desc=descR c.kids:=by
 cases c with
 | mk o p ks =>
  rw [Re.desc,Re.kids]
  exact sum_attachR ks
theorem descR_take_succ {ks:List Re} {k:Nat} {x:Re} (h:ks[k]? = some x):descR (ks.take (k+1))=descR (ks.take k)+(descR x.kids+1):=by
 unfold descR
 rw [List.take_add_one,h,List.map_append,List.sum_append,← descR]
 simp only [Option.toList_some,List.map_cons,List.map_nil,List.sum_cons,List.sum_nil]
 rw [Re.desc_eq]
 rfl
theorem descR_take_le (ks:List Re) (k:Nat):descR (ks.take k)≤descR ks:=by
 have:descR ks=descR (ks.take k)+descR (ks.drop k):=by
  unfold descR
  rw [← List.sum_append,← List.map_append,List.take_append_drop]
 omega
theorem descR_kid {ks:List Re} {k:Nat} {x:Re} (h:ks[k]? = some x):descR (ks.take k)+(descR x.kids+1)≤descR ks:=by
 rw [← descR_take_succ h];exact descR_take_le _ _
end Go.Proofs.YtkfhgnkonaafgaaGreatDoor
namespace Go.Proofs.YtkfhgnkonaafgaaGreatDoor
def nameTab:List ByteArray:=[⟨#[112,111]⟩,⟨#[108,111,99]⟩,⟨#[101,120,116]⟩,⟨#[114,102]⟩,⟨#[99,111]⟩,⟨#[102,114]⟩,⟨#[102,101,110,99,101]⟩,⟨#[119,114]⟩,⟨#[119,119]⟩,⟨#[105,100]⟩]
def isName (p:ByteArray):Bool:=nameTab.any fun s=>p.toList==s.toList
def kidsO (o:Int):Int:=if o=1 then 0 else if o=2∨o=3∨o=4∨o=5 then 2 else if o=6∨o=7 then 1 else -1
def nodeO (o:Int) (p:ByteArray) (n:Nat):Bool:=((n:Int)==kidsO o)&&(((o==1)==isName p)&&(o==1||(p.toList==[])))
def nodeE (c:Re):Bool:=nodeO c.op c.nm c.kids.length
def shapeR:Nat→Re→Bool
 | 0,_=>false
 | d+1,c=>nodeE c&&c.kids.all (shapeR d)
def nodesR (c:Re):Nat:=descR c.kids+1
def validR (c:Re):Bool:=shapeR 12 c&&decide (nodesR c≤40)
theorem shapeR_succ (d:Nat) (c:Re):shapeR (d+1) c=true↔nodeE c=true∧∀ k∈c.kids,shapeR d k=true:=by
 simp [shapeR]
structure SzR (d:Nat) (c:Re) (r:Int):Prop where
 low:1≤r
 high:r≤41+40 * d
 iff:r≤40↔(shapeR d c=true∧nodesR c≤40)
 eq:r≤40→r=nodesR c
theorem SzR.bad0 (c:Re):SzR 0 c 41:=⟨by omega,by omega,by simp [shapeR],by omega⟩
theorem SzR.bad {d:Nat} {c:Re} (h:nodeE c=false):SzR (d+1) c 41:=⟨by omega,by omega,by
 constructor
 ·intro h;omega
 ·rintro ⟨h1,_⟩
  rw [shapeR_succ,h] at h1
  simp at h1,by omega⟩
structure SzRTo (d:Nat) (ks:List Re) (k:Nat) (r:Int):Prop where
 eq:r=1+descR (ks.take k)
 le:r≤40
 all:∀ c∈ks.take k,shapeR d c=true
theorem SzRTo.zero (d:Nat) (ks:List Re):SzRTo d ks 0 1:=⟨by simp [descR],by omega,by simp⟩
theorem SzRTo.low {d:Nat} {ks:List Re} {k:Nat} {r:Int} (h:SzRTo d ks k r):1≤r:=by have:=h.eq;omega
theorem SzRTo.next {d:Nat} {ks:List Re} {k:Nat} {r r':Int} {x:Re} (h:SzRTo d ks k r) (hx:ks[k]? = some x) (hr:SzR d x r') (hle:r+r'≤40):SzRTo d ks (k+1) (r+r'):=by
 have h1:=h.low
 have h2:=hr.eq (by omega)
 obtain ⟨h3,h4⟩:=hr.iff.1 (by omega)
 refine ⟨?_,hle, ?_⟩
 ·rw [descR_take_succ hx,h.eq,h2];unfold nodesR;omega
 ·intro c hc
  rw [List.take_add_one,hx] at hc
  simp at hc
  rcases hc with hc | rfl
  ·exact h.all c hc
  ·exact h3
theorem SzRTo.more {d:Nat} {c:Re} {k:Nat} {r r':Int} {x:Re} (h:SzRTo d c.kids k r) (hx:c.kids[k]? = some x) (hr:SzR d x r') (hgt:¬ r+r'≤40):SzR (d+1) c (r+r'):=by
 have h1:=h.low
 have h0:=hr.low
 have h5:=hr.high
 refine ⟨by omega,by have:=h.le;omega,⟨fun h=>absurd h hgt, ?_⟩,fun h=>absurd h hgt⟩
 rintro ⟨hs,hn⟩
 exfalso
 apply hgt
 rw [shapeR_succ] at hs
 have hm:=List.mem_of_getElem? hx
 have hk:=descR_kid hx
 have h6:=hr.iff.2 ⟨hs.2 x hm,by unfold nodesR at hn ⊢;omega⟩
 have h7:=hr.eq h6
 rw [h.eq,h7]
 unfold nodesR at hn ⊢;omega
theorem SzRTo.done {d:Nat} {c:Re} {k:Nat} {r:Int} (h:SzRTo d c.kids k r) (hn:nodeE c=true) (hk:c.kids.length≤k):SzR (d+1) c r:=by
 have h1:=h.low
 have h2:=h.le
 have h3:=h.eq
 have h4:=h.all
 rw [List.take_of_length_le hk] at h3 h4
 exact ⟨h1,by omega,⟨fun _=>⟨(shapeR_succ d c).2 ⟨hn,h4⟩,by unfold nodesR;omega⟩,fun _=>h2⟩,fun _=>by unfold nodesR;omega⟩
theorem SzR.valid {c:Re} {r:Int} (h:SzR 12 c r):decide (r≤40)=validR c:=by
 unfold validR
 rw [Bool.eq_iff_iff]
 simp [h.iff]
structure CnR (c:Re) (m r:Int):Prop where
 low:1≤r
 high:r≤nodesR c
 eq:r≤m→r=nodesR c
structure CnRTo (ks:List Re) (m:Int) (k:Nat) (r:Int):Prop where
 low:1≤r
 high:r≤1+descR (ks.take k)
 eq:r≤m→r=1+descR (ks.take k)
theorem CnRTo.zero (ks:List Re) (m:Int):CnRTo ks m 0 1:=⟨by omega,by omega,fun _=>by simp [descR]⟩
theorem CnRTo.next {ks:List Re} {m:Int} {k:Nat} {r r':Int} {x:Re} (h:CnRTo ks m k r) (hx:ks[k]? = some x) (hm:r≤m) (hr:CnR x (m - r) r'):CnRTo ks m (k+1) (r+r'):=by
 have h1:=h.low;have h2:=h.high;have h3:=h.eq hm
 have h4:=hr.low;have h5:=hr.high
 unfold nodesR at h5
 refine ⟨by omega,by rw [descR_take_succ hx];omega,fun hle => ?_⟩
 have:=hr.eq (by omega)
 unfold nodesR at this
 rw [descR_take_succ hx];omega
theorem CnRTo.done {c:Re} {m:Int} {k:Nat} {r:Int} (h:CnRTo c.kids m k r) (hk:c.kids.length≤k∨¬ r≤m):CnR c m r:=by
 have h1:=h.low;have h2:=h.high;have h3:=descR_take_le c.kids k
 refine ⟨h1,by unfold nodesR;omega,fun hm => ?_⟩
 rcases hk with hk | hk
 ·have:=h.eq hm
  rw [List.take_of_length_le hk] at this
  unfold nodesR;omega
 ·exact absurd hm hk
theorem CnR.le {c:Re} {r:Int} (h:CnR c 40 r):decide (r≤40)=decide (nodesR c≤40):=by
 have h1:=h.high
 rw [Bool.eq_iff_iff]
 simp only [decide_eq_true_eq]
 constructor
 ·intro hr;have:=h.eq hr;omega
 ·intro hn;omega
end Go.Proofs.YtkfhgnkonaafgaaGreatDoor
namespace Go.Proofs.YtkfhgnkonaafgaaGreatDoor
open Go.RowKit
def Re.wt:Re→Nat
 | .mk _ p ks=>p.size+(ks.length+(ks.attach.map fun ⟨k,_⟩=>k.wt).sum)
termination_by c=>SizeOf.sizeOf c
decreasing_by
 have:=List.sizeOf_lt_of_mem ‹_›
 simp;omega
def wtR (ks:List Re):Nat:=(ks.map fun k=>k.wt+1).sum
theorem Re.wt_eq (c:Re):c.wt=c.nm.size+wtR c.kids:=by
 cases c with
 | mk o p ks =>
  rw [Re.wt,Re.kids,Re.nm]
  congr 1
  have:(ks.attach.map fun k=>k.1.wt)=ks.map fun k=>k.wt:=by
   rw [List.attach_map_val (l:=ks) (f:=fun k=>k.wt)]
  show ks.length+(ks.attach.map fun k=>k.1.wt).sum=_
  rw [this]
  unfold wtR
  clear this
  induction ks with
  | nil=>rfl
  | cons k ks ih=>simp;omega
theorem descR_le_wtR:∀ ks:List Re,descR ks≤wtR ks:=Re.all (by
 intro ks ih
 unfold descR wtR
 induction ks with
 | nil=>simp
 | cons k ks ih2 =>
  simp only [List.map_cons,List.sum_cons]
  have h1:=ih k (by simp)
  have h2:=ih2 (fun c hc=>ih c (by simp [hc]))
  rw [Re.desc_eq,Re.wt_eq];omega)
end Go.Proofs.YtkfhgnkonaafgaaGreatDoor
namespace Go.Proofs.YtkfhgnkonaafgaaGreatDoor
open Go.RowKit
end Go.Proofs.YtkfhgnkonaafgaaGreatDoor
namespace Go.Proofs.YtkfhgnkonaafgaaGreatDoor
open Go.RowKit
theorem Tryz.infoRel:(Tryz.prog.info? 75).map (fun i=>(i.zero,i.size,i.bytes))=some (some (.agg #[.int .i64 0, .string ⟨#[]⟩, .slice none 0 0]),3,48):=by kernel_rfl
end Go.Proofs.YtkfhgnkonaafgaaGreatDoor
namespace Go.Proofs.YtkfhgnkonaafgaaGreatDoor
open Go.RowKit
def l3L:List Int→List Int→Int
 | x :: xs,y :: ys=>if x < y then -1 else if y < x then 1 else l3L xs ys
 | _,_=>0
theorem l3L_drop {a b:List Int} {k:Nat} {x y:Int} (hx:a[k]? = some x) (hy:b[k]? = some y):l3L (a.drop k) (b.drop k)=if x < y then -1 else if y < x then 1 else l3L (a.drop (k+1)) (b.drop (k+1)):=by
 obtain ⟨hk,rfl⟩:=List.getElem?_eq_some_iff.1 hx
 obtain ⟨hk',rfl⟩:=List.getElem?_eq_some_iff.1 hy
 rw [List.drop_eq_getElem_cons hk,List.drop_eq_getElem_cons hk',l3L]
theorem l3L_end {a b:List Int} {k:Nat} (h:a.length≤k∨b.length≤k):l3L (a.drop k) (b.drop k)=0:=by
 rcases h with h | h
 ·rw [List.drop_of_length_le h];simp [l3L]
 ·rw [List.drop_of_length_le h];cases a.drop k <;> simp [l3L]
theorem l3Less_any (v v':Value) (xs ys:List Int) (w:World) (hx:Rep IntE w v xs) (hy:Rep IntE w v' ys) :
 Calls Tryz.prog 37 #[v,v'] w fun e w'=>e = .returned (.int .i64 (l3L xs ys))∧Below w.heap.size w w':=by
 obtain ⟨a,c,rfl,hc1,hc2,hc3,hx⟩:=hx.open
 obtain ⟨a',c',rfl,hc1',hc2',hc3',hy⟩:=hy.open
 have HX:=hide hx;clear hx
 have HY:=hide hy;clear hy
 have HS:Hid (l3L (xs.drop 0) (ys.drop 0)=l3L xs ys):=hide (by simp)
 generalize hR:l3L xs ys=R at *
 clear hR
 generalize hn:xs.length=n at *
 generalize hn':ys.length=n' at *
 have H:=hide hn;clear hn
 have H':=hide hn';clear hn'
 go_enter Tryz.func37,Tryz.ntmps37
 go_wp2_with fail
 go_loopw [5] (fun v wr => ∃ k:Nat,k≤n∧k≤n'∧v = .int .i64 k∧Hid (l3L (xs.drop k) (ys.drop k)=R)∧Below w.heap.size w wr) (fun v _=>n - (intOf v).toNat)
 case atStart=>exact ⟨0,Nat.zero_le _,Nat.zero_le _,rfl,HS,Below.refl _ _⟩
 case round =>
  obtain ⟨k,hk,hk',rfl,T,hb⟩:=hrel
  by_cases hlt:k < n
  ·have hlt1:=nat_of_lt hlt
   by_cases hlt2:k < n'
   ·have hlt3:=nat_of_lt hlt2
    obtain ⟨x,hxk⟩:=get_of_lt (xs:=xs) (k:=k) (by rw [H.out];exact hlt)
    obtain ⟨y,hyk⟩:=get_of_lt (xs:=ys) (k:=k) (by rw [H'.out];exact hlt2)
    obtain ⟨b,o,rfl,hbl,i0⟩:=(HX.out.below hb).int hxk
    obtain ⟨b',o',rfl,hbl',j0⟩:=(HY.out.below hb).int hyk
    have ST:=hide (l3L_drop hxk hyk)
    clear hxk hyk
    by_cases hxy:x < y
    ·have E:Hid (R = -1):=hide (by rw [← T.out,ST.out,if_pos hxy])
     go_wp2_with fail
     refine wp_region_bw (by kernel_rfl) (by kernel_rfl) ?_
     repeat (go_big_quiet_step (fail))
     refine wpQuiet_nil ?_
     intro w1 hw1
     obtain ⟨c1, -⟩:=bcell hw1
     go_wp2_with fail
     go_ret
     rw [E.out]
     exact ⟨rfl,hb.trans (hw1.mono hb.size)⟩
    ·have E0:Hid ((if y < x then 1 else l3L (xs.drop (k+1)) (ys.drop (k+1)))=R):=hide (by rw [← T.out,ST.out,if_neg hxy])
     have hxy':y≤x:=Int.not_lt.1 hxy
     clear hxy
     go_wp2_with fail
     refine wp_region_bw (by kernel_rfl) (by kernel_rfl) ?_
     repeat (go_big_quiet_step (fail))
     refine wpQuiet_nil ?_
     intro w1 hw1
     obtain ⟨c1, -⟩:=bcell hw1
     have hbl1:b < w1.heap.size:=by have:=hw1.size;omega
     have hbl1':b' < w1.heap.size:=by have:=hw1.size;omega
     have i1:=(c1 b (o+k) hbl).trans i0
     have j1:=(c1 b' (o'+k) hbl').trans j0
     by_cases hyx:y < x
     ·have E:Hid (R=1):=hide (by rw [← E0.out,if_pos hyx])
      go_wp2_with fail
      refine wp_region_bw (by kernel_rfl) (by kernel_rfl) ?_
      repeat (go_big_quiet_step (fail))
      refine wpQuiet_nil ?_
      intro w2 hw2
      go_wp2_with fail
      go_ret
      rw [E.out]
      exact ⟨rfl,(hb.trans (hw1.mono hb.size)).trans (hw2.mono (by have:=hb.size;have:=hw1.size;omega))⟩
     ·have E:Hid (l3L (xs.drop (k+1)) (ys.drop (k+1))=R):=hide (by rw [← E0.out,if_neg hyx])
      have hyx':x≤y:=Int.not_lt.1 hyx
      clear hyx
      go_wp2_with fail
      refine wp_region_bw (by kernel_rfl) (by kernel_rfl) ?_
      repeat (go_big_quiet_step (fail))
      refine wpQuiet_nil ?_
      intro w2 hw2
      go_wp2_with fail
      go_roundw
      case rel=>exact ⟨k+1,by omega,by omega,by go_num,E,(hb.trans (hw1.mono hb.size)).trans (hw2.mono (by have:=hb.size;have:=hw1.size;omega))⟩
      case measure=>simp [intOf];omega
   ·have hlt3:decide ((k:Int) < n')=false:=by simp;omega
    have E:Hid (R=0):=hide (by rw [← T.out];exact l3L_end (.inr (by rw [H'.out];omega)))
    go_wp2_with fail
    go_ret
    rw [E.out]
    exact ⟨rfl,hb⟩
  ·have hlt3:decide ((k:Int) < n)=false:=by simp;omega
   have E:Hid (R=0):=hide (by rw [← T.out];exact l3L_end (.inl (by rw [H.out];omega)))
   go_wp2_with fail
   go_ret
   rw [E.out]
   exact ⟨rfl,hb⟩
end Go.Proofs.YtkfhgnkonaafgaaGreatDoor
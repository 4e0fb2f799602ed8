/-
  A law that answers true and turns nothing that was there, beside package-level variables. No condition.
-/
import Derived.Test.YtfbgppkdnfljhaaDoorZx00
import Derived.Test.YtfbgppkdnfljhaaDoorRows
import Derived.ProofKit
import Derived.Deep.Slices
import Derived.OpenVars
import Derived.ChangeSame
import Derived.ChangeVars
import Derived.JoinedOf
import Derived.RowKitTokens
import Derived.LaidLaws
import Derived.LaidMore
import Derived.Stop.Joined
set_option maxHeartbeats 6400000
set_option maxRecDepth 100000
namespace Go.Proofs.YtfbgppkdnfljhaaDoor
open Go.RowKit
inductive Re where
 | mk (op:Int) (nm:ByteArray) (kids:List Re)
def Re.op:Re→Int
 | .mk o _ _=>o
def Re.nm:Re→ByteArray
 | .mk _ p _=>p
def Re.kids:Re→List Re
 | .mk _ _ k=>k
theorem Re.eta (c:Re):Re.mk c.op c.nm c.kids=c:=by cases c;rfl
theorem Re.all {P:List Re→Prop} (h:∀ ks,(∀ c∈ks,P c.kids)→P ks) (ks:List Re):P ks:=by
 apply h
 induction ks with
 | nil=>intro c hc;simp at hc
 | cons c ks ih =>
  intro d hd
  have hc:P c.kids:=by
   refine Re.rec (motive_1:=fun c=>P c.kids) (motive_2:=fun l => ∀ c∈l,P c.kids) ?_ ?_ ?_ c
   ·intro o p l hl;exact h l hl
   ·intro c hc;simp at hc
   ·intro a l ha hl c hc
    rcases List.mem_cons.1 hc with rfl | hc
    ·exact ha
    ·exact hl c hc
  rcases List.mem_cons.1 hd with rfl | hd
  ·exact hc
  ·exact ih d hd
structure Rs where
 op:Int
 nm:ByteArray
 s:Slc
def RsE:El Rs:=⟨3,by decide,fun x=>[.int .i64 x.op, .string x.nm, .slice x.s.a x.s.n x.s.cap],fun _=>rfl,fun x u h=>by simp at h;rcases h with rfl | rfl | rfl <;> rfl⟩
inductive RepRe (lo:Nat) (w:World):Rs→Re→Prop
 | mk {o:Int} {p:ByteArray} {s:Slc} {us:List Rs} {ks:List Re} (h1:us.length=ks.length) (h2:Rep RsE w s.v us) (h3:From lo s us)
  (h4:∀ (i:Nat) (u:Rs) (k:Re),us[i]? = some u→ks[i]? = some k→RepRe lo w u k):RepRe lo w ⟨o,p,s⟩ (.mk o p ks)
def RepRk (lo:Nat) (w:World) (s:Slc) (ks:List Re):Prop:=
 ∃ us:List Rs,us.length=ks.length∧Rep RsE w s.v us∧From lo s us∧∀ (i:Nat) (u:Rs) (k:Re),us[i]? = some u→ks[i]? = some k→RepRe lo w u k
theorem RepRe.kids {lo:Nat} {w:World} {u:Rs} {c:Re} (h:RepRe lo w u c):u.op=c.op∧u.nm=c.nm∧RepRk lo w u.s c.kids:=by
 cases h with
 | mk h1 h2 h3 h4=>exact ⟨rfl,rfl,_,h1,h2,h3,h4⟩
theorem RepRk.cond {lo:Nat} {w:World} {s:Slc} {ks:List Re} (h:RepRk lo w s ks) (o:Int) (p:ByteArray):RepRe lo w ⟨o,p,s⟩ (.mk o p ks):=by
 obtain ⟨us,h1,h2,h3,h4⟩:=h
 exact .mk h1 h2 h3 h4
theorem Rep.fromR {lo:Nat} {w w':World} {s:Slc} {us:List Rs} (h:Rep RsE w s.v us) (hf:From lo s us) (hk:∀ q,lo≤q→q < w.heap.size→w'.heap[q]? = w.heap[q]?):Rep RsE w' s.v us:=by
 obtain ⟨a,c,hv,h1,h2,h⟩:=h
 refine ⟨a,c,hv,h1,h2,fun i x hx => ?_⟩
 obtain ⟨b,o,rfl,hi⟩:=h i x hx
 refine ⟨b,o,rfl,fun j u hu => ?_⟩
 have hc:=hi j u hu
 rw [← hc]
 refine cell_of_block (hk b ?_ (lt_of_cell hc)) _
 rcases hf with rfl | hf
 ·simp at hx
 ·simp only [Slc.v,Value.slice.injEq] at hv
  exact hf b o hv.1
theorem RepRe.keep {lo:Nat} {w w':World} {u:Rs} {c:Re} (h:RepRe lo w u c) (hk:∀ q,lo≤q→q < w.heap.size→w'.heap[q]? = w.heap[q]?):RepRe lo w' u c:=by
 induction h with
 | mk h1 h2 h3 h4 ih=>exact .mk h1 (h2.fromR h3 hk) h3 ih
theorem RepRe.low {lo lo':Nat} {w:World} {u:Rs} {c:Re} (h:RepRe lo w u c) (hl:lo'≤lo):RepRe lo' w u c:=by
 induction h with
 | mk h1 h2 h3 h4 ih =>
  refine .mk h1 h2 ?_ ih
  rcases h3 with h3 | h3
  ·exact .inl h3
  ·exact .inr fun b o e=>Nat.le_trans hl (h3 b o e)
theorem RepRk.keep {lo:Nat} {w w':World} {s:Slc} {ks:List Re} (h:RepRk lo w s ks) (hk:∀ q,lo≤q→q < w.heap.size→w'.heap[q]? = w.heap[q]?):RepRk lo w' s ks:=by
 obtain ⟨us,h1,h2,h3,h4⟩:=h
 exact ⟨us,h1,h2.fromR h3 hk,h3,fun i u k hu hk'=>(h4 i u k hu hk').keep hk⟩
theorem RepRk.low {lo lo':Nat} {w:World} {s:Slc} {ks:List Re} (h:RepRk lo w s ks) (hl:lo'≤lo):RepRk lo' w s ks:=by
 obtain ⟨us,h1,h2,h3,h4⟩:=h
 refine ⟨us,h1,h2, ?_,fun i u k hu hk'=>(h4 i u k hu hk').low hl⟩
 rcases h3 with h3 | h3
 ·exact .inl h3
 ·exact .inr fun b o e=>Nat.le_trans hl (h3 b o e)
theorem RepRk.below {lo:Nat} {w w':World} {s:Slc} {ks:List Re} (h:RepRk lo w s ks) (hb:Below w.heap.size w w'):RepRk lo w' s ks:=h.keep fun q _ hq=>hb.block q hq
theorem RepRk.nil (lo:Nat) (w:World):RepRk lo w ⟨none,0,0⟩ []:=⟨[],rfl,Rep.nil w, .inl rfl,fun i u k h=>by simp at h⟩
theorem RepRk.open {lo:Nat} {w:World} {s:Slc} {ks:List Re} (h:RepRk lo w s ks):s.n=ks.length∧ks.length≤s.cap∧ks.length≤9223372036854775807∧s.cap≤maxLen:=by
 obtain ⟨us,h1,h2,h3,h4⟩:=h
 obtain ⟨a,c,hv,h5,h6,h7,_⟩:=h2.open
 simp only [Slc.v,Value.slice.injEq] at hv
 obtain ⟨_,e2,e3⟩:=hv
 rw [e2,e3];omega
theorem RepRk.kid {lo:Nat} {w:World} {a:Option Addr} {n c:Nat} {ks:List Re} (h:RepRk lo w ⟨a,n,c⟩ ks) {k:Nat} {x:Re} (hx:ks[k]? = some x) :
 ∃ (b o:Nat) (s:Slc),a=some ⟨b,o,none⟩∧b < w.heap.size∧w.cell? ⟨b,o+k * 3,none⟩=some (.int .i64 x.op)∧w.cell? ⟨b,o+k * 3+1,none⟩=some (.string x.nm)∧w.cell? ⟨b,o+k * 3+2,none⟩=some (.slice s.a s.n s.cap)∧RepRk lo w s x.kids:=by
 obtain ⟨us,h1,h2,h3,h4⟩:=h
 obtain ⟨u,hu⟩:=get_of_lt (xs:=us) (k:=k) (by rw [h1];exact (List.getElem?_eq_some_iff.1 hx).1)
 obtain ⟨e1,e2,hk⟩:=(h4 k u x hu hx).kids
 obtain ⟨a',c',hv,_,_,h⟩:=h2
 simp only [Slc.v,Value.slice.injEq] at hv
 obtain ⟨rfl,_,_⟩:=hv
 obtain ⟨b,o,rfl,h'⟩:=h k u hu
 rw [← e1,← e2]
 exact ⟨b,o,u.s,rfl,lt_of_cell (h' 0 _ rfl),h' 0 _ rfl,h' 1 _ rfl,h' 2 _ rfl,hk⟩
def Re.desc:Re→Nat
 | .mk _ _ ks=>ks.length+(ks.attach.map fun ⟨k,_⟩=>k.desc).sum
termination_by c=>SizeOf.sizeOf c
decreasing_by
 have:=List.sizeOf_lt_of_mem ‹_›
 simp;omega
def descR (ks:List Re):Nat:=(ks.map fun k=>k.desc+1).sum
theorem sum_attachR (ks:List Re):ks.length+(ks.attach.map fun k=>k.1.desc).sum=descR ks:=by
 have:(ks.attach.map fun k=>k.1.desc)=ks.map fun k=>k.desc:=by
  rw [List.attach_map_val (l:=ks) (f:=fun k=>k.desc)]
 rw [this]
 unfold descR
 clear this
 induction ks with
 | nil=>rfl
 | cons k ks ih=>simp;omega
theorem Re.desc_eq (c:Re):c.desc=descR c.kids:=by
 cases c with
 | mk o p ks =>
  rw [Re.desc,Re.kids]
  exact sum_attachR ks
theorem descR_take_succ {ks:List Re} {k:Nat} {x:Re} (h:ks[k]? = some x):descR (ks.take (k+1))=descR (ks.take k)+(descR x.kids+1):=by
 unfold descR
 rw [List.take_add_one,h,List.map_append,List.sum_append,← descR]
 simp only [Option.toList_some,List.map_cons,List.map_nil,List.sum_cons,List.sum_nil]
 rw [Re.desc_eq]
 rfl
theorem descR_take_le (ks:List Re) (k:Nat):descR (ks.take k)≤descR ks:=by
 have:descR ks=descR (ks.take k)+descR (ks.drop k):=by
  unfold descR
  rw [← List.sum_append,← List.map_append,List.take_append_drop]
 omega
theorem descR_kid {ks:List Re} {k:Nat} {x:Re} (h:ks[k]? = some x):descR (ks.take k)+(descR x.kids+1)≤descR ks:=by
 rw [← descR_take_succ h];exact descR_take_le _ _
end Go.Proofs.YtfbgppkdnfljhaaDoor
namespace Go.Proofs.YtfbgppkdnfljhaaDoor
def nameTab:List ByteArray:=[⟨#[112,111]⟩,⟨#[108,111,99]⟩,⟨#[101,120,116]⟩,⟨#[114,102]⟩,⟨#[99,111]⟩,⟨#[102,114]⟩,⟨#[102,101,110,99,101]⟩,⟨#[119,114]⟩,⟨#[119,119]⟩,⟨#[105,100]⟩]
def isName (p:ByteArray):Bool:=nameTab.any fun s=>p.toList==s.toList
def kidsO (o:Int):Int:=if o=1 then 0 else if o=2∨o=3∨o=4∨o=5 then 2 else if o=6∨o=7 then 1 else -1
def nodeO (o:Int) (p:ByteArray) (n:Nat):Bool:=((n:Int)==kidsO o)&&(((o==1)==isName p)&&(o==1||(p.toList==[])))
def nodeE (c:Re):Bool:=nodeO c.op c.nm c.kids.length
def shapeR:Nat→Re→Bool
 | 0,_=>false
 | d+1,c=>nodeE c&&c.kids.all (shapeR d)
def nodesR (c:Re):Nat:=descR c.kids+1
def validR (c:Re):Bool:=shapeR 12 c&&decide (nodesR c≤40)
theorem shapeR_succ (d:Nat) (c:Re):shapeR (d+1) c=true↔nodeE c=true∧∀ k∈c.kids,shapeR d k=true:=by
 simp [shapeR]
structure SzR (d:Nat) (c:Re) (r:Int):Prop where
 low:1≤r
 high:r≤41+40 * d
 iff:r≤40↔(shapeR d c=true∧nodesR c≤40)
 eq:r≤40→r=nodesR c
theorem SzR.bad0 (c:Re):SzR 0 c 41:=⟨by omega,by omega,by simp [shapeR],by omega⟩
theorem SzR.bad {d:Nat} {c:Re} (h:nodeE c=false):SzR (d+1) c 41:=⟨by omega,by omega,by
 constructor
 ·intro h;omega
 ·rintro ⟨h1,_⟩
  rw [shapeR_succ,h] at h1
  simp at h1,by omega⟩
structure SzRTo (d:Nat) (ks:List Re) (k:Nat) (r:Int):Prop where
 eq:r=1+descR (ks.take k)
 le:r≤40
 all:∀ c∈ks.take k,shapeR d c=true
theorem SzRTo.zero (d:Nat) (ks:List Re):SzRTo d ks 0 1:=⟨by simp [descR],by omega,by simp⟩
theorem SzRTo.low {d:Nat} {ks:List Re} {k:Nat} {r:Int} (h:SzRTo d ks k r):1≤r:=by have:=h.eq;omega
theorem SzRTo.next {d:Nat} {ks:List Re} {k:Nat} {r r':Int} {x:Re} (h:SzRTo d ks k r) (hx:ks[k]? = some x) (hr:SzR d x r') (hle:r+r'≤40):SzRTo d ks (k+1) (r+r'):=by
 have h1:=h.low
 have h2:=hr.eq (by omega)
 obtain ⟨h3,h4⟩:=hr.iff.1 (by omega)
 refine ⟨?_,hle, ?_⟩
 ·rw [descR_take_succ hx,h.eq,h2];unfold nodesR;omega
 ·intro c hc
  rw [List.take_add_one,hx] at hc
  simp at hc
  rcases hc with hc | rfl
  ·exact h.all c hc
  ·exact h3
theorem SzRTo.more {d:Nat} {c:Re} {k:Nat} {r r':Int} {x:Re} (h:SzRTo d c.kids k r) (hx:c.kids[k]? = some x) (hr:SzR d x r') (hgt:¬ r+r'≤40):SzR (d+1) c (r+r'):=by
 have h1:=h.low
 have h0:=hr.low
 have h5:=hr.high
 refine ⟨by omega,by have:=h.le;omega,⟨fun h=>absurd h hgt, ?_⟩,fun h=>absurd h hgt⟩
 rintro ⟨hs,hn⟩
 exfalso
 apply hgt
 rw [shapeR_succ] at hs
 have hm:=List.mem_of_getElem? hx
 have hk:=descR_kid hx
 have h6:=hr.iff.2 ⟨hs.2 x hm,by unfold nodesR at hn ⊢;omega⟩
 have h7:=hr.eq h6
 rw [h.eq,h7]
 unfold nodesR at hn ⊢;omega
theorem SzRTo.done {d:Nat} {c:Re} {k:Nat} {r:Int} (h:SzRTo d c.kids k r) (hn:nodeE c=true) (hk:c.kids.length≤k):SzR (d+1) c r:=by
 have h1:=h.low
 have h2:=h.le
 have h3:=h.eq
 have h4:=h.all
 rw [List.take_of_length_le hk] at h3 h4
 exact ⟨h1,by omega,⟨fun _=>⟨(shapeR_succ d c).2 ⟨hn,h4⟩,by unfold nodesR;omega⟩,fun _=>h2⟩,fun _=>by unfold nodesR;omega⟩
theorem SzR.valid {c:Re} {r:Int} (h:SzR 12 c r):decide (r≤40)=validR c:=by
 unfold validR
 rw [Bool.eq_iff_iff]
 simp [h.iff]
structure CnR (c:Re) (m r:Int):Prop where
 low:1≤r
 high:r≤nodesR c
 eq:r≤m→r=nodesR c
structure CnRTo (ks:List Re) (m:Int) (k:Nat) (r:Int):Prop where
 low:1≤r
 high:r≤1+descR (ks.take k)
 eq:r≤m→r=1+descR (ks.take k)
theorem CnRTo.zero (ks:List Re) (m:Int):CnRTo ks m 0 1:=⟨by omega,by omega,fun _=>by simp [descR]⟩
theorem CnRTo.next {ks:List Re} {m:Int} {k:Nat} {r r':Int} {x:Re} (h:CnRTo ks m k r) (hx:ks[k]? = some x) (hm:r≤m) (hr:CnR x (m - r) r'):CnRTo ks m (k+1) (r+r'):=by
 have h1:=h.low;have h2:=h.high;have h3:=h.eq hm
 have h4:=hr.low;have h5:=hr.high
 unfold nodesR at h5
 refine ⟨by omega,by rw [descR_take_succ hx];omega,fun hle => ?_⟩
 have:=hr.eq (by omega)
 unfold nodesR at this
 rw [descR_take_succ hx];omega
theorem CnRTo.done {c:Re} {m:Int} {k:Nat} {r:Int} (h:CnRTo c.kids m k r) (hk:c.kids.length≤k∨¬ r≤m):CnR c m r:=by
 have h1:=h.low;have h2:=h.high;have h3:=descR_take_le c.kids k
 refine ⟨h1,by unfold nodesR;omega,fun hm => ?_⟩
 rcases hk with hk | hk
 ·have:=h.eq hm
  rw [List.take_of_length_le hk] at this
  unfold nodesR;omega
 ·exact absurd hm hk
theorem CnR.le {c:Re} {r:Int} (h:CnR c 40 r):decide (r≤40)=decide (nodesR c≤40):=by
 have h1:=h.high
 rw [Bool.eq_iff_iff]
 simp only [decide_eq_true_eq]
 constructor
 ·intro hr;have:=h.eq hr;omega
 ·intro hn;omega
end Go.Proofs.YtfbgppkdnfljhaaDoor
namespace Go.Proofs.YtfbgppkdnfljhaaDoor
end Go.Proofs.YtfbgppkdnfljhaaDoor
namespace Go.Proofs.YtfbgppkdnfljhaaDoor
open Go.RowKit
section
variable {α : Type} {f : α → α} {k : Nat} {xs : List α}
end
end Go.Proofs.YtfbgppkdnfljhaaDoor
namespace Go.Proofs.YtfbgppkdnfljhaaDoor
open Go.RowKit
end Go.Proofs.YtfbgppkdnfljhaaDoor
namespace Go.Proofs.YtfbgppkdnfljhaaDoor
open Go.RowKit
end Go.Proofs.YtfbgppkdnfljhaaDoor
namespace Go.Proofs.YtfbgppkdnfljhaaDoor
open Go.RowKit
def EqRk (xs:List Re):Prop:=∀ (ys:List Re) (a a':Option Addr) (n c n' c':Nat) (b:Bool) (w:World),RepRk 0 w ⟨a,n,c⟩ xs→RepRk 0 w ⟨a',n',c'⟩ ys→(b=true↔xs=ys) →
 Calls Tryd.prog 60 #[.slice a n c, .slice a' n' c'] w fun e w'=>e = .returned (.bool b)∧Below w.heap.size w w'
theorem bytes_eqR {a b:ByteArray} (h:a.toList=b.toList):a=b:=by
 rw [ByteArray.toList_eq,ByteArray.toList_eq] at h
 cases a;cases b;simp_all
theorem eqRel_of {xs:List Re} (H:EqRk xs) (o o':Int) (p p':ByteArray) (ys:List Re) (a a':Option Addr) (n c n' c':Nat) (b:Bool) (w:World) (h:RepRk 0 w ⟨a,n,c⟩ xs) (h':RepRk 0 w ⟨a',n',c'⟩ ys) (hb:b=true↔Re.mk o p xs=Re.mk o' p' ys) :
 Calls Tryd.prog 46 #[.agg #[.int .i64 o, .string p, .slice a n c], .agg #[.int .i64 o', .string p', .slice a' n' c']] w fun e w'=>e = .returned (.bool b)∧Below w.heap.size w w':=by
 have HB:=hide hb;clear hb
 have hbase:=((Below.refl w.heap.size w).alloc (Nat.le_refl _) (.cells #[.int .i64 o, .string p, .slice a n c] 38)).alloc (by simp) (.cells #[.int .i64 o', .string p', .slice a' n' c'] 38)
 have h:=h.below hbase
 have h':=h'.below hbase
 obtain ⟨d,hd⟩:=some_bool (xs=ys)
 have HC:=hide (H ys a a' n c n' c' d _ h h' hd)
 have HBB:=hide hbase;have HD:=hide hd
 clear hbase h h' hd
 by_cases h1:o=o'
 ·have g1:(o != o')=false:=by simp [h1]
  by_cases h2:p=p'
  ·have g2:(p.toList==p'.toList)=true:=by simp [h2]
   obtain rfl:b=d:=by rw [Bool.eq_iff_iff,HB.out,HD.out];simp [h1,h2]
   clear h1 h2
   go_enter Tryd.func46,Tryd.ntmps46
   go_wp2_with fail
   (with_reducible refine (HC.out).mono ?_);rintro e w1 ⟨rfl,hb1⟩
   cases b
   ·go_wp2_with fail
    go_ret
    exact ⟨rfl,HBB.out.trans (hb1.mono HBB.out.size)⟩
   ·go_wp2_with fail
    go_ret
    exact ⟨rfl,HBB.out.trans (hb1.mono HBB.out.size)⟩
  ·have g2:(p.toList==p'.toList)=false:=by
    rw [beq_eq_false_iff_ne];exact fun e=>h2 (bytes_eqR e)
   obtain rfl:b=false:=by rw [Bool.eq_false_iff,ne_eq,HB.out];simp [h2]
   clear h1 h2
   go_enter Tryd.func46,Tryd.ntmps46
   go_wp2_with fail
   go_ret
   exact ⟨rfl,HBB.out⟩
 ·have g1:(o != o')=true:=by simp [h1]
  obtain rfl:b=false:=by rw [Bool.eq_false_iff,ne_eq,HB.out];simp [h1]
  clear h1
  go_enter Tryd.func46,Tryd.ntmps46
  go_wp2_with fail
  go_ret
  exact ⟨rfl,HBB.out⟩
theorem eqRk_any:∀ xs,EqRk xs:=Re.all (by
 intro xs ih ys a a' n c n' c' bb w hx hy hbb
 obtain ⟨e1,hc1,hc2,hc3⟩:=hx.open
 obtain ⟨e1',hc1',hc2',hc3'⟩:=hy.open
 simp only at e1 e1' hc1 hc2 hc3 hc1' hc2' hc3'
 have HX:=hide hx;have HY:=hide hy;have HB:=hide hbb;have IH:=hide ih
 clear hx hy hbb ih
 have H:=hide e1.symm;have H':=hide e1'.symm
 clear e1 e1'
 rw [H.out] at hc1 hc2
 rw [H'.out] at hc1' hc2'
 by_cases hc:n=n'
 ·subst hc
  have hc':((n:Int) != n)=false:=by simp
  go_enter Tryd.func60,Tryd.ntmps60
  go_wp2_with fail
  go_loopw [5] (fun v wr => ∃ k:Nat,k≤n∧v = .int .i64 k∧Hid (xs.take k=ys.take k)∧Below w.heap.size w wr) (fun v _=>n - (intOf v).toNat)
  case atStart=>exact ⟨0,Nat.zero_le _,rfl,hide (by simp),Below.refl _ _⟩
  case round =>
   obtain ⟨k,hk,rfl,T,hb⟩:=hrel
   by_cases hlt:k < n
   ·obtain ⟨x,hxk⟩:=get_of_lt (xs:=xs) (k:=k) (by rw [H.out];exact hlt)
    obtain ⟨y,hyk⟩:=get_of_lt (xs:=ys) (k:=k) (by rw [H'.out];exact hlt)
    obtain ⟨b,o,s,rfl,hbl,i0,i1,i2,i5⟩:=(HX.out.below hb).kid hxk
    obtain ⟨b',o',s',rfl,hbl',j0,j1,j2,j5⟩:=(HY.out.below hb).kid hyk
    have hlt':=nat_of_lt hlt
    obtain ⟨d,hd⟩:=some_bool (x=y)
    have HC:=hide (fun w' h h'=>eqRel_of (IH.out x (List.mem_of_getElem? hxk)) x.op y.op x.nm y.nm y.kids s.a s'.a s.n s.cap s'.n s'.cap d w' h h' (by rw [hd,Re.eta,Re.eta]))
    have X:=hide hxk;clear hxk
    have Y:=hide hyk;clear hyk
    have I5:=hide i5;have J5:=hide j5;have D:=hide hd
    clear i5 j5 hd
    go_wp2_with fail
    refine wp_region_bw (by kernel_rfl) (by kernel_rfl) ?_
    repeat (go_big_quiet_step ((go_at_call 46;exact Calls.bw (HC.out _ (I5.out.below (BW.prop _)) (J5.out.below (BW.prop _))))))
    refine wpQuiet_nil ?_
    intro w1 hb1
    have hb2:=hb.trans (hb1.mono hb.size)
    cases d
    ·have hq:Hid (xs≠ys):=hide (ne_of_get X.out Y.out (fun e=>by have:=D.out.2 e;simp at this))
     go_wp2_with fail
     go_ret
     obtain rfl:bb=false:=by rw [Bool.eq_false_iff,ne_eq,HB.out];exact hq.out
     exact ⟨rfl,hb2⟩
    ·have T':=hide (take_eq_succ T.out X.out Y.out (D.out.1 rfl))
     go_wp2_with fail
     go_roundw
     case rel=>exact ⟨k+1,by omega,by go_num,T',hb2⟩
     case measure=>simp [intOf];omega
   ·have e2:Hid (xs=ys):=hide (take_all_eq T.out (by rw [H.out];omega) (by rw [H'.out];omega))
    go_wp2_with fail
    go_ret
    obtain rfl:bb=true:=HB.out.2 e2.out
    exact ⟨rfl,hb⟩
 ·have hc':((n:Int) != n')=true:=by simp;omega
  have hq:Hid (xs≠ys):=hide (fun h=>hc (by rw [← H.out,← H'.out,h]))
  go_enter Tryd.func60,Tryd.ntmps60
  go_wp2_with fail
  go_ret
  obtain rfl:bb=false:=by rw [Bool.eq_false_iff,ne_eq,HB.out];exact hq.out
  exact ⟨rfl,Below.refl _ _⟩)
theorem eqRelExpr_any (o o':Int) (p p':ByteArray) (xs ys:List Re) (a a':Option Addr) (n c n' c':Nat) (b:Bool) (w:World) (h:RepRk 0 w ⟨a,n,c⟩ xs) (h':RepRk 0 w ⟨a',n',c'⟩ ys) (hb:b=true↔Re.mk o p xs=Re.mk o' p' ys) :
 Calls Tryd.prog 46 #[.agg #[.int .i64 o, .string p, .slice a n c], .agg #[.int .i64 o', .string p', .slice a' n' c']] w fun e w'=>e = .returned (.bool b)∧Below w.heap.size w w':=
 eqRel_of (eqRk_any xs) o o' p p' ys a a' n c n' c' b w h h' hb
def Re.wt:Re→Nat
 | .mk _ p ks=>p.size+(ks.length+(ks.attach.map fun ⟨k,_⟩=>k.wt).sum)
termination_by c=>SizeOf.sizeOf c
decreasing_by
 have:=List.sizeOf_lt_of_mem ‹_›
 simp;omega
def wtR (ks:List Re):Nat:=(ks.map fun k=>k.wt+1).sum
theorem Re.wt_eq (c:Re):c.wt=c.nm.size+wtR c.kids:=by
 cases c with
 | mk o p ks =>
  rw [Re.wt,Re.kids,Re.nm]
  congr 1
  have:(ks.attach.map fun k=>k.1.wt)=ks.map fun k=>k.wt:=by
   rw [List.attach_map_val (l:=ks) (f:=fun k=>k.wt)]
  show ks.length+(ks.attach.map fun k=>k.1.wt).sum=_
  rw [this]
  unfold wtR
  clear this
  induction ks with
  | nil=>rfl
  | cons k ks ih=>simp;omega
theorem descR_le_wtR:∀ ks:List Re,descR ks≤wtR ks:=Re.all (by
 intro ks ih
 unfold descR wtR
 induction ks with
 | nil=>simp
 | cons k ks ih2 =>
  simp only [List.map_cons,List.sum_cons]
  have h1:=ih k (by simp)
  have h2:=ih2 (fun c hc=>ih c (by simp [hc]))
  rw [Re.desc_eq,Re.wt_eq];omega)
end Go.Proofs.YtfbgppkdnfljhaaDoor
namespace Go.Proofs.YtfbgppkdnfljhaaDoor
open Go.RowKit Go.Deep Go.ChangeShapes Go.WideShapes Go.ChangeAt
section
variable {H : Type} {enc : TypeId × Value → H} {P : Program} {w : World} {base : Nat} {spare : Nat → Bool} {held : Bool} {fuel : Nat} {cs : List Value} {x : DataW H × List MemPlace}
instance:Inhabited Slc:=⟨⟨none,0,0⟩⟩
instance:Inhabited Ins:=⟨⟨0,0,0,0⟩⟩
end
section
variable {H : Type} {enc : TypeId × Value → H} {P : Program}
theorem trodAll_below (hl:laidOutB P=true) {W W':World} (hb:Below W.heap.size W W'):∀ {ts:List TypeId} {vs:List Value} {ds:List (DataW H)} {ps:List MemPlace},(∀ t∈ts,P.readableRec t=true∧t < P.types.size) →
 DataW.TrodAll enc P W 0 (fun _=>true) true ts vs ds ps→DataW.TrodAll enc P W' 0 (fun b=>decide (b < W.heap.size)) true ts vs ds ps
 | [],[],[],ps,_,h=>h
 | t :: ts,v :: vs,d :: ds,ps,ht,h=>by
  have hlt:=DataW.TrodAll.lt h
  obtain ⟨p,q,h1,h2,rfl⟩:=h
  exact ⟨p,q,Below.trod hl (ht t (List.mem_cons_self ..)).1 (ht t (List.mem_cons_self ..)).2 h1 hb (fun x hx=>hlt x (List.mem_append_left _ hx)),trodAll_below hl hb (fun t ht'=>ht t (List.mem_cons_of_mem _ ht')) h2,rfl⟩
 | [],[],_ :: _,_,_,h=>h.elim
 | [],_ :: _,_,_,_,h=>h.elim
 | _ :: _,[],_,_,_,h=>h.elim
 | _ :: _,_ :: _,[],_,_,h=>h.elim
end
end Go.Proofs.YtfbgppkdnfljhaaDoor
namespace Go.Proofs.YtfbgppkdnfljhaaDoor
open Go.RowKit Go.Deep Go.ChangeShapes Go.WideShapes Go.ChangeAt
theorem Tryd.own:ownKnob Tryd.prog.godebug=none:=by kernel_rfl
theorem Tryd.laidOut:laidOutB Tryd.prog=true:=by kernel_rfl
section
variable {H : Type} {enc : TypeId × Value → H} {w : World} {base : Nat} {spare : Nat → Bool} {held : Bool}
end
end Go.Proofs.YtfbgppkdnfljhaaDoor
namespace Go.Proofs.YtfbgppkdnfljhaaDoor
open Go.RowKit Go.ChangeShapes Go.WideShapes Go.ChangeAt
section
variable {H : Type} {enc : TypeId × Value → H} {P : Program}
theorem post_lawV {f:Func} {s:ChangeSpec} {apart:Bool} {W W':World} {args:Array Value} {ds gs:List (DataW H)} {before:List MemPlace} {tb:TypeId} (hl:laidOutB P=true) (hts:∀ t∈f.params.toList,P.readableRec t=true∧t < P.types.size)
 (hv:varsRowed P s.vars=true) (hs:s.fn H (ds++gs) = { results:=[.lit (.bool true)],args:=ds,vars:=gs }) (hr:f.resultTypes = #[tb]) (htb:P.underlying tb=some .bool)
 (hW:DataW.Whole enc P f.params.toList s.vars apart W args.toList ds gs before) (hb:Below W.heap.size W W'):s.post enc P f apart true false false W args (.bool true) W':=by
 have hW2:=hW
 obtain ⟨p,q,hA,hV,rfl,hfz,hnd⟩:=hW2
 refine ⟨ds,gs,_,[],p,q,hW, ?_, ?_, ?_,hb.frame _,fun h=>by cases h⟩
 ·rw [hs,hr]
  exact trodAll_mk1 (shut_bool htb _)
 ·rw [hs]
  exact trodAll_below hl hb hts hA
 ·rw [hs]
  exact hb.trodVars hl hv hV
end
end Go.Proofs.YtfbgppkdnfljhaaDoor
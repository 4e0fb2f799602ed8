/-
  slices.Insert of one instruction into a slice that a call made. Condition: bounds on lengths.
-/
import Derived.Test.YtfbgppkdnfljhaaGreatDoorZt00
import Derived.Test.YtfbgppkdnfljhaaGreatDoorZt02
import Derived.Lib.OwnBridge
import Derived.Shelf.RegionOpenPlain
import Derived.Lib.AppendZerosOnto
import Derived.Lib.Overlaps
import Derived.Deep.RegionLaw
set_option maxHeartbeats 6400000
set_option maxRecDepth 100000
namespace Go.Proofs.YtfbgppkdnfljhaaGreatDoor
open Go.RowKit
end Go.Proofs.YtfbgppkdnfljhaaGreatDoor
namespace Go.Proofs.YtfbgppkdnfljhaaGreatDoor
open Go.RowKit
theorem Tryz.infoInt:(Tryz.prog.info? 3).map (fun i=>(i.zero,i.size,i.bytes))=some (some (.int .i64 0),1,8):=by kernel_rfl
abbrev OwnN (w:World) (base:Nat) (v:Value) (xs:List Int):Prop:=Own IntE 3 w base v xs
theorem Own.int {T:TypeId} {w:World} {base g n cap:Nat} {xs:List Int} (h:Own IntE T w base (.slice (some ⟨g,0,none⟩) n cap) xs) {k:Nat} {x:Int} (hx:xs[k]? = some x) :
 g < w.heap.size∧w.cell? ⟨g,k,none⟩=some (.int .i64 x)∧∀ j,w.frozen? ⟨g,j,none⟩=false:=by
 have:=h.cell hx (j:=0) rfl
 simp only [IntE,Nat.mul_one,Nat.add_zero] at this
 exact ⟨(World.ownsRow.lt h g rfl).2,this,fun j=>h.frozen j⟩
theorem Own.setInt {T:TypeId} {w:World} {base g n cap:Nat} {xs:List Int} (h:Own IntE T w base (.slice (some ⟨g,0,none⟩) n cap) xs) {k:Nat} {z:Int} (hz:xs[k]? = some z) (x:Int) :
 Own IntE T (w.setCell ⟨g,k,none⟩ (.int .i64 x)) base (.slice (some ⟨g,0,none⟩) n cap) (xs.set k x):=by
 have h0:=h.set (i:=k) (j:=0) x (u:=.int .i64 x) (by decide) hz rfl
 simp only [IntE,Nat.mul_one,Nat.add_zero] at h0
 exact h0
end Go.Proofs.YtfbgppkdnfljhaaGreatDoor
namespace Go.Proofs.YtfbgppkdnfljhaaGreatDoor
open Go.RowKit
theorem Below.next {a b c:World} (h:Below a.heap.size a b) (k:Below b.heap.size b c):Below a.heap.size a c:=h.trans (k.mono h.size)
theorem below_row {w w':World} {row:Option Nat} (hg:w.grownBy w' row) {B:Nat} (hB:B≤w.heap.size) (hr:∀ k,row=some k→B≤k):Below B w w':=(Below.refl B w).grown hg hB hr
end Go.Proofs.YtfbgppkdnfljhaaGreatDoor
namespace Go.Proofs.YtfbgppkdnfljhaaGreatDoor
open Go.RowKit
theorem run_append_none {P:Program} {w:World} {base:Nat} {t ty e:TypeId} {i:TypeInfo} {size:Nat} (ht:P.underlying t=some (.slice e)) (hi:P.info? e=some i)
 {v:Value} {n c:Nat} {xs:List Value} (hown:w.ownsRow base e size v n xs):(Builtin.append_ #[t,t] ty #[v, .slice none 0 c]).run P w = .ok v w:=by
 rcases hown.2 with ⟨rfl,rfl⟩ | ⟨g,cap,cur,rfl,_,_,hnc,_⟩
 ·simp [Builtin.append_,run_underlying ht,sizeOf,typeInfo,hi,Builtin.lenOf,Builtin.firstCells]
 ·simp [Builtin.append_,run_underlying ht,sizeOf,typeInfo,hi,Builtin.lenOf,Builtin.firstCells,hnc,storeCells]
theorem wpList_appS {α:Type} (E:El α) {P:Program} {w:World} {ops:Array Oper} {rest:List Oper} {o:Oper} {a:Act} {Q:Exit→Act→World→Prop}
 (T:TypeId) {zv:Value} {bytes:Nat} (hinfo:(P.info? T).map (fun i=>(i.zero,i.size,i.bytes))=some (some zv,E.sz,bytes)) (hz:zv.cells.size=E.sz) {t:TypeId} (h1:P.underlying t=some (.slice T))
 (base:Nat) (v:Value) (xs ys:List α) (u:Value) (hown:Own E T w base v xs) (hrep:Rep E w u ys) (hby:bytes≤256) (hn:xs.length+ys.length≤68719476736) (hbase:base≤w.heap.size)
 (hg:o.guard=none) (s y:Operand) (hop:o.op = .call { callee:=.builtin .append,args:=#[s,y],argTypes:=#[t,t] })
 (hs:a.eval s=v) (hy:a.eval y=u)
 (hK:∀ v' w',Own E T w' base v' (xs++ys)→w.grownBy w' v.ownBlock→wpList P ops Q rest (a.put o.dst v') w') :
 wpList P ops Q (o :: rest) a w:=by
 obtain ⟨it,hi,hz0,hz1,hz2⟩:=info_parts hinfo
 obtain ⟨ad,c,rfl,hc1,hc2,hcell⟩:=hrep
 cases ad with
 | none =>
  have hys:ys=[]:=by
   cases ys with
   | nil=>rfl
   | cons y ys=>obtain ⟨b,o,hb,_⟩:=hcell 0 y rfl;cases hb
  subst hys
  refine wpList_plain hg fun K hK' => ?_
  have hrun:=run_append_none (P:=P) (w:=w) (ty:=o.type) (c:=c) h1 hi hown
  unfold Oper.wp
  simp [execOp,hop,resolve,invoke,builtin,hs,hy,hrun,Result.andThen]
  exact hK' _ _ (hK _ _ (by simpa using hown) (World.grownBy.refl _ _))
 | some ad =>
  refine wpList_append_own w hg s y t hop base T it zv E.sz bytes h1 hi hz0 hz1 hz2 hz E.pos v xs.length _ hs hown ad ys.length c (ys.flatMap E.c) hy (E.length ys) ?_ ?_ (by unfold maxLen;omega) ?_ hbase ?_
  ·intro j u hu
   have hpos:=E.pos
   have hj:j=j / E.sz * E.sz+j % E.sz:=by rw [Nat.mul_comm];exact (Nat.div_add_mod j E.sz).symm
   have hm:j % E.sz < E.sz:=Nat.mod_lt _ hpos
   have hu2:=hu
   rw [hj,E.get ys _ _ hm] at hu2
   cases hx:ys[j / E.sz]? with
   | none=>rw [hx] at hu2;cases hu2
   | some x =>
    rw [hx] at hu2
    obtain ⟨b,o,hb,h⟩:=hcell _ x hx
    simp only [Option.some.injEq] at hb
    subst hb
    have hc:=h (j % E.sz) u hu2
    rw [Addr.add_lit,hj,← Nat.add_assoc]
    exact hc
  ·intro u hu
   rw [List.mem_flatMap] at hu
   obtain ⟨x,_,hx⟩:=hu
   exact E.one x u hx
  ·have:=Nat.mul_le_mul (show xs.length+ys.length≤68719476736 from hn) hby
   omega
  ·intro v' w' h2 h3 _
   refine hK v' w' ?_ h3
   unfold Own
   simpa [List.flatMap_append] using h2
theorem own_ne {α β:Type} {E:El α} {F:El β} {T U:TypeId} (hT:T≠U) {w:World} {base base':Nat} {v u:Value} {xs:List α} {ys:List β} (h:Own E T w base v xs) (k:Own F U w base' u ys):∀ q,u.ownBlock=some q→v.ownBlock≠some q:=by
 intro q hq hv
 rcases h.2 with ⟨rfl,_⟩ | ⟨g,cap,cur,rfl,_,hg,_⟩
 ·simp [Value.ownBlock] at hv
 ·rcases k.2 with ⟨rfl,_⟩ | ⟨g',cap',cur',rfl,_,hg',_⟩
  ·simp [Value.ownBlock] at hq
  ·simp [Value.ownBlock] at hq hv
   subst hq
   subst hv
   rw [hg] at hg'
   simp at hg'
   exact hT hg'.2
theorem Own2U.app {α:Type} {E:El α} {T1 T2:TypeId} (hT:T1≠T2) {us:List Slc} {w w1 w2:World} {base:Nat} {v v':Value} {p:List (List α)} (h:Own2U E T1 T2 us w base v p) (hb:Below w.heap.size w w1) (hbase:base≤w.heap.size) {r:List α} {s:Slc}
 (hu:Own E T2 w1 w.heap.size s.v r) (h2'':Own SlcE T1 w2 base v' (us++[s])) (hg:w1.grownBy w2 v.ownBlock):Own2 E T1 T2 w2 base v' (p++[r]):=by
 obtain ⟨h1,h2,h3,h4,h5⟩:=h
 have h2':=h2.below hb
 have hnew:∀ q,s.v.ownBlock=some q→w.heap.size≤q:=fun q hq=>(World.ownsRow.lt hu q hq).1
 have hold:∀ (i:Nat) (u':Slc),us[i]? = some u'→∀ q,u'.v.ownBlock=some q→q < w.heap.size:=fun i u' hi q hq=>by
  obtain ⟨r',hr'⟩:=get_of_lt (xs:=p) (k:=i) (by have:=(List.getElem?_eq_some_iff.1 hi).1;omega)
  exact (World.ownsRow.lt (h3 i u' r' hi hr') q hq).2
 have split:∀ (i:Nat) (u':Slc),(us++[s])[i]? = some u'→(i=us.length∧u'=s)∨(i < us.length∧us[i]? = some u'):=fun i u' hi=>by
  by_cases hlt:i < us.length
  ·rw [List.getElem?_append_left hlt] at hi;exact .inr ⟨hlt,hi⟩
  ·rw [List.getElem?_append_right (by omega)] at hi
   have:i - us.length=0:=by
    rcases Nat.eq_zero_or_pos (i - us.length) with h | h
    ·exact h
    ·rw [List.getElem?_eq_none (by simp;omega)] at hi;cases hi
   rw [this] at hi;simp at hi
   exact .inl ⟨by omega,hi.symm⟩
 have hus:Own E T2 w2 base s.v r:=(hu.mono hbase).grown hg (by
  rcases hq:s.v.ownBlock with _ | q
  ·exact .inl rfl
  ·exact .inr (fun e=>own_ne hT h2' hu q hq e.symm))
 have hrows:∀ (i:Nat) (u:Slc) (r':List α),us[i]? = some u→p[i]? = some r'→Own E T2 w2 base u.v r':=fun i u r' hi hr' =>
  ((h3 i u r' hi hr').below hb).grown hg (by
   rcases hq:u.v.ownBlock with _ | q
   ·exact .inl rfl
   ·exact .inr (fun e=>h5 i u hi q hq e.symm))
 refine ⟨us++[s],by simp [h1],h2'', ?_, ?_, ?_⟩
 ·intro i u r' hi hr'
  rcases split i u hi with ⟨e1,e2⟩ | ⟨hlt,hi'⟩
  ·rw [e1,List.getElem?_append_right (by omega),h1,Nat.sub_self] at hr'
   simp at hr'
   rw [e2,← hr'];exact hus
  ·rw [List.getElem?_append_left (by omega)] at hr'
   exact hrows i u r' hi' hr'
 ·intro i j u u' hi hj hij q hq hq'
  rcases split i u hi with ⟨e1,e2⟩ | ⟨hlt,hi'⟩
  ·rcases split j u' hj with ⟨e3,e4⟩ | ⟨hlt',hj'⟩
   ·omega
   ·rw [e2] at hq;have a1:=hnew q hq;have a2:=hold j u' hj' q hq';omega
  ·rcases split j u' hj with ⟨e3,e4⟩ | ⟨hlt',hj'⟩
   ·rw [e4] at hq';have a1:=hnew q hq';have a2:=hold i u hi' q hq;omega
   ·exact h4 i j u u' hi' hj' hij q hq hq'
 ·intro i u hi q hq
  rcases split i u hi with ⟨e1,e2⟩ | ⟨hlt,hi'⟩
  ·rw [e2] at hq;exact own_ne hT h2'' hus q hq
  ·obtain ⟨r',hr'⟩:=get_of_lt (xs:=p) (k:=i) (by omega)
   exact own_ne hT h2'' (hrows i u r' hi' hr') q hq
theorem Own2.nil {α:Type} {E:El α} (T1 T2:TypeId) (w:World) (base:Nat):Own2 E T1 T2 w base (.slice none 0 0) []:=
 ⟨[],rfl,Own.nil _ _ _,fun i u r h=>by simp at h,fun i j u u' h=>by simp at h,fun i u h=>by simp at h⟩
theorem Own2.empty {α:Type} {E:El α} (T1 T2:TypeId) (w:World) {base:Nat} (hb:base≤w.heap.size):Own2 E T1 T2 (w.alloc (.cells #[] T1)) base (.slice (some ⟨w.heap.size,0,none⟩) 0 0) []:=
 ⟨[],rfl,Own.empty _ _ hb,fun i u r h=>by simp at h,fun i j u u' h=>by simp at h,fun i u h=>by simp at h⟩
theorem Own2.mono {α:Type} {E:El α} {T1 T2:TypeId} {w:World} {base base':Nat} {v:Value} {p:List (List α)} (h:Own2 E T1 T2 w base v p) (hb:base'≤base):Own2 E T1 T2 w base' v p:=by
 obtain ⟨us,h1,h2,h3,h4,h5⟩:=h
 exact ⟨us,h1,h2.mono hb,fun i u r hu hr=>(h3 i u r hu hr).mono hb,h4,h5⟩
theorem Own2.outHi {α:Type} {E:El α} {T1 T2:TypeId} {lo hi:Nat} {w w':World} {base:Nat} {v:Value} {p:List (List α)} (h0:Own2 E T1 T2 w base v p)
 (h:Outside lo hi w w') (hhi:hi≤base):Own2 E T1 T2 w' base v p:=by
 obtain ⟨us,hU,hlt⟩:=h0.told
 obtain ⟨h1,h2,h3,h4,h5⟩:=hU
 refine ⟨us,h1,h.own h2 (fun q hq => .inr (by have:=(World.ownsRow.lt h2 q hq).1;omega)),fun i u r hu hr=>h.own (h3 i u r hu hr) (fun q hq => .inr (by have:=(hlt i u hu q hq).1;omega)),h4,h5⟩
end Go.Proofs.YtfbgppkdnfljhaaGreatDoor
namespace Go.Proofs.YtfbgppkdnfljhaaGreatDoor
open Go.RowKit
def IdxOf {α:Type} (f:α→Bool) (xs:List α) (q:Int):Prop:=(q = -1∧∀ x∈xs,f x=false)∨∃ (t:Nat) (x:α),q=t∧xs[t]? = some x∧f x=true∧∀ y∈xs.take t,f y=false
theorem none_succ {α:Type} {f:α→Bool} {xs:List α} {t:Nat} {x:α} (h:∀ y∈xs.take t,f y=false) (hx:xs[t]? = some x) (hf:f x=false):∀ y∈xs.take (t+1),f y=false:=by
 intro y hy
 rw [List.take_add_one,hx] at hy
 simp at hy
 rcases hy with hy | rfl
 ·exact h y hy
 ·exact hf
end Go.Proofs.YtfbgppkdnfljhaaGreatDoor
namespace Go.Proofs.YtfbgppkdnfljhaaGreatDoor
open Go.RowKit
theorem Tryz.infoIntS:(Tryz.prog.info? 57).map (fun i=>(i.zero,i.size,i.bytes))=some (some (.slice none 0 0),1,24):=by kernel_rfl
abbrev RepNN (w:World) (v:Value) (p:List (List Int)):Prop:=Rep2 IntE w v p
end Go.Proofs.YtfbgppkdnfljhaaGreatDoor
namespace Go.Proofs.YtfbgppkdnfljhaaGreatDoor
open Go.RowKit
theorem zeroCells_eq {α:Type} (E:El α) (z:α) (zv:Value) (hz:zv.cells.toList=E.c z) (n:Nat):(Builtin.zeroCells zv.cells n).toList=(List.replicate n z).flatMap E.c:=by
 have h:=made_eq (E:=E) z zv hz n
 have hsz:zv.cells.size=E.sz:=by rw [← Array.length_toList,hz,E.len]
 rw [← h]
 simp [Builtin.zeroCells,madeCells,hsz]
theorem El.take {α:Type} (E:El α) (xs:List α) (i:Nat):(xs.flatMap E.c).take (i * E.sz)=(xs.take i).flatMap E.c:=by
 induction xs generalizing i with
 | nil=>simp
 | cons x xs ih =>
  cases i with
  | zero=>simp
  | succ i =>
   rw [List.flatMap_cons,List.take_succ_cons,List.flatMap_cons,List.take_append,E.len,List.take_of_length_le (by rw [E.len,Nat.add_mul];omega),
    show (i+1) * E.sz - E.sz=i * E.sz by rw [Nat.add_mul];omega,ih]
section
variable {α : Type} {E : El α} {T : TypeId}
theorem Own.cut {w:World} {base g n cap:Nat} {xs:List α} (h:Own E T w base (.slice (some ⟨g,0,none⟩) n cap) xs) {i:Nat} (hi:i≤n):Own E T w base (.slice (some ⟨g,0,none⟩) i cap) (xs.take i):=by
 have hn:=h.len
 subst hn
 unfold Own at *
 have hl:(xs.take i).length=i:=by rw [List.length_take];omega
 rcases h.2 with ⟨h1,_⟩ | ⟨g',cap',cur,h1,h2,h3,h4,h5,h6,h7⟩
 ·simp at h1
 ·simp only [Value.slice.injEq,Option.some.injEq,Addr.mk.injEq,and_true,true_and] at h1
  obtain ⟨rfl,rfl⟩:=h1
  rw [hl]
  refine ⟨by rw [E.length,hl], .inr ⟨g,cap,cur,rfl,h2,h3,by omega,h5,h6, ?_⟩⟩
  rw [← E.take,← h7,List.take_take,Nat.min_eq_left (Nat.mul_le_mul_right _ hi)]
theorem run_clear {P:Program} {w:World} {base g n cap i c':Nat} {xs:List α} (z:α) {zv:Value} {bytes:Nat} (hinfo:(P.info? T).map (fun i=>(i.zero,i.size,i.bytes))=some (some zv,E.sz,bytes)) (hz:zv.cells.toList=E.c z)
 {t ty:TypeId} (h1:P.underlying t=some (.slice T)) (hown:Own E T w base (.slice (some ⟨g,0,none⟩) n cap) xs) (hi:i < n) :
 ∃ w',(Builtin.clear_ #[t] ty #[.slice (some ⟨g,i * E.sz,none⟩) (n - i) c']).run P w = .ok (.tuple #[]) w'∧Own E T w' base (.slice (some ⟨g,0,none⟩) n cap) (xs.take i++List.replicate (n - i) z)∧w.grownBy w' (some g):=by
 have hn:=hown.len
 subst hn
 obtain ⟨it,hi1,hz0,hz1,hz2⟩:=info_parts hinfo
 rcases hown.2 with ⟨h2,_⟩ | ⟨g',cap',cur,h2,hb,hg,hnc,hcm,hcs,htake⟩
 ·simp at h2
 ·simp only [Value.slice.injEq,Option.some.injEq,Addr.mk.injEq,and_true,true_and] at h2
  obtain ⟨rfl,rfl⟩:=h2
  have hzl:(Builtin.zeroCells zv.cells (xs.length - i)).toList=(List.replicate (xs.length - i) z).flatMap E.c:=zeroCells_eq E z zv hz _
  have hlen:((List.replicate (xs.length - i) z).flatMap E.c).length=(xs.length - i) * E.sz:=by rw [E.length];simp
  have hmul:i * E.sz+(xs.length - i) * E.sz=xs.length * E.sz:=by rw [← Nat.add_mul];congr 1;omega
  have hmul2:xs.length * E.sz≤cap * E.sz:=Nat.mul_le_mul_right _ hnc
  have hst:=run_storeCells_at P g (i * E.sz) T ((List.replicate (xs.length - i) z).flatMap E.c) 0 cur w hg (by rw [hlen,hcs];omega) (fun v hv=>by
   rw [List.mem_flatMap] at hv
   obtain ⟨x,_,hx⟩:=hv
   exact E.one x v hx)
  simp only [Nat.add_zero] at hst
  refine ⟨w.setRow g (cur.toList.take (i * E.sz)++(List.replicate (xs.length - i) z).flatMap E.c++cur.toList.drop (i * E.sz+((List.replicate (xs.length - i) z).flatMap E.c).length)).toArray, ?_, ?_,⟨rfl,rfl,rfl,by simp,fun k _ hk=>setRow_other w g k _ (fun e=>hk (by simp [e]))⟩⟩
  ·have hne:xs.length - i≠0:=by omega
   obtain ⟨m,hm⟩:=Nat.exists_eq_succ_of_ne_zero hne
   rw [hm] at hst hzl ⊢
   simp only [Nat.succ_eq_add_one] at hst hzl ⊢
   simp [Builtin.clear_,run_underlying h1,zeroValue,typeInfo,hi1,hz0,hzl,hst]
  ·have hl2:(xs.take i++List.replicate (xs.length - i) z).length=xs.length:=by simp;omega
   unfold Own
   rw [hl2]
   refine ⟨by rw [E.length,hl2], .inr ⟨g,cap,_,rfl,hb,setRow_heap w g cur _ T _ hg,hnc,hcm, ?_, ?_⟩⟩
   ·simp only [List.size_toArray,List.length_append,List.length_take,List.length_drop,Array.length_toList,hlen,hcs]
    omega
   ·rw [List.flatMap_append,← E.take,← htake,List.take_take,Nat.min_eq_left (by omega)]
    rw [show xs.length * E.sz=(cur.toList.take (i * E.sz)++(List.replicate (xs.length - i) z).flatMap E.c).length by
     have hcl:cur.toList.length=cap * E.sz:=by rw [Array.length_toList,hcs]
     rw [List.length_append,hlen,List.length_take,hcl];omega]
    exact List.take_left
end
structure DelInv {α:Type} (f:α→Bool) (xs L:List α) (i j:Nat):Prop where
 take:L.take i=(xs.take j).filter fun x => !f x
 drop:L.drop j=xs.drop j
theorem filter_all {α:Type} {f:α→Bool} {xs:List α} (h:∀ x∈xs,f x=true):xs.filter f=xs:=List.filter_eq_self.2 h
theorem del_start {α:Type} {f:α→Bool} {xs:List α} {t:Nat} {x:α} (hx:xs[t]? = some x) (hf:f x=true) (hno:∀ y∈xs.take t,f y=false):DelInv f xs xs t (t+1):=by
 refine ⟨?_,rfl⟩
 rw [List.take_add_one,hx,List.filter_append,filter_all (fun y hy=>by rw [hno y hy];rfl)]
 simp [hf]
section
variable {α : Type} {f : α → Bool} {xs L : List α} {i j : Nat}
theorem DelInv.get (h:DelInv f xs L i j) {x:α} (hx:xs[j]? = some x):L[j]? = some x:=by
 have h1:(L.drop j)[0]? = (xs.drop j)[0]?:=by rw [h.drop]
 rw [List.getElem?_drop,List.getElem?_drop,Nat.add_zero] at h1
 rw [h1,hx]
theorem DelInv.keep (h:DelInv f xs L i j) (hij:i < j) {x:α} (hx:xs[j]? = some x) (hf:f x=false):DelInv f xs (L.set i x) (i+1) (j+1):=by
 have hL:=h.get hx
 have hjl:=(List.getElem?_eq_some_iff.1 hL).1
 refine ⟨?_, ?_⟩
 ·rw [List.take_add_one,List.take_add_one,hx,List.filter_append,← h.take,List.getElem?_set,if_pos rfl,if_pos (by omega)]
  rw [List.take_set_of_le (Nat.le_refl _)]
  simp [hf]
 ·rw [List.drop_set_of_lt (by omega)]
  have h1:(L.drop j).drop 1=(xs.drop j).drop 1:=by rw [h.drop]
  simpa [List.drop_drop] using h1
theorem DelInv.skip (h:DelInv f xs L i j) {x:α} (hx:xs[j]? = some x) (hf:f x=true):DelInv f xs L i (j+1):=by
 refine ⟨?_, ?_⟩
 ·rw [List.take_add_one,hx,List.filter_append,h.take];simp [hf]
 ·have h1:(L.drop j).drop 1=(xs.drop j).drop 1:=by rw [h.drop]
  simpa [List.drop_drop] using h1
theorem DelInv.done (h:DelInv f xs L i j) (hj:xs.length≤j):L.take i=xs.filter fun x => !f x:=by
 rw [h.take,List.take_of_length_le hj]
end
theorem grown_of_below {w w':World} (h:Below w.heap.size w w') (row:Option Nat):w.grownBy w' row:=⟨h.os,h.tape,h.output,h.size,fun k hk _=>h.block k hk⟩
theorem grown_trans {w w' w'':World} {row:Option Nat} (h:w.grownBy w' row) (k:w'.grownBy w'' row):w.grownBy w'' row:=
 ⟨k.os.trans h.os,k.tape.trans h.tape,k.output.trans h.output,Nat.le_trans h.size k.size,fun q hq hne=>(k.block q (Nat.lt_of_lt_of_le hq h.size) hne).trans (h.block q hq hne)⟩
def DelPost {α:Type} (E:El α) (T:TypeId) (w:World) (base:Nat) (v:Value) (ys:List α) (e:Ending) (w':World):Prop:=∃ v',e = .returned v'∧Own E T w' base v' ys∧w.grownBy w' v.ownBlock∧v'.ownBlock=v.ownBlock
theorem wpList_clear {α:Type} (E:El α) {P:Program} {w:World} {ops:Array Oper} {rest:List Oper} {o:Oper} {a:Act} {Q:Exit→Act→World→Prop}
 (T:TypeId) (z:α) {zv:Value} {bytes:Nat} (hinfo:(P.info? T).map (fun i=>(i.zero,i.size,i.bytes))=some (some zv,E.sz,bytes)) (hz:zv.cells.toList=E.c z) {t:TypeId} (h1:P.underlying t=some (.slice T))
 (base g n cap i c':Nat) (xs:List α) (hown:Own E T w base (.slice (some ⟨g,0,none⟩) n cap) xs) (hi:i < n) (hg:o.guard=none) (y:Operand)
 (hop:o.op = .call { callee:=.builtin .clear,args:=#[y],argTypes:=#[t] }) (hy:a.eval y = .slice (some ⟨g,i * E.sz,none⟩) (n - i) c')
 (hK:∀ w',Own E T w' base (.slice (some ⟨g,0,none⟩) n cap) (xs.take i++List.replicate (n - i) z)→w.grownBy w' (some g)→wpList P ops Q rest (a.put o.dst (.tuple #[])) w') :
 wpList P ops Q (o :: rest) a w:=by
 refine wpList_plain hg fun K hK' => ?_
 obtain ⟨w',hrun,r1,r2⟩:=run_clear (ty:=o.type) (c':=c') z hinfo hz h1 hown hi
 unfold Oper.wp
 simp [execOp,hop,resolve,invoke,builtin,hy,hrun,Result.andThen]
 exact hK' _ _ (hK w' r1 r2)
end Go.Proofs.YtfbgppkdnfljhaaGreatDoor
namespace Go.Proofs.YtfbgppkdnfljhaaGreatDoor
open Go.RowKit
def IdxOfS {α:Type} (f:α→Bool) (xs:List α) (q:Int):Prop:=(q = -1∧∀ x∈xs,f x=false)∨∃ (t:Nat) (x:α),q=t∧xs[t]? = some x∧f x=true∧∀ y∈xs.take t,f y=false
theorem none_succS {α:Type} {f:α→Bool} {xs:List α} {t:Nat} {x:α} (h:∀ y∈xs.take t,f y=false) (hx:xs[t]? = some x) (hf:f x=false):∀ y∈xs.take (t+1),f y=false:=by
 intro y hy
 rw [List.take_add_one,hx] at hy
 simp at hy
 rcases hy with hy | rfl
 ·exact h y hy
 ·exact hf
end Go.Proofs.YtfbgppkdnfljhaaGreatDoor
namespace Go.Proofs.YtfbgppkdnfljhaaGreatDoor
open Go.RowKit Go.Shelf Go.Sort
theorem intE_mapK (xs:List Int):xs.flatMap IntE.c=xs.map (Value.int .i64):=by
 induction xs with
 | nil=>rfl
 | cons x xs ih=>rw [List.flatMap_cons,ih];rfl
theorem grownBy_put {w:World} {g n:Nat} (d:Array Int):w.grownBy (putRow (Value.int .i64) (Sort.ahead w n) g 0 d) (some g):=by
 refine ⟨rfl,rfl,rfl,by simp [putRow,mapBlock,Sort.ahead],fun k hk hne => ?_⟩
 have:g≠k:=fun e=>hne (by rw [e])
 simp [putRow,mapBlock,Sort.ahead,Array.getElem?_modify,this]
theorem Delete_any (v:Value) (xs:List Int) (w:World) (base i:Nat) (h:Own IntE 3 w base v xs) (hi:i < xs.length) :
 Calls Tryz.prog 149 #[v, .int .i64 i, .int .i64 ((i:Int)+1)] w fun e w' => ∃ u:Slc,e = .returned (.slice u.a u.n u.cap)∧Own IntE 3 w' base u.v (xs.eraseIdx i)∧w.grownBy w' v.ownBlock:=by
 have hne:v≠.slice none 0 0:=by
  rintro rfl
  rcases h.shape with ⟨-,h0⟩ | ⟨g,cap,h1, -⟩
  ·rw [h0] at hi;simp at hi
  ·cases h1
 unfold Own at h
 rw [intE_mapK] at h
 have h':w.ownsRow base 3 1 v xs.length (xs.map (Value.int .i64)):=h
 obtain ⟨g,cap,rfl,hg1,hg2,hc1,hc2, -,hH⟩:=Lib.holds_of_ownsRow h' hne
 have hc:=Any.slices_Delete_int Tryz.laysDel g 0 cap i (i+1) xs w hH hc1 (by unfold maxLen at hc2;omega) (by omega) (by omega)
 have hcast:((i+1:Nat):Int)=(i:Int)+1:=by omega
 rw [hcast] at hc
 change Calls Tryz.prog 149 _ _ _ at hc
 refine hc.mono fun _ w' ⟨a,q,b⟩ => ?_
 subst b
 have hs:i+1 - i=1:=by omega
 rw [hs] at a ⊢
 have hl:(xs.take i++xs.drop (i+1)++List.replicate 1 (0:Int)).length=xs.length:=by simp;omega
 have h2:=Lib.ownsRow_putRow (q:=q) (k:=xs.length - 1) h' hl (by omega)
 have he:(xs.take i++xs.drop (i+1)++List.replicate 1 (0:Int)).take (xs.length - 1)=xs.eraseIdx i:=by
  rw [List.eraseIdx_eq_take_drop_succ,List.take_append_of_le_length (by simp;omega),List.take_of_length_le (by simp;omega)]
 rw [he] at h2
 refine ⟨⟨some ⟨g,0,none⟩,xs.length - 1,cap⟩,a, ?_,grownBy_put _⟩
 unfold Own
 rw [intE_mapK,show (xs.eraseIdx i).length=xs.length - 1 by rw [List.length_eraseIdx,if_pos hi]]
 exact h2
end Go.Proofs.YtfbgppkdnfljhaaGreatDoor
namespace Go.Proofs.YtfbgppkdnfljhaaGreatDoor
open Go.RowKit
theorem below_of_rowK {B g:Nat} {w w':World} (h:w.grownBy w' (some g)) (hg:B≤g) (hs:B≤w.heap.size):Below B w w':=⟨h.os,h.tape,h.output,h.size,fun k hk=>h.block k (by omega) (by simp;omega)⟩
theorem DelPost.toSlc {w w':World} {base:Nat} {T:TypeId} {v:Value} {ys:List Int} {e:Ending} (h:DelPost IntE T w base v ys e w'):∃ u:Slc,e = .returned (.slice u.a u.n u.cap)∧Own IntE T w' base u.v ys∧w.grownBy w' v.ownBlock:=by
 obtain ⟨v',rfl,h1,h2, -⟩:=h
 obtain ⟨u,rfl, -⟩:=h1.toSlc
 exact ⟨u,rfl,h1,h2⟩
def TestsN (a1:Addr) (f:Int→Bool) (w0:World):Prop:=∀ (x:Int) (w:World),Below w0.heap.size w0 w→Calls Tryz.prog 95 #[.int .i64 x, .pointer (some a1)] w fun e w'=>e = .returned (.bool (f x))∧Below w.heap.size w w'
theorem testsN (b i:Nat) (w0:World) (h:w0.cell? ⟨b,0,none⟩=some (.int .i64 i)):TestsN ⟨b,0,none⟩ (fun k=>k==(i:Int)) w0:=by
 intro x w hb
 have f0:=(hb.cell (p:=⟨b,0,none⟩) (lt_of_cell h)).trans h
 clear h
 go_enter Tryz.func95,Tryz.ntmps95
 go_wp2
 go_ret
 exact ⟨rfl,Below.refl _ _⟩
theorem IndexFunc_ae (a1:Addr) (v:Value) (xs:List Int) (f:Int→Bool) (w0 w:World) (hx:Rep IntE w v xs) (hf:TestsN a1 f w0) (hw:Below w0.heap.size w0 w) :
 Calls Tryz.prog 148 #[v, .func (.func 95) #[] #[.pointer (some a1)]] w fun e w'=>(∃ q:Int,e = .returned (.int .i64 q)∧IdxOfS f xs q)∧Below w.heap.size w w':=by
 obtain ⟨a,c,rfl,hc1,hc2,hc3,hx⟩:=hx.open
 have HX:=hide hx;clear hx
 have HF:=hide hf;clear hf
 generalize hn:xs.length=n at *
 have H:=hide hn;clear hn
 go_enter Tryz.func148,Tryz.ntmps148
 go_wp2_with fail
 go_loopw [8] (fun i wr => ∃ t:Nat,t≤n∧i = .int .i64 t∧Hid (∀ x∈xs.take t,f x=false)∧Below w.heap.size w wr) (fun i _=>n - (intOf i).toNat)
 case atStart=>exact ⟨0,Nat.zero_le _,rfl,hide (by simp),Below.refl _ _⟩
 case round =>
  obtain ⟨t,ht,rfl,hno,hb⟩:=hrel
  by_cases hlt:t < n
  ·obtain ⟨x,hxk⟩:=get_of_lt (xs:=xs) (k:=t) (by rw [H.out];exact hlt)
   obtain ⟨b,o,rfl,hbl,i0⟩:=(HX.out.below hb).int hxk
   have hlt':=nat_of_lt hlt
   have X:=hide hxk;clear hxk
   generalize hfx:f x=fx
   have FX:=hide hfx;clear hfx
   have hcall:=HF.out x _ (hw.trans (hb.mono hw.size))
   rw [FX.out] at hcall
   have HC:=hide hcall;clear hcall
   cases fx
   ·have NO:Hid (∀ x∈xs.take (t+1),f x=false):=hide (none_succS hno.out X.out FX.out)
    go_wp2_with fail
    (with_reducible refine HC.out.mono ?_);rintro e w2 ⟨rfl,hb2⟩
    go_wp2_with fail
    go_roundw
    case rel=>exact ⟨t+1,by omega,by go_num,NO,hb.trans (hb2.mono hb.size)⟩
    case measure=>simp [intOf];omega
   ·go_wp2_with fail
    (with_reducible refine HC.out.mono ?_);rintro e w2 ⟨rfl,hb2⟩
    go_wp2_with fail
    go_ret
    exact ⟨⟨_,rfl, .inr ⟨t,x,rfl,X.out,FX.out,hno.out⟩⟩,hb.trans (hb2.mono hb.size)⟩
  ·go_wp2_with fail
   go_ret
   refine ⟨⟨_,rfl, .inl ⟨rfl, ?_⟩⟩,hb⟩
   have h:=hno.out
   rwa [List.take_of_length_le (by rw [H.out];omega)] at h
theorem DeleteFunc_ae (a1:Addr) (v:Value) (xs:List Int) (f:Int→Bool) (w0 w:World) (base:Nat) (hx:Own IntE 3 w base v xs) (hl:xs.length≤1048576) (hf:TestsN a1 f w0) (hw:Below w0.heap.size w0 w) (hbase:w0.heap.size≤base) :
 Calls Tryz.prog 93 #[v, .func (.func 95) #[] #[.pointer (some a1)]] w fun e w'=>DelPost IntE 3 w base v (xs.filter fun x => !f x) e w':=by
 have DP:Hid (∀ v' w',Own IntE 3 w' base v' (xs.filter fun x => !f x)→w.grownBy w' v.ownBlock→v'.ownBlock=v.ownBlock→DelPost IntE 3 w base v (xs.filter fun x => !f x) (.returned v') w'):=hide (fun v' w' h1 h2 h3=>⟨v',rfl,h1,h2,h3⟩)
 have HF:=hide hf;clear hf
 have HX:=hide hx;clear hx
 have HI:=hide (fun h=>IndexFunc_ae a1 v xs f w0 w h HF.out hw)
 generalize hG:(xs.filter fun x => !f x)=G at *
 have HG:=hide hG;clear hG
 go_enter Tryz.func93,Tryz.ntmps93
 go_wp2_with fail
 (with_reducible refine (HI.out HX.out.rep).mono ?_);rintro e w1 ⟨⟨q,rfl,hq⟩,hb1⟩
 have HX1:=hide (HX.out.below hb1)
 have hg1:=grown_of_below hb1 v.ownBlock
 rcases hq with ⟨rfl,hno⟩ | ⟨t,x0,rfl,ht,hft,hno⟩
 ·have e1:G=xs:=by rw [← HG.out];exact filter_all (fun x h=>by rw [hno x h];rfl)
  have HE:=hide e1;clear e1 hno
  go_wp2_with fail
  go_ret
  exact DP.out _ _ (by rw [HE.out];exact HX1.out) hg1 rfl
 ·rcases HX.out.shape with ⟨-,rfl⟩ | ⟨g,c,rfl,hg,hgl,hc1,hc2⟩
  ·simp at ht
  ·have htl:=(List.getElem?_eq_some_iff.1 ht).1
   have hstart:=del_start ht hft hno
   have ST:=hide hstart;clear hstart ht hft hno
   generalize hn:xs.length=n at *
   have H:=hide hn;clear hn
   have htl':=nat_of_lt htl
   have hm1:((t:Int) == -1)=false:=by rw [beq_eq_false_iff_ne];omega
   go_wp2_with fail
   go_loopw [5,6] (fun si sj wr => ∃ (i j:Nat) (L:List Int),i < j∧j≤n∧si = .int .i64 i∧sj = .int .i64 j∧Own IntE 3 wr base (.slice (some ⟨g,0,none⟩) n c) L∧Hid (DelInv f xs L i j)∧w.grownBy wr (some g)) (fun _ sj _=>n - (intOf sj).toNat)
   case atStart=>exact ⟨t,t+1,xs,by omega,by omega,rfl,rfl,HX1.out,hide ST.out,hg1⟩
   case round =>
    obtain ⟨i,j,L,hij,hj,rfl,rfl,ho,hI,hgr⟩:=hrel
    have hLl:L.length=n:=ho.len.symm
    have HLL:=hide hLl;clear hLl
    have hbr:=hw.trans (below_of_rowK hgr (by omega) hw.size)
    by_cases hlt:j < n
    ·obtain ⟨x,hxk⟩:=get_of_lt (xs:=xs) (k:=j) (by rw [H.out];exact hlt)
     have hLj:=hI.out.get hxk
     obtain ⟨y,hyi⟩:=get_of_lt (xs:=L) (k:=i) (by rw [HLL.out];omega)
     obtain ⟨-,m0, -⟩:=ho.int hyi
     obtain ⟨hgl2,j0,hfr⟩:=ho.int hLj
     have hset:=ho.setInt hyi x
     have hlt':=nat_of_lt hlt
     have hij':=nat_of_lt hij
     have X:=hide hxk;have SET:=hide hset;have YI:=hide hyi;have LJ:=hide hLj
     clear hxk hset hyi hLj
     have hcall:=HF.out x _ hbr
     generalize hfx:f x=fx at *
     have FX:=hide hfx;have HC:=hide hcall
     clear hfx hcall
     cases fx
     ·have KEEP:=hide (hI.out.keep hij X.out FX.out)
      go_wp2_with fail
      (with_reducible refine HC.out.mono ?_);rintro e w2 ⟨rfl,hb2⟩
      obtain ⟨hc2,hf2⟩:=bcell hb2
      have hsz2:wr.heap.size≤w2.heap.size:=hb2.size
      have hset2:=ho.below hb2
      have hset3:=hset2.setInt YI.out x
      have S3:=hide hset3;clear hset2 hset3
      have hgr2:=grown_trans hgr (grown_of_below hb2 (some g))
      go_wp2_with fail
      go_roundw
      case rel=>exact ⟨i+1,j+1,L.set i x,by omega,by omega,by go_num,by go_num,S3.out,hide KEEP.out,grown_set hgr2 _ _⟩
      case measure=>simp [intOf];omega
     ·have SKIP:=hide (hI.out.skip X.out FX.out)
      go_wp2_with fail
      (with_reducible refine HC.out.mono ?_);rintro e w2 ⟨rfl,hb2⟩
      have hset2:=ho.below hb2
      have hgr2:=grown_trans hgr (grown_of_below hb2 (some g))
      go_wp2_with fail
      go_roundw
      case rel=>exact ⟨i,j+1,L,by omega,by omega,rfl,by go_num,hset2,hide SKIP.out,hgr2⟩
      case measure=>simp [intOf];omega
    ·have e:j=n:=by omega
     subst e
     have hin:=hij
     have hin':=nat_of_lt hij
     have hic:i≤c:=by omega
     have DONE:=hide (hI.out.done (by rw [H.out];exact Nat.le_refl _))
     go_wp2_with (refine wpList_clear IntE 3 0 Tryz.infoInt rfl Tryz.underlying57 base g _ c i _ L ho hin rfl _ rfl (by rw [show i * IntE.sz=i from Nat.mul_one i];rfl) ?_;intro w3 ho3 hgr3)
     go_ret
     have hcut:=ho3.cut (i:=i) (by omega)
     have hLi:(L.take i).length=i:=by rw [List.length_take,HLL.out];omega
     rw [List.take_append_of_le_length (by omega),List.take_take,Nat.min_self,DONE.out,HG.out] at hcut
     exact DP.out _ _ hcut (grown_trans hgr hgr3) rfl
end Go.Proofs.YtfbgppkdnfljhaaGreatDoor
namespace Go.Proofs.YtfbgppkdnfljhaaGreatDoor
open Go.RowKit
theorem run_copy_rowE {P:Program} {sz:Nat} (w:World) (dT sT ty elem:TypeId) (g o dLen dCap:Nat) (a:Addr) (sLen sCap:Nat) (cur:Array Value) (t:TypeId) (cs:List Value)
 (hu:P.underlying dT=some (.slice elem)) (hs:(P.info? elem).map (·.size)=some sz)
 (hg:w.heap[g]? = some (.cells cur t (0,0))) (hn:cs.length=Nat.min sLen dLen * sz)
 (hsrc:∀ j v,cs[j]? = some v→w.cell? (a.add j)=some v) (hfit:o+cs.length≤cur.size) (h1:∀ v∈cs,v.oneCell'=true) :
 (Builtin.copy_ #[dT,sT] ty #[.slice (some ⟨g,o,none⟩) dLen dCap, .slice (some a) sLen sCap]).run P w =
  .ok (goInt (Nat.min sLen dLen)) (w.setRow g (cur.toList.take o++cs++cur.toList.drop (o+cs.length)).toArray):=by
 have hl:=run_loadCells_list (P:=P) w a cs hsrc
 have hst:=run_storeCells_at P g o t cs 0 cur w hg (by simpa using hfit) h1
 cases hq:P.info? elem with
 | none=>simp [hq] at hs
 | some i =>
  have hi:i.size=sz:=by simpa [hq] using hs
  simp [Builtin.copy_,run_underlying hu,Builtin.lenOf,Builtin.firstCells,sizeOf,typeInfo,hq,hi,← hn,hl,hst]
theorem wpList_cp {P:Program} (w:World) {ops:Array Oper} {rest:List Oper} {o:Oper} {a:Act} {Q:Exit→Act→World→Prop} (hgd:o.guard=none) (d s:Operand) (t t':TypeId)
 (ho:o.op = .call { callee:=.builtin .copy,args:=#[d,s],argTypes:=#[t,t'] }) (v u:Value) (hd:a.eval d=v) (hs:a.eval s=u) {v':Value} {w':World}
 (hr:(Builtin.copy_ #[t,t'] o.type #[v,u]).run P w = .ok v' w') (h:wpList P ops Q rest (a.put o.dst v') w'):wpList P ops Q (o :: rest) a w:=by
 refine wpList_plain hgd fun K hK => ?_
 unfold Oper.wp execOp
 simp only [ho,resolve,invoke,builtin,Sem.run_bind,Sem.run_pure,Result.andThen_ok,List.map_toArray,List.map_cons,List.map_nil,hd,hs,hr]
 exact hK _ _ h
theorem step_cp {P:Program} {ops:Array Oper} {o:Oper} {a:Act} {w:World} {K:Act→World→Prop} {Q:Exit→Act→World→Prop} {E:Prop}
 (hg:o.guard=none) (d x:Operand) (dT sT:TypeId) (hop:o.op=Op.call { callee:=Callee.builtin Builtin.copy,args:=#[d,x],argTypes:=#[dT,sT] })
 (v u:Value) (hd:a.eval d=v) (hx:a.eval x=u) {v':Value} {w':World} (hr:(Builtin.copy_ #[dT,sT] o.type #[v,u]).run P w = .ok v' w') (hK:K (a.put o.dst v') w') :
 if Region.wanted o (yielded ops a.tmps)=true then Oper.wp P o a w K Q else E:=by
 have hw:Region.wanted o (yielded ops a.tmps)=true:=by simp [Region.wanted,hg]
 rw [if_pos hw]
 unfold Oper.wp
 simp [execOp,hop,resolve,invoke,builtin,hd,hx,hr,Result.andThen]
 exact hK
theorem cell_of_heap {w:World} {b k:Nat} {cur:Array Value} {t:TypeId} {v:Value} (h:w.heap[b]? = some (.cells cur t (0,0))) (hk:cur[k]? = some v):w.cell? ⟨b,k,none⟩=some v:=by
 simp [World.cell?,h,hk]
theorem addr_add (b o j:Nat):(⟨b,o,none⟩:Addr).add j=⟨b,o+j,none⟩:=by unfold Addr.add;split <;> simp_all
def InsPost (w:World) (base:Nat) (v:Value) (ys:List Ins) (e:Ending) (w':World):Prop:=
 ∃ v',e = .returned v'∧Own InsE 104 w' base v' ys∧w.grownBy w' v.ownBlock∧(v'.ownBlock=v.ownBlock∨∀ q,v'.ownBlock=some q→w.heap.size≤q)
theorem ins_cells (x:Ins):InsE.c x=[.int .i64 x.op, .int .i64 x.loc, .int .i64 x.reg, .int .i64 x.val]:=rfl
theorem insSize (w:World):(Go.sizeOf 104).run Tryz.prog w = .ok 4 w:=by
 obtain ⟨it,hi,hz0,hz1,hz2⟩:=info_parts Tryz.infoIns
 simp [sizeOf,typeInfo,hi,hz1]
theorem setRow_grown (w:World) (g:Nat) (vs:Array Value):w.grownBy (w.setRow g vs) (some g):=⟨rfl,rfl,rfl,by simp,fun k _ hk=>setRow_other w g k _ (fun e=>hk (by simp [e]))⟩
theorem take_app {α:Type} (a b:List α) (n:Nat) (h:a.length=n):(a++b).take n=a:=by subst h;simp
theorem drop_app {α:Type} (a b:List α) (n:Nat) (h:a.length=n):(a++b).drop n=b:=by subst h;simp
theorem InsertI_room (g n cap i vb base:Nat) (xs:List Ins) (x:Ins) (w:World) (h:Own InsE 104 w base (.slice (some ⟨g,0,none⟩) n cap) xs) (hi:i < n) (hl:n≤1048576) (hroom:n+1≤cap) (hvb:vb≠g)
 (hv:w.heap[vb]? = some (.cells #[.int .i64 x.op, .int .i64 x.loc, .int .i64 x.reg, .int .i64 x.val] 104 (0,0))) :
 Calls Tryz.prog 62 #[.slice (some ⟨g,0,none⟩) n cap, .int .i64 i, .slice (some ⟨vb,0,none⟩) 1 1] w (InsPost w base (.slice (some ⟨g,0,none⟩) n cap) (xs.take i++x :: xs.drop i)):=by
 have hln:=h.len
 rcases h.2 with ⟨h2,_⟩ | ⟨g',cap',cur,h2,hb,hg,hnc,hcm,hcs,htake⟩
 ·simp at h2
 simp only [Value.slice.injEq,Option.some.injEq,Addr.mk.injEq,and_true] at h2
 obtain ⟨-,rfl,rfl⟩:_∧g=g'∧cap=cap':=by
  refine ⟨trivial, ?_, ?_⟩ <;> simp_all
 rw [← hln] at htake hnc
 have hcs:cur.size=cap * 4:=hcs
 have htake:cur.toList.take (n * 4)=xs.flatMap InsE.c:=htake
 have hXl:(xs.flatMap InsE.c).length=n * 4:=by rw [InsE.length,← hln];rfl
 have hDl:((xs.drop i).flatMap InsE.c).length=(n - i) * 4:=by rw [InsE.length,List.length_drop,← hln];rfl
 have hTl:((xs.take i).flatMap InsE.c).length=i * 4:=by rw [InsE.length,List.length_take,← hln,Nat.min_eq_left (by omega)];rfl
 have hsplit:xs.flatMap InsE.c=(xs.take i).flatMap InsE.c++(xs.drop i).flatMap InsE.c:=by rw [← List.flatMap_append,List.take_append_drop]
 have hcurl:cur.toList.length=cap * 4:=by rw [Array.length_toList,hcs]
 have hgw:g < w.heap.size:=(Array.getElem?_eq_some_iff.1 hg).1
 have hcelli:∀ k v,(xs.flatMap InsE.c)[k]? = some v→cur[k]? = some v:=fun k v hk=>by
  rw [← htake,List.getElem?_take] at hk
  split at hk
  ·rw [Array.getElem?_toList] at hk;exact hk
  ·cases hk
 obtain ⟨C1,hC1⟩:∃ C1:Array Value,C1=(cur.toList.take ((i+1) * 4)++(xs.drop i).flatMap InsE.c++cur.toList.drop ((i+1) * 4+((xs.drop i).flatMap InsE.c).length)).toArray:=⟨_,rfl⟩
 have hsz:(Tryz.prog.info? 104).map (·.size)=some 4:=by kernel_rfl
 have hC1s:C1.size=cap * 4:=by
  rw [hC1];simp only [List.size_toArray,List.length_append,List.length_take,List.length_drop,hDl,hcurl];omega
 have hcp1:∀ ty dc sc,(Builtin.copy_ #[73,73] ty #[.slice (some ⟨g,(i+1) * 4,none⟩) (n+1 - (i+1)) dc, .slice (some ⟨g,i * 4,none⟩) (n+1 - i) sc]).run Tryz.prog w.drew = .ok (goInt (n - i:Nat)) (w.drew.setRow g C1):=fun ty dc sc=>by
  have hm:Nat.min (n+1 - i) (n+1 - (i+1))=n - i:=by simp only [Nat.min_def];split <;> omega
  have:=run_copy_rowE (P:=Tryz.prog) (sz:=4) w.drew 73 73 ty 104 g ((i+1) * 4) (n+1 - (i+1)) dc ⟨g,i * 4,none⟩ (n+1 - i) sc cur 104 ((xs.drop i).flatMap InsE.c) Tryz.underlying73 hsz hg (by rw [hDl,hm])
   (fun j v hj=>by
    rw [addr_add]
    refine cell_of_heap (w:=w.drew) hg (hcelli _ v ?_)
    rw [hsplit,List.getElem?_append_right (by omega),hTl,Nat.add_sub_cancel_left]
    exact hj) (by rw [hDl,hcs];omega) (fun v hv=>by
    rw [List.mem_flatMap] at hv
    obtain ⟨y,_,hy⟩:=hv
    exact InsE.one y v hy)
  rw [this,hm,hC1]
 obtain ⟨C2,hC2⟩:∃ C2:Array Value,C2=(C1.toList.take (i * 4)++InsE.c x++C1.toList.drop (i * 4+(InsE.c x).length)).toArray:=⟨_,rfl⟩
 have hg1:(w.drew.setRow g C1).heap[g]? = some (.cells C1 104 (0,0)):=setRow_heap w.drew g cur _ _ _ hg
 have hv1:(w.drew.setRow g C1).heap[vb]? = some (.cells #[.int .i64 x.op, .int .i64 x.loc, .int .i64 x.reg, .int .i64 x.val] 104 (0,0)):=(setRow_other w.drew g vb _ hvb).trans hv
 have hcp2:∀ (W:World),W.heap=(w.drew.setRow g C1).heap→∀ ty dc,(Builtin.copy_ #[73,73] ty #[.slice (some ⟨g,i * 4,none⟩) (n+1 - i) dc, .slice (some ⟨vb,0,none⟩) 1 1]).run Tryz.prog W = .ok (goInt 1) (W.setRow g C2):=fun W hW ty dc=>by
  have hm:Nat.min 1 (n+1 - i)=1:=by simp only [Nat.min_def];split <;> omega
  have:=run_copy_rowE (P:=Tryz.prog) (sz:=4) W 73 73 ty 104 g (i * 4) (n+1 - i) dc ⟨vb,0,none⟩ 1 1 C1 104 (InsE.c x) Tryz.underlying73 hsz (by rw [hW];exact hg1) (by rw [hm];rfl)
   (fun j v hj=>by
    rw [addr_add]
    refine cell_of_heap (w:=W) (by rw [hW];exact hv1) ?_
    rw [Nat.zero_add]
    simpa [ins_cells] using hj) (by rw [hC1s];show i * 4+4≤_;omega) (InsE.one x)
  rw [this,hm,hC2];rfl
 have hfin:C2.toList.take ((n+1) * 4)=(xs.take i++x :: xs.drop i).flatMap InsE.c:=by
  have e1:C1.toList.take (i * 4)=(xs.take i).flatMap InsE.c:=by
   rw [hC1,List.append_assoc,List.take_append_of_le_length (by rw [List.length_take,hcurl];omega),List.take_take,Nat.min_eq_left (by omega)]
   have:(xs.flatMap InsE.c).take (i * 4)=(xs.take i).flatMap InsE.c:=by rw [hsplit];exact take_app _ _ _ hTl
   rw [← this,← htake,List.take_take,Nat.min_eq_left (by omega)]
  have e2:C1.toList.drop (i * 4+(InsE.c x).length)=(xs.drop i).flatMap InsE.c++cur.toList.drop ((i+1) * 4+((xs.drop i).flatMap InsE.c).length):=by
   have:i * 4+(InsE.c x).length=(i+1) * 4:=by show i * 4+4=_;omega
   rw [this,hC1,List.append_assoc]
   exact drop_app _ _ _ (by rw [List.length_take,hcurl];omega)
  rw [hC2,e1,e2,List.flatMap_append,List.flatMap_cons]
  show (((xs.take i).flatMap InsE.c++InsE.c x++_)).take _=_
  rw [← List.append_assoc,take_app _ _ _ (by
   rw [List.length_append,List.length_append,hTl,hDl];show i * 4+4+_=_;omega)]
  simp
 have hC2s:C2.size=cap * 4:=by
  rw [hC2];simp only [List.size_toArray,List.length_append,List.length_take,List.length_drop,Array.length_toList,hC1s]
  show min (i * 4) (cap * 4)+4+(cap * 4 - (i * 4+4))=_
  omega
 have hov:∀ lb cb,(callFunc 118 #[.slice (some ⟨vb,0,none⟩) 1 1, .slice (some ⟨g,(i+1) * 4,none⟩) lb cb]).run Tryz.prog w = .ok (.value (.bool false)) w:=fun lb cb=>by
  rw [run_callFunc_extern Tryz.func118 (by kernel_rfl) (by kernel_rfl) (by kernel_rfl) (e:=Extern.SlicesOverlaps.overlaps #[73,73] #[4]) (by kernel_rfl),
   Lib.run_overlaps_apart w 73 4 104 Tryz.underlying73 4 insSize ⟨vb,0,none⟩ ⟨g,(i+1) * 4,none⟩ 1 1 lb cb hvb 104 104 4 (cap * 4) (by simp [World.shape?,hv]) (by simp [World.shape?,hg,hcs]) (by omega) (by simp [World.frozen?,hv]) (by simp [World.frozen?,hv])]
  rfl
 have hw1:¬ ((i:Int)=(n:Int)):=by omega
 have hw0:IntKind.i64.wrap ((i:Int)+1)=(i:Int)+1:=by rw [IntKind.wrap_i64];omega
 have hb1:(0:Int)≤(i:Int)+1:=by omega
 have hin:i≤n:=by omega
 have htn:((i:Int)+1).toNat=i+1:=by omega
 have hb2:¬ (cap=i+1):=by omega
 have hb3:(i:Int)≤(n:Int)+1:=by omega
 have hb4:¬ (cap=i):=by omega
 have hm63:cap≤9223372036854775807:=by unfold maxLen at hcm;omega
 have HLN:=hide hln
 clear htake hC1 hC2 hsplit hcelli hXl hDl hTl hln h2
 go_enter Tryz.func62,Tryz.ntmps62
 go_wp2_with (simp only [hov])
 go_region_law (refine step_cp rfl _ _ 73 73 rfl (.slice (some ⟨g,(i+1) * 4,none⟩) (n+1 - (i+1)) (cap - (i+1))) (.slice (some ⟨g,i * 4,none⟩) (n+1 - i) (cap - i)) (by simp [Act.eval,Act.put]) (by simp [Act.eval,Act.put]) (hcp1 _ _ _) ?_)
 all_goals
  go_wp2_with (at_builtin;refine wpList_cp _ rfl _ _ 73 73 rfl _ _ rfl rfl (hcp2 _ rfl _ _) ?_)
  go_ret
  have hL:(xs.take i++x :: xs.drop i).length=n+1:=by
   have:=HLN.out;simp;omega
  have hown:Own InsE 104 ((w.drew.setRow g C1).setRow g C2) base (.slice (some ⟨g,0,none⟩) (n+1) cap) (xs.take i++x :: xs.drop i):=
   ⟨by rw [InsE.length], .inr ⟨g,cap,C2,by rw [hL],hb,setRow_heap _ g C1 _ _ _ hg1,by rw [hL];omega,hcm,hC2s,by rw [hL];exact hfin⟩⟩
  have hgd:w.grownBy w.drew (some g):=⟨rfl,rfl,rfl,Nat.le_refl _,fun _ _ _=>rfl⟩
  exact ⟨_,rfl,hown,grown_trans (grown_trans hgd (setRow_grown w.drew g C1)) (setRow_grown _ g C2), .inl rfl⟩
theorem InsertI_grow (g n cap i vb base:Nat) (xs:List Ins) (x:Ins) (w:World) (h:Own InsE 104 w base (.slice (some ⟨g,0,none⟩) n cap) xs) (hi:i < n) (hl:n≤1048576) (hroom:¬ n+1≤cap)
 (hv:w.heap[vb]? = some (.cells #[.int .i64 x.op, .int .i64 x.loc, .int .i64 x.reg, .int .i64 x.val] 104 (0,0))) (hbase:base≤w.heap.size) :
 Calls Tryz.prog 62 #[.slice (some ⟨g,0,none⟩) n cap, .int .i64 i, .slice (some ⟨vb,0,none⟩) 1 1] w (InsPost w base (.slice (some ⟨g,0,none⟩) n cap) (xs.take i++x :: xs.drop i)):=by
 have hln:=h.len
 have hgl:=World.ownsRow.lt h g rfl
 have hlen2:n≤cap:=by
  rcases h.shape with ⟨h1,_⟩ | ⟨g2,cap2,h1,_,_,h2,_⟩
  ·simp at h1
  ·simp only [Value.slice.injEq] at h1
   rw [h1.2.2];omega
 have hcell:∀ k v,(xs.flatMap InsE.c)[k]? = some v→w.cell? ⟨g,k,none⟩=some v:=fun k v hk=>by
  have hkl:k < n * 4:=by
   have:=(List.getElem?_eq_some_iff.1 hk).1
   rw [InsE.length] at this
   rw [hln];exact this
  have hke:k=k / 4 * 4+k % 4:=by omega
  obtain ⟨y,hy⟩:=get_of_lt (xs:=xs) (k:=k / 4) (by omega)
  have hk2:(xs.flatMap InsE.c)[k / 4 * InsE.sz+k % 4]? = some v:=by
   rw [show k / 4 * InsE.sz+k % 4=k from hke.symm];exact hk
  rw [InsE.get xs (k / 4) (k % 4) (by show k % 4 < 4;omega),hy] at hk2
  have:=h.cell hy (j:=k % 4) hk2
  rw [show k / 4 * InsE.sz+k % 4=k from hke.symm] at this
  exact this
 have hXl:(xs.flatMap InsE.c).length=n * 4:=by rw [InsE.length,← hln];rfl
 have hDl:((xs.drop i).flatMap InsE.c).length=(n - i) * 4:=by rw [InsE.length,List.length_drop,← hln];rfl
 have hTl:((xs.take i).flatMap InsE.c).length=i * 4:=by rw [InsE.length,List.length_take,← hln,Nat.min_eq_left (by omega)];rfl
 have hsplit:xs.flatMap InsE.c=(xs.take i).flatMap InsE.c++(xs.drop i).flatMap InsE.c:=by rw [← List.flatMap_append,List.take_append_drop]
 have hsz:(Tryz.prog.info? 104).map (·.size)=some 4:=by kernel_rfl
 obtain ⟨it,hit,hz0,hz1,hz2⟩:=info_parts Tryz.infoIns
 have hit4:it.size=4:=hz1
 obtain ⟨G,hG⟩:∃ G,G=grownCap w (n+1) cap 104:=⟨_,rfl⟩
 obtain ⟨ROW,hROW⟩:∃ ROW:Array Value,ROW=((xs.take i).flatMap InsE.c).toArray++Builtin.zeroCells (Value.agg #[.int .i64 0, .int .i64 0, .int .i64 0, .int .i64 0]).cells (n+1 - i)++Builtin.zeroCells (Value.agg #[.int .i64 0, .int .i64 0, .int .i64 0, .int .i64 0]).cells (G - (n+1)):=⟨_,rfl⟩
 have hGn:n+1≤G:=by rw [hG];exact grownCap_ge w _ _ _
 have hGm:G≤maxLen:=by rw [hG];exact grownCap_le_maxLen w (n+1) cap _ (by unfold maxLen;omega)
 have hG63:G≤9223372036854775807:=by unfold maxLen at hGm;omega
 have hz4:((Value.agg #[.int .i64 0, .int .i64 0, .int .i64 0, .int .i64 0]).cells).size=4:=by rfl
 have hRs:ROW.size=G * 4:=by
  rw [hROW]
  simp only [Array.size_append,List.size_toArray,hTl,Builtin.zeroCells,Array.size_map,Array.size_range,hz4]
  omega
 have hkk:(n:Int)+1 - (i:Int)=((n+1 - i:Nat):Int):=by omega
 have hik:i+(n+1 - i)=n+1:=by omega
 have hold:(Builtin.firstCells it.size i (.slice (some ⟨g,0,none⟩) i cap)).run Tryz.prog w.drew = .ok ((xs.take i).flatMap InsE.c).toArray w.drew:=by
  refine run_firstCells_some w.drew it.size i ⟨g,0,none⟩ i cap _ (by rw [hTl,hit4]) (fun j v hj => ?_)
  rw [addr_add,Nat.zero_add]
  refine hcell j v ?_
  have hjl:=(List.getElem?_eq_some_iff.1 hj).1
  rw [hsplit,List.getElem?_append_left hjl];exact hj
 have hrz:∀ ty,(Builtin.append_ #[73,3] ty #[.slice (some ⟨g,0,none⟩) i cap, .int .i64 ((n:Int)+1 - (i:Int))]).run Tryz.prog w =
  .ok (.slice (some ⟨w.heap.size,0,none⟩) (n+1) G) (w.drew.alloc (.cells ROW 104)):=fun ty=>by
  have h:=Lib.run_append_grow_zeros w 73 3 ty 104 it _ .i64 .i64 Tryz.underlying73 Tryz.underlying3 hit hz0 (some ⟨g,0,none⟩) i cap _ hold (n+1 - i) (by omega) (by omega) (by omega) (by omega) (by rw [hz2];omega) (by rw [hz2,hik];exact growslice_fits (by omega) (by omega))
  rw [hik,← hG,← hROW] at h
  rw [hkk]
  exact h
 have hgw:g < w.heap.size:=hgl.2
 have hvw:vb < w.heap.size:=(Array.getElem?_eq_some_iff.1 hv).1
 have hRt:ROW.toList.take (i * 4)=(xs.take i).flatMap InsE.c:=by
  rw [hROW]
  simp only [Array.toList_append,List.append_assoc]
  exact take_app _ _ _ hTl
 have hRl:ROW.toList.length=G * 4:=by rw [Array.length_toList,hRs]
 obtain ⟨C1,hC1⟩:∃ C1:Array Value,C1=(ROW.toList.take (i * 4)++InsE.c x++ROW.toList.drop (i * 4+(InsE.c x).length)).toArray:=⟨_,rfl⟩
 have hXc:(InsE.c x).length=4:=rfl
 have hC1s:C1.size=G * 4:=by
  rw [hC1];simp only [List.size_toArray,List.length_append,List.length_take,List.length_drop,hRl,hXc];omega
 obtain ⟨C2,hC2⟩:∃ C2:Array Value,C2=(C1.toList.take ((i+1) * 4)++(xs.drop i).flatMap InsE.c++C1.toList.drop ((i+1) * 4+((xs.drop i).flatMap InsE.c).length)).toArray:=⟨_,rfl⟩
 have hC1l:C1.toList.length=G * 4:=by rw [Array.length_toList,hC1s]
 have hC2s:C2.size=G * 4:=by
  rw [hC2];simp only [List.size_toArray,List.length_append,List.length_take,List.length_drop,hC1l,hDl];omega
 have hC1t:C1.toList.take ((i+1) * 4)=(xs.take i).flatMap InsE.c++InsE.c x:=by
  rw [hC1,hRt]
  exact take_app _ _ _ (by rw [List.length_append,hTl,hXc];omega)
 have hfin:C2.toList.take ((n+1) * 4)=(xs.take i++x :: xs.drop i).flatMap InsE.c:=by
  rw [hC2,hC1t,List.flatMap_append,List.flatMap_cons]
  show (((xs.take i).flatMap InsE.c++InsE.c x++(xs.drop i).flatMap InsE.c++_)).take _=_
  rw [take_app _ _ _ (by rw [List.length_append,List.length_append,hTl,hDl,hXc];omega)]
  simp
 obtain ⟨N,hN⟩:∃ N,N=w.heap.size:=⟨_,rfl⟩
 have hA:(w.drew.alloc (.cells ROW 104)).heap[N]? = some (.cells ROW 104 (0,0)):=by rw [hN];exact heap_alloc_new w.drew _
 have hAo:∀ k,k < w.heap.size→(w.drew.alloc (.cells ROW 104)).heap[k]? = w.heap[k]?:=fun k hk=>heap_alloc_old w.drew _ hk
 have hcpA:∀ (W:World),W.heap=(w.drew.alloc (.cells ROW 104)).heap→∀ ty dc,(Builtin.copy_ #[73,73] ty #[.slice (some ⟨N,i * 4,none⟩) (n+1 - i) dc, .slice (some ⟨vb,0,none⟩) 1 1]).run Tryz.prog W = .ok (goInt 1) (W.setRow N C1):=fun W hW ty dc=>by
  have hm:Nat.min 1 (n+1 - i)=1:=by simp only [Nat.min_def];split <;> omega
  have:=run_copy_rowE (P:=Tryz.prog) (sz:=4) W 73 73 ty 104 N (i * 4) (n+1 - i) dc ⟨vb,0,none⟩ 1 1 ROW 104 (InsE.c x) Tryz.underlying73 hsz (by rw [hW];exact hA) (by rw [hm];rfl)
   (fun j v hj=>by
    rw [addr_add]
    refine cell_of_heap (w:=W) (by rw [hW,hAo vb hvw];exact hv) ?_
    rw [Nat.zero_add]
    simpa [ins_cells] using hj) (by rw [hRs,hXc];omega) (InsE.one x)
  rw [this,hm,hC1];rfl
 have hcpB:∀ (W:World),W.heap=((w.drew.alloc (.cells ROW 104)).setRow N C1).heap→∀ ty dc sc,(Builtin.copy_ #[73,73] ty #[.slice (some ⟨N,(i+1) * 4,none⟩) (n+1 - (i+1)) dc, .slice (some ⟨g,i * 4,none⟩) (n - i) sc]).run Tryz.prog W = .ok (goInt (n - i:Nat)) (W.setRow N C2):=fun W hW ty dc sc=>by
  have hm:Nat.min (n - i) (n+1 - (i+1))=n - i:=by simp only [Nat.min_def];split <;> omega
  have:=run_copy_rowE (P:=Tryz.prog) (sz:=4) W 73 73 ty 104 N ((i+1) * 4) (n+1 - (i+1)) dc ⟨g,i * 4,none⟩ (n - i) sc C1 104 ((xs.drop i).flatMap InsE.c) Tryz.underlying73 hsz
   (by rw [hW];exact setRow_heap _ N ROW _ _ _ hA) (by rw [hm,hDl])
   (fun j v hj=>by
    rw [addr_add]
    have h1:w.cell? ⟨g,i * 4+j,none⟩=some v:=hcell _ v (by rw [hsplit,List.getElem?_append_right (by omega),hTl,Nat.add_sub_cancel_left];exact hj)
    rw [← h1]
    have h2:W.heap[g]? = w.heap[g]?:=by rw [hW,← hAo g hgw];exact setRow_other _ N g _ (by omega)
    unfold World.cell?
    rw [h2]) (by rw [hDl,hC1s];omega) (fun v hv=>by
    rw [List.mem_flatMap] at hv
    obtain ⟨y,_,hy⟩:=hv
    exact InsE.one y v hy)
  rw [this,hm,hC2]
 have hw1:¬ ((i:Int)=(n:Int)):=by omega
 have hw0:IntKind.i64.wrap ((i:Int)+1)=(i:Int)+1:=by rw [IntKind.wrap_i64];omega
 have hw3:(cap:Int) < (n:Int)+1:=by omega
 have hb1:(0:Int)≤(i:Int)+1:=by omega
 have hin:i≤n:=by omega
 have htn:((i:Int)+1).toNat=i+1:=by omega
 have hb2:¬ (cap=i+1)∨True:=.inr trivial
 have hb3:(i:Int)≤(n:Int)+1:=by omega
 have hb4:¬ (cap=i):=by omega
 have hb5:¬ (G=i):=by omega
 have hb6:¬ (G=i+1):=by omega
 have hgd:w.grownBy w.drew (some g):=⟨rfl,rfl,rfl,Nat.le_refl _,fun _ _ _=>rfl⟩
 have hga:w.grownBy (w.drew.alloc (.cells ROW 104)) (some g):=⟨rfl,rfl,rfl,by simp,fun k hk _=>hAo k hk⟩
 have hgr:w.grownBy ((((w.alloc (.cells ROW 104)).drew.setRow N C1).drew).setRow N C2) (some g):=⟨rfl,rfl,rfl,by simp,fun k hk _=>by
  rw [setRow_other _ N k _ (by omega)]
  exact (setRow_other (w.drew.alloc (.cells ROW 104)) N k _ (by omega)).trans (hAo k hk)⟩
 have hL:(xs.take i++x :: xs.drop i).length=n+1:=by simp;omega
 have hown:Own InsE 104 ((((w.alloc (.cells ROW 104)).drew.setRow N C1).drew).setRow N C2) base (.slice (some ⟨N,0,none⟩) (n+1) G) (xs.take i++x :: xs.drop i):=
  ⟨by rw [InsE.length], .inr ⟨N,G,C2,by rw [hL],by omega,setRow_heap _ N C1 _ _ _ (setRow_heap _ N ROW _ _ _ hA),by rw [hL];omega,hGm,hC2s,by rw [hL];exact hfin⟩⟩
 have FIN:Hid (InsPost w base (.slice (some ⟨g,0,none⟩) n cap) (xs.take i++x :: xs.drop i) (.returned (.slice (some ⟨N,0,none⟩) (n+1) G)) ((((w.alloc (.cells ROW 104)).drew.setRow N C1).drew).setRow N C2)):=
  hide ⟨_,rfl,hown,hgr, .inr fun q hq=>by simp [Value.ownBlock] at hq;omega⟩
 have hE1:((w.alloc (.cells ROW 104)).drew).heap=(w.drew.alloc (.cells ROW 104)).heap:=rfl
 have hF1:(((w.alloc (.cells ROW 104)).drew.setRow N C1).drew).heap=((w.drew.alloc (.cells ROW 104)).setRow N C1).heap:=rfl
 rw [← hN] at hrz
 clear hgr hga hgd hown hL hfin hC1t hC2s hC1l hC1s hXc hRl hRt hkk hik hold hROW hG hC1 hC2 hsplit hcell hXl hDl hTl hRs hz4 hA hAo hln h hN
 go_enter Tryz.func62,Tryz.ntmps62
 go_wp2_with (first
  | (at_builtin;refine Lib.wpList_append_run _ rfl _ _ _ _ rfl _ _ rfl rfl _ _ (hrz _) ?_)
  | (at_builtin;refine wpList_cp _ rfl _ _ 73 73 rfl _ _ rfl rfl (hcpA _ hE1 _ _) ?_))
 go_region_law (refine step_cp rfl _ _ 73 73 rfl (.slice (some ⟨N,(i+1) * 4,none⟩) (n+1 - (i+1)) (G - (i+1))) (.slice (some ⟨g,i * 4,none⟩) (n - i) (cap - i)) (by simp [Act.eval,Act.put]) (by simp [Act.eval,Act.put]) (hcpB _ hF1 _ _ _) ?_)
 all_goals
  go_wp2_with fail
  go_ret
  exact FIN.out
theorem Insert_any (g n cap i vb base:Nat) (xs:List Ins) (x:Ins) (w:World) (h:Own InsE 104 w base (.slice (some ⟨g,0,none⟩) n cap) xs) (hi:i < n) (hl:n≤1048576) (hvb:vb≠g)
 (hv:w.heap[vb]? = some (.cells #[.int .i64 x.op, .int .i64 x.loc, .int .i64 x.reg, .int .i64 x.val] 104 (0,0))) (hbase:base≤w.heap.size) :
 Calls Tryz.prog 62 #[.slice (some ⟨g,0,none⟩) n cap, .int .i64 i, .slice (some ⟨vb,0,none⟩) 1 1] w (InsPost w base (.slice (some ⟨g,0,none⟩) n cap) (xs.take i++x :: xs.drop i)):=by
 by_cases hroom:n+1≤cap
 ·exact InsertI_room g n cap i vb base xs x w h hi hl hroom hvb hv
 ·exact InsertI_grow g n cap i vb base xs x w h hi hl hroom hv hbase
end Go.Proofs.YtfbgppkdnfljhaaGreatDoor
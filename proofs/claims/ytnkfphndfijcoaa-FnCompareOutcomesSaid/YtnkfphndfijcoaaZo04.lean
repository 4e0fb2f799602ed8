/-
  The laws' tests of outcomes: equal, in a list, all in a list. No condition but what the lists read as.
-/
import Derived.Test.YtnkfphndfijcoaaZo00
import Derived.Deep.RegionHeld3
import Derived.Deep.DeepCutAuto
import Derived.Deep.AppendLies
set_option maxHeartbeats 6400000
set_option maxRecDepth 100000
namespace Go.Proofs.Ytnkfphndfijcoaa
end Go.Proofs.Ytnkfphndfijcoaa
namespace Go.Proofs.Ytnkfphndfijcoaa
open Go.RowKit
end Go.Proofs.Ytnkfphndfijcoaa
namespace Go.Proofs.Ytnkfphndfijcoaa
open Go.RowKit
end Go.Proofs.Ytnkfphndfijcoaa
namespace Go.Proofs.Ytnkfphndfijcoaa
open Go.RowKit
structure Ev where
 t:Int
 i:Int
 l:Int
 r:Bool
 w:Bool
deriving DecidableEq
theorem step_app {α:Type}(E:El α) {P:Program}{w:World}{ops:Array Oper}{o:Oper}{a:Act}{K:Act→World→Prop}{Q:Exit→Act→World→Prop}{F:Prop}
 (T:TypeId) {zv:Value}{bytes:Nat}(hinfo:(P.info? T).map (fun i=>(i.zero,i.size,i.bytes))=some (some zv,E.sz,bytes)) (hz:zv.cells.size=E.sz) {t:TypeId}(h1:P.underlying t=some (.slice T))
 (base:Nat) (v:Value) (xs:List α) (x:α) (hown:Own E T w base v xs) (hby:bytes≤256) (hn:xs.length≤68719476736) (hbase:base≤w.heap.size)
 (hg:o.guard=none) (s y:Operand) (hop:o.op = .call { callee:=.builtin .append,args:=#[s,y],argTypes:=#[t,t] })
 (hs:a.eval s=v) (b off c:Nat) (hy:a.eval y = .slice (some ⟨b,off,none⟩) 1 c) (hnews:∀ j u,(E.c x)[j]? = some u→w.cell? ⟨b,off+j,none⟩=some u)
 (hK:∀ v' w',Own E T w' base v' (xs++[x])→w.grownBy w' v.ownBlock→K (a.put o.dst v') w') :
 if Region.wanted o (yielded ops a.tmps)=true then Oper.wp P o a w K Q else F:=by
 obtain⟨it,hi,hz0,hz1,hz2⟩:=info_parts hinfo;refine step_append_lies w hg s y t hop base T it zv E.sz bytes h1 hi hz0 hz1 hz2 hz E.pos v xs.length _ hs hown ⟨b,off,none⟩ 1 c (E.c x) hy (by rw[E.len,Nat.one_mul]) ?_ (E.one x) (by omega) (by unfold maxLen;omega) ?_ hbase _ rfl ?_
 ·intro j u hu
  have hadd:(⟨b,off,none⟩:Addr).add j=⟨b,off+j,none⟩:=by unfold Addr.add;split <;> simp_all
  rw[hadd];exact hnews j u hu
 ·have:=Nat.mul_le_mul (show xs.length+1≤68719476737 by omega) hby
  omega
 ·intro g cap w' h2 h3 _ _
  refine hK _ w' ?_ h3;unfold Own;simpa[List.flatMap_append] using h2
def evOf (t i:Nat) (x:Ins):List Ev:=if x.op=4 then [] else [⟨t,i,x.loc,isRop x.op,isWop x.op⟩]
def evRow (t:Nat) (r:List Ins) (k:Nat):List Ev:=(List.range k).flatMap fun i=>match r[i]? with
 | some x=>evOf t i x
 | none=>[]
def evTo (p:List (List Ins)) (j:Nat):List Ev:=(List.range j).flatMap fun t=>match p[t]? with
 | some r=>evRow t r r.length
 | none=>[]
def evHead (k:Nat):List Ev:=(List.range k).map fun (l:Nat)=>⟨-1,l,l,false,true⟩
def evAll (p:List (List Ins)):List Ev:=evHead 3++evTo p p.length
theorem evRow_succ {t:Nat}{r:List Ins}{k:Nat}{x:Ins}(h:r[k]? = some x):evRow t r (k+1)=evRow t r k++evOf t k x:=by
 unfold evRow;rw[List.range_succ,List.flatMap_append];simp[h]
theorem evTo_succ {p:List (List Ins)}{j:Nat}{r:List Ins}(h:p[j]? = some r):evTo p (j+1)=evTo p j++evRow j r r.length:=by
 unfold evTo;rw[List.range_succ,List.flatMap_append];simp[h]
end Go.Proofs.Ytnkfphndfijcoaa
namespace Go.Proofs.Ytnkfphndfijcoaa
open Go.RowKit
end Go.Proofs.Ytnkfphndfijcoaa
namespace Go.Proofs.Ytnkfphndfijcoaa
open Go.RowKit
end Go.Proofs.Ytnkfphndfijcoaa
namespace Go.Proofs.Ytnkfphndfijcoaa
open Go.RowKit
end Go.Proofs.Ytnkfphndfijcoaa
namespace Go.Proofs.Ytnkfphndfijcoaa
open Go.RowKit
end Go.Proofs.Ytnkfphndfijcoaa
namespace Go.Proofs.Ytnkfphndfijcoaa
end Go.Proofs.Ytnkfphndfijcoaa
namespace Go.Proofs.Ytnkfphndfijcoaa
def wr1 (l:Int) (i:Nat) (e:Ev):List Int:=if (e.w&&e.l==l)=true then [(i:Int)] else []
def wrTo (es:List Ev) (l:Int) (k:Nat):List Int:=(List.range k).flatMap fun i=>match es[i]? with
 | some e=>wr1 l i e
 | none=>[]
def wrL (es:List Ev) (l:Int):List Int:=wrTo es l es.length
theorem wrTo_succ {es:List Ev}(l:Int) {k:Nat}{e:Ev}(h:es[k]? = some e):wrTo es l (k+1)=wrTo es l k++wr1 l k e:=by
 unfold wrTo;rw[List.range_succ,List.flatMap_append];simp[h]
end Go.Proofs.Ytnkfphndfijcoaa
namespace Go.Proofs.Ytnkfphndfijcoaa
open Go.RowKit
abbrev RepNN (w:World) (v:Value) (p:List (List Int)):Prop:=Rep2 IntE w v p
theorem EqualN_any (v v':Value) (xs ys:List Int) (w:World) (hx:Rep IntE w v xs) (hy:Rep IntE w v' ys) :
 Calls Try.prog 27 #[v,v'] w fun e w'=>e = .returned (.bool (decide (xs=ys)))∧Below w.heap.size w w':=by
 obtain⟨a,c,rfl,hc1,hc2,hc3,hx⟩:=hx.open;obtain⟨a',c',rfl,hc1',hc2',hc3',hy⟩:=hy.open;have HX:=hide hx;clear hx;have HY:=hide hy;clear hy;generalize hn:xs.length=n at *;generalize hn':ys.length=n' at *;have H:=hide hn;clear hn;have H':=hide hn';clear hn';by_cases hc:n=n'
 ·subst hc
  have hc':((n:Int) != n)=false:=by simp
  go_enter Try.func27,Try.ntmps27;go_wp2_with fail
  go_loopw [13] (fun v wr => ∃ k:Nat,k≤n∧v = .int .i64 k∧Hid (xs.take k=ys.take k)∧Below w.heap.size w wr) (fun v _=>n - (intOf v).toNat)
  case atStart=>exact⟨0,Nat.zero_le _,rfl,hide (by simp),Below.refl _ _⟩
  case round =>
   obtain⟨k,hk,rfl,T,hb⟩:=hrel;by_cases hlt:k < n
   ·obtain⟨x,hxk⟩:=get_of_lt (xs:=xs) (k:=k) (by rw[H.out];exact hlt)
    obtain⟨y,hyk⟩:=get_of_lt (xs:=ys) (k:=k) (by rw[H'.out];exact hlt);obtain⟨b,o,rfl,hbl,i0⟩:=(HX.out.below hb).int hxk;obtain⟨b',o',rfl,hbl',j0⟩:=(HY.out.below hb).int hyk;have hlt':=nat_of_lt hlt;have X:=hide hxk;clear hxk;have Y:=hide hyk;clear hyk;by_cases hxy:x=y
    ·have T':=hide (take_eq_succ T.out X.out Y.out hxy)
     have hd:(x != y)=false:=by simp[hxy]
     clear hxy;go_wp2_with fail;refine wp_region_bw (by kernel_rfl) (by kernel_rfl) ?_
     repeat (go_big_quiet_step (fail))
     refine wpQuiet_nil ?_;intro w1 hb1;have hb2:=hb.trans (hb1.mono hb.size);go_wp2_with fail;go_roundw
     case rel=>exact⟨k+1,by omega,by go_num,T',hb2⟩
     case measure=>simp[intOf];omega
    ·have hq:=ne_of_get X.out Y.out hxy
     have hd:(x != y)=true:=by simp[hxy]
     clear hxy;go_wp2_with fail;refine wp_region_bw (by kernel_rfl) (by kernel_rfl) ?_
     repeat (go_big_quiet_step (fail))
     refine wpQuiet_nil ?_;intro w1 hb1;have hb2:=hb.trans (hb1.mono hb.size);go_wp2_with fail;go_ret;exact⟨by simp[hq],hb2⟩
   ·have e2:xs=ys:=take_all_eq T.out (by rw[H.out];omega) (by rw[H'.out];omega)
    subst e2;go_wp2_with fail;go_ret;exact⟨by simp,hb⟩
 ·have hc':((n:Int) != n')=true:=by simp;omega
  have hq:xs≠ys:=fun h=>hc (by rw[← H.out,← H'.out,h]);go_enter Try.func27,Try.ntmps27;go_wp2_with fail;go_ret;exact⟨by simp[hq],Below.refl _ _⟩
end Go.Proofs.Ytnkfphndfijcoaa
namespace Go.Proofs.Ytnkfphndfijcoaa
end Go.Proofs.Ytnkfphndfijcoaa
namespace Go.Proofs.Ytnkfphndfijcoaa
open Go.RowKit
end Go.Proofs.Ytnkfphndfijcoaa
namespace Go.Proofs.Ytnkfphndfijcoaa
open Go.RowKit
end Go.Proofs.Ytnkfphndfijcoaa
namespace Go.Proofs.Ytnkfphndfijcoaa
open Go.RowKit
def bitsTo (f:Nat→Bool):Nat→Int
 | 0=>0
 | k+1=>if f k=true then bits .or .i64 (bitsTo f k) (wrap64 ((2:Int) ^ k)) else bitsTo f k
def relOf (n:Nat) (f:Nat→Nat→Bool):List Int:=(List.range n).map fun i=>bitsTo (f i) n
def confB (L:List Ev) (i k:Nat):Bool:=match L[i]?,L[k]? with
 | some a,some b=>decide (0≤a.t)&&(decide (0≤b.t)&&((a.t != b.t)&&((a.l==b.l)&&(a.w||b.w))))
 | _,_=>false
def conflicts (p:List (List Ins)):List Int:=relOf (evAll p).length (confB (evAll p))
theorem mem_evOf {t i:Nat}{x:Ins}{e:Ev}(h:e∈evOf t i x):e=⟨t,i,x.loc,isRop x.op,isWop x.op⟩∧x.op≠4:=by
 unfold evOf at h;split at h
 ·simp at h
 ·simp at h;exact⟨h,by assumption⟩
theorem mem_evAll {p:List (List Ins)}{e:Ev}(h:e∈evAll p):(e.t = -1)∨∃ (t i:Nat) (r:List Ins) (x:Ins),p[t]? = some r∧r[i]? = some x∧e=⟨t,i,x.loc,isRop x.op,isWop x.op⟩∧x.op≠4:=by
 unfold evAll at h;rcases List.mem_append.1 h with h | h
 ·left
  simp only[evHead,List.mem_map,List.mem_range]at h;obtain⟨l,_,rfl⟩:=h;rfl
 ·right
  unfold evTo at h;rw[List.mem_flatMap]at h;obtain⟨t,ht,h⟩:=h;cases hr:p[t]? with
  | none=>rw[hr]at h;simp at h
  | some r =>
   rw[hr]at h;simp only[evRow,List.mem_flatMap,List.mem_range]at h;obtain⟨i,hi,h⟩:=h;obtain⟨x,hx⟩:=get_of_lt (xs:=r) (k:=i) hi;rw[hx]at h;obtain⟨rfl,hx4⟩:=mem_evOf h;exact⟨t,i,r,x,hr,hx,rfl,hx4⟩
end Go.Proofs.Ytnkfphndfijcoaa
namespace Go.Proofs.Ytnkfphndfijcoaa
open Go.RowKit
end Go.Proofs.Ytnkfphndfijcoaa
namespace Go.Proofs.Ytnkfphndfijcoaa
end Go.Proofs.Ytnkfphndfijcoaa
namespace Go.Proofs.Ytnkfphndfijcoaa
def insE (p:List (List Ins)) (e:Ev):Ins:=((p[e.t.toNat]?).bind fun r=>r[e.i.toNat]?).getD ⟨0,0,0,0⟩
theorem insE_of {p:List (List Ins)}{e:Ev}{t i:Nat}{r:List Ins}{x:Ins}(h1:p[t]? = some r) (h2:r[i]? = some x) (ht:e.t=t) (hi:e.i=i):insE p e=x:=by
 unfold insE;rw[ht,hi];simp[h1,h2]
theorem ev_cases {p:List (List Ins)}{k:Nat}{e:Ev}(h:(evAll p)[k]? = some e):(e.t = -1)∨∃ (t i:Nat) (r:List Ins),e.t=t∧e.i=i∧p[t]? = some r∧r[i]? = some (insE p e)∧e.r=isRop (insE p e).op∧e.w=isWop (insE p e).op∧e.l=(insE p e).loc:=by
 rcases mem_evAll (List.mem_of_getElem? h) with h | ⟨t,i,r,x,h1,h2,h3,-⟩
 ·exact .inl h
 ·have e1:insE p e=x:=insE_of h1 h2 (by rw[h3]) (by rw[h3])
  exact .inr ⟨t,i,r,by rw[h3],by rw[h3],h1,by rw[e1];exact h2,by rw[e1,h3],by rw[e1,h3],by rw[e1,h3]⟩
end Go.Proofs.Ytnkfphndfijcoaa
namespace Go.Proofs.Ytnkfphndfijcoaa
end Go.Proofs.Ytnkfphndfijcoaa
namespace Go.Proofs.Ytnkfphndfijcoaa
open Go.RowKit
def hasN (list:List (List Int)) (o:List Int):Bool:=list.any fun x=>decide (x=o)
def subN (a b:List (List Int)):Bool:=a.all fun o=>hasN b o
theorem any_take_succ {α:Type}{f:α→Bool}{xs:List α}{k:Nat}{x:α}(h:(xs.take k).any f=false) (hx:xs[k]? = some x) (hf:f x=false):(xs.take (k+1)).any f=false:=by
 rw[List.take_add_one,hx,List.any_append,h];simp[hf]
theorem any_of_get {α:Type}{f:α→Bool}{xs:List α}{k:Nat}{x:α}(hx:xs[k]? = some x) (hf:f x=true):xs.any f=true:=List.any_eq_true.2 ⟨x,List.mem_of_getElem? hx,hf⟩
theorem all_take_succ' {α:Type}{f:α→Bool}{xs:List α}{k:Nat}{x:α}(h:(xs.take k).all f=true) (hx:xs[k]? = some x) (hf:f x=true):(xs.take (k+1)).all f=true:=by
 rw[List.take_add_one,hx,List.all_append,h];simp[hf]
theorem all_of_get {α:Type}{f:α→Bool}{xs:List α}{k:Nat}{x:α}(hx:xs[k]? = some x) (hf:f x=false):xs.all f=false:=List.all_eq_false.2 ⟨x,List.mem_of_getElem? hx,by simp[hf]⟩
theorem containsLit_any (u:Value) (x q:List Int) (b:Nat) (qa:Option Addr) (qn qc:Nat) (w:World) (hx:Rep IntE w u x) (hc:w.cell? ⟨b,0,none⟩=some (.slice qa qn qc)) (hq:Rep IntE w (.slice qa qn qc) q) :
 Calls Try.prog 26 #[u,.pointer (some ⟨b,0,none⟩)] w fun e w'=>e = .returned (.bool (decide (x=q)))∧Below w.heap.size w w':=by
 have HX:=hide hx;have HQ:=hide hq
 clear hx hq;go_enter Try.func26,Try.ntmps26;go_wp2_with (go_at_call 27;(with_reducible refine(EqualN_any _ _ x q w HX.out HQ.out).mono ?_);rintro e w1 ⟨rfl,hb1⟩);go_ret;exact⟨rfl,hb1⟩
def IdxPost (R:Bool) (w:World) (e:Ending) (w':World):Prop:=(∃ k:Int,e = .returned (.int .i64 k)∧decide (0≤k)=R)∧Below w.heap.size w w'
theorem IndexFuncNN_any (v:Value) (p:List (List Int)) (q:List Int) (b:Nat) (qa:Option Addr) (qn qc:Nat) (w:World) (hp:RepNN w v p) (hcl:w.cell? ⟨b,0,none⟩=some (.slice qa qn qc)) (hq:Rep IntE w (.slice qa qn qc) q) :
 Calls Try.prog 55 #[v,.func (.func 26) #[] #[.pointer (some ⟨b,0,none⟩)]] w (IdxPost (hasN p q) w):=by
 obtain⟨a,c,rfl,hc1,hc2,hc3,hp⟩:=hp.open;have HP:=hide hp;clear hp;have HQ:=hide hq;clear hq;have HN:Hid (hasN p q=p.any fun x=>decide (x=q)):=hide rfl;have hbl0:=lt_of_cell hcl;have HCL:=hide hcl;clear hcl;generalize hR:hasN p q=R at *;clear hR;generalize hn:p.length=n at *;have H:=hide hn;clear hn;have HPE:Hid (∀ (k:Int) (w':World),decide (0≤k)=R→Below w.heap.size w w'→IdxPost R w (.returned (.int .i64 k)) w'):=hide (fun k w' h1 h2=>⟨⟨k,rfl,h1⟩,h2⟩);go_enter Try.func55,Try.ntmps55;go_wp2_with fail
 go_loopw [8] (fun i wr => ∃ t:Nat,t≤n∧i = .int .i64 t∧Hid ((p.take t).any (fun x=>decide (x=q))=false)∧Below w.heap.size w wr) (fun i _=>n - (intOf i).toNat)
 case atStart=>exact⟨0,Nat.zero_le _,rfl,hide (by simp),Below.refl _ _⟩
 case round =>
  obtain⟨t,ht,rfl,T,hb⟩:=hrel;by_cases hlt:t < n
  ·obtain⟨x,hxk⟩:=get_of_lt (xs:=p) (k:=t) (by rw[H.out];exact hlt)
   obtain⟨b',o,ra,rc,rfl,hbl,i0,i1⟩:=(HP.out.below hb).row hxk;have hlt':=nat_of_lt hlt;have hcl:=(hb.cell (p:=⟨b,0,none⟩) hbl0).trans HCL.out;have HC:=hide (containsLit_any _ x q b qa qn qc wr i1 hcl (HQ.out.below hb));have X:=hide hxk;clear hxk i1 hcl;generalize hfx:decide (x=q)=fx at *;have FX:=hide hfx;clear hfx;cases fx
   ·have T2:=hide (any_take_succ (f:=fun x=>decide (x=q)) T.out X.out FX.out)
    go_wp2_with (go_at_call 26;(with_reducible refine HC.out.mono ?_);rintro e w2 ⟨rfl,hb2⟩);go_roundw
    case rel=>exact⟨t+1,by omega,by go_num,T2,hb.trans (hb2.mono hb.size)⟩
    case measure=>simp[intOf];omega
   ·have E:Hid (R=true):=hide (by rw[HN.out];exact any_of_get X.out FX.out)
    go_wp2_with (go_at_call 26;(with_reducible refine HC.out.mono ?_);rintro e w2 ⟨rfl,hb2⟩);go_ret;exact HPE.out _ _ (by rw[E.out];simp) (hb.trans (hb2.mono hb.size))
  ·have E:Hid (R=false):=hide (by have h:=T.out;rwa[List.take_of_length_le (by rw[H.out];omega),← HN.out]at h)
   go_wp2_with fail;go_ret;exact HPE.out _ _ (by rw[E.out];rfl) hb
theorem ContainsFuncNN_any (v:Value) (p:List (List Int)) (q:List Int) (b:Nat) (qa:Option Addr) (qn qc:Nat) (w:World) (hp:RepNN w v p) (hcl:w.cell? ⟨b,0,none⟩=some (.slice qa qn qc)) (hq:Rep IntE w (.slice qa qn qc) q) :
 Calls Try.prog 25 #[v,.func (.func 26) #[] #[.pointer (some ⟨b,0,none⟩)]] w fun e w'=>e = .returned (.bool (hasN p q))∧Below w.heap.size w w':=by
 have HC:=hide (IndexFuncNN_any v p q b qa qn qc w hp hcl hq);clear hp hcl hq;go_enter Try.func25,Try.ntmps25;go_wp2_with fail
 (with_reducible refine HC.out.mono ?_)
 rintro e w1 ⟨⟨k,rfl,hk⟩,hb⟩;have HK:=hide hk;clear hk;go_wp2_with fail;go_ret;refine⟨?_,hb⟩;rw[← HK.out];rfl
theorem contains_any (v u:Value) (p q:List (List Int)) (w:World) (hp:RepNN w v p) (hq:RepNN w u q) :
 Calls Try.prog 15 #[v,u] w fun e w'=>e = .returned (.bool (subN p q))∧Below w.heap.size w w':=by
 obtain⟨a,c,rfl,hc1,hc2,hc3,hp⟩:=hp.open;have HP:=hide hp;clear hp;have HQ:=hide hq;clear hq;have HN:Hid (subN p q=p.all fun x=>hasN q x):=hide rfl;generalize hR:subN p q=R at *;clear hR;generalize hn:p.length=n at *;have H:=hide hn;clear hn;go_enter Try.func15,Try.ntmps15;go_wp2_with fail
 go_loopw [9] (fun i wr => ∃ k:Nat,k≤n∧i = .int .i64 k∧Hid ((p.take k).all (fun x=>hasN q x)=true)∧Below w.heap.size w wr) (fun i _=>n - (intOf i).toNat)
 case atStart=>exact⟨0,Nat.zero_le _,rfl,hide (by simp),Below.refl _ _⟩
 case round =>
  obtain⟨k,hk,rfl,T,hb⟩:=hrel;by_cases hlt:k < n
  ·have hlt1:=nat_of_lt hlt
   obtain⟨x,hxk⟩:=get_of_lt (xs:=p) (k:=k) (by rw[H.out];exact hlt);obtain⟨b,o,ra,rc,rfl,hbl,i0,i1⟩:=(HP.out.below hb).row hxk;have X:=hide hxk;have I1:=hide i1
   clear hxk i1;have ha:=hb.alloc hb.size (.cells #[.slice ra x.length rc] 34);have ha2:=(Below.refl wr.heap.size wr).alloc (Nat.le_refl _) (.cells #[.slice ra x.length rc] 34);have HC:=hide (ContainsFuncNN_any u q x wr.heap.size ra x.length rc (wr.alloc (.cells #[.slice ra x.length rc] 34)) (HQ.out.below ha) (by simp[go_sem]) (I1.out.below ha2));generalize hz:hasN q x=z at *;have Z:=hide hz;clear hz;cases z
   ·have E:Hid (R=false):=hide (by rw[HN.out];exact all_of_get X.out Z.out)
    go_wp2_with (go_at_call 25;(with_reducible refine HC.out.mono ?_);rintro e w1 ⟨rfl,hb1⟩);go_ret;rw[E.out];exact⟨rfl,ha.trans (hb1.mono ha.size)⟩
   ·have T2:=hide (all_take_succ' T.out X.out Z.out)
    go_wp2_with (go_at_call 25;(with_reducible refine HC.out.mono ?_);rintro e w1 ⟨rfl,hb1⟩);go_roundw
    case rel=>exact⟨k+1,by omega,by go_num,T2,ha.trans (hb1.mono ha.size)⟩
    case measure=>simp[intOf];omega
  ·have E:Hid (R=true):=hide (by have h:=T.out;rwa[List.take_of_length_le (by rw[H.out];omega),← HN.out]at h)
   go_wp2_with fail;go_ret;rw[E.out];exact⟨rfl,hb⟩
end Go.Proofs.Ytnkfphndfijcoaa
namespace Go.Proofs.Ytnkfphndfijcoaa
open Go.RowKit
theorem wmIntsG_any (v v':Value) (xs ys:List Int) (w:World) (hx:Rep IntE w v xs) (hy:Rep IntE w v' ys) :
 Calls Try.prog 17 #[v,v'] w fun e w'=>e = .returned (.bool (decide (xs=ys)))∧Below w.heap.size w w':=by
 obtain⟨a,c,rfl,hc1,hc2,hc3,hx⟩:=hx.open;obtain⟨a',c',rfl,hc1',hc2',hc3',hy⟩:=hy.open;have HX:=hide hx;clear hx;have HY:=hide hy;clear hy;generalize hn:xs.length=n at *;generalize hn':ys.length=n' at *;have H:=hide hn;clear hn;have H':=hide hn';clear hn';by_cases hc:n=n'
 ·subst hc
  have hc':((n:Int) != n)=false:=by simp
  go_enter Try.func17,Try.ntmps17;go_wp2_with fail
  go_loopw [5] (fun v wr => ∃ k:Nat,k≤n∧v = .int .i64 k∧Hid (xs.take k=ys.take k)∧Below w.heap.size w wr) (fun v _=>n - (intOf v).toNat)
  case atStart=>exact⟨0,Nat.zero_le _,rfl,hide (by simp),Below.refl _ _⟩
  case round =>
   obtain⟨k,hk,rfl,T,hb⟩:=hrel;by_cases hlt:k < n
   ·obtain⟨x,hxk⟩:=get_of_lt (xs:=xs) (k:=k) (by rw[H.out];exact hlt)
    obtain⟨y,hyk⟩:=get_of_lt (xs:=ys) (k:=k) (by rw[H'.out];exact hlt);obtain⟨b,o,rfl,hbl,i0⟩:=(HX.out.below hb).int hxk;obtain⟨b',o',rfl,hbl',j0⟩:=(HY.out.below hb).int hyk;have hlt':=nat_of_lt hlt;have X:=hide hxk;clear hxk;have Y:=hide hyk;clear hyk;by_cases hxy:x=y
    ·have T':=hide (take_eq_succ T.out X.out Y.out hxy)
     have hd:(x != y)=false:=by simp[hxy]
     clear hxy;go_wp2_with fail;refine wp_region_bw (by kernel_rfl) (by kernel_rfl) ?_
     repeat (go_big_quiet_step (fail))
     refine wpQuiet_nil ?_;intro w1 hb1;have hb2:=hb.trans (hb1.mono hb.size);go_wp2_with fail;go_roundw
     case rel=>exact⟨k+1,by omega,by go_num,T',hb2⟩
     case measure=>simp[intOf];omega
    ·have hq:=ne_of_get X.out Y.out hxy
     have hd:(x != y)=true:=by simp[hxy]
     clear hxy;go_wp2_with fail;refine wp_region_bw (by kernel_rfl) (by kernel_rfl) ?_
     repeat (go_big_quiet_step (fail))
     refine wpQuiet_nil ?_;intro w1 hb1;have hb2:=hb.trans (hb1.mono hb.size);go_wp2_with fail;go_ret;exact⟨by simp[hq],hb2⟩
   ·have e2:xs=ys:=take_all_eq T.out (by rw[H.out];omega) (by rw[H'.out];omega)
    subst e2;go_wp2_with fail;go_ret;exact⟨by simp,hb⟩
 ·have hc':((n:Int) != n')=true:=by simp;omega
  have hq:xs≠ys:=fun h=>hc (by rw[← H.out,← H'.out,h]);go_enter Try.func17,Try.ntmps17;go_wp2_with fail;go_ret;exact⟨by simp[hq],Below.refl _ _⟩
end Go.Proofs.Ytnkfphndfijcoaa
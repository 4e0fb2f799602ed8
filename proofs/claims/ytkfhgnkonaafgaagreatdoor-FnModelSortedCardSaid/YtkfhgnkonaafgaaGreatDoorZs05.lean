/-
  States of the reference's machines as they lie in memory; facts on blocks that are not of certain types. No condition.
-/
import Derived.Test.YtkfhgnkonaafgaaGreatDoorZs00
import Derived.Test.YtkfhgnkonaafgaaGreatDoorZs02
import Derived.Lib.OwnBridge
import Derived.Deep.AppendLies
set_option maxHeartbeats 6400000
set_option maxRecDepth 100000
namespace Go.Proofs.YtkfhgnkonaafgaaGreatDoor
open Go.RowKit
end Go.Proofs.YtkfhgnkonaafgaaGreatDoor
namespace Go.Proofs.YtkfhgnkonaafgaaGreatDoor
open Go.RowKit
theorem Tryz.infoInt:(Tryz.prog.info? 3).map (fun i=>(i.zero,i.size,i.bytes))=some (some (.int .i64 0),1,8):=by kernel_rfl
abbrev OwnN (w:World) (base:Nat) (v:Value) (xs:List Int):Prop:=Own IntE 3 w base v xs
theorem Own.int {T:TypeId} {w:World} {base g n cap:Nat} {xs:List Int} (h:Own IntE T w base (.slice (some ⟨g,0,none⟩) n cap) xs) {k:Nat} {x:Int} (hx:xs[k]? = some x) :
 g < w.heap.size∧w.cell? ⟨g,k,none⟩=some (.int .i64 x)∧∀ j,w.frozen? ⟨g,j,none⟩=false:=by
 have:=h.cell hx (j:=0) rfl
 simp only [IntE,Nat.mul_one,Nat.add_zero] at this
 exact ⟨(World.ownsRow.lt h g rfl).2,this,fun j=>h.frozen j⟩
theorem Own.setInt {T:TypeId} {w:World} {base g n cap:Nat} {xs:List Int} (h:Own IntE T w base (.slice (some ⟨g,0,none⟩) n cap) xs) {k:Nat} {z:Int} (hz:xs[k]? = some z) (x:Int) :
 Own IntE T (w.setCell ⟨g,k,none⟩ (.int .i64 x)) base (.slice (some ⟨g,0,none⟩) n cap) (xs.set k x):=by
 have h0:=h.set (i:=k) (j:=0) x (u:=.int .i64 x) (by decide) hz rfl
 simp only [IntE,Nat.mul_one,Nat.add_zero] at h0
 exact h0
end Go.Proofs.YtkfhgnkonaafgaaGreatDoor
namespace Go.Proofs.YtkfhgnkonaafgaaGreatDoor
open Go.RowKit
def Pick (n:Int) (v:Value) (_:World):Prop:=∃ q:Int,v = .int .i64 q∧0≤q∧(1≤n→q < n)
theorem Outside.of_below {lo hi:Nat} {w w':World} (h:Below w.heap.size w w'):Outside lo hi w w':=⟨h.os,h.tape,h.output,h.size,fun k hk _=>h.block k hk⟩
theorem xor64_nat (a b:Nat) (ha:a < 9223372036854775808) (hb:b < 9223372036854775808):bits .xor .i64 (a:Int) (b:Int)=((a ^^^ b:Nat):Int):=by
 have hx:a ^^^ b < 2 ^ 63:=Nat.xor_lt_two_pow (by omega) (by omega)
 have h1:(BitVec.ofInt 64 (a:Int)).toNat=a:=by
  rw [BitVec.ofInt_natCast,BitVec.toNat_ofNat];exact Nat.mod_eq_of_lt (by omega)
 have h2:(BitVec.ofInt 64 (b:Int)).toNat=b:=by
  rw [BitVec.ofInt_natCast,BitVec.toNat_ofNat];exact Nat.mod_eq_of_lt (by omega)
 show IntKind.i64.wrap ((BitVec.ofInt 64 (a:Int) ^^^ BitVec.ofInt 64 (b:Int)).toNat:Int)=_
 rw [BitVec.toNat_xor,h1,h2,IntKind.wrap_i64]
 omega
theorem xor64_nonneg (x:Int) (h0:0≤x) (h1:x < 9223372036854775808):0≤bits .xor .i64 x (x / 64):=by
 obtain ⟨X,rfl⟩:=Int.eq_ofNat_of_zero_le h0
 have d:((X:Int) / 64)=((X / 64:Nat):Int):=by simp
 rw [d,xor64_nat X (X / 64) (by omega) (by omega)]
 omega
theorem pick_any (b:Nat) (a:Option Addr) (c:Nat) (xs:List Int) (p n:Int) (w:World) (hr:Rd w b a c xs p) (hp:p≤1000000000) (hn:n≤1000000000) (hn0 : -1000000000≤n) :
 Calls Tryz.prog 129 #[.pointer (some ⟨b,0,none⟩), .int .i64 n] w (RetRd w b a c xs p 1 (Pick n)):=by
 have h0:=hr.c0;have h1:=hr.c1;have hf:=hr.f1;have hlt:=hr.lt;have hp0:=hr.p0
 have HS:=hide (hr.step (p+1) (by omega))
 have HO:Hid (Outside b (b+1) w (w.setCell ⟨b,1,none⟩ (.int .i64 (p+1)))):=hide ((Outside.refl b (b+1) w).grown (row:=some b) ⟨rfl,rfl,rfl,by simp,fun q _ hq=>heap_setCell_other w ⟨b,1,none⟩ q _ (fun e=>hq (by simp [e]))⟩ (fun q hq=>by simp at hq;omega))
 by_cases hn1:n < 1
 ·go_enter Tryz.func129,Tryz.ntmps129
  go_wp2_with fail
  go_ret
  exact ⟨_,_,rfl,⟨0,rfl,by omega,fun h=>by omega⟩,Int.le_refl _,HS.out,HO.out⟩
 ·have hn1':decide (n < 1)=false:=decide_eq_false hn1
  obtain ⟨aa,cc,hv,hc1,hc2,hc3, -⟩:=hr.rep.open
  simp only [Value.slice.injEq,true_and] at hv
  obtain ⟨rfl,rfl⟩:=hv
  by_cases hx:xs.length=0
  ·have hx':((xs.length:Int)==0)=true:=by rw [hx];rfl
   generalize hl:xs.length=l at *
   clear hl
   go_enter Tryz.func129,Tryz.ntmps129
   go_wp2_with fail
   go_ret
   exact ⟨_,_,rfl,⟨0,rfl,by omega,fun h=>by omega⟩,Int.le_refl _,HS.out,HO.out⟩
  ·have hx':((xs.length:Int)==0)=false:=by simp;intro h;exact hx (by rw [h];rfl)
   obtain ⟨P,rfl⟩:=Int.eq_ofNat_of_zero_le hp0
   by_cases hk:P < xs.length
   ·obtain ⟨y,hy⟩:=get_of_lt hk
    obtain ⟨g,o,rfl,hg,i0⟩:=hr.rep.byte hy
    have hgb:=hr.far g o (by intro e;simp [e] at hk) rfl
    have hyb:=hr.by' y (List.mem_of_getElem? hy)
    have hk':=nat_of_lt hk
    have hgne:g≠b:=by omega
    clear hy hr
    generalize xs.length=l at *
    go_enter Tryz.func129,Tryz.ntmps129
    go_wp2_with fail
    go_ret
    exact ⟨_,_,rfl,⟨y % n,rfl,Int.emod_nonneg _ (by omega),fun h=>Int.emod_lt_of_pos _ (by omega)⟩,Int.le_refl _,HS.out,HO.out⟩
   ·have hxl:0 < xs.length:=by omega
    obtain ⟨K1,hK1⟩:∃ K:Nat,(P:Int) % (xs.length:Int)=(K:Int):=⟨P % xs.length,by simp⟩
    obtain ⟨K2,hK2⟩:∃ K:Nat,((P:Int) * 7+3) % (xs.length:Int)=(K:Int):=⟨(P * 7+3) % xs.length,by simp⟩
    have hl1:(K1:Int) < xs.length:=by rw [← hK1];exact Int.emod_lt_of_pos _ (by omega)
    have hl2:(K2:Int) < xs.length:=by rw [← hK2];exact Int.emod_lt_of_pos _ (by omega)
    have hl1':K1 < xs.length:=by omega
    have hl2':K2 < xs.length:=by omega
    obtain ⟨y1,hy1⟩:=get_of_lt hl1'
    obtain ⟨y2,hy2⟩:=get_of_lt hl2'
    obtain ⟨g,o,rfl,hg,i0⟩:=hr.rep.byte hy1
    obtain ⟨g',o',hge,hg',j0⟩:=hr.rep.byte hy2
    simp only [Option.some.injEq,Addr.mk.injEq,and_true] at hge
    obtain ⟨rfl,rfl⟩:=hge
    have hgb:=hr.far g o (by intro e;simp [e] at hxl) rfl
    have hyb1:=hr.by' y1 (List.mem_of_getElem? hy1)
    have hyb2:=hr.by' y2 (List.mem_of_getElem? hy2)
    have hgne:g≠b:=by omega
    have hkge:decide ((P:Int) < xs.length)=false:=decide_eq_false (by omega)
    have hq1:0≤(P:Int) / (xs.length:Int):=Int.ediv_nonneg (by omega) (by omega)
    have hq2:(P:Int) / (xs.length:Int)≤(P:Int):=Int.ediv_le_self _ (by omega)
    clear hy1 hy2 hr hx
    generalize xs.length=l at *
    generalize hQ:(P:Int) / (l:Int)=Q at *
    have hQ2:(P:Int) / (l:Int)=Q:=hQ
    go_enter Tryz.func129,Tryz.ntmps129
    go_wp2_with fail
    refine wp_region_bw (by kernel_rfl) (by kernel_rfl) ?_
    repeat (go_big_quiet_step (fail))
    refine wpQuiet_nil ?_
    intro w1 hb1
    go_wp2_with fail
    go_ret
    have hX0:0≤y1 * 131+y2 * 1117+(P:Int) * 29+Q * 53:=by omega
    have hX1:y1 * 131+y2 * 1117+(P:Int) * 29+Q * 53 < 9223372036854775808:=by omega
    have hz:=xor64_nonneg _ hX0 hX1
    refine ⟨_,_,rfl,⟨_,rfl,Int.tmod_nonneg _ hz,fun h=>Int.tmod_lt_of_pos _ (by omega)⟩,Int.le_refl _,HS.out.keep hb1 (by simpa using hlt),HO.out.trans (Outside.of_below hb1)⟩
theorem cell_of_block3 {w w':World} {b:Nat} (h:w'.heap[b]? = w.heap[b]?) (o:Nat):w'.cell? ⟨b,o,none⟩=w.cell? ⟨b,o,none⟩:=by
 unfold World.cell?
 rw [h]
def OneOf (ys:List Int) (v:Value) (_:World):Prop:=∃ y∈ys,v = .int .i64 y
theorem num_any (b:Nat) (a:Option Addr) (c:Nat) (xs:List Int) (p:Int) (v:Value) (ys:List Int) (w:World) (hr:Rd w b a c xs p) (hp:p≤1000000000) (hy:Rep IntE w v ys) (hl:ys.length≤100) (h0:1≤ys.length) (hfar:∀ g o,v = .slice (some ⟨g,o,none⟩) ys.length (match v with | .slice _ _ c=>c | _=>0)→g≠b) :
 Calls Tryz.prog 130 #[.pointer (some ⟨b,0,none⟩),v] w (RetRd w b a c xs p 1 (OneOf ys)):=by
 obtain ⟨a2,c2,rfl, -, -, -,hy⟩:=hy.open
 have HY:=hide hy;clear hy
 have HF:=hide hfar;clear hfar
 have HP:=hide (fun w' h=>pick_any b a c xs p ys.length w' h hp (by omega) (by omega))
 generalize hn:ys.length=n at *
 have H:=hide hn;clear hn
 go_enter Tryz.func130,Tryz.ntmps130
 go_wp2_with fail
 (with_reducible refine (HP.out _ hr).mono ?_);rintro e w1 ⟨v1,p1,rfl,⟨q,rfl,hq0,hq1⟩,hp1,hr1,ho1⟩
 obtain ⟨Q,rfl⟩:=Int.eq_ofNat_of_zero_le hq0
 have hQ:Q < n:=by have:=hq1 (by omega);omega
 obtain ⟨y,hyq⟩:=get_of_lt (xs:=ys) (k:=Q) (by rw [H.out];exact hQ)
 obtain ⟨g,o,rfl,hg,i0⟩:=HY.out.int hyq
 have hgb:=HF.out g o rfl
 have i1:w1.cell? ⟨g,o+Q,none⟩=some (.int .i64 y):=by
  rw [← i0]
  refine cell_of_block3 (ho1.block g hg (by omega)) _
 have hQ':=nat_of_lt hQ
 have hm:=List.mem_of_getElem? hyq
 clear hyq i0
 go_wp2_with fail
 go_ret
 exact ⟨_,p1,rfl,⟨y,hm,rfl⟩,hp1,hr1,ho1⟩
end Go.Proofs.YtkfhgnkonaafgaaGreatDoor
namespace Go.Proofs.YtkfhgnkonaafgaaGreatDoor
open Go.RowKit
theorem below_row {w w':World} {row:Option Nat} (hg:w.grownBy w' row) {B:Nat} (hB:B≤w.heap.size) (hr:∀ k,row=some k→B≤k):Below B w w':=(Below.refl B w).grown hg hB hr
end Go.Proofs.YtkfhgnkonaafgaaGreatDoor
namespace Go.Proofs.YtkfhgnkonaafgaaGreatDoor
open Go.RowKit
theorem run_append_none {P:Program} {w:World} {base:Nat} {t ty e:TypeId} {i:TypeInfo} {size:Nat} (ht:P.underlying t=some (.slice e)) (hi:P.info? e=some i)
 {v:Value} {n c:Nat} {xs:List Value} (hown:w.ownsRow base e size v n xs):(Builtin.append_ #[t,t] ty #[v, .slice none 0 c]).run P w = .ok v w:=by
 rcases hown.2 with ⟨rfl,rfl⟩ | ⟨g,cap,cur,rfl,_,_,hnc,_⟩
 ·simp [Builtin.append_,run_underlying ht,sizeOf,typeInfo,hi,Builtin.lenOf,Builtin.firstCells]
 ·simp [Builtin.append_,run_underlying ht,sizeOf,typeInfo,hi,Builtin.lenOf,Builtin.firstCells,hnc,storeCells]
theorem wpList_appS {α:Type} (E:El α) {P:Program} {w:World} {ops:Array Oper} {rest:List Oper} {o:Oper} {a:Act} {Q:Exit→Act→World→Prop}
 (T:TypeId) {zv:Value} {bytes:Nat} (hinfo:(P.info? T).map (fun i=>(i.zero,i.size,i.bytes))=some (some zv,E.sz,bytes)) (hz:zv.cells.size=E.sz) {t:TypeId} (h1:P.underlying t=some (.slice T))
 (base:Nat) (v:Value) (xs ys:List α) (u:Value) (hown:Own E T w base v xs) (hrep:Rep E w u ys) (hby:bytes≤256) (hn:xs.length+ys.length≤68719476736) (hbase:base≤w.heap.size)
 (hg:o.guard=none) (s y:Operand) (hop:o.op = .call { callee:=.builtin .append,args:=#[s,y],argTypes:=#[t,t] })
 (hs:a.eval s=v) (hy:a.eval y=u)
 (hK:∀ v' w',Own E T w' base v' (xs++ys)→w.grownBy w' v.ownBlock→wpList P ops Q rest (a.put o.dst v') w') :
 wpList P ops Q (o :: rest) a w:=by
 obtain ⟨it,hi,hz0,hz1,hz2⟩:=info_parts hinfo
 obtain ⟨ad,c,rfl,hc1,hc2,hcell⟩:=hrep
 cases ad with
 | none =>
  have hys:ys=[]:=by
   cases ys with
   | nil=>rfl
   | cons y ys=>obtain ⟨b,o,hb,_⟩:=hcell 0 y rfl;cases hb
  subst hys
  refine wpList_plain hg fun K hK' => ?_
  have hrun:=run_append_none (P:=P) (w:=w) (ty:=o.type) (c:=c) h1 hi hown
  unfold Oper.wp
  simp [execOp,hop,resolve,invoke,builtin,hs,hy,hrun,Result.andThen]
  exact hK' _ _ (hK _ _ (by simpa using hown) (World.grownBy.refl _ _))
 | some ad =>
  refine wpList_append_own w hg s y t hop base T it zv E.sz bytes h1 hi hz0 hz1 hz2 hz E.pos v xs.length _ hs hown ad ys.length c (ys.flatMap E.c) hy (E.length ys) ?_ ?_ (by unfold maxLen;omega) ?_ hbase ?_
  ·intro j u hu
   have hpos:=E.pos
   have hj:j=j / E.sz * E.sz+j % E.sz:=by rw [Nat.mul_comm];exact (Nat.div_add_mod j E.sz).symm
   have hm:j % E.sz < E.sz:=Nat.mod_lt _ hpos
   have hu2:=hu
   rw [hj,E.get ys _ _ hm] at hu2
   cases hx:ys[j / E.sz]? with
   | none=>rw [hx] at hu2;cases hu2
   | some x =>
    rw [hx] at hu2
    obtain ⟨b,o,hb,h⟩:=hcell _ x hx
    simp only [Option.some.injEq] at hb
    subst hb
    have hc:=h (j % E.sz) u hu2
    rw [Addr.add_lit,hj,← Nat.add_assoc]
    exact hc
  ·intro u hu
   rw [List.mem_flatMap] at hu
   obtain ⟨x,_,hx⟩:=hu
   exact E.one x u hx
  ·have:=Nat.mul_le_mul (show xs.length+ys.length≤68719476736 from hn) hby
   omega
  ·intro v' w' h2 h3 _
   refine hK v' w' ?_ h3
   unfold Own
   simpa [List.flatMap_append] using h2
theorem own_ne {α β:Type} {E:El α} {F:El β} {T U:TypeId} (hT:T≠U) {w:World} {base base':Nat} {v u:Value} {xs:List α} {ys:List β} (h:Own E T w base v xs) (k:Own F U w base' u ys):∀ q,u.ownBlock=some q→v.ownBlock≠some q:=by
 intro q hq hv
 rcases h.2 with ⟨rfl,_⟩ | ⟨g,cap,cur,rfl,_,hg,_⟩
 ·simp [Value.ownBlock] at hv
 ·rcases k.2 with ⟨rfl,_⟩ | ⟨g',cap',cur',rfl,_,hg',_⟩
  ·simp [Value.ownBlock] at hq
  ·simp [Value.ownBlock] at hq hv
   subst hq
   subst hv
   rw [hg] at hg'
   simp at hg'
   exact hT hg'.2
theorem Own2U.app {α:Type} {E:El α} {T1 T2:TypeId} (hT:T1≠T2) {us:List Slc} {w w1 w2:World} {base:Nat} {v v':Value} {p:List (List α)} (h:Own2U E T1 T2 us w base v p) (hb:Below w.heap.size w w1) (hbase:base≤w.heap.size) {r:List α} {s:Slc}
 (hu:Own E T2 w1 w.heap.size s.v r) (h2'':Own SlcE T1 w2 base v' (us++[s])) (hg:w1.grownBy w2 v.ownBlock):Own2 E T1 T2 w2 base v' (p++[r]):=by
 obtain ⟨h1,h2,h3,h4,h5⟩:=h
 have h2':=h2.below hb
 have hnew:∀ q,s.v.ownBlock=some q→w.heap.size≤q:=fun q hq=>(World.ownsRow.lt hu q hq).1
 have hold:∀ (i:Nat) (u':Slc),us[i]? = some u'→∀ q,u'.v.ownBlock=some q→q < w.heap.size:=fun i u' hi q hq=>by
  obtain ⟨r',hr'⟩:=get_of_lt (xs:=p) (k:=i) (by have:=(List.getElem?_eq_some_iff.1 hi).1;omega)
  exact (World.ownsRow.lt (h3 i u' r' hi hr') q hq).2
 have split:∀ (i:Nat) (u':Slc),(us++[s])[i]? = some u'→(i=us.length∧u'=s)∨(i < us.length∧us[i]? = some u'):=fun i u' hi=>by
  by_cases hlt:i < us.length
  ·rw [List.getElem?_append_left hlt] at hi;exact .inr ⟨hlt,hi⟩
  ·rw [List.getElem?_append_right (by omega)] at hi
   have:i - us.length=0:=by
    rcases Nat.eq_zero_or_pos (i - us.length) with h | h
    ·exact h
    ·rw [List.getElem?_eq_none (by simp;omega)] at hi;cases hi
   rw [this] at hi;simp at hi
   exact .inl ⟨by omega,hi.symm⟩
 have hus:Own E T2 w2 base s.v r:=(hu.mono hbase).grown hg (by
  rcases hq:s.v.ownBlock with _ | q
  ·exact .inl rfl
  ·exact .inr (fun e=>own_ne hT h2' hu q hq e.symm))
 have hrows:∀ (i:Nat) (u:Slc) (r':List α),us[i]? = some u→p[i]? = some r'→Own E T2 w2 base u.v r':=fun i u r' hi hr' =>
  ((h3 i u r' hi hr').below hb).grown hg (by
   rcases hq:u.v.ownBlock with _ | q
   ·exact .inl rfl
   ·exact .inr (fun e=>h5 i u hi q hq e.symm))
 refine ⟨us++[s],by simp [h1],h2'', ?_, ?_, ?_⟩
 ·intro i u r' hi hr'
  rcases split i u hi with ⟨e1,e2⟩ | ⟨hlt,hi'⟩
  ·rw [e1,List.getElem?_append_right (by omega),h1,Nat.sub_self] at hr'
   simp at hr'
   rw [e2,← hr'];exact hus
  ·rw [List.getElem?_append_left (by omega)] at hr'
   exact hrows i u r' hi' hr'
 ·intro i j u u' hi hj hij q hq hq'
  rcases split i u hi with ⟨e1,e2⟩ | ⟨hlt,hi'⟩
  ·rcases split j u' hj with ⟨e3,e4⟩ | ⟨hlt',hj'⟩
   ·omega
   ·rw [e2] at hq;have a1:=hnew q hq;have a2:=hold j u' hj' q hq';omega
  ·rcases split j u' hj with ⟨e3,e4⟩ | ⟨hlt',hj'⟩
   ·rw [e4] at hq';have a1:=hnew q hq';have a2:=hold i u hi' q hq;omega
   ·exact h4 i j u u' hi' hj' hij q hq hq'
 ·intro i u hi q hq
  rcases split i u hi with ⟨e1,e2⟩ | ⟨hlt,hi'⟩
  ·rw [e2] at hq;exact own_ne hT h2'' hus q hq
  ·obtain ⟨r',hr'⟩:=get_of_lt (xs:=p) (k:=i) (by omega)
   exact own_ne hT h2'' (hrows i u r' hi' hr') q hq
theorem Own2.empty {α:Type} {E:El α} (T1 T2:TypeId) (w:World) {base:Nat} (hb:base≤w.heap.size):Own2 E T1 T2 (w.alloc (.cells #[] T1)) base (.slice (some ⟨w.heap.size,0,none⟩) 0 0) []:=
 ⟨[],rfl,Own.empty _ _ hb,fun i u r h=>by simp at h,fun i j u u' h=>by simp at h,fun i u h=>by simp at h⟩
theorem Own2.mono {α:Type} {E:El α} {T1 T2:TypeId} {w:World} {base base':Nat} {v:Value} {p:List (List α)} (h:Own2 E T1 T2 w base v p) (hb:base'≤base):Own2 E T1 T2 w base' v p:=by
 obtain ⟨us,h1,h2,h3,h4,h5⟩:=h
 exact ⟨us,h1,h2.mono hb,fun i u r hu hr=>(h3 i u r hu hr).mono hb,h4,h5⟩
theorem Own2.outHi {α:Type} {E:El α} {T1 T2:TypeId} {lo hi:Nat} {w w':World} {base:Nat} {v:Value} {p:List (List α)} (h0:Own2 E T1 T2 w base v p)
 (h:Outside lo hi w w') (hhi:hi≤base):Own2 E T1 T2 w' base v p:=by
 obtain ⟨us,hU,hlt⟩:=h0.told
 obtain ⟨h1,h2,h3,h4,h5⟩:=hU
 refine ⟨us,h1,h.own h2 (fun q hq => .inr (by have:=(World.ownsRow.lt h2 q hq).1;omega)),fun i u r hu hr=>h.own (h3 i u r hu hr) (fun q hq => .inr (by have:=(hlt i u hu q hq).1;omega)),h4,h5⟩
end Go.Proofs.YtkfhgnkonaafgaaGreatDoor
namespace Go.Proofs.YtkfhgnkonaafgaaGreatDoor
open Go.RowKit
def IdxOf {α:Type} (f:α→Bool) (xs:List α) (q:Int):Prop:=(q = -1∧∀ x∈xs,f x=false)∨∃ (t:Nat) (x:α),q=t∧xs[t]? = some x∧f x=true∧∀ y∈xs.take t,f y=false
theorem none_succ {α:Type} {f:α→Bool} {xs:List α} {t:Nat} {x:α} (h:∀ y∈xs.take t,f y=false) (hx:xs[t]? = some x) (hf:f x=false):∀ y∈xs.take (t+1),f y=false:=by
 intro y hy
 rw [List.take_add_one,hx] at hy
 simp at hy
 rcases hy with hy | rfl
 ·exact h y hy
 ·exact hf
theorem IdxOf.any {α:Type} {f:α→Bool} {xs:List α} {q:Int} (h:IdxOf f xs q):decide (0≤q)=xs.any f:=by
 rcases h with ⟨rfl,h⟩ | ⟨t,x,rfl,hx,hf, -⟩
 ·rw [List.any_eq_false.2 (fun x hx=>by rw [h x hx];simp)];rfl
 ·rw [List.any_eq_true.2 ⟨x,List.mem_of_getElem? hx,hf⟩];simp
end Go.Proofs.YtkfhgnkonaafgaaGreatDoor
namespace Go.Proofs.YtkfhgnkonaafgaaGreatDoor
open Go.RowKit
theorem Tryz.infoIntS:(Tryz.prog.info? 24).map (fun i=>(i.zero,i.size,i.bytes))=some (some (.slice none 0 0),1,24):=by kernel_rfl
abbrev RepNN (w:World) (v:Value) (p:List (List Int)):Prop:=Rep2 IntE w v p
theorem EqualN_any (v v':Value) (xs ys:List Int) (w:World) (hx:Rep IntE w v xs) (hy:Rep IntE w v' ys) :
 Calls Tryz.prog 44 #[v,v'] w fun e w'=>e = .returned (.bool (decide (xs=ys)))∧Below w.heap.size w w':=by
 obtain ⟨a,c,rfl,hc1,hc2,hc3,hx⟩:=hx.open
 obtain ⟨a',c',rfl,hc1',hc2',hc3',hy⟩:=hy.open
 have HX:=hide hx;clear hx
 have HY:=hide hy;clear hy
 generalize hn:xs.length=n at *
 generalize hn':ys.length=n' at *
 have H:=hide hn;clear hn
 have H':=hide hn';clear hn'
 by_cases hc:n=n'
 ·subst hc
  have hc':((n:Int) != n)=false:=by simp
  go_enter Tryz.func44,Tryz.ntmps44
  go_wp2_with fail
  go_loopw [13] (fun v wr => ∃ k:Nat,k≤n∧v = .int .i64 k∧Hid (xs.take k=ys.take k)∧Below w.heap.size w wr) (fun v _=>n - (intOf v).toNat)
  case atStart=>exact ⟨0,Nat.zero_le _,rfl,hide (by simp),Below.refl _ _⟩
  case round =>
   obtain ⟨k,hk,rfl,T,hb⟩:=hrel
   by_cases hlt:k < n
   ·obtain ⟨x,hxk⟩:=get_of_lt (xs:=xs) (k:=k) (by rw [H.out];exact hlt)
    obtain ⟨y,hyk⟩:=get_of_lt (xs:=ys) (k:=k) (by rw [H'.out];exact hlt)
    obtain ⟨b,o,rfl,hbl,i0⟩:=(HX.out.below hb).int hxk
    obtain ⟨b',o',rfl,hbl',j0⟩:=(HY.out.below hb).int hyk
    have hlt':=nat_of_lt hlt
    have X:=hide hxk;clear hxk
    have Y:=hide hyk;clear hyk
    by_cases hxy:x=y
    ·have T':=hide (take_eq_succ T.out X.out Y.out hxy)
     have hd:(x != y)=false:=by simp [hxy]
     clear hxy
     go_wp2_with fail
     refine wp_region_bw (by kernel_rfl) (by kernel_rfl) ?_
     repeat (go_big_quiet_step (fail))
     refine wpQuiet_nil ?_
     intro w1 hb1
     have hb2:=hb.trans (hb1.mono hb.size)
     go_wp2_with fail
     go_roundw
     case rel=>exact ⟨k+1,by omega,by go_num,T',hb2⟩
     case measure=>simp [intOf];omega
    ·have hq:=ne_of_get X.out Y.out hxy
     have hd:(x != y)=true:=by simp [hxy]
     clear hxy
     go_wp2_with fail
     refine wp_region_bw (by kernel_rfl) (by kernel_rfl) ?_
     repeat (go_big_quiet_step (fail))
     refine wpQuiet_nil ?_
     intro w1 hb1
     have hb2:=hb.trans (hb1.mono hb.size)
     go_wp2_with fail
     go_ret
     exact ⟨by simp [hq],hb2⟩
   ·have e2:xs=ys:=take_all_eq T.out (by rw [H.out];omega) (by rw [H'.out];omega)
    subst e2
    go_wp2_with fail
    go_ret
    exact ⟨by simp,hb⟩
 ·have hc':((n:Int) != n')=true:=by simp;omega
  have hq:xs≠ys:=fun h=>hc (by rw [← H.out,← H'.out,h])
  go_enter Tryz.func44,Tryz.ntmps44
  go_wp2_with fail
  go_ret
  exact ⟨by simp [hq],Below.refl _ _⟩
end Go.Proofs.YtkfhgnkonaafgaaGreatDoor
namespace Go.Proofs.YtkfhgnkonaafgaaGreatDoor
open Go.RowKit
theorem zeroCells_eq {α:Type} (E:El α) (z:α) (zv:Value) (hz:zv.cells.toList=E.c z) (n:Nat):(Builtin.zeroCells zv.cells n).toList=(List.replicate n z).flatMap E.c:=by
 have h:=made_eq (E:=E) z zv hz n
 have hsz:zv.cells.size=E.sz:=by rw [← Array.length_toList,hz,E.len]
 rw [← h]
 simp [Builtin.zeroCells,madeCells,hsz]
theorem El.take {α:Type} (E:El α) (xs:List α) (i:Nat):(xs.flatMap E.c).take (i * E.sz)=(xs.take i).flatMap E.c:=by
 induction xs generalizing i with
 | nil=>simp
 | cons x xs ih =>
  cases i with
  | zero=>simp
  | succ i =>
   rw [List.flatMap_cons,List.take_succ_cons,List.flatMap_cons,List.take_append,E.len,List.take_of_length_le (by rw [E.len,Nat.add_mul];omega),
    show (i+1) * E.sz - E.sz=i * E.sz by rw [Nat.add_mul];omega,ih]
section
variable {α : Type} {E : El α} {T : TypeId}
theorem Own.cut {w:World} {base g n cap:Nat} {xs:List α} (h:Own E T w base (.slice (some ⟨g,0,none⟩) n cap) xs) {i:Nat} (hi:i≤n):Own E T w base (.slice (some ⟨g,0,none⟩) i cap) (xs.take i):=by
 have hn:=h.len
 subst hn
 unfold Own at *
 have hl:(xs.take i).length=i:=by rw [List.length_take];omega
 rcases h.2 with ⟨h1,_⟩ | ⟨g',cap',cur,h1,h2,h3,h4,h5,h6,h7⟩
 ·simp at h1
 ·simp only [Value.slice.injEq,Option.some.injEq,Addr.mk.injEq,and_true,true_and] at h1
  obtain ⟨rfl,rfl⟩:=h1
  rw [hl]
  refine ⟨by rw [E.length,hl], .inr ⟨g,cap,cur,rfl,h2,h3,by omega,h5,h6, ?_⟩⟩
  rw [← E.take,← h7,List.take_take,Nat.min_eq_left (Nat.mul_le_mul_right _ hi)]
theorem run_clear {P:Program} {w:World} {base g n cap i c':Nat} {xs:List α} (z:α) {zv:Value} {bytes:Nat} (hinfo:(P.info? T).map (fun i=>(i.zero,i.size,i.bytes))=some (some zv,E.sz,bytes)) (hz:zv.cells.toList=E.c z)
 {t ty:TypeId} (h1:P.underlying t=some (.slice T)) (hown:Own E T w base (.slice (some ⟨g,0,none⟩) n cap) xs) (hi:i < n) :
 ∃ w',(Builtin.clear_ #[t] ty #[.slice (some ⟨g,i * E.sz,none⟩) (n - i) c']).run P w = .ok (.tuple #[]) w'∧Own E T w' base (.slice (some ⟨g,0,none⟩) n cap) (xs.take i++List.replicate (n - i) z)∧w.grownBy w' (some g):=by
 have hn:=hown.len
 subst hn
 obtain ⟨it,hi1,hz0,hz1,hz2⟩:=info_parts hinfo
 rcases hown.2 with ⟨h2,_⟩ | ⟨g',cap',cur,h2,hb,hg,hnc,hcm,hcs,htake⟩
 ·simp at h2
 ·simp only [Value.slice.injEq,Option.some.injEq,Addr.mk.injEq,and_true,true_and] at h2
  obtain ⟨rfl,rfl⟩:=h2
  have hzl:(Builtin.zeroCells zv.cells (xs.length - i)).toList=(List.replicate (xs.length - i) z).flatMap E.c:=zeroCells_eq E z zv hz _
  have hlen:((List.replicate (xs.length - i) z).flatMap E.c).length=(xs.length - i) * E.sz:=by rw [E.length];simp
  have hmul:i * E.sz+(xs.length - i) * E.sz=xs.length * E.sz:=by rw [← Nat.add_mul];congr 1;omega
  have hmul2:xs.length * E.sz≤cap * E.sz:=Nat.mul_le_mul_right _ hnc
  have hst:=run_storeCells_at P g (i * E.sz) T ((List.replicate (xs.length - i) z).flatMap E.c) 0 cur w hg (by rw [hlen,hcs];omega) (fun v hv=>by
   rw [List.mem_flatMap] at hv
   obtain ⟨x,_,hx⟩:=hv
   exact E.one x v hx)
  simp only [Nat.add_zero] at hst
  refine ⟨w.setRow g (cur.toList.take (i * E.sz)++(List.replicate (xs.length - i) z).flatMap E.c++cur.toList.drop (i * E.sz+((List.replicate (xs.length - i) z).flatMap E.c).length)).toArray, ?_, ?_,⟨rfl,rfl,rfl,by simp,fun k _ hk=>setRow_other w g k _ (fun e=>hk (by simp [e]))⟩⟩
  ·have hne:xs.length - i≠0:=by omega
   obtain ⟨m,hm⟩:=Nat.exists_eq_succ_of_ne_zero hne
   rw [hm] at hst hzl ⊢
   simp only [Nat.succ_eq_add_one] at hst hzl ⊢
   simp [Builtin.clear_,run_underlying h1,zeroValue,typeInfo,hi1,hz0,hzl,hst]
  ·have hl2:(xs.take i++List.replicate (xs.length - i) z).length=xs.length:=by simp;omega
   unfold Own
   rw [hl2]
   refine ⟨by rw [E.length,hl2], .inr ⟨g,cap,_,rfl,hb,setRow_heap w g cur _ T _ hg,hnc,hcm, ?_, ?_⟩⟩
   ·simp only [List.size_toArray,List.length_append,List.length_take,List.length_drop,Array.length_toList,hlen,hcs]
    omega
   ·rw [List.flatMap_append,← E.take,← htake,List.take_take,Nat.min_eq_left (by omega)]
    rw [show xs.length * E.sz=(cur.toList.take (i * E.sz)++(List.replicate (xs.length - i) z).flatMap E.c).length by
     have hcl:cur.toList.length=cap * E.sz:=by rw [Array.length_toList,hcs]
     rw [List.length_append,hlen,List.length_take,hcl];omega]
    exact List.take_left
end
structure DelInv {α:Type} (f:α→Bool) (xs L:List α) (i j:Nat):Prop where
 take:L.take i=(xs.take j).filter fun x => !f x
 drop:L.drop j=xs.drop j
theorem filter_all {α:Type} {f:α→Bool} {xs:List α} (h:∀ x∈xs,f x=true):xs.filter f=xs:=List.filter_eq_self.2 h
theorem del_start {α:Type} {f:α→Bool} {xs:List α} {t:Nat} {x:α} (hx:xs[t]? = some x) (hf:f x=true) (hno:∀ y∈xs.take t,f y=false):DelInv f xs xs t (t+1):=by
 refine ⟨?_,rfl⟩
 rw [List.take_add_one,hx,List.filter_append,filter_all (fun y hy=>by rw [hno y hy];rfl)]
 simp [hf]
section
variable {α : Type} {f : α → Bool} {xs L : List α} {i j : Nat}
theorem DelInv.get (h:DelInv f xs L i j) {x:α} (hx:xs[j]? = some x):L[j]? = some x:=by
 have h1:(L.drop j)[0]? = (xs.drop j)[0]?:=by rw [h.drop]
 rw [List.getElem?_drop,List.getElem?_drop,Nat.add_zero] at h1
 rw [h1,hx]
theorem DelInv.keep (h:DelInv f xs L i j) (hij:i < j) {x:α} (hx:xs[j]? = some x) (hf:f x=false):DelInv f xs (L.set i x) (i+1) (j+1):=by
 have hL:=h.get hx
 have hjl:=(List.getElem?_eq_some_iff.1 hL).1
 refine ⟨?_, ?_⟩
 ·rw [List.take_add_one,List.take_add_one,hx,List.filter_append,← h.take,List.getElem?_set,if_pos rfl,if_pos (by omega)]
  rw [List.take_set_of_le (Nat.le_refl _)]
  simp [hf]
 ·rw [List.drop_set_of_lt (by omega)]
  have h1:(L.drop j).drop 1=(xs.drop j).drop 1:=by rw [h.drop]
  simpa [List.drop_drop] using h1
theorem DelInv.skip (h:DelInv f xs L i j) {x:α} (hx:xs[j]? = some x) (hf:f x=true):DelInv f xs L i (j+1):=by
 refine ⟨?_, ?_⟩
 ·rw [List.take_add_one,hx,List.filter_append,h.take];simp [hf]
 ·have h1:(L.drop j).drop 1=(xs.drop j).drop 1:=by rw [h.drop]
  simpa [List.drop_drop] using h1
theorem DelInv.done (h:DelInv f xs L i j) (hj:xs.length≤j):L.take i=xs.filter fun x => !f x:=by
 rw [h.take,List.take_of_length_le hj]
end
theorem grown_of_below {w w':World} (h:Below w.heap.size w w') (row:Option Nat):w.grownBy w' row:=⟨h.os,h.tape,h.output,h.size,fun k hk _=>h.block k hk⟩
theorem grown_trans {w w' w'':World} {row:Option Nat} (h:w.grownBy w' row) (k:w'.grownBy w'' row):w.grownBy w'' row:=
 ⟨k.os.trans h.os,k.tape.trans h.tape,k.output.trans h.output,Nat.le_trans h.size k.size,fun q hq hne=>(k.block q (Nat.lt_of_lt_of_le hq h.size) hne).trans (h.block q hq hne)⟩
def DelPost {α:Type} (E:El α) (T:TypeId) (w:World) (base:Nat) (v:Value) (ys:List α) (e:Ending) (w':World):Prop:=∃ v',e = .returned v'∧Own E T w' base v' ys∧w.grownBy w' v.ownBlock∧v'.ownBlock=v.ownBlock
theorem wpList_clear {α:Type} (E:El α) {P:Program} {w:World} {ops:Array Oper} {rest:List Oper} {o:Oper} {a:Act} {Q:Exit→Act→World→Prop}
 (T:TypeId) (z:α) {zv:Value} {bytes:Nat} (hinfo:(P.info? T).map (fun i=>(i.zero,i.size,i.bytes))=some (some zv,E.sz,bytes)) (hz:zv.cells.toList=E.c z) {t:TypeId} (h1:P.underlying t=some (.slice T))
 (base g n cap i c':Nat) (xs:List α) (hown:Own E T w base (.slice (some ⟨g,0,none⟩) n cap) xs) (hi:i < n) (hg:o.guard=none) (y:Operand)
 (hop:o.op = .call { callee:=.builtin .clear,args:=#[y],argTypes:=#[t] }) (hy:a.eval y = .slice (some ⟨g,i * E.sz,none⟩) (n - i) c')
 (hK:∀ w',Own E T w' base (.slice (some ⟨g,0,none⟩) n cap) (xs.take i++List.replicate (n - i) z)→w.grownBy w' (some g)→wpList P ops Q rest (a.put o.dst (.tuple #[])) w') :
 wpList P ops Q (o :: rest) a w:=by
 refine wpList_plain hg fun K hK' => ?_
 obtain ⟨w',hrun,r1,r2⟩:=run_clear (ty:=o.type) (c':=c') z hinfo hz h1 hown hi
 unfold Oper.wp
 simp [execOp,hop,resolve,invoke,builtin,hy,hrun,Result.andThen]
 exact hK' _ _ (hK w' r1 r2)
end Go.Proofs.YtkfhgnkonaafgaaGreatDoor
namespace Go.Proofs.YtkfhgnkonaafgaaGreatDoor
open Go.RowKit
def IdxOfS {α:Type} (f:α→Bool) (xs:List α) (q:Int):Prop:=(q = -1∧∀ x∈xs,f x=false)∨∃ (t:Nat) (x:α),q=t∧xs[t]? = some x∧f x=true∧∀ y∈xs.take t,f y=false
theorem none_succS {α:Type} {f:α→Bool} {xs:List α} {t:Nat} {x:α} (h:∀ y∈xs.take t,f y=false) (hx:xs[t]? = some x) (hf:f x=false):∀ y∈xs.take (t+1),f y=false:=by
 intro y hy
 rw [List.take_add_one,hx] at hy
 simp at hy
 rcases hy with hy | rfl
 ·exact h y hy
 ·exact hf
end Go.Proofs.YtkfhgnkonaafgaaGreatDoor
namespace Go.Proofs.YtkfhgnkonaafgaaGreatDoor
open Go.RowKit Go.Shelf Go.Sort
theorem intE_mapK (xs:List Int):xs.flatMap IntE.c=xs.map (Value.int .i64):=by
 induction xs with
 | nil=>rfl
 | cons x xs ih=>rw [List.flatMap_cons,ih];rfl
theorem grownBy_put {w:World} {g n:Nat} (d:Array Int):w.grownBy (putRow (Value.int .i64) (Sort.ahead w n) g 0 d) (some g):=by
 refine ⟨rfl,rfl,rfl,by simp [putRow,mapBlock,Sort.ahead],fun k hk hne => ?_⟩
 have:g≠k:=fun e=>hne (by rw [e])
 simp [putRow,mapBlock,Sort.ahead,Array.getElem?_modify,this]
theorem Delete_any (v:Value) (xs:List Int) (w:World) (base i:Nat) (h:Own IntE 3 w base v xs) (hi:i < xs.length) :
 Calls Tryz.prog 138 #[v, .int .i64 i, .int .i64 ((i:Int)+1)] w fun e w' => ∃ u:Slc,e = .returned (.slice u.a u.n u.cap)∧Own IntE 3 w' base u.v (xs.eraseIdx i)∧w.grownBy w' v.ownBlock:=by
 have hne:v≠.slice none 0 0:=by
  rintro rfl
  rcases h.shape with ⟨-,h0⟩ | ⟨g,cap,h1, -⟩
  ·rw [h0] at hi;simp at hi
  ·cases h1
 unfold Own at h
 rw [intE_mapK] at h
 have h':w.ownsRow base 3 1 v xs.length (xs.map (Value.int .i64)):=h
 obtain ⟨g,cap,rfl,hg1,hg2,hc1,hc2, -,hH⟩:=Lib.holds_of_ownsRow h' hne
 have hc:=Any.slices_Delete_int Tryz.laysDel g 0 cap i (i+1) xs w hH hc1 (by unfold maxLen at hc2;omega) (by omega) (by omega)
 have hcast:((i+1:Nat):Int)=(i:Int)+1:=by omega
 rw [hcast] at hc
 change Calls Tryz.prog 138 _ _ _ at hc
 refine hc.mono fun _ w' ⟨a,q,b⟩ => ?_
 subst b
 have hs:i+1 - i=1:=by omega
 rw [hs] at a ⊢
 have hl:(xs.take i++xs.drop (i+1)++List.replicate 1 (0:Int)).length=xs.length:=by simp;omega
 have h2:=Lib.ownsRow_putRow (q:=q) (k:=xs.length - 1) h' hl (by omega)
 have he:(xs.take i++xs.drop (i+1)++List.replicate 1 (0:Int)).take (xs.length - 1)=xs.eraseIdx i:=by
  rw [List.eraseIdx_eq_take_drop_succ,List.take_append_of_le_length (by simp;omega),List.take_of_length_le (by simp;omega)]
 rw [he] at h2
 refine ⟨⟨some ⟨g,0,none⟩,xs.length - 1,cap⟩,a, ?_,grownBy_put _⟩
 unfold Own
 rw [intE_mapK,show (xs.eraseIdx i).length=xs.length - 1 by rw [List.length_eraseIdx,if_pos hi]]
 exact h2
end Go.Proofs.YtkfhgnkonaafgaaGreatDoor
namespace Go.Proofs.YtkfhgnkonaafgaaGreatDoor
open Go.RowKit
theorem below_of_rowK {B g:Nat} {w w':World} (h:w.grownBy w' (some g)) (hg:B≤g) (hs:B≤w.heap.size):Below B w w':=⟨h.os,h.tape,h.output,h.size,fun k hk=>h.block k (by omega) (by simp;omega)⟩
theorem DelPost.toSlc {w w':World} {base:Nat} {T:TypeId} {v:Value} {ys:List Int} {e:Ending} (h:DelPost IntE T w base v ys e w'):∃ u:Slc,e = .returned (.slice u.a u.n u.cap)∧Own IntE T w' base u.v ys∧w.grownBy w' v.ownBlock:=by
 obtain ⟨v',rfl,h1,h2, -⟩:=h
 obtain ⟨u,rfl, -⟩:=h1.toSlc
 exact ⟨u,rfl,h1,h2⟩
def TestsN (a1:Addr) (f:Int→Bool) (w0:World):Prop:=∀ (x:Int) (w:World),Below w0.heap.size w0 w→Calls Tryz.prog 99 #[.int .i64 x, .pointer (some a1)] w fun e w'=>e = .returned (.bool (f x))∧Below w.heap.size w w'
theorem testsN (b i:Nat) (w0:World) (h:w0.cell? ⟨b,0,none⟩=some (.int .i64 i)):TestsN ⟨b,0,none⟩ (fun k=>k==(i:Int)) w0:=by
 intro x w hb
 have f0:=(hb.cell (p:=⟨b,0,none⟩) (lt_of_cell h)).trans h
 clear h
 go_enter Tryz.func99,Tryz.ntmps99
 go_wp2
 go_ret
 exact ⟨rfl,Below.refl _ _⟩
theorem IndexFunc_ae (a1:Addr) (v:Value) (xs:List Int) (f:Int→Bool) (w0 w:World) (hx:Rep IntE w v xs) (hf:TestsN a1 f w0) (hw:Below w0.heap.size w0 w) :
 Calls Tryz.prog 118 #[v, .func (.func 99) #[] #[.pointer (some a1)]] w fun e w'=>(∃ q:Int,e = .returned (.int .i64 q)∧IdxOfS f xs q)∧Below w.heap.size w w':=by
 obtain ⟨a,c,rfl,hc1,hc2,hc3,hx⟩:=hx.open
 have HX:=hide hx;clear hx
 have HF:=hide hf;clear hf
 generalize hn:xs.length=n at *
 have H:=hide hn;clear hn
 go_enter Tryz.func118,Tryz.ntmps118
 go_wp2_with fail
 go_loopw [8] (fun i wr => ∃ t:Nat,t≤n∧i = .int .i64 t∧Hid (∀ x∈xs.take t,f x=false)∧Below w.heap.size w wr) (fun i _=>n - (intOf i).toNat)
 case atStart=>exact ⟨0,Nat.zero_le _,rfl,hide (by simp),Below.refl _ _⟩
 case round =>
  obtain ⟨t,ht,rfl,hno,hb⟩:=hrel
  by_cases hlt:t < n
  ·obtain ⟨x,hxk⟩:=get_of_lt (xs:=xs) (k:=t) (by rw [H.out];exact hlt)
   obtain ⟨b,o,rfl,hbl,i0⟩:=(HX.out.below hb).int hxk
   have hlt':=nat_of_lt hlt
   have X:=hide hxk;clear hxk
   generalize hfx:f x=fx
   have FX:=hide hfx;clear hfx
   have hcall:=HF.out x _ (hw.trans (hb.mono hw.size))
   rw [FX.out] at hcall
   have HC:=hide hcall;clear hcall
   cases fx
   ·have NO:Hid (∀ x∈xs.take (t+1),f x=false):=hide (none_succS hno.out X.out FX.out)
    go_wp2_with fail
    (with_reducible refine HC.out.mono ?_);rintro e w2 ⟨rfl,hb2⟩
    go_wp2_with fail
    go_roundw
    case rel=>exact ⟨t+1,by omega,by go_num,NO,hb.trans (hb2.mono hb.size)⟩
    case measure=>simp [intOf];omega
   ·go_wp2_with fail
    (with_reducible refine HC.out.mono ?_);rintro e w2 ⟨rfl,hb2⟩
    go_wp2_with fail
    go_ret
    exact ⟨⟨_,rfl, .inr ⟨t,x,rfl,X.out,FX.out,hno.out⟩⟩,hb.trans (hb2.mono hb.size)⟩
  ·go_wp2_with fail
   go_ret
   refine ⟨⟨_,rfl, .inl ⟨rfl, ?_⟩⟩,hb⟩
   have h:=hno.out
   rwa [List.take_of_length_le (by rw [H.out];omega)] at h
theorem DeleteFunc_ae (a1:Addr) (v:Value) (xs:List Int) (f:Int→Bool) (w0 w:World) (base:Nat) (hx:Own IntE 3 w base v xs) (hl:xs.length≤1048576) (hf:TestsN a1 f w0) (hw:Below w0.heap.size w0 w) (hbase:w0.heap.size≤base) :
 Calls Tryz.prog 97 #[v, .func (.func 99) #[] #[.pointer (some a1)]] w fun e w'=>DelPost IntE 3 w base v (xs.filter fun x => !f x) e w':=by
 have DP:Hid (∀ v' w',Own IntE 3 w' base v' (xs.filter fun x => !f x)→w.grownBy w' v.ownBlock→v'.ownBlock=v.ownBlock→DelPost IntE 3 w base v (xs.filter fun x => !f x) (.returned v') w'):=hide (fun v' w' h1 h2 h3=>⟨v',rfl,h1,h2,h3⟩)
 have HF:=hide hf;clear hf
 have HX:=hide hx;clear hx
 have HI:=hide (fun h=>IndexFunc_ae a1 v xs f w0 w h HF.out hw)
 generalize hG:(xs.filter fun x => !f x)=G at *
 have HG:=hide hG;clear hG
 go_enter Tryz.func97,Tryz.ntmps97
 go_wp2_with fail
 (with_reducible refine (HI.out HX.out.rep).mono ?_);rintro e w1 ⟨⟨q,rfl,hq⟩,hb1⟩
 have HX1:=hide (HX.out.below hb1)
 have hg1:=grown_of_below hb1 v.ownBlock
 rcases hq with ⟨rfl,hno⟩ | ⟨t,x0,rfl,ht,hft,hno⟩
 ·have e1:G=xs:=by rw [← HG.out];exact filter_all (fun x h=>by rw [hno x h];rfl)
  have HE:=hide e1;clear e1 hno
  go_wp2_with fail
  go_ret
  exact DP.out _ _ (by rw [HE.out];exact HX1.out) hg1 rfl
 ·rcases HX.out.shape with ⟨-,rfl⟩ | ⟨g,c,rfl,hg,hgl,hc1,hc2⟩
  ·simp at ht
  ·have htl:=(List.getElem?_eq_some_iff.1 ht).1
   have hstart:=del_start ht hft hno
   have ST:=hide hstart;clear hstart ht hft hno
   generalize hn:xs.length=n at *
   have H:=hide hn;clear hn
   have htl':=nat_of_lt htl
   have hm1:((t:Int) == -1)=false:=by rw [beq_eq_false_iff_ne];omega
   go_wp2_with fail
   go_loopw [5,6] (fun si sj wr => ∃ (i j:Nat) (L:List Int),i < j∧j≤n∧si = .int .i64 i∧sj = .int .i64 j∧Own IntE 3 wr base (.slice (some ⟨g,0,none⟩) n c) L∧Hid (DelInv f xs L i j)∧w.grownBy wr (some g)) (fun _ sj _=>n - (intOf sj).toNat)
   case atStart=>exact ⟨t,t+1,xs,by omega,by omega,rfl,rfl,HX1.out,hide ST.out,hg1⟩
   case round =>
    obtain ⟨i,j,L,hij,hj,rfl,rfl,ho,hI,hgr⟩:=hrel
    have hLl:L.length=n:=ho.len.symm
    have HLL:=hide hLl;clear hLl
    have hbr:=hw.trans (below_of_rowK hgr (by omega) hw.size)
    by_cases hlt:j < n
    ·obtain ⟨x,hxk⟩:=get_of_lt (xs:=xs) (k:=j) (by rw [H.out];exact hlt)
     have hLj:=hI.out.get hxk
     obtain ⟨y,hyi⟩:=get_of_lt (xs:=L) (k:=i) (by rw [HLL.out];omega)
     obtain ⟨-,m0, -⟩:=ho.int hyi
     obtain ⟨hgl2,j0,hfr⟩:=ho.int hLj
     have hset:=ho.setInt hyi x
     have hlt':=nat_of_lt hlt
     have hij':=nat_of_lt hij
     have X:=hide hxk;have SET:=hide hset;have YI:=hide hyi;have LJ:=hide hLj
     clear hxk hset hyi hLj
     have hcall:=HF.out x _ hbr
     generalize hfx:f x=fx at *
     have FX:=hide hfx;have HC:=hide hcall
     clear hfx hcall
     cases fx
     ·have KEEP:=hide (hI.out.keep hij X.out FX.out)
      go_wp2_with fail
      (with_reducible refine HC.out.mono ?_);rintro e w2 ⟨rfl,hb2⟩
      obtain ⟨hc2,hf2⟩:=bcell hb2
      have hsz2:wr.heap.size≤w2.heap.size:=hb2.size
      have hset2:=ho.below hb2
      have hset3:=hset2.setInt YI.out x
      have S3:=hide hset3;clear hset2 hset3
      have hgr2:=grown_trans hgr (grown_of_below hb2 (some g))
      go_wp2_with fail
      go_roundw
      case rel=>exact ⟨i+1,j+1,L.set i x,by omega,by omega,by go_num,by go_num,S3.out,hide KEEP.out,grown_set hgr2 _ _⟩
      case measure=>simp [intOf];omega
     ·have SKIP:=hide (hI.out.skip X.out FX.out)
      go_wp2_with fail
      (with_reducible refine HC.out.mono ?_);rintro e w2 ⟨rfl,hb2⟩
      have hset2:=ho.below hb2
      have hgr2:=grown_trans hgr (grown_of_below hb2 (some g))
      go_wp2_with fail
      go_roundw
      case rel=>exact ⟨i,j+1,L,by omega,by omega,rfl,by go_num,hset2,hide SKIP.out,hgr2⟩
      case measure=>simp [intOf];omega
    ·have e:j=n:=by omega
     subst e
     have hin:=hij
     have hin':=nat_of_lt hij
     have hic:i≤c:=by omega
     have DONE:=hide (hI.out.done (by rw [H.out];exact Nat.le_refl _))
     go_wp2_with (refine wpList_clear IntE 3 0 Tryz.infoInt rfl Tryz.underlying24 base g _ c i _ L ho hin rfl _ rfl (by rw [show i * IntE.sz=i from Nat.mul_one i];rfl) ?_;intro w3 ho3 hgr3)
     go_ret
     have hcut:=ho3.cut (i:=i) (by omega)
     have hLi:(L.take i).length=i:=by rw [List.length_take,HLL.out];omega
     rw [List.take_append_of_le_length (by omega),List.take_take,Nat.min_self,DONE.out,HG.out] at hcut
     exact DP.out _ _ hcut (grown_trans hgr hgr3) rfl
end Go.Proofs.YtkfhgnkonaafgaaGreatDoor
namespace Go.Proofs.YtkfhgnkonaafgaaGreatDoor
open Go.RowKit
structure KpT (L:List TypeId) (B:Nat) (w w':World):Prop where
 os:w'.os=w.os
 tape:w'.tape=w.tape
 output:w'.output=w.output
 size:w.heap.size≤w'.heap.size
 block:∀ k ob,w.heap[k]? = some ob→(k < B∨∀ a T fz,ob = .cells a T fz→T∉L)→w'.heap[k]? = some ob
theorem KpT.refl (L:List TypeId) (B:Nat) (w:World):KpT L B w w:=⟨rfl,rfl,rfl,Nat.le_refl _,fun _ _ h _=>h⟩
theorem KpT.trans {L:List TypeId} {B:Nat} {a b c:World} (h:KpT L B a b) (k:KpT L B b c):KpT L B a c:=
 ⟨k.os.trans h.os,k.tape.trans h.tape,k.output.trans h.output,Nat.le_trans h.size k.size,fun q ob hq hl=>k.block q ob (h.block q ob hq hl) hl⟩
theorem KpT.of_below {L:List TypeId} {B:Nat} {w w':World} (h:Below w.heap.size w w'):KpT L B w w':=
 ⟨h.os,h.tape,h.output,h.size,fun k _ hk _=>(h.block k (Array.getElem?_eq_some_iff.1 hk).1).trans hk⟩
theorem KpT.below {L:List TypeId} {B:Nat} {w w':World} (h:KpT L B w w') (hB:B≤w.heap.size):Below B w w':=
 ⟨h.os,h.tape,h.output,h.size,fun k hk=>by
  have hk':k < w.heap.size:=by omega
  have e:w.heap[k]? = some (w.heap[k]'hk'):=Array.getElem?_eq_getElem hk'
  rw [e];exact h.block k _ e (.inl hk)⟩
theorem Own.typeT {α:Type} {E:El α} {T:TypeId} {w:World} {base g:Nat} {v:Value} {xs:List α} (h:Own E T w base v xs) (hg:v.ownBlock=some g):∃ a,w.heap[g]? = some (.cells a T (0,0)):=by
 rcases h.2 with ⟨rfl,_⟩ | ⟨g',cap,cur,rfl,_,hg',_⟩
 ·simp [Value.ownBlock] at hg
 ·simp [Value.ownBlock] at hg
  subst hg
  exact ⟨cur,hg'⟩
theorem Own.sameT {α:Type} {E:El α} {T:TypeId} {w w':World} {base:Nat} {v:Value} {xs:List α} (h:Own E T w base v xs) (hs:∀ q,v.ownBlock=some q→w'.heap[q]? = w.heap[q]?):Own E T w' base v xs:=by
 refine ⟨h.1, ?_⟩
 rcases h.2 with hn | ⟨g,cap,cur,rfl,hb1,hgg,rest⟩
 ·exact .inl hn
 ·exact .inr ⟨g,cap,cur,rfl,hb1,(hs g rfl).trans hgg,rest⟩
theorem KpT.grown {α:Type} {E:El α} {T:TypeId} {L:List TypeId} {B base:Nat} {w w':World} {v:Value} {xs:List α} (ho:Own E T w base v xs) (hT:T∈L) (hB:B≤base) (hg:w.grownBy w' v.ownBlock):KpT L B w w':=
 ⟨hg.os,hg.tape,hg.output,hg.size,fun k ob hk hl=>(hg.block k (Array.getElem?_eq_some_iff.1 hk).1 (fun e=>by
  obtain ⟨a,ha⟩:=ho.typeT e.symm
  have hbk:=(World.ownsRow.lt ho k e.symm).1
  rw [hk] at ha
  rcases hl with hl | hl
  ·omega
  ·exact hl a T _ (Option.some.inj ha) hT)).trans hk⟩
theorem KpT.set {T:TypeId} {L:List TypeId} {B g j:Nat} {w:World} {a:Array Value} {fz:Nat × Nat} (hg:w.heap[g]? = some (.cells a T fz)) (hT:T∈L) (hB:B≤g) (u:Value):KpT L B w (w.setCell ⟨g,j,none⟩ u):=
 ⟨rfl,rfl,rfl,by simp,fun k ob hk hl=>(heap_setCell_other w ⟨g,j,none⟩ k u (show k≠g by
  rintro rfl
  rw [hg] at hk
  rcases hl with hl | hl
  ·omega
  ·exact hl a T fz (Option.some.inj hk).symm hT)).trans hk⟩
structure LocT (L:List TypeId) (B:Nat) (w:World) (φ:World→Prop):Prop where
 now:φ w
 keep:∀ w',KpT L B w w'→φ w'
theorem LocT.step {L:List TypeId} {B:Nat} {w w':World} {φ:World→Prop} (h:LocT L B w φ) (k:KpT L B w w'):LocT L B w' φ:=⟨h.keep w' k,fun w'' k'=>h.keep w'' (k.trans k')⟩
theorem LocT.own {α:Type} {E:El α} {T:TypeId} {L:List TypeId} {B base:Nat} {w:World} {v:Value} {xs:List α} (h:Own E T w base v xs) (hT:T∉L):LocT L B w (fun W=>Own E T W base v xs):=
 ⟨h,fun w' k=>h.sameT fun q hq=>by
  obtain ⟨a,ha⟩:=h.typeT hq
  rw [k.block q _ ha (.inr fun a' T' fz e=>by simp at e;rw [← e.2.1];exact hT),ha]⟩
structure St where
 pc:List Int
 rg:List Int
 mm:List Int
 bf:List (List Int)
structure SV where
 p:Slc
 r:Slc
 m:Slc
 b:Slc
def TyB (T:TypeId) (w:World) (g:Nat):Prop:=∃ a,w.heap[g]? = some (.cells a T (0,0))
theorem KpT.setT {T:TypeId} {L:List TypeId} {B g j:Nat} {w:World} (hg:TyB T w g) (hT:T∈L) (hB:B≤g) (u:Value):KpT L B w (w.setCell ⟨g,j,none⟩ u):=by
 obtain ⟨a,ha⟩:=hg
 exact .set ha hT hB u
theorem Tryz.infoIntSM:(Tryz.prog.info? 24).map (fun i=>(i.zero,i.size,i.bytes))=some (some (.slice none 0 0),1,24):=by kernel_rfl
end Go.Proofs.YtkfhgnkonaafgaaGreatDoor
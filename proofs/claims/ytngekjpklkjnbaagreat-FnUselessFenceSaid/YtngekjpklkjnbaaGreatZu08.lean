/-
  Plain: the outcome of a candidate.
-/
import Derived.Test.YtngekjpklkjnbaaGreatZu04
import Derived.Test.YtngekjpklkjnbaaGreatZu03
import Derived.Deep.RegionHeld3
import Derived.Deep.DeepCutAuto
import Derived.Test.YtngekjpklkjnbaaGreatZu05
set_option maxHeartbeats 6400000
set_option maxRecDepth 100000
namespace Go.Proofs.YtngekjpklkjnbaaGreat
open Go.RowKit
theorem Tryz.FG:(Tryz.prog.info? 25).map (fun i=>(i.zero,i.size,i.bytes))=some (some (.agg #[.int .i64 0,.int .i64 0]),2,16):=Kr
abbrev IK (w:World) (base:Nat) (v:Value) (xs:List Gp):Prop:=Own Hx 25 w base v xs
theorem Dh (x y:Gp) (w:World) :
 Calls Tryz.prog 12 #[x.v,y.v] w fun e w'=>e = .returned (.bool (decide (x=y)))∧Below w.heap.size w w':=by
 obtain⟨x0,x1⟩:=x;obtain⟨y0,y1⟩:=y;rw[show decide ((⟨x0,x1⟩:Gp)=⟨y0,y1⟩)=(x0==y0&&x1==y1) by rw[Bool.eq_iff_iff];simp];go_enter Tryz.func12,Tryz.ntmps12;go_wp2
 all_goals go_ret
 all_goals refine⟨?_,((Below.refl _ _).alloc (Nat.le_refl _) _).alloc Sm _⟩
 all_goals simp_all
theorem BP (v:Value) (p:List (List Ins)) (w:World) (hp:Z5 w v p) (hl:p.flatten.length≤1048576) :
 Calls Tryz.prog 40 #[v] w (Xm Hx 25 w (Hm p)):=by
 obtain⟨a,c,rfl,hc1,hc2,hc3,hp⟩:=hp.open;have HP:=Za hp;clear hp;have HL:=Za hl;clear hl;have PP:Hid (Hm p=Q9 p p.length):=Za rfl;have HGL:=Za (UF p);generalize hn:p.length=n at *;have H:=Za hn;clear hn;go_enter Tryz.func40,Tryz.ntmps40;go_wp2_with fail
 go_loopw [3,4] (fun s i wr => ∃ j:Nat,j≤n∧i = .int .i64 j∧IK wr w.heap.size s (Q9 p j)∧Below w.heap.size w wr) (fun _ i _=>n - (intOf i).toNat)
 case atStart=>exact⟨0,Om,rfl,Own.empty _ w (Nat.le_refl _),(Below.refl _ _).alloc (Nat.le_refl _) _⟩
 case round =>
  obtain⟨j,hj,rfl,hown,hb2⟩:=hrel;by_cases hlt2:j < n
  ·obtain⟨wm,rfl⟩:∃ wm:World,wm=wr:=⟨_,rfl⟩
   obtain⟨x,hxk⟩:=Zd (xs:=p) (k:=j) (by rw[H.out];exact hlt2);obtain⟨b,o,ra,rc,rfl,hbl,i0,i1⟩:=HP.out.row hxk;have IW:=Za i0;have i0:=(hb2.cell (p:=⟨b,o+j,none⟩) hbl).trans i0;have hlt2':=Zh hlt2;have GS:=Za (KL hxk);have hgl:=Nat.le_trans (HGL.out j hj) (Nat.le_trans (XB p j) HL.out);have hxl:=Nat.le_trans (YJ hxk) HL.out;have I1:=Za i1;have X:=Za hxk
   clear i1 hxk;generalize hG:Q9 p j=G at *;clear hG;have HO:=Za hown;clear hown;go_wp2_with fail
   go_loopw [3,5] (fun s i wr => ∃ t:Nat,(t+1≤x.length∨t=0)∧i = .int .i64 ((t:Int)+1)∧IK wr w.heap.size s (G++Yc j x (t+1))∧Below w.heap.size w wr) (fun _ i _=>x.length - (intOf i).toNat)
   case atStart=>exact⟨0,.inr rfl,rfl,by rw[Ji,List.append_nil];exact HO.out,hb2⟩
   case round =>
    obtain⟨t,ht,rfl,hown,hb3⟩:=hrel;have i0w:=(hb3.cell (p:=⟨b,o+j,none⟩) hbl).trans IW.out;by_cases hlt3:t+1 < x.length
    ·obtain⟨y,hyk⟩:=Zd (xs:=x) (k:=t) Om
     obtain⟨z,hzk⟩:=Zd (xs:=x) (k:=t+1) hlt3;obtain⟨b',o',rfl,hbl',j0,j1,j2,j3⟩:=(I1.out.below hb3).ins hyk;obtain⟨b'',o'',e1,hbl'',k0,k1,k2,k3⟩:=(I1.out.below hb3).ins hzk;simp only[Option.some.injEq,Addr.mk.injEq,and_true]at e1;obtain⟨rfl,rfl⟩:=e1;have hlt3':(t:Int)+1 < x.length:=Om;have ST:=Za (Rk (t:=j) hyk hzk);have hrl:=Jh j x (t+1);have YK:=Za hyk;have ZK:=Za hzk
     clear hyk hzk hbl'';generalize hRG:Yc j x (t+1)=RG at *;clear hRG;have hlen:(G++RG).length≤68719476736:=by rw[List.length_append];omega
     by_cases hy:y.op=4
     ·have g4:(y.op != 4)=false:=by simp[hy]
      have ST2:Hid (Yc j x (t+1+1)=RG):=Za (by have h:=ST.out;rw[g4]at h;simpa using h);clear hy;go_wp2_with fail;go_roundw
      case rel=>exact⟨t+1,Om,Gn,by rw[ST2.out];exact hown,hb3⟩
      case measure=>simp[intOf];omega
     ·have g4:(y.op != 4)=true:=by simp[hy]
      clear hy;by_cases hz:z.op=4
      ·have g5:(z.op != 4)=false:=by simp[hz]
       have ST2:Hid (Yc j x (t+1+1)=RG):=Za (by have h:=ST.out;rw[g4,g5]at h;simpa using h);clear hz;go_wp2_with fail;go_roundw
       case rel=>exact⟨t+1,Om,Gn,by rw[ST2.out];exact hown,hb3⟩
       case measure=>simp[intOf];omega
      ·have g5:(z.op != 4)=true:=by simp[hz]
       have ST2:Hid (Yc j x (t+1+1)=RG++[⟨(j:Int),(t:Int)+1⟩]):=Za (by have h:=ST.out;rw[g4,g5]at h;simpa using h);clear hz;go_wp2_with (at_builtin;refine Z3 Hx 25 Tryz.FG rfl Tryz.underlying33 w.heap.size _ _ ⟨(j:Int),(t:Int)+1⟩ (hown.alloc _) Dc hlen (by simp;have:=hb3.size;omega) rfl _ _ rfl rfl wr.heap.size 0 1 rfl Zp ?_;intro v' w1 hown1 hgr1);have hb4:=ZM hb3 hown hgr1;go_roundw
       case rel=>exact⟨t+1,Om,Gn,by rw[ST2.out,← List.append_assoc];exact hown1,hb4⟩
       case measure=>simp[intOf];omega
    ·have e:Yc j x (t+1)=Yc j x x.length:=by
      rcases ht with h | h
      ·rw[show t+1=x.length by omega]
      ·subst h
       rw[Ji];by_cases h0:x.length=0
       ·rw[h0,Rl]
       ·rw[show x.length=1 by omega,Ji]
     rw[e]at hown;have hlt3':(x.length:Int)≤(t:Int)+1:=Om;go_wp2_with fail;go_roundw
     case rel=>exact⟨j+1,Om,Gn,by rw[GS.out];exact hown,hb3⟩
     case measure=>simp[intOf];omega
  ·have e:j=n:=Om
   go_wp2_with fail;go_ret;rw[PP.out,← e];exact⟨_,rfl,hown,hb2⟩
structure Ev where
 t:Int
 i:Int
 l:Int
 r:Bool
 w:Bool
deriving DecidableEq
theorem Fb {α:Type}(E:El α) {P:Program}{w:World}{ops:Array Oper}{o:Oper}{a:Act}{K:Act→World→Prop}{Q:Exit→Act→World→Prop}{F:Prop}
 (T:TypeId) {zv:Value}{bytes:Nat}(hinfo:(P.info? T).map (fun i=>(i.zero,i.size,i.bytes))=some (some zv,E.sz,bytes)) (hz:zv.cells.size=E.sz) {t:TypeId}(h1:P.underlying t=some (.slice T))
 (base:Nat) (v:Value) (xs:List α) (x:α) (hown:Own E T w base v xs) (hby:bytes≤256) (hn:xs.length≤68719476736) (hbase:base≤w.heap.size)
 (hg:o.guard=none) (s y:Operand) (hop:o.op = .call { callee:=.builtin .append,args:=#[s,y],argTypes:=#[t,t] })
 (hs:a.eval s=v) (b off c:Nat) (hy:a.eval y = .slice (some ⟨b,off,none⟩) 1 c) (hnews:∀ j u,(E.c x)[j]? = some u→w.cell? ⟨b,off+j,none⟩=some u)
 (hK:∀ v' w',Own E T w' base v' (xs++[x])→w.grownBy w' v.ownBlock→K (a.put o.dst v') w') :
 if Region.wanted o (yielded ops a.tmps)=true then Oper.wp P o a w K Q else F:=by
 obtain⟨it,hi,hz0,hz1,hz2⟩:=info_parts hinfo;refine step_append_lies w hg s y t hop base T it zv E.sz bytes h1 hi hz0 hz1 hz2 hz E.pos v xs.length _ hs hown ⟨b,off,none⟩ 1 c (E.c x) hy (by rw[E.len,Nat.one_mul]) ?_ (E.one x) Om (by unfold maxLen;omega) ?_ hbase _ rfl ?_
 ·intro j u hu
  have hadd:(⟨b,off,none⟩:Addr).add j=⟨b,off+j,none⟩:=by unfold Addr.add;split <;> simp_all
  rw[hadd];exact hnews j u hu
 ·have:=Nat.mul_le_mul (show xs.length+1≤68719476737 by omega) hby
  omega
 ·intro g cap w' h2 h3 _ _
  refine hK _ w' ?_ h3;unfold Own;simpa[List.flatMap_append] using h2
def UC (t i:Nat) (x:Ins):List Ev:=if x.op=4 then [] else [⟨t,i,x.loc,Z8 x.op,ZF x.op⟩]
def JQ (t:Nat) (r:List Ins) (k:Nat):List Ev:=(List.range k).flatMap fun i=>match r[i]? with
 | some x=>UC t i x
 | none=>[]
def Ag (p:List (List Ins)) (j:Nat):List Ev:=(List.range j).flatMap fun t=>match p[t]? with
 | some r=>JQ t r r.length
 | none=>[]
def VL (k:Nat):List Ev:=(List.range k).map fun (l:Nat)=>⟨-1,l,l,false,true⟩
def Ya (p:List (List Ins)):List Ev:=VL 3++Ag p p.length
theorem Bw {t:Nat}{r:List Ins}{k:Nat}{x:Ins}(h:r[k]? = some x):JQ t r (k+1)=JQ t r k++UC t k x:=by
 unfold JQ;rw[List.range_succ,List.flatMap_append];simp[h]
theorem Dj {p:List (List Ins)}{j:Nat}{r:List Ins}(h:p[j]? = some r):Ag p (j+1)=Ag p j++JQ j r r.length:=by
 unfold Ag;rw[List.range_succ,List.flatMap_append];simp[h]
end Go.Proofs.YtngekjpklkjnbaaGreat
namespace Go.Proofs.YtngekjpklkjnbaaGreat
def LC (l:Int) (i:Nat) (e:Ev):List Int:=if (e.w&&e.l==l)=true then [(i:Int)] else []
def DN (es:List Ev) (l:Int) (k:Nat):List Int:=(List.range k).flatMap fun i=>match es[i]? with
 | some e=>LC l i e
 | none=>[]
def Bb (es:List Ev) (l:Int):List Int:=DN es l es.length
theorem DO {es:List Ev}(l:Int) {k:Nat}{e:Ev}(h:es[k]? = some e):DN es l (k+1)=DN es l k++LC l k e:=by
 unfold DN;rw[List.range_succ,List.flatMap_append];simp[h]
end Go.Proofs.YtngekjpklkjnbaaGreat
namespace Go.Proofs.YtngekjpklkjnbaaGreat
open Go.RowKit
def Bt (f:Nat→Bool):Nat→Int
 | 0=>0
 | k+1=>if f k=true then bits .or .i64 (Bt f k) (wrap64 ((2:Int) ^ k)) else Bt f k
def Lg (n:Nat) (f:Nat→Nat→Bool):List Int:=(List.range n).map fun i=>Bt (f i) n
def IP (L:List Ev) (i k:Nat):Bool:=match L[i]?,L[k]? with
 | some a,some b=>decide (0≤a.t)&&(decide (0≤b.t)&&((a.t != b.t)&&((a.l==b.l)&&(a.w||b.w))))
 | _,_=>false
def conflicts (p:List (List Ins)):List Int:=Lg (Ya p).length (IP (Ya p))
theorem AF {t i:Nat}{x:Ins}{e:Ev}(h:e∈UC t i x):e=⟨t,i,x.loc,Z8 x.op,ZF x.op⟩∧x.op≠4:=by
 unfold UC at h;split at h
 ·simp at h
 ·simp at h;exact⟨h,by assumption⟩
theorem Dw {p:List (List Ins)}{e:Ev}(h:e∈Ya p):(e.t = -1)∨∃ (t i:Nat) (r:List Ins) (x:Ins),p[t]? = some r∧r[i]? = some x∧e=⟨t,i,x.loc,Z8 x.op,ZF x.op⟩∧x.op≠4:=by
 unfold Ya at h;rcases List.mem_append.1 h with h | h
 ·left
  simp only[VL,List.mem_map,List.mem_range]at h;obtain⟨l,_,rfl⟩:=h;rfl
 ·right
  unfold Ag at h;rw[List.mem_flatMap]at h;obtain⟨t,ht,h⟩:=h;cases hr:p[t]? with
  | none=>rw[hr]at h;simp at h
  | some r =>
   rw[hr]at h;simp only[JQ,List.mem_flatMap,List.mem_range]at h;obtain⟨i,hi,h⟩:=h;obtain⟨x,hx⟩:=Zd (xs:=r) (k:=i) hi;rw[hx]at h;obtain⟨rfl,hx4⟩:=AF h;exact⟨t,i,r,x,hr,hx,rfl,hx4⟩
end Go.Proofs.YtngekjpklkjnbaaGreat
namespace Go.Proofs.YtngekjpklkjnbaaGreat
end Go.Proofs.YtngekjpklkjnbaaGreat
namespace Go.Proofs.YtngekjpklkjnbaaGreat
def Aq (p:List (List Ins)) (e:Ev):Ins:=((p[e.t.toNat]?).bind fun r=>r[e.i.toNat]?).getD ⟨0,0,0,0⟩
theorem FH {p:List (List Ins)}{e:Ev}{t i:Nat}{r:List Ins}{x:Ins}(h1:p[t]? = some r) (h2:r[i]? = some x) (ht:e.t=t) (hi:e.i=i):Aq p e=x:=by
 unfold Aq;rw[ht,hi];simp[h1,h2]
theorem Ah {p:List (List Ins)}{k:Nat}{e:Ev}(h:(Ya p)[k]? = some e):(e.t = -1)∨∃ (t i:Nat) (r:List Ins),e.t=t∧e.i=i∧p[t]? = some r∧r[i]? = some (Aq p e)∧e.r=Z8 (Aq p e).op∧e.w=ZF (Aq p e).op∧e.l=(Aq p e).loc:=by
 rcases Dw (List.mem_of_getElem? h) with h | ⟨t,i,r,x,h1,h2,h3,-⟩
 ·exact .inl h
 ·have e1:Aq p e=x:=FH h1 h2 (by rw[h3]) (by rw[h3])
  exact .inr ⟨t,i,r,by rw[h3],by rw[h3],h1,by rw[e1];exact h2,by rw[e1,h3],by rw[e1,h3],by rw[e1,h3]⟩
end Go.Proofs.YtngekjpklkjnbaaGreat
namespace Go.Proofs.YtngekjpklkjnbaaGreat
end Go.Proofs.YtngekjpklkjnbaaGreat
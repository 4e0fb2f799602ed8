/-
  Plain: the outcome of a candidate.
-/
import Derived.Test.YtngekjpklkjnbaaGreatZp02
import Derived.Test.YtngekjpklkjnbaaGreatZp04
import Derived.Deep.RegionHeld3
import Derived.Deep.DeepCutAuto
set_option maxHeartbeats 6400000
set_option maxRecDepth 100000
namespace Go.Proofs.YtngekjpklkjnbaaGreat
open Go.RowKit
theorem Tryz.Jn:(Tryz.prog.info? 25).map (fun i=>(i.zero,i.size,i.bytes))=some (some (.agg #[.int .i64 0,.int .i64 0]),2,16):=Kr
abbrev Ff (w:World) (base:Nat) (v:Value) (xs:List Gp):Prop:=Own ZZ 25 w base v xs
theorem DV (v:Value) (p:List (List Ins)) (w:World) (hp:Z9 w v p) (hl:p.flatten.length≤1048576) :
 Calls Tryz.prog 44 #[v] w (Xs ZZ 25 w (ZF p)):=by
 obtain⟨a,c,rfl,hc1,hc2,hc3,hp⟩:=hp.open;have HP:=Za hp;clear hp;have HL:=Za hl;clear hl;have PP:Hid (ZF p=Xt p p.length):=Za rfl;have HGL:=Za (J4 p);generalize hn:p.length=n at *;have H:=Za hn;clear hn;go_enter Tryz.func44,Tryz.ntmps44;go_wp2_with fail
 go_loopw [3,9] (fun s i wr => ∃ j:Nat,j≤n∧i = .int .i64 j∧Ff wr w.heap.size s (Xt p j)∧Below w.heap.size w wr) (fun _ i _=>n - (intOf i).toNat)
 case atStart=>exact⟨0,Om,rfl,World.ownsRow_nil _ _ _ _,Below.refl _ _⟩
 case round =>
  obtain⟨j,hj,rfl,hown,hb2⟩:=hrel;by_cases hlt2:j < n
  ·obtain⟨wm,rfl⟩:∃ wm:World,wm=wr:=⟨_,rfl⟩
   obtain⟨x,hxk⟩:=Zd (xs:=p) (k:=j) (by rw[H.out];exact hlt2);obtain⟨b,o,ra,rc,rfl,hbl,i0,i1⟩:=HP.out.row hxk;have i0:=(hb2.cell (p:=⟨b,o+j,none⟩) hbl).trans i0;have hlt2':=Zh hlt2;have GS:=Za (Qt hxk);have hgl:=Nat.le_trans (HGL.out j hj) (Nat.le_trans (XB p j) HL.out);have hxl:=Nat.le_trans (YM hxk) HL.out;have I1:=Za i1;have X:=Za hxk
   clear i1 hxk;generalize hG:Xt p j=G at *;clear hG;have HO:=Za hown;clear hown;go_wp2_with fail
   go_loopw [3,6] (fun s i wr => ∃ t:Nat,(t+1≤x.length∨t=0)∧i = .int .i64 ((t:Int)+1)∧Ff wr w.heap.size s (G++ZH j x (t+1))∧Below w.heap.size w wr) (fun _ i _=>x.length - (intOf i).toNat)
   case atStart=>exact⟨0,.inr rfl,rfl,by rw[XJ,List.append_nil];exact HO.out,hb2⟩
   case round =>
    obtain⟨t,ht,rfl,hown,hb3⟩:=hrel;by_cases hlt3:t+1 < x.length
    ·obtain⟨y,hyk⟩:=Zd (xs:=x) (k:=t) Om
     obtain⟨z,hzk⟩:=Zd (xs:=x) (k:=t+1) hlt3;obtain⟨b',o',rfl,hbl',j0,j1,j2,j3⟩:=(I1.out.below hb3).ins hyk;obtain⟨b'',o'',e1,hbl'',k0,k1,k2,k3⟩:=(I1.out.below hb3).ins hzk;simp only[Option.some.injEq,Addr.mk.injEq,and_true]at e1;obtain⟨rfl,rfl⟩:=e1;have hlt3':(t:Int)+1 < x.length:=Om;have ST:=Za (Uh (t:=j) hyk hzk);have hrl:=QW j x (t+1);have YK:=Za hyk;have ZK:=Za hzk
     clear hyk hzk hbl'';generalize hRG:ZH j x (t+1)=RG at *;clear hRG;have hlen:(G++RG).length≤68719476736:=by rw[List.length_append];omega
     by_cases hy:y.op=4
     ·have g4:(y.op != 4)=false:=by simp[hy]
      have ST2:Hid (ZH j x (t+1+1)=RG):=Za (by have h:=ST.out;rw[g4]at h;simpa using h);clear hy;go_wp2_with fail;go_roundw
      case rel=>exact⟨t+1,Om,Gn,by rw[ST2.out];exact hown,hb3⟩
      case measure=>simp[intOf];omega
     ·have g4:(y.op != 4)=true:=by simp[hy]
      clear hy;by_cases hz:z.op=4
      ·have g5:(z.op != 4)=false:=by simp[hz]
       have ST2:Hid (ZH j x (t+1+1)=RG):=Za (by have h:=ST.out;rw[g4,g5]at h;simpa using h);clear hz;go_wp2_with fail;go_roundw
       case rel=>exact⟨t+1,Om,Gn,by rw[ST2.out];exact hown,hb3⟩
       case measure=>simp[intOf];omega
      ·have g5:(z.op != 4)=true:=by simp[hz]
       have ST2:Hid (ZH j x (t+1+1)=RG++[⟨(j:Int),(t:Int)+1⟩]):=Za (by have h:=ST.out;rw[g4,g5]at h;simpa using h);clear hz;go_wp2_with (at_builtin;refine Z4 ZZ 25 Tryz.Jn rfl Tryz.underlying33 w.heap.size _ _ ⟨(j:Int),(t:Int)+1⟩ (hown.alloc _) Dc hlen (by simp;have:=hb3.size;omega) rfl _ _ rfl rfl wr.heap.size 0 1 rfl Zk ?_;intro v' w1 hown1 hgr1);have hb4:=ZI hb3 hown hgr1;go_roundw
       case rel=>exact⟨t+1,Om,Gn,by rw[ST2.out,← List.append_assoc];exact hown1,hb4⟩
       case measure=>simp[intOf];omega
    ·have e:ZH j x (t+1)=ZH j x x.length:=by
      rcases ht with h | h
      ·rw[show t+1=x.length by omega]
      ·subst h
       rw[XJ];by_cases h0:x.length=0
       ·rw[h0,Kb]
       ·rw[show x.length=1 by omega,XJ]
     rw[e]at hown;have hlt3':(x.length:Int)≤(t:Int)+1:=Om;go_wp2_with fail;go_roundw
     case rel=>exact⟨j+1,Om,Gn,by rw[GS.out];exact hown,hb3⟩
     case measure=>simp[intOf];omega
  ·have e:j=n:=Om
   go_wp2_with fail;go_ret;rw[PP.out,← e];exact⟨_,rfl,hown,hb2⟩
theorem ZC.I4 {w:World}{a:Option Addr}{n c:Nat}{xs:List Gp}(h:ZC ZZ w (.slice a n c) xs) {k:Nat}{x:Gp}(hx:xs[k]? = some x) :
 ∃ b o,a=some ⟨b,o,none⟩∧b < w.heap.size∧w.cell? ⟨b,o+k * 2,none⟩=some (.int .i64 x.t)∧w.cell? ⟨b,o+k * 2+1,none⟩=some (.int .i64 x.i):=by
 obtain⟨a',c',hv,_,_,h⟩:=h;simp only[Value.slice.injEq]at hv;obtain⟨rfl,rfl,rfl⟩:=hv;obtain⟨b,o,rfl,h'⟩:=h k x hx;exact⟨b,o,rfl,Zb (h' 0 _ rfl),h' 0 _ rfl,h' 1 _ rfl⟩
theorem Own.I4 {T:TypeId}{w:World}{base g n cap:Nat}{xs:List Gp}(h:Own ZZ T w base (.slice (some ⟨g,0,none⟩) n cap) xs) {k:Nat}{x:Gp}(hx:xs[k]? = some x) :
 g < w.heap.size∧w.cell? ⟨g,k * 2,none⟩=some (.int .i64 x.t)∧w.cell? ⟨g,k * 2+1,none⟩=some (.int .i64 x.i)∧∀ j,w.frozen? ⟨g,j,none⟩=false:=
 ⟨(World.ownsRow.lt h g rfl).2,h.cell hx (j:=0) rfl,h.cell hx (j:=1) rfl,fun j=>h.frozen j⟩
theorem Own.Ph {T:TypeId}{w:World}{base g n cap:Nat}{xs:List Gp}(h:Own ZZ T w base (.slice (some ⟨g,0,none⟩) n cap) xs) {k:Nat}{z:Gp}(hz:xs[k]? = some z) (x:Gp) :
 Own ZZ T ((w.setCell ⟨g,k * 2,none⟩ (.int .i64 x.t)).setCell ⟨g,k * 2+1,none⟩ (.int .i64 x.i)) base (.slice (some ⟨g,0,none⟩) n cap) (xs.set k x):=by
 have h0:=h.set (i:=k) (j:=0) ⟨x.t,z.i⟩ (u:=.int .i64 x.t) Dc hz rfl;have h1:=h0.set (i:=k) (j:=1) x (u:=.int .i64 x.i) Dc (YR hz _) rfl;simp only[List.set_set]at h1;exact h1
theorem Iv (x y:Gp) (w:World) :
 Calls Tryz.prog 12 #[x.v,y.v] w fun e w'=>e = .returned (.bool (decide (x=y)))∧Below w.heap.size w w':=by
 obtain⟨x0,x1⟩:=x;obtain⟨y0,y1⟩:=y;rw[show decide ((⟨x0,x1⟩:Gp)=⟨y0,y1⟩)=(x0==y0&&x1==y1) by rw[Bool.eq_iff_iff];simp];go_enter Tryz.func12,Tryz.ntmps12;go_wp2
 all_goals go_ret
 all_goals refine⟨?_,((Below.refl _ _).alloc (Nat.le_refl _) _).alloc Sm _⟩
 all_goals simp_all
theorem Fw (v v':Value) (xs ys:List Gp) (w:World) (hx:ZC ZZ w v xs) (hy:ZC ZZ w v' ys) :
 Calls Tryz.prog 16 #[v,v'] w fun e w'=>e = .returned (.bool (decide (xs=ys)))∧Below w.heap.size w w':=by
 obtain⟨a,c,rfl,hc1,hc2,hc3,hx⟩:=hx.open;obtain⟨a',c',rfl,hc1',hc2',hc3',hy⟩:=hy.open;have HX:=Za hx;clear hx;have HY:=Za hy;clear hy;generalize hn:xs.length=n at *;generalize hn':ys.length=n' at *;have H:=Za hn;clear hn;have H':=Za hn';clear hn';by_cases hc:n=n'
 ·subst hc
  have hc':((n:Int) != n)=false:=by simp
  go_enter Tryz.func16,Tryz.ntmps16;go_wp2_with fail
  go_loopw [5] (fun v wr => ∃ k:Nat,k≤n∧v = .int .i64 k∧Hid (xs.take k=ys.take k)∧Below w.heap.size w wr) (fun v _=>n - (intOf v).toNat)
  case atStart=>exact⟨0,Nat.zero_le _,rfl,Za Sm,Below.refl _ _⟩
  case round =>
   obtain⟨k,hk,rfl,T,hb⟩:=hrel;by_cases hlt:k < n
   ·obtain⟨x,hxk⟩:=Zd (xs:=xs) (k:=k) (by rw[H.out];exact hlt)
    obtain⟨y,hyk⟩:=Zd (xs:=ys) (k:=k) (by rw[H'.out];exact hlt);obtain⟨b,o,rfl,hbl,i0,i1⟩:=(HX.out.below hb).I4 hxk;obtain⟨b',o',rfl,hbl',j0,j1⟩:=(HY.out.below hb).I4 hyk;have hlt':=Zh hlt;have X:=Za hxk;clear hxk;have Y:=Za hyk;clear hyk;go_wp2_with fail;refine Zo Kr Kr ?_
    repeat (go_big_quiet_step ((go_at_call 12;exact Calls.bw (Iv x y _))))
    refine wpQuiet_nil ?_;intro w1 hb1;have hb2:=hb.trans (hb1.mono hb.size);generalize hd:decide (x=y)=d;cases d
    ·have hq:=KL X.out Y.out (of_decide_eq_false hd)
     clear hd;go_wp2_with fail;go_ret;exact⟨by simp[hq],hb2⟩
    ·have T':=Za (QE T.out X.out Y.out (of_decide_eq_true hd))
     clear hd;go_wp2_with fail;go_roundw
     case rel=>exact⟨k+1,Om,Gn,T',hb2⟩
     case measure=>simp[intOf];omega
   ·have e2:xs=ys:=Jw T.out (by rw[H.out];omega) (by rw[H'.out];omega)
    subst e2;go_wp2_with fail;go_ret;exact⟨Sm,hb⟩
 ·have hc':((n:Int) != n')=true:=So
  have hq:xs≠ys:=fun h=>hc (by rw[← H.out,← H'.out,h]);go_enter Tryz.func16,Tryz.ntmps16;go_wp2_with fail;go_ret;exact⟨by simp[hq],Below.refl _ _⟩
def AY (m:Int):Gp:=⟨m,m+1⟩
def Xk:Nat→Int→List Gp
 | 0,_=>[]
 | n+1,m=>AY m :: Xk n (m+2)
theorem ZY (n:Nat) (m:Int):(Xk n m).length=n:=by
 induction n generalizing m with
 | zero=>rfl
 | succ n ih=>simp[Xk,ih]
theorem JV (n:Nat) (m:Int) {k:Nat}(h:k < n):(Xk n m)[k]? = some (AY (m+2 * k)):=by
 induction n generalizing m k with
 | zero=>omega
 | succ n ih =>
  cases k with
  | zero=>simp[Xk]
  | succ k=>simp only[Xk,List.getElem?_cons_succ];rw[ih _ Om];congr 2;omega
theorem Ex (xs:List Gp) (m:Int) {k:Nat}(hk:k < xs.length):((Xk k m)++xs.drop k).set k (AY (m+2 * k))=Xk (k+1) m++xs.drop (k+1):=by
 have h1:Xk (k+1) m=Xk k m++[AY (m+2 * k)]:=by
  apply List.ext_getElem?;intro i;by_cases hi:i < k
  ·rw[JV _ _ Om,List.getElem?_append_left (by rw[ZY];exact hi),JV _ _ hi]
  ·by_cases hi2:i=k
   ·subst hi2
    rw[JV _ _ Om,List.getElem?_append_right (by rw[ZY];omega),ZY];simp
   ·rw[List.getElem?_eq_none (by rw[ZY];omega),List.getElem?_eq_none (by simp[ZY];omega)]
 rw[List.set_append_right _ _ (by rw[ZY];omega),ZY,Nat.sub_self,List.drop_eq_getElem_cons hk,List.set_cons_zero,h1];simp
theorem Cy (v:Value) (xs:List Gp) (m:Int) (w:World) (base:Nat) (hx:Ff w base v xs) (hl:xs.length≤1099511627776) (hm0:0≤m) (hm1:m≤1099511627776) :
 Calls Tryz.prog 18 #[v,.int .i64 m] w fun e w'=>e = .returned (.int .i64 (m+2 * xs.length))∧Ff w' base v (Xk xs.length m)∧w.grownBy w' v.ownBlock:=by
 rcases hx.shape with⟨rfl,rfl⟩ | ⟨g,c,rfl,hg1,hg2,hc1,hc2⟩
 ·go_enter Tryz.func18,Tryz.ntmps18
  go_wp2_with fail
  go_loopw [1,5] (fun q i wr=>i = .int .i64 0∧q = .int .i64 m∧wr=w) (fun _ i _=>(intOf i).toNat)
  case atStart=>exact⟨rfl,rfl,rfl⟩
  case round =>
   obtain⟨rfl,rfl,rfl⟩:=hrel;go_wp2_with fail;go_ret;exact⟨Sm,hx,World.grownBy.refl _ _⟩
 ·generalize hn:xs.length=n at *
  have H:=Za hn;clear hn;go_enter Tryz.func18,Tryz.ntmps18;go_wp2_with fail
  go_loopw [1,5] (fun q i wr => ∃ k:Nat,k≤n∧i = .int .i64 k∧q = .int .i64 (m+2 * k)∧Ff wr base (.slice (some ⟨g,0,none⟩) n c) (Xk k m++xs.drop k)∧w.grownBy wr (some g)) (fun _ i _=>n - (intOf i).toNat)
  case atStart=>exact⟨0,Nat.zero_le _,rfl,Sm,by simpa[Xk] using hx,World.grownBy.refl _ _⟩
  case round =>
   obtain⟨k,hk,rfl,rfl,ho,hb⟩:=hrel;by_cases hlt:k < n
   ·obtain⟨x,hxk⟩:=Zd (xs:=xs) (k:=k) (by rw[H.out];exact hlt)
    have hlt':=Zh hlt;have hget:(Xk k m++xs.drop k)[k]? = some x:=by rw[List.getElem?_append_right (by rw[ZY];omega),ZY,Nat.sub_self,List.getElem?_drop];simpa using hxk
    obtain⟨hgl,f0,f1,hfr⟩:=ho.I4 hget;have ho2:=ho.Ph hget (AY (m+2 * k));rw[Ex xs m (by rw[H.out];exact hlt)]at ho2;have X:=Za hxk;clear hxk;have G:=Za hget;clear hget;go_wp2_with fail;go_roundw
    case rel=>exact⟨k+1,Om,Gn,Gn,ho2,YZ (YZ hb _ _) _ _⟩
    case measure=>simp[intOf];omega
   ·have e:k=n:=Om
    subst e;go_wp2_with fail;go_ret;rw[List.drop_of_length_le (by rw[H.out];omega),List.append_nil]at ho;exact⟨rfl,ho,hb⟩
theorem Cj (v:Value) (n:Nat) (m:Int) (w:World) (hx:ZC ZZ w v (Xk n m)) (hl:n≤1099511627776) (hm0:0≤m) (hm1:m≤1099511627776) :
 Calls Tryz.prog 19 #[v,.int .i64 m] w fun e w'=>e = .returned (.int .i64 (m+2 * n))∧w=w':=by
 obtain⟨a,c,rfl,hc1,hc2,hc3,hx⟩:=hx.open;rw[ZY] at *;go_enter Tryz.func19,Tryz.ntmps19;go_wp2_with fail
 go_loop [1,5] (fun q i => ∃ k:Nat,k≤n∧i = .int .i64 k∧q = .int .i64 (m+2 * k)) (fun _ i=>n - (intOf i).toNat)
 case atStart=>exact⟨0,Nat.zero_le _,rfl,Sm⟩
 case round =>
  obtain⟨k,hk,rfl,rfl⟩:=hrel;by_cases hlt:k < n
  ·obtain⟨b,o,rfl,hbl,i0,i1⟩:=hx.I4 (JV n m hlt)
   simp only[AY]at i0 i1;have hlt':=Zh hlt;go_wp2_with fail
   go_round
   case rel=>exact⟨k+1,Om,Gn,Gn⟩
   case measure=>simp[intOf];omega
  ·have e:k=n:=Om
   subst e;go_wp2_with fail;go_ret;exact⟨rfl,rfl⟩
theorem R9 (v:Value) (p:List (List Ins)) (w:World) (hp:Z9 w v p) (hl:p.flatten.length≤1048576) :
 Calls Tryz.prog 40 #[v] w (Xs ZZ 25 w (ZF p)):=by
 obtain⟨a,c,rfl,hc1,hc2,hc3,hp⟩:=hp.open;have HP:=Za hp;clear hp;have HL:=Za hl;clear hl;have PP:Hid (ZF p=Xt p p.length):=Za rfl;have HGL:=Za (J4 p);generalize hn:p.length=n at *;have H:=Za hn;clear hn;go_enter Tryz.func40,Tryz.ntmps40;go_wp2_with fail
 go_loopw [3,4] (fun s i wr => ∃ j:Nat,j≤n∧i = .int .i64 j∧Ff wr w.heap.size s (Xt p j)∧Below w.heap.size w wr) (fun _ i _=>n - (intOf i).toNat)
 case atStart=>exact⟨0,Om,rfl,Own.empty _ w (Nat.le_refl _),(Below.refl _ _).alloc (Nat.le_refl _) _⟩
 case round =>
  obtain⟨j,hj,rfl,hown,hb2⟩:=hrel;by_cases hlt2:j < n
  ·obtain⟨wm,rfl⟩:∃ wm:World,wm=wr:=⟨_,rfl⟩
   obtain⟨x,hxk⟩:=Zd (xs:=p) (k:=j) (by rw[H.out];exact hlt2);obtain⟨b,o,ra,rc,rfl,hbl,i0,i1⟩:=HP.out.row hxk;have IW:=Za i0;have i0:=(hb2.cell (p:=⟨b,o+j,none⟩) hbl).trans i0;have hlt2':=Zh hlt2;have GS:=Za (Qt hxk);have hgl:=Nat.le_trans (HGL.out j hj) (Nat.le_trans (XB p j) HL.out);have hxl:=Nat.le_trans (YM hxk) HL.out;have I1:=Za i1;have X:=Za hxk
   clear i1 hxk;generalize hG:Xt p j=G at *;clear hG;have HO:=Za hown;clear hown;go_wp2_with fail
   go_loopw [3,5] (fun s i wr => ∃ t:Nat,(t+1≤x.length∨t=0)∧i = .int .i64 ((t:Int)+1)∧Ff wr w.heap.size s (G++ZH j x (t+1))∧Below w.heap.size w wr) (fun _ i _=>x.length - (intOf i).toNat)
   case atStart=>exact⟨0,.inr rfl,rfl,by rw[XJ,List.append_nil];exact HO.out,hb2⟩
   case round =>
    obtain⟨t,ht,rfl,hown,hb3⟩:=hrel;have i0w:=(hb3.cell (p:=⟨b,o+j,none⟩) hbl).trans IW.out;by_cases hlt3:t+1 < x.length
    ·obtain⟨y,hyk⟩:=Zd (xs:=x) (k:=t) Om
     obtain⟨z,hzk⟩:=Zd (xs:=x) (k:=t+1) hlt3;obtain⟨b',o',rfl,hbl',j0,j1,j2,j3⟩:=(I1.out.below hb3).ins hyk;obtain⟨b'',o'',e1,hbl'',k0,k1,k2,k3⟩:=(I1.out.below hb3).ins hzk;simp only[Option.some.injEq,Addr.mk.injEq,and_true]at e1;obtain⟨rfl,rfl⟩:=e1;have hlt3':(t:Int)+1 < x.length:=Om;have ST:=Za (Uh (t:=j) hyk hzk);have hrl:=QW j x (t+1);have YK:=Za hyk;have ZK:=Za hzk
     clear hyk hzk hbl'';generalize hRG:ZH j x (t+1)=RG at *;clear hRG;have hlen:(G++RG).length≤68719476736:=by rw[List.length_append];omega
     by_cases hy:y.op=4
     ·have g4:(y.op != 4)=false:=by simp[hy]
      have ST2:Hid (ZH j x (t+1+1)=RG):=Za (by have h:=ST.out;rw[g4]at h;simpa using h);clear hy;go_wp2_with fail;go_roundw
      case rel=>exact⟨t+1,Om,Gn,by rw[ST2.out];exact hown,hb3⟩
      case measure=>simp[intOf];omega
     ·have g4:(y.op != 4)=true:=by simp[hy]
      clear hy;by_cases hz:z.op=4
      ·have g5:(z.op != 4)=false:=by simp[hz]
       have ST2:Hid (ZH j x (t+1+1)=RG):=Za (by have h:=ST.out;rw[g4,g5]at h;simpa using h);clear hz;go_wp2_with fail;go_roundw
       case rel=>exact⟨t+1,Om,Gn,by rw[ST2.out];exact hown,hb3⟩
       case measure=>simp[intOf];omega
      ·have g5:(z.op != 4)=true:=by simp[hz]
       have ST2:Hid (ZH j x (t+1+1)=RG++[⟨(j:Int),(t:Int)+1⟩]):=Za (by have h:=ST.out;rw[g4,g5]at h;simpa using h);clear hz;go_wp2_with (at_builtin;refine Z4 ZZ 25 Tryz.Jn rfl Tryz.underlying33 w.heap.size _ _ ⟨(j:Int),(t:Int)+1⟩ (hown.alloc _) Dc hlen (by simp;have:=hb3.size;omega) rfl _ _ rfl rfl wr.heap.size 0 1 rfl Zk ?_;intro v' w1 hown1 hgr1);have hb4:=ZI hb3 hown hgr1;go_roundw
       case rel=>exact⟨t+1,Om,Gn,by rw[ST2.out,← List.append_assoc];exact hown1,hb4⟩
       case measure=>simp[intOf];omega
    ·have e:ZH j x (t+1)=ZH j x x.length:=by
      rcases ht with h | h
      ·rw[show t+1=x.length by omega]
      ·subst h
       rw[XJ];by_cases h0:x.length=0
       ·rw[h0,Kb]
       ·rw[show x.length=1 by omega,XJ]
     rw[e]at hown;have hlt3':(x.length:Int)≤(t:Int)+1:=Om;go_wp2_with fail;go_roundw
     case rel=>exact⟨j+1,Om,Gn,by rw[GS.out];exact hown,hb3⟩
     case measure=>simp[intOf];omega
  ·have e:j=n:=Om
   go_wp2_with fail;go_ret;rw[PP.out,← e];exact⟨_,rfl,hown,hb2⟩
structure Ev where
 t:Int
 i:Int
 l:Int
 r:Bool
 w:Bool
deriving DecidableEq
theorem ML {α:Type}(E:El α) {P:Program}{w:World}{ops:Array Oper}{o:Oper}{a:Act}{K:Act→World→Prop}{Q:Exit→Act→World→Prop}{F:Prop}
 (T:TypeId) {zv:Value}{bytes:Nat}(hinfo:(P.info? T).map (fun i=>(i.zero,i.size,i.bytes))=some (some zv,E.sz,bytes)) (hz:zv.cells.size=E.sz) {t:TypeId}(h1:P.underlying t=some (.slice T))
 (base:Nat) (v:Value) (xs:List α) (x:α) (hown:Own E T w base v xs) (hby:bytes≤256) (hn:xs.length≤68719476736) (hbase:base≤w.heap.size)
 (hg:o.guard=none) (s y:Operand) (hop:o.op = .call { callee:=.builtin .append,args:=#[s,y],argTypes:=#[t,t] })
 (hs:a.eval s=v) (b off c:Nat) (hy:a.eval y = .slice (some ⟨b,off,none⟩) 1 c) (hnews:∀ j u,(E.c x)[j]? = some u→w.cell? ⟨b,off+j,none⟩=some u)
 (hK:∀ v' w',Own E T w' base v' (xs++[x])→w.grownBy w' v.ownBlock→K (a.put o.dst v') w') :
 if Region.wanted o (yielded ops a.tmps)=true then Oper.wp P o a w K Q else F:=by
 obtain⟨it,hi,hz0,hz1,hz2⟩:=info_parts hinfo;refine step_append_lies w hg s y t hop base T it zv E.sz bytes h1 hi hz0 hz1 hz2 hz E.pos v xs.length _ hs hown ⟨b,off,none⟩ 1 c (E.c x) hy (by rw[E.len,Nat.one_mul]) ?_ (E.one x) Om (by unfold maxLen;omega) ?_ hbase _ rfl ?_
 ·intro j u hu
  have hadd:(⟨b,off,none⟩:Addr).add j=⟨b,off+j,none⟩:=by unfold Addr.add;split <;> simp_all
  rw[hadd];exact hnews j u hu
 ·have:=Nat.mul_le_mul (show xs.length+1≤68719476737 by omega) hby
  omega
 ·intro g cap w' h2 h3 _ _
  refine hK _ w' ?_ h3;unfold Own;simpa[List.flatMap_append] using h2
def Ay (t i:Nat) (x:Ins):List Ev:=if x.op=4 then [] else [⟨t,i,x.loc,ZG x.op,ZR x.op⟩]
def VU (t:Nat) (r:List Ins) (k:Nat):List Ev:=(List.range k).flatMap fun i=>match r[i]? with
 | some x=>Ay t i x
 | none=>[]
def DN (p:List (List Ins)) (j:Nat):List Ev:=(List.range j).flatMap fun t=>match p[t]? with
 | some r=>VU t r r.length
 | none=>[]
def Ri (k:Nat):List Ev:=(List.range k).map fun (l:Nat)=>⟨-1,l,l,false,true⟩
def Yq (p:List (List Ins)):List Ev:=Ri 3++DN p p.length
theorem Fx {t:Nat}{r:List Ins}{k:Nat}{x:Ins}(h:r[k]? = some x):VU t r (k+1)=VU t r k++Ay t k x:=by
 unfold VU;rw[List.range_succ,List.flatMap_append];simp[h]
theorem Iw {p:List (List Ins)}{j:Nat}{r:List Ins}(h:p[j]? = some r):DN p (j+1)=DN p j++VU j r r.length:=by
 unfold DN;rw[List.range_succ,List.flatMap_append];simp[h]
theorem XP {w w':World}{b:Nat}(h:w'.heap[b]? = w.heap[b]?) (o:Nat):w'.cell? ⟨b,o,none⟩=w.cell? ⟨b,o,none⟩:=by
 unfold World.cell?;rw[h]
theorem Uu {w w':World}{ob:Obj}{row:Option Nat}(hg:(w.alloc ob).grownBy w' row) {b:Nat}(hb:b < w.heap.size) (hne:∀ q,row=some q→q≠b) (o:Nat):w'.cell? ⟨b,o,none⟩=w.cell? ⟨b,o,none⟩:=by
 refine XP ?_ o;rw[hg.block b So (fun e=>hne b e.symm rfl),heap_alloc_old w ob hb]
end Go.Proofs.YtngekjpklkjnbaaGreat
namespace Go.Proofs.YtngekjpklkjnbaaGreat
def Sy (l:Int) (i:Nat) (e:Ev):List Int:=if (e.w&&e.l==l)=true then [(i:Int)] else []
def Li (es:List Ev) (l:Int) (k:Nat):List Int:=(List.range k).flatMap fun i=>match es[i]? with
 | some e=>Sy l i e
 | none=>[]
def EX (es:List Ev) (l:Int):List Int:=Li es l es.length
theorem Lj {es:List Ev}(l:Int) {k:Nat}{e:Ev}(h:es[k]? = some e):Li es l (k+1)=Li es l k++Sy l k e:=by
 unfold Li;rw[List.range_succ,List.flatMap_append];simp[h]
end Go.Proofs.YtngekjpklkjnbaaGreat
namespace Go.Proofs.YtngekjpklkjnbaaGreat
open Go.RowKit
def Ft (f:Nat→Bool):Nat→Int
 | 0=>0
 | k+1=>if f k=true then bits .or .i64 (Ft f k) (wrap64 ((2:Int) ^ k)) else Ft f k
def PT (n:Nat) (f:Nat→Nat→Bool):List Int:=(List.range n).map fun i=>Ft (f i) n
def P9 (L:List Ev) (i k:Nat):Bool:=match L[i]?,L[k]? with
 | some a,some b=>decide (0≤a.t)&&(decide (0≤b.t)&&((a.t != b.t)&&((a.l==b.l)&&(a.w||b.w))))
 | _,_=>false
def conflicts (p:List (List Ins)):List Int:=PT (Yq p).length (P9 (Yq p))
theorem Ez {t i:Nat}{x:Ins}{e:Ev}(h:e∈Ay t i x):e=⟨t,i,x.loc,ZG x.op,ZR x.op⟩∧x.op≠4:=by
 unfold Ay at h;split at h
 ·simp at h
 ·simp at h;exact⟨h,by assumption⟩
theorem IG {p:List (List Ins)}{e:Ev}(h:e∈Yq p):(e.t = -1)∨∃ (t i:Nat) (r:List Ins) (x:Ins),p[t]? = some r∧r[i]? = some x∧e=⟨t,i,x.loc,ZG x.op,ZR x.op⟩∧x.op≠4:=by
 unfold Yq at h;rcases List.mem_append.1 h with h | h
 ·left
  simp only[Ri,List.mem_map,List.mem_range]at h;obtain⟨l,_,rfl⟩:=h;rfl
 ·right
  unfold DN at h;rw[List.mem_flatMap]at h;obtain⟨t,ht,h⟩:=h;cases hr:p[t]? with
  | none=>rw[hr]at h;simp at h
  | some r =>
   rw[hr]at h;simp only[VU,List.mem_flatMap,List.mem_range]at h;obtain⟨i,hi,h⟩:=h;obtain⟨x,hx⟩:=Zd (xs:=r) (k:=i) hi;rw[hx]at h;obtain⟨rfl,hx4⟩:=Ez h;exact⟨t,i,r,x,hr,hx,rfl,hx4⟩
end Go.Proofs.YtngekjpklkjnbaaGreat
namespace Go.Proofs.YtngekjpklkjnbaaGreat
end Go.Proofs.YtngekjpklkjnbaaGreat
namespace Go.Proofs.YtngekjpklkjnbaaGreat
def Ea (p:List (List Ins)) (e:Ev):Ins:=((p[e.t.toNat]?).bind fun r=>r[e.i.toNat]?).getD ⟨0,0,0,0⟩
theorem Nv {p:List (List Ins)}{e:Ev}{t i:Nat}{r:List Ins}{x:Ins}(h1:p[t]? = some r) (h2:r[i]? = some x) (ht:e.t=t) (hi:e.i=i):Ea p e=x:=by
 unfold Ea;rw[ht,hi];simp[h1,h2]
theorem DO {p:List (List Ins)}{k:Nat}{e:Ev}(h:(Yq p)[k]? = some e):(e.t = -1)∨∃ (t i:Nat) (r:List Ins),e.t=t∧e.i=i∧p[t]? = some r∧r[i]? = some (Ea p e)∧e.r=ZG (Ea p e).op∧e.w=ZR (Ea p e).op∧e.l=(Ea p e).loc:=by
 rcases IG (List.mem_of_getElem? h) with h | ⟨t,i,r,x,h1,h2,h3,-⟩
 ·exact .inl h
 ·have e1:Ea p e=x:=Nv h1 h2 (by rw[h3]) (by rw[h3])
  exact .inr ⟨t,i,r,by rw[h3],by rw[h3],h1,by rw[e1];exact h2,by rw[e1,h3],by rw[e1,h3],by rw[e1,h3]⟩
end Go.Proofs.YtngekjpklkjnbaaGreat
namespace Go.Proofs.YtngekjpklkjnbaaGreat
end Go.Proofs.YtngekjpklkjnbaaGreat
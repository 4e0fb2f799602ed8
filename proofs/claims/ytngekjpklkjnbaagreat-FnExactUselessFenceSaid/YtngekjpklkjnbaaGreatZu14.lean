/-
  Parts of the reference's step with one memory: places of registers, the value that is written, whether all is done, the outcome. Condition: bounds on lengths and numbers.
-/
import Derived.Test.YtngekjpklkjnbaaGreatZu10
import Derived.Test.YtngekjpklkjnbaaGreatZu08
set_option maxHeartbeats 6400000
set_option maxRecDepth 100000
namespace Go.Proofs.YtngekjpklkjnbaaGreat
open Go.RowKit
def H4 (ys:List ByteArray) (v:Value) (_:World):Prop:=∃ y∈ys,v = .string y
theorem EC (b:Nat) (a:Option Addr) (c:Nat) (xs:List Int) (p:Int) (v:Value) (ys:List ByteArray) (w:World) (base:Nat) (hr:Rd w b a c xs p) (hp:p≤1000000000) (hy:Own Q5 9 w base v ys) (hl:ys.length≤100) (h0:1≤ys.length) (hb:b < base) :
 Calls Tryz.prog 79 #[.pointer (some ⟨b,0,none⟩),v] w (QL w b a c xs p 1 (H4 ys)):=by
 obtain⟨a2,n,c2,rfl,hn⟩:=hy.Jv;have HY:=Za hy;clear hy;have H:=Za hn;have HP:=Za (fun w' h=>Jf b a c xs p n w' h hp Om Om);clear hn;go_enter Tryz.func79,Tryz.ntmps79;go_wp2_with fail
 (with_reducible refine(HP.out _ hr).mono ?_);rintro e w1 ⟨v1,p1,rfl,⟨q,rfl,hq0,hq1⟩,hp1,hr1,ho1⟩
 obtain⟨Q,rfl⟩:=Int.eq_ofNat_of_zero_le hq0;have hQ:Q < n:=by have:=hq1 (by have:=H.out;omega);omega
 obtain⟨y,hyq⟩:=Zd (xs:=ys) (k:=Q) (by rw[← H.out];exact hQ);have hy1:=ho1.Qz HY.out hb;obtain⟨g,o,rfl,hg,i0⟩:=hy1.rep.str hyq;have hQ':=Zh hQ;have hm:=List.mem_of_getElem? hyq;clear hyq hy1;go_wp2_with fail;go_ret;exact⟨_,p1,rfl,⟨y,hm,rfl⟩,hp1,hr1,ho1⟩
theorem QP.mono {lo lo':Nat}{v:Value}{w:World}(h:QP lo v w) (hl:lo'≤lo):QP lo' v w:=by
 obtain⟨P,h1,h2,h3⟩:=h;exact⟨P,h1.mono hl,h2,h3⟩
theorem VY (v:Value) (p:List (List Ins)) (w:World) (hp:Z5 w v p) (hl:p.flatten.length≤1048576) (hpl:p.length≤1048576) :
 Calls Tryz.prog 60 #[v,.int .i64 200] w fun e w' => ∃ k:Int,e = .returned (.int .i64 k)∧Below w.heap.size w w':=by
 have HP:=Za hp;clear hp;have HL:=Za hl;clear hl;go_enter Tryz.func60,Tryz.ntmps60;go_wp2_with fail
 go_loopw [5,6] (fun q i wr => ∃ (k:Nat) (N:Int),k≤3∧i = .int .i64 k∧q = .int .i64 N∧Below w.heap.size w wr) (fun _ i _=>3 - (intOf i).toNat)
 case atStart=>exact⟨0,1,Om,rfl,rfl,Below.refl _ _⟩
 case round =>
  obtain⟨k,N,hk,rfl,rfl,hb⟩:=hrel;by_cases hlt:k < 3
  ·have hlt':(k:Int)≤2:=Om
   have hbR:=Nat.le_trans (ZU (fR k) p) HL.out;have hbW:=Nat.le_trans (ZU (fW k) p) HL.out;have C1:∀ w',Z5 w' v p→Calls Tryz.prog 90 #[v,.int .i64 (k:Int),.bool true] w' fun e w2=>e = .returned (.int .i64 (Y1 (fW k) p:Nat))∧Below w'.heap.size w' w2:=fun w' h=>by
    have:=Qe v p k true w' h HL.out hpl;rwa[Ai]at this
   have C2:∀ w',Z5 w' v p→Calls Tryz.prog 90 #[v,.int .i64 (k:Int),.bool false] w' fun e w2=>e = .returned (.int .i64 (Y1 (fR k) p:Nat))∧Below w'.heap.size w' w2:=fun w' h=>by
    have:=Qe v p k false w' h HL.out hpl;rwa[UZ]at this
   generalize hR:Y1 (fR k) p=R at *;generalize hW:Y1 (fW k) p=W at *;have D1:=Za C1;have D2:=Za C2
   clear hR hW C1 C2;go_wp2_with (go_at_call 90;(with_reducible refine(D1.out _ (HP.out.below hb)).mono ?_);rintro e w1 ⟨rfl,hb1⟩);have hb:=hb.trans (hb1.mono hb.size);clear hb1
   go_loopw [5,8] (fun q i wr => ∃ (t:Nat) (M:Int),t≤R∧i = .int .i64 t∧q = .int .i64 M∧Below w.heap.size w wr) (fun _ i _=>R - (intOf i).toNat)
   case atStart=>exact⟨0,N,Om,rfl,rfl,hb⟩
   case round =>
    clear hb;obtain⟨t,M,ht,rfl,rfl,hb⟩:=hrel;by_cases hlt3:t < R
    ·have hlt3':=Zh hlt3
     by_cases hM:M≤200
     ·go_wp2_with (go_at_call 90;(with_reducible refine(D2.out _ (HP.out.below hb)).mono ?_);rintro e w1 ⟨rfl,hb1⟩)
      go_roundw
      case rel=>exact⟨t+1,_,Om,Gn,rfl,hb.trans (hb1.mono hb.size)⟩
      case measure=>simp[intOf];omega
     ·have hM':decide (M≤200)=false:=decide_eq_false hM
      clear hM;go_wp2_with (go_at_call 90;(with_reducible refine(D2.out _ (HP.out.below hb)).mono ?_);rintro e w1 ⟨rfl,hb1⟩);have hb:=hb.trans (hb1.mono hb.size);clear hb1
      go_loopw [5,9] (fun q i wr => ∃ (s:Nat) (L:Int),1≤s∧s≤W+1∧i = .int .i64 (s+1)∧q = .int .i64 L∧Below w.heap.size w wr) (fun _ i _=>W+1 - (intOf i).toNat)
      case atStart=>exact⟨1,M,Om,Om,rfl,rfl,hb⟩
      case round =>
       clear hb;obtain⟨s,L,hs1,hs2,rfl,rfl,hb⟩:=hrel;by_cases hlt5:(s:Int)+1≤W
       ·by_cases hL:L≤200
        ·go_wp2_with fail
         go_roundw
         case rel=>exact⟨s+1,_,Om,Om,Gn,rfl,hb⟩
         case measure=>simp[intOf];omega
        ·have hL':decide (L≤200)=false:=decide_eq_false hL
         clear hL;go_wp2_with fail;go_roundw
         case rel=>exact⟨k+1,L,Om,Gn,rfl,hb⟩
         case measure=>simp[intOf];omega
       ·have hlt5':decide ((s:Int)+1≤W)=false:=decide_eq_false hlt5
        go_wp2_with fail;go_roundw
        case rel=>exact⟨k+1,L,Om,Gn,rfl,hb⟩
        case measure=>simp[intOf];omega
    ·have hlt3':decide (t < R)=false:=decide_eq_false hlt3
     have hlt3'':decide ((t:Int) < R)=false:=decide_eq_false Om;go_wp2_with (go_at_call 90;(with_reducible refine(D2.out _ (HP.out.below hb)).mono ?_);rintro e w1 ⟨rfl,hb1⟩);have hb:=hb.trans (hb1.mono hb.size);clear hb1
     go_loopw [5,9] (fun q i wr => ∃ (s:Nat) (L:Int),1≤s∧s≤W+1∧i = .int .i64 (s+1)∧q = .int .i64 L∧Below w.heap.size w wr) (fun _ i _=>W+1 - (intOf i).toNat)
     case atStart=>exact⟨1,M,Om,Om,rfl,rfl,hb⟩
     case round =>
      clear hb;obtain⟨s,L,hs1,hs2,rfl,rfl,hb⟩:=hrel;by_cases hlt5:(s:Int)+1≤W
      ·by_cases hL:L≤200
       ·go_wp2_with fail
        go_roundw
        case rel=>exact⟨s+1,_,Om,Om,Gn,rfl,hb⟩
        case measure=>simp[intOf];omega
       ·have hL':decide (L≤200)=false:=decide_eq_false hL
        clear hL;go_wp2_with fail;go_roundw
        case rel=>exact⟨k+1,L,Om,Gn,rfl,hb⟩
        case measure=>simp[intOf];omega
      ·have hlt5':decide ((s:Int)+1≤W)=false:=decide_eq_false hlt5
       go_wp2_with fail;go_roundw
       case rel=>exact⟨k+1,L,Om,Gn,rfl,hb⟩
       case measure=>simp[intOf];omega
  ·have e:k=3:=Om
   subst e;by_cases h3:200 < N
   ·go_wp2_with fail
    go_ret
    first | exact⟨_,rfl,hb⟩ | exact⟨⟨_,rfl⟩,hb⟩
   ·have h3':decide (200 < N)=false:=decide_eq_false h3
    go_wp2_with fail;go_ret
    first | exact⟨_,rfl,hb⟩ | exact⟨⟨_,rfl⟩,hb⟩
theorem AD (b:Nat) (a:Option Addr) (c:Nat) (xs:List Int) (p:Int) (w:World) (hr:Rd w b a c xs p) (hp:p≤800000000) :
 Calls Tryz.prog 101 #[.pointer (some ⟨b,0,none⟩)] w (QL w b a c xs p 60 (QP w.heap.size)):=by
 have HD:=Za (BH b a c xs p w hr hp);have hlt:=hr.lt;have HS:=Za (fun w'=>Qi ⟨#[120,61,49,59,97,61,121,124,121,61,49,59,97,61,120]⟩ w' Dc);clear hr;go_enter Tryz.func101,Tryz.ntmps101;go_wp2_with fail
 (with_reducible refine HD.out.mono ?_);rintro e w1 ⟨v1,p1,rfl,⟨P,ho,hPl,hPr⟩,hp1,hr1,ho1⟩
 have hfl:P.flatten.length≤1048576:=by
  have:=Yk P 8 hPr;have:P.length * 8≤4 * 8:=Nat.mul_le_mul_right _ Om;omega
 obtain⟨us,hU,-⟩:=ho.told;obtain⟨oa,on,oc,rfl,hon⟩:=hU.2.1.Jv;have HX:=Za (fun w' h=>VY (.slice oa on oc) P w' h hfl Om);have HO:=Za ho;have R1:=Za hr1;have O1:=Za ho1;have HPR:=Za hPr
 clear hU ho hr1 ho1 hPr hfl hon HD;go_wp2_with fail
 (with_reducible refine(HX.out _ HO.out.rep).mono ?_);rintro e w2 ⟨k,rfl,hb2⟩
 have HO2:=Za (HO.out.below hb2);have R2:=Za (R1.out.keep hb2 R1.out.lt);have O2:=Za (O1.out.trans (Outside.Zf hb2))
 clear HO R1 O1 hb2 HX;by_cases hk:k≤200
 ·go_wp2_with fail
  go_ret;exact⟨_,p1,rfl,⟨P,HO2.out,hPl,HPR.out⟩,hp1,R2.out,O2.out⟩
 ·have hk':decide (k≤200)=false:=decide_eq_false hk
  clear hk HO2;go_wp2_with fail
  (with_reducible refine(HS.out _).mono ?_);rintro e w4 ⟨v4,ok,rfl,hQP,hb4⟩
  have hsz:=O2.out.size;go_wp2_with fail;go_ret;exact⟨_,p1,rfl,hQP.mono hsz,hp1,R2.out.keep hb4 R2.out.lt,O2.out.trans (Outside.Zf hb4)⟩
def Rs:List ByteArray:=[⟨#[120,61,49,59,97,61,121,124,121,61,49,59,97,61,120]⟩,⟨#[120,61,49,59,121,61,49,124,97,61,121,59,98,61,120]⟩,⟨#[120,61,49,59,102,101,110,99,101,59,97,61,121,124,121,61,49,59,102,101,110,99,101,59,97,61,120]⟩]
theorem DI:∀ x∈Rs,x.size≤1000:=by
 have h:(Rs.all fun x=>decide (x.size≤1000))=true:=Rf;intro x hx;have:=List.all_eq_true.1 h x hx;simpa using this
theorem BN (b:Nat) (a:Option Addr) (c:Nat) (xs:List Int) (p:Int) (w:World) (hr:Rd w b a c xs p) (hp:p≤800000000) :
 Calls Tryz.prog 78 #[.pointer (some ⟨b,0,none⟩)] w (QL w b a c xs p 61 (QP w.heap.size)):=by
 have HD:=Za (AD b a c xs p w hr hp);have hlt:=hr.lt;clear hr;go_enter Tryz.func78,Tryz.ntmps78;go_wp2_with fail
 (with_reducible refine HD.out.mono ?_);rintro e w1 ⟨v1,p1,rfl,⟨P,ho,hPl,hPr⟩,hp1,hr1,ho1⟩
 have hfl:P.flatten.length≤1048576:=by
  have:=Yk P 8 hPr;have:P.length * 8≤4 * 8:=Nat.mul_le_mul_right _ Om;omega
 obtain⟨us,hU,-⟩:=ho.told;obtain⟨oa,on,oc,rfl,hon⟩:=hU.2.1.Jv;have HX:=Za (fun w' h=>BP (.slice oa on oc) P w' h hfl);have HO:=Za ho;have R1:=Za hr1;have O1:=Za ho1;have HPR:=Za hPr
 clear hU ho hr1 ho1 hPr hfl hon HD;go_wp2_with fail
 (with_reducible refine(HX.out _ HO.out.rep).mono ?_);rintro e w2 ⟨v2,rfl,hg2,hb2⟩
 obtain⟨ga,gn,gc,rfl,-⟩:=hg2.Jv;have HO2:=Za (HO.out.below hb2);have R2:=Za (R1.out.keep hb2 R1.out.lt);have O2:=Za (O1.out.trans (Outside.Zf hb2))
 clear HO R1 O1 hb2 HX hg2;have hsz:=O2.out.size;by_cases hk:gn > 5
 ·have hk':(5:Int) < gn:=Om
  have L2:=Za (Own.lit (E:=Q5) (T:=9) hsz Rs #[.string ⟨#[120,61,49,59,97,61,121,124,121,61,49,59,97,61,120]⟩,.string ⟨#[120,61,49,59,121,61,49,124,97,61,121,59,98,61,120]⟩,.string ⟨#[120,61,49,59,102,101,110,99,101,59,97,61,121,124,121,61,49,59,102,101,110,99,101,59,97,61,120]⟩] 3 rfl rfl Om);have HF:=Za (EC b a c xs p1 _ Rs _ _ (R2.out.Zm _) Om L2.out Dc Dc hlt);have O2':=Za (O2.out.Zm (.cells #[.string ⟨#[120,61,49,59,97,61,121,124,121,61,49,59,97,61,120]⟩,.string ⟨#[120,61,49,59,121,61,49,124,97,61,121,59,98,61,120]⟩,.string ⟨#[120,61,49,59,102,101,110,99,101,59,97,61,121,124,121,61,49,59,102,101,110,99,101,59,97,61,120]⟩] 9));clear HO2 L2 O2 R2;go_wp2_with fail
  (with_reducible refine HF.out.mono ?_);rintro e w3 ⟨v3,p3,rfl,⟨y,hy,rfl⟩,hp3,hr3,ho3⟩
  have HS:=Za (fun w'=>Qi y w' (DI y hy));have R3:=Za hr3;have O3:=Za (O2'.out.trans ho3)
  clear hr3 ho3 hy O2' HF;go_wp2_with fail
  (with_reducible refine(HS.out _).mono ?_);rintro e w4 ⟨v4,ok,rfl,hQP,hb4⟩
  have hsz:=O3.out.size;go_wp2_with fail;go_ret;exact⟨_,p3,rfl,hQP.mono hsz,Om,R3.out.keep hb4 R3.out.lt,O3.out.trans (Outside.Zf hb4)⟩
 ·have hk':decide (5 < gn)=false:=decide_eq_false hk
  have hk'':decide ((5:Int) < gn)=false:=decide_eq_false Om;clear hk;go_wp2_with fail;go_ret;exact⟨_,p1,rfl,⟨P,HO2.out,hPl,HPR.out⟩,Om,R2.out,O2.out⟩
theorem Yt.Vq {α:Type}{E:El α}{T1 T2:TypeId}{us:List Zt}{w w':World}{base g n cap:Nat}{p:List (List α)}(h:Yt E T1 T2 us w base (.slice (some ⟨g,0,none⟩) n cap) p) {k:Nat}{s s':Zt}(hs:us[k]? = some s) {r':List α}
 (ho:Own E T2 w' base s'.v r') (hg:w.grownBy w' s.v.ownBlock) (hb:s'.v.ownBlock=s.v.ownBlock∨∃ q,s'.v.ownBlock=some q∧w.heap.size≤q):Yt E T1 T2 (us.set k s') (w'.setCell ⟨g,k,none⟩ s'.v) base (.slice (some ⟨g,0,none⟩) n cap) (p.set k r'):=by
 obtain⟨h1,h2,h3,h4,h5⟩:=h;have hk:=(List.getElem?_eq_some_iff.1 hs).1;have hglt:=(World.ownsRow.lt h2 g rfl).2;have h2':=h2.grown hg (.inr (fun e=>h5 k s hs g (by rw[← e];rfl) rfl));have h2s:=h2'.set (i:=k) (j:=0) s' (u:=s'.v) Dc hs rfl;simp only[Zw,Nat.mul_one,Nat.add_zero]at h2s;have hgs:w'.grownBy (w'.setCell ⟨g,k,none⟩ s'.v) (some g):=Qx (World.grownBy.refl _ _) _ _;have hlt:∀ (i:Nat) (u:Zt),us[i]? = some u→∀ q,u.v.ownBlock=some q→q < w.heap.size:=fun i u hi q hq=>by
  obtain⟨r,hr⟩:=Zd (xs:=p) (k:=i) (by have:=(List.getElem?_eq_some_iff.1 hi).1;omega);exact(World.ownsRow.lt (h3 i u r hi hr) q hq).2
 have hs5:∀ q,s'.v.ownBlock=some q→q≠g:=fun q hq e=>by
  subst e;rcases hb with hb | ⟨q',h6,h7⟩
  ·exact h5 k s hs q (by rw[← hb];exact hq) rfl
  ·rw[h6]at hq;simp at hq;omega
 have hs4:∀ (i:Nat) (u:Zt),us[i]? = some u→i≠k→∀ q,u.v.ownBlock=some q→s'.v.ownBlock≠some q:=fun i u hi hne q hq hq'=>by
  rcases hb with hb | ⟨q',h6,h7⟩
  ·exact h4 i k u s hi hs hne q hq (by rw[← hb];exact hq')
  ·rw[h6]at hq';simp at hq';have:=hlt i u hi q hq;omega
 have split:∀ (i:Nat) (u:Zt),(us.set k s')[i]? = some u→(i=k∧u=s')∨(i≠k∧us[i]? = some u):=fun i u hi=>by
  rw[List.getElem?_set]at hi;by_cases e:k=i
  ·subst e;rw[if_pos rfl,if_pos hk]at hi;simp at hi;exact .inl ⟨rfl,hi.symm⟩
  ·rw[if_neg e]at hi;exact .inr ⟨fun h=>e h.symm,hi⟩
 refine⟨by simp[h1],h2s,?_,?_,?_⟩
 ·intro i u r hi hr
  rcases split i u hi with⟨e1,e2⟩ | ⟨hne,hi'⟩
  ·rw[e1,List.getElem?_set,if_pos rfl,if_pos Om]at hr
   simp at hr;subst hr;rw[e2];refine ho.grown hgs ?_;rcases hq:s'.v.ownBlock with _ | q
   ·exact .inl rfl
   ·exact .inr (fun e=>hs5 q hq (by simpa using e))
  ·rw[List.getElem?_set,if_neg (fun e=>hne e.symm)]at hr
   refine((h3 i u r hi' hr).grown hg ?_).grown hgs ?_
   ·rcases hq:u.v.ownBlock with _ | q
    ·exact .inl rfl
    ·exact .inr (fun e=>h4 i k u s hi' hs hne q hq e.symm)
   ·rcases hq:u.v.ownBlock with _ | q
    ·exact .inl rfl
    ·exact .inr (fun e=>h5 i u hi' q hq (by rw[e];rfl))
 ·intro i j u u' hi hj hij q hq hq'
  rcases split i u hi with⟨e1,e2⟩ | ⟨hne,hi'⟩
  ·rcases split j u' hj with⟨e3,e4⟩ | ⟨hne',hj'⟩
   ·omega
   ·rw[e2]at hq;exact hs4 j u' hj' hne' q hq' hq
  ·rcases split j u' hj with⟨e3,e4⟩ | ⟨hne',hj'⟩
   ·rw[e4]at hq';exact hs4 i u hi' hne q hq hq'
   ·exact h4 i j u u' hi' hj' hij q hq hq'
 ·intro i u hi q hq hq'
  rcases split i u hi with⟨e1,e2⟩ | ⟨hne,hi'⟩
  ·rw[e2]at hq;exact hs5 q hq (by simp[Value.ownBlock]at hq';exact hq'.symm)
  ·exact h5 i u hi' q hq hq'
theorem Ur {α:Type}(E:El α) {P:Program}{w:World}{ops:Array Oper}{o:Oper}{a:Act}{K:Act→World→Prop}{Q:Exit→Act→World→Prop}{F:Prop}
 (T:TypeId) {zv:Value}{bytes:Nat}(hinfo:(P.info? T).map (fun i=>(i.zero,i.size,i.bytes))=some (some zv,E.sz,bytes)) (hz:zv.cells.size=E.sz) {t:TypeId}(h1:P.underlying t=some (.slice T))
 (base:Nat) (v:Value) (xs:List α) (x:α) (hown:Own E T w base v xs) (hby:bytes≤256) (hn:xs.length≤68719476736) (hbase:base≤w.heap.size)
 (hg:o.guard=none) (s y:Operand) (hop:o.op = .call { callee:=.builtin .append,args:=#[s,y],argTypes:=#[t,t] })
 (hs:a.eval s=v) (b off c:Nat) (hy:a.eval y = .slice (some ⟨b,off,none⟩) 1 c) (hnews:∀ j u,(E.c x)[j]? = some u→w.cell? ⟨b,off+j,none⟩=some u)
 (hK:∀ (s':Zt) w',Own E T w' base s'.v (xs++[x])→w.grownBy w' v.ownBlock→(s'.v.ownBlock=v.ownBlock∨∃ q,s'.v.ownBlock=some q∧w.heap.size≤q)→K (a.put o.dst (.slice s'.a s'.n s'.cap)) w') :
 if Region.wanted o (yielded ops a.tmps)=true then Oper.wp P o a w K Q else F:=by
 obtain⟨it,hi,hz0,hz1,hz2⟩:=info_parts hinfo;refine step_append_lies w hg s y t hop base T it zv E.sz bytes h1 hi hz0 hz1 hz2 hz E.pos v xs.length _ hs hown ⟨b,off,none⟩ 1 c (E.c x) hy (by rw[E.len,Nat.one_mul]) ?_ (E.one x) Om (by unfold maxLen;omega) ?_ hbase _ rfl ?_
 ·intro j u hu
  have hadd:(⟨b,off,none⟩:Addr).add j=⟨b,off+j,none⟩:=by unfold Addr.add;split <;> simp_all
  rw[hadd];exact hnews j u hu
 ·have:=Nat.mul_le_mul (show xs.length+1≤68719476737 by omega) hby
  omega
 ·intro g cap w' h2 h3 h4 _
  refine hK ⟨some ⟨g,0,none⟩,xs.length+1,cap⟩ w' ?_ h3 ?_
  ·unfold Own
   simpa[List.flatMap_append] using h2
  ·rcases h4 with h4 | h4
   ·exact .inl h4.symm
   ·exact .inr ⟨g,rfl,Om⟩
theorem Z7.tail {α:Type}{E:El α}{w:World}{g o n c:Nat}{xs:List α}(h:Z7 E w (.slice (some ⟨g,o,none⟩) n c) xs) (hn:1≤n):Z7 E w (.slice (some ⟨g,o+E.sz,none⟩) (n - 1) (c - 1)) xs.tail:=by
 obtain⟨a',c',hv,h1,h2,h3⟩:=h;simp only[Value.slice.injEq]at hv;obtain⟨rfl,rfl,rfl⟩:=hv;refine⟨_,c - 1,by rw[List.length_tail],by rw[List.length_tail];omega,Om,fun i x hx => ?_⟩;rw[List.getElem?_tail]at hx;obtain⟨b,o',hb,hi⟩:=h3 (i+1) x hx;simp only[Option.some.injEq,Addr.mk.injEq,and_true]at hb;obtain⟨rfl,rfl⟩:=hb;refine⟨g,o+E.sz,rfl,fun j u hu => ?_⟩;have:=hi j u hu;rw[Nat.add_mul,Nat.one_mul]at this;rw[← this]
 congr 2
 omega
abbrev Ik (l:List Int):ByteArray:=strOfNums l
theorem Ez {l l':List Int}(h:∀ x∈l,0≤x∧x≤255) (h':∀ x∈l',0≤x∧x≤255) (e:Ik l=Ik l'):l=l':=by
 have e1:(l.map fun x=>UInt8.ofNat x.toNat)=l'.map fun x=>UInt8.ofNat x.toNat:=by
  have:=congrArg (fun b:ByteArray=>b.data.toList) e;simpa[strOfNums] using this
 clear e
 induction l generalizing l' with
 | nil=>cases l' with
  | nil=>rfl
  | cons y l'=>simp at e1
 | cons x l ih =>
  cases l' with
  | nil=>simp at e1
  | cons y l' =>
   simp only[List.map_cons,List.cons.injEq]at e1;have h1:=h x Sm;have h2:=h' y Sm;have e2:=congrArg UInt8.toNat e1.1;simp only[UInt8.toNat_ofNat']at e2;rw[Nat.mod_eq_of_lt Om,Nat.mod_eq_of_lt Om]at e2;rw[ih (fun z hz=>h z (by simp[hz])) (fun z hz=>h' z (by simp[hz])) e1.2,show x=y by omega]
def Qy (l:List UInt8):Nat:=l.foldl (fun n c=>(n * 31+c.toNat) % 4096) 0
def Xg (s:ByteArray):Nat:=Qy s.data.toList
theorem VT (l:List UInt8) (c:UInt8):Qy (l++[c])=(Qy l * 31+c.toNat) % 4096:=by simp[Qy]
theorem Ap (l:List UInt8):Qy l < 4096:=by
 rcases List.eq_nil_or_concat l with rfl | ⟨l',c,rfl⟩
 ·simp[Qy]
 ·rw[List.concat_eq_append,VT];exact Nat.mod_lt _ Dc
theorem Ao (s:ByteArray):Xg s < 4096:=Ap _
def Vg (ks:List ByteArray) (h:Nat):List ByteArray:=ks.filter fun k=>Xg k==h
def J5 (ks:List ByteArray):List (List ByteArray):=(List.range 4096).map (Vg ks)
theorem Y6 (ks:List ByteArray):(J5 ks).length=4096:=by simp[J5]
theorem Q3 (ks:List ByteArray) {h:Nat}(hh:h < 4096):(J5 ks)[h]? = some (Vg ks h):=by
 unfold J5;rw[List.getElem?_map,List.getElem?_range hh];rfl
theorem DC:J5 []=List.replicate 4096 []:=by
 apply List.ext_getElem?;intro k;by_cases h:k < 4096
 ·rw[Q3 _ h,List.getElem?_replicate,if_pos h];rfl
 ·rw[List.getElem?_eq_none (by rw[Y6];omega),List.getElem?_eq_none (by rw[List.length_replicate];omega)]
theorem Cc (ks:List ByteArray) (s:ByteArray):(J5 ks).set (Xg s) (Vg ks (Xg s)++[s])=J5 (ks++[s]):=by
 apply List.ext_getElem?;intro k;by_cases h:k < 4096
 ·rw[Q3 _ h,List.getElem?_set]
  by_cases e:Xg s=k
  ·rw[if_pos e,if_pos (by rw[Y6];omega)]
   subst e;simp[Vg,List.filter_append]
  ·rw[if_neg e,Q3 _ h]
   have e2:(Xg s==k)=false:=by simpa using e
   simp[Vg,List.filter_append,e2]
 ·rw[List.getElem?_eq_none (by rw[List.length_set,Y6];omega),List.getElem?_eq_none (by rw[Y6];omega)]
theorem ER (ks:List ByteArray) (s:ByteArray):s∈Vg ks (Xg s)↔s∈ks:=by simp[Vg]
theorem Hc (ks:List ByteArray) (h:Nat):(Vg ks h).length≤ks.length:=List.length_filter_le _ _
theorem Ef {s:ByteArray}{k:Nat}(h:k < s.size):s.data.toList[k]? = some (s[k]'h):=by
 rw[List.getElem?_eq_getElem (by rw[Array.length_toList];exact h),Array.getElem_toList];rfl
theorem Ua (s:ByteArray) (w:World) (hs:s.size≤1000000) :
 Calls Tryz.prog 136 #[.string s] w fun e w'=>e = .returned (.int .i64 (Xg s:Nat))∧w=w':=by
 have HH:Hid (Xg s=Qy s.data.toList):=Za rfl;have HN:Hid (s.data.toList.length=s.size):=Za (by rw[Array.length_toList];rfl);have HG:=Za (fun (k:Nat) (h:k < s.size)=>Ef h);generalize hl:s.data.toList=l at *;clear hl;go_enter Tryz.func136,Tryz.ntmps136;go_wp2_with fail
 go_loopw [3,4] (fun n i wr => ∃ k:Nat,k≤s.size∧i = .int .i64 k∧n = .int .i64 (Qy (l.take k):Nat)∧w=wr) (fun _ i _=>s.size - (intOf i).toNat)
 case atStart=>exact⟨0,Nat.zero_le _,rfl,by simp[Qy],rfl⟩
 case round =>
  obtain⟨k,hk,rfl,rfl,rfl⟩:=hrel;by_cases hlt:k < s.size
  ·have hlt':=Zh hlt
   have hki:0≤(k:Int)∧(k:Int) < s.size:=Om;have hg:=HG.out k hlt;have HS:Hid (Qy (l.take (k+1))=(Qy (l.take k) * 31+(s[k]'hlt).toNat) % 4096):=Za (by rw[List.take_add_one,hg];exact VT _ _);have hb:=(s[k]'hlt).toNat_lt;have hq:=Ap (l.take k);generalize Qy (l.take k)=q at *;clear hg;go_wp2_with fail;go_roundw
   case rel=>exact⟨k+1,Om,Gn,by rw[HS.out];go_num,by trivial⟩
   case measure=>simp[intOf];omega
  ·have e:k=s.size:=Om
   subst e;have E:Hid (Qy (l.take s.size)=Xg s):=Za (by rw[HH.out,List.take_of_length_le (by rw[HN.out];exact Nat.le_refl _)]);go_wp2_with fail;go_ret;rw[E.out];exact⟨rfl,rfl⟩
abbrev F8 (w:World) (base:Nat) (v:Value) (ks:List ByteArray):Prop:=ZG Q5 90 9 w base v (J5 ks)
theorem Z7.L6 {w:World}{a:Option Addr}{n c:Nat}{xs:List ByteArray}(h:Z7 Q5 w (.slice a n c) xs) {k:Nat}{x:ByteArray}(hx:xs[k]? = some x) :
 ∃ b o,a=some ⟨b,o,none⟩∧b < w.heap.size∧w.cell? ⟨b,o+k,none⟩=some (.string x):=by
 obtain⟨a',c',hv,_,_,h⟩:=h;simp only[Value.slice.injEq]at hv;obtain⟨rfl,rfl,rfl⟩:=hv;obtain⟨b,o,rfl,h'⟩:=h k x hx;have:=h' 0 _ rfl;simp only[Q5,Nat.mul_one,Nat.add_zero]at this;exact⟨b,o,rfl,Zb this,this⟩
theorem Fc (a b:ByteArray) {D:Bool}(hD:D=true↔a=b):(a.toList==b.toList)=D:=by
 rw[ByteArray.toList_eq,ByteArray.toList_eq];rcases hq:(a.data.toList==b.data.toList) with _ | _
 ·symm
  rw[Bool.eq_false_iff];intro h;have:=hD.1 h;subst this;simp at hq
 ·symm
  exact hD.2 (ByteArray.ext (Array.toList_inj.1 (by simpa using hq)))
def H7 (w:World) (q:Prop) (e:Ending) (w':World):Prop:=∃ D:Bool,e = .returned (.bool D)∧(D=true↔q)∧w=w'
theorem KO (vt:Value) (ks:List ByteArray) (s:ByteArray) (w:World) (hr:Yv Q5 w vt (J5 ks)) (hs:s.size≤1000000) :
 Calls Tryz.prog 116 #[vt,.string s] w (H7 w (s∈ks)):=by
 obtain⟨a,c,rfl,hc1,hc2,hc3,hr⟩:=hr.open;have hh:=Ao s;obtain⟨b,o,ra,rc,rfl,hbl,i0,i1⟩:=hr.row (Q3 ks hh);obtain⟨_,_,_,_,hrl,_,_⟩:=i1.open;rw[Y6]at hc1 hc2 ⊢;have HI:=Za i1;have HH:=Za (Ua s w hs);have hh':(Xg s:Int) < 4096:=Om;have HM:Hid (s∈Vg ks (Xg s)↔s∈ks):=Za (ER ks s);generalize Vg ks (Xg s)=R at *;generalize (s∈ks)=D at *;generalize Xg s=H at *;generalize hn:R.length=n at *;have HN:=Za hn;clear hn i1 hr;go_enter Tryz.func116,Tryz.ntmps116;go_wp2_with (go_at_call 136;(with_reducible refine HH.out.mono ?_);rintro e w1 ⟨rfl,rfl⟩)
 go_loopw [6] (fun i wr => ∃ k:Nat,k≤n∧i = .int .i64 k∧Hid (s∉R.take k)∧w=wr) (fun i _=>n - (intOf i).toNat)
 case atStart=>exact⟨0,Nat.zero_le _,rfl,Za Sm,rfl⟩
 case round =>
  obtain⟨k,hk,rfl,hno,rfl⟩:=hrel;by_cases hlt:k < n
  ·have hlt':=Zh hlt
   obtain⟨y,hy⟩:=Zd (xs:=R) (k:=k) (by rw[HN.out];exact hlt);obtain⟨b',o',rfl,hbl',j0⟩:=HI.out.L6 hy;have Y:=Za hy;clear hy;by_cases e:y=s
   ·have hq':(y.toList==s.toList)=true:=Fc y s (by simp[e])
    have E:Hid D:=Za (HM.out.1 (by rw[← e];exact List.mem_of_getElem? Y.out));clear e;go_wp2_with fail;go_ret;exact⟨true,rfl,by simp[E.out],rfl⟩
   ·have hq':(y.toList==s.toList)=false:=Fc y s (by simp[e])
    have NO:Hid (s∉R.take (k+1)):=Za (by
     rw[List.take_add_one,Y.out];simp only[Option.toList_some,List.mem_append,List.mem_singleton,not_or];exact⟨hno.out,fun q=>e q.symm⟩)
    clear e;go_wp2_with fail;go_roundw
    case rel=>exact⟨k+1,Om,Gn,NO,by trivial⟩
    case measure=>simp[intOf];omega
  ·have E:Hid (¬ D):=Za (by
    rw[← HM.out];have h:=hno.out;rwa[List.take_of_length_le (by rw[HN.out];omega)]at h)
   have hlt':¬ (k:Int) < n:=Om;go_wp2_with fail;go_ret;exact⟨false,rfl,by simp[E.out],rfl⟩
def F5 (w:World) (base:Nat) (vt:Value) (ks:List ByteArray) (e:Ending) (w':World):Prop:=e = .returned (.tuple #[])∧F8 w' base vt ks∧YS [90,9] base w w'
theorem A7 (vt:Value) (ks:List ByteArray) (s:ByteArray) (base:Nat) (w:World) (hr:F8 w base vt ks) (hs:s.size≤1000000) (hk:ks.length≤8796093022000) (hB:base≤w.heap.size) :
 Calls Tryz.prog 110 #[vt,.string s] w (F5 w base vt (ks++[s])):=by
 obtain⟨us,hU,-⟩:=hr.told;have hh:=Ao s;have HH:=Za (fun w'=>Ua s w' hs);rcases hU.2.1.shape with⟨_,hn⟩ | ⟨g,cap,rfl,hg1,hg2,hg3,hg4⟩
 ·have:=hU.1
  rw[hn,Y6]at this;simp at this
 have hul:us.length=4096:=by rw[hU.1,Y6]
 rw[hul]at hU ⊢;obtain⟨u,hu,hgl,hcell,hrow,-⟩:=hU.row (Q3 ks hh);have hfz:w.frozen? ⟨g,Xg s,none⟩=false:=hU.2.1.frozen _;have hl:(Vg ks (Xg s)).length≤8796093022000:=Nat.le_trans (Hc _ _) hk;have HU:=Za hU;have HUS:=Za hu
 have HMk:=Za (Cc ks s);have hh':(Xg s:Int) < 4096:=Om;have HR:=Za hrow;have HT:=Za hr;generalize Vg ks (Xg s)=R at *;generalize Xg s=H at *;clear hrow hu hU hr hul;have hne:u.v.ownBlock≠some g:=fun e=>HU.out.2.2.2.2 H u HUS.out g e rfl;have hx1:((w.alloc (.cells #[.string s] 9)).cell? ⟨g,H,none⟩)=some (.slice u.a u.n u.cap):=(World.cell?_alloc_lt w _ _ hgl).trans hcell;go_enter Tryz.func110,Tryz.ntmps110;go_wp2_with (first
  | (go_at_call 136;(with_reducible refine(HH.out _).mono ?_);rintro e w1 ⟨rfl,rfl⟩)
  | (at_builtin;refine UN Q5 9 Tryz.GJ rfl Tryz.underlying90 base _ R s (HR.out.alloc _) Om Om So rfl _ _ rfl rfl _ 0 1 rfl Zp ?_;intro v4 w4 hown4 hgr4 hat4;obtain⟨⟨a4,n4,c4⟩,rfl,-⟩:=hown4.YL;have hgb:=hgr4.block g So (fun e=>hne e.symm);have hx4:w4.cell? ⟨g,H,none⟩=some (.slice u.a u.n u.cap):=(QZ hgb H).trans hx1;have hf4:w4.frozen? ⟨g,H,none⟩=false:=(by unfold World.frozen?;rw[hgb,heap_alloc_old _ _ hgl]:w4.frozen? ⟨g,H,none⟩=w.frozen? ⟨g,H,none⟩).trans hfz;have hgl4:=Zb hx4;have O4:=Za hown4;have G4:=Za hgr4;have A4:=Za hat4;clear hown4 hgr4 hat4 hgb))
 have hU1:=HU.out.below (Ze w (.cells #[.string s] 9));have hN:=hU1.Vq HUS.out O4.out G4.out A4.out;rw[HMk.out]at hN;refine bodyPost_ret (v:=.tuple #[]) (by simp[results,Tryz.results110,go_sem]) rfl ⟨rfl,hN.own,?_⟩;obtain⟨a9,ha9⟩:=(HU.out.2.1.below (Ze w (.cells #[.string s] 9))).Xa (g:=g) rfl;have hgb4:=(G4.out.block g So (fun e=>hne e.symm)).trans ha9;exact((YS.alloc w _).trans (YS.grown (HR.out.alloc _) Dc (Nat.le_refl _) G4.out)).trans (YS.set hgb4 Dc hg1 _)
def KR (fa ff:Bool) (A:Nat) (f:Zt):Zt:=if ff=true then f else if fa=true then ⟨some ⟨A,0,none⟩,0,0⟩ else ⟨none,0,0⟩
def KS (ff:Bool) (l:List Int):List Int:=if ff=true then l else []
structure Qp (A0:World) (pc rg mm:List Int) (a1 f1 a2 f2 a3 f3 fo:Bool) (A B C:Nat) (f g h:Zt) (O:Nat) (W:World):Prop where
 out:Below A0.heap.size A0 W
 ln:Yp W A0.heap.size (KR a1 f1 A f) (KR a2 f2 B g) (KR a3 f3 C h) (KS f1 pc) (KS f2 rg) (KS f3 mm)
 i1:f1=true→a1=true
 i2:f2=true→a2=true
 i3:f3=true→a3=true
 ob:fo=true→W.heap[O]? = some (.cells #[.slice none 0 0,.slice none 0 0,.slice none 0 0,.slice none 0 0] 141 (0,0))∧A0.heap.size≤O
section
variable {A0 W w' : World} {pc rg mm : List Int} {a1 f1 a2 f2 a3 f3 fo : Bool} {A B C O : Nat} {f g h s' : Zt}
theorem Qp.start (hb:Below A0.heap.size A0 W):Qp A0 pc rg mm false false false false false false false A B C f g h O W:=⟨hb,Yp.nil _ _,fun e=>(nomatch e),fun e=>(nomatch e),fun e=>(nomatch e),fun e=>(nomatch e)⟩
theorem Qp.IG (hJ:Qp A0 pc rg mm a1 f1 a2 f2 a3 f3 fo A B C f g h O W) (hb:Below W.heap.size W w'):fo=true→w'.heap[O]? = some (.cells #[.slice none 0 0,.slice none 0 0,.slice none 0 0,.slice none 0 0] 141 (0,0))∧A0.heap.size≤O:=fun e =>
 ⟨(hb.block O (Array.getElem?_eq_some_iff.1 (hJ.ob e).1).1).trans (hJ.ob e).1,(hJ.ob e).2⟩
theorem Qp.L5 (hJ:Qp A0 pc rg mm a1 f1 a2 f2 a3 f3 fo A B C f g h O W) {c:Zt}{l:List Int}{base:Nat}(ho:Own Zo 3 W base c.v l) (hg:W.grownBy w' c.v.ownBlock):fo=true→w'.heap[O]? = some (.cells #[.slice none 0 0,.slice none 0 0,.slice none 0 0,.slice none 0 0] 141 (0,0))∧A0.heap.size≤O:=fun e=>by
 have h1:=(hJ.ob e).1;refine⟨(hg.block O (Array.getElem?_eq_some_iff.1 h1).1 fun q => ?_).trans h1,(hJ.ob e).2⟩;obtain⟨a,ha⟩:=ho.Xa q.symm;rw[h1]at ha;simp at ha
theorem Qp.I2 (hJ:Qp A0 pc rg mm a1 f1 a2 f2 a3 f3 fo A B C f g h O W) {c:Zt}{l:List Int}(ho:Own Zo 3 W A0.heap.size c.v l) (hg:W.grownBy w' c.v.ownBlock):Below A0.heap.size A0 w':=
 hJ.out.grown hg hJ.out.size fun q hq=>(World.ownsRow.lt ho q hq).1
theorem Qp.Ly (hJ:Qp A0 pc rg mm false f1 a2 f2 a3 f3 fo A B C f g h O W) (hB:A0.heap.size≤W.heap.size):Qp A0 pc rg mm true f1 a2 f2 a3 f3 fo W.heap.size B C f g h O (W.alloc (.cells #[] 3)):=by
 have hb:=(Below.refl W.heap.size W).alloc (Nat.le_refl _) (.cells #[] 3);cases hf:f1 with
 | true=>exact(nomatch hJ.i1 hf)
 | false =>
  subst hf;exact⟨hJ.out.alloc hB _,hJ.ln.Dy (c1':=⟨some ⟨W.heap.size,0,none⟩,0,0⟩) (Own.empty _ _ hB) (YF hb _) (.inr fun q hq=>by simp[Value.ownBlock]at hq;omega),fun e=>(nomatch e),hJ.i2,hJ.i3,hJ.IG hb⟩
theorem Qp.Iu (hJ:Qp A0 pc rg mm a1 f1 false f2 a3 f3 fo A B C f g h O W) (hB:A0.heap.size≤W.heap.size):Qp A0 pc rg mm a1 f1 true f2 a3 f3 fo A W.heap.size C f g h O (W.alloc (.cells #[] 3)):=by
 have hb:=(Below.refl W.heap.size W).alloc (Nat.le_refl _) (.cells #[] 3);cases hf:f2 with
 | true=>exact(nomatch hJ.i2 hf)
 | false =>
  subst hf;exact⟨hJ.out.alloc hB _,hJ.ln.FV (c2':=⟨some ⟨W.heap.size,0,none⟩,0,0⟩) (Own.empty _ _ hB) (YF hb _) (.inr fun q hq=>by simp[Value.ownBlock]at hq;omega),hJ.i1,fun e=>(nomatch e),hJ.i3,hJ.IG hb⟩
theorem Qp.Lz (hJ:Qp A0 pc rg mm a1 f1 a2 f2 false f3 fo A B C f g h O W) (hB:A0.heap.size≤W.heap.size):Qp A0 pc rg mm a1 f1 a2 f2 true f3 fo A B W.heap.size f g h O (W.alloc (.cells #[] 3)):=by
 have hb:=(Below.refl W.heap.size W).alloc (Nat.le_refl _) (.cells #[] 3);cases hf:f3 with
 | true=>exact(nomatch hJ.i3 hf)
 | false =>
  subst hf;exact⟨hJ.out.alloc hB _,hJ.ln.EI (c3':=⟨some ⟨W.heap.size,0,none⟩,0,0⟩) (Own.empty _ _ hB) (YF hb _) (.inr fun q hq=>by simp[Value.ownBlock]at hq;omega),hJ.i1,hJ.i2,fun e=>(nomatch e),hJ.IG hb⟩
theorem Qp.H9 (hJ:Qp A0 pc rg mm true false a2 f2 a3 f3 fo A B C f g h O W) (ho:Own Zo 3 w' A0.heap.size s'.v ([]++pc)) (hg:W.grownBy w' (Zt.v ⟨some ⟨A,0,none⟩,0,0⟩).ownBlock) (hat:s'.v.ownBlock=(Zt.v ⟨some ⟨A,0,none⟩,0,0⟩).ownBlock∨∀ q,s'.v.ownBlock=some q→W.heap.size≤q):Qp A0 pc rg mm true true a2 f2 a3 f3 fo A B C s' g h O w':=
 ⟨hJ.I2 hJ.ln.o1 hg,hJ.ln.Dy ho hg hat,fun _=>rfl,hJ.i2,hJ.i3,hJ.L5 hJ.ln.o1 hg⟩
theorem Qp.Bl (hJ:Qp A0 pc rg mm a1 f1 true false a3 f3 fo A B C f g h O W) (ho:Own Zo 3 w' A0.heap.size s'.v ([]++rg)) (hg:W.grownBy w' (Zt.v ⟨some ⟨B,0,none⟩,0,0⟩).ownBlock) (hat:s'.v.ownBlock=(Zt.v ⟨some ⟨B,0,none⟩,0,0⟩).ownBlock∨∀ q,s'.v.ownBlock=some q→W.heap.size≤q):Qp A0 pc rg mm a1 f1 true true a3 f3 fo A B C f s' h O w':=
 ⟨hJ.I2 hJ.ln.o2 hg,hJ.ln.FV ho hg hat,hJ.i1,fun _=>rfl,hJ.i3,hJ.L5 hJ.ln.o2 hg⟩
theorem Qp.Lu (hJ:Qp A0 pc rg mm a1 f1 a2 f2 true false fo A B C f g h O W) (ho:Own Zo 3 w' A0.heap.size s'.v ([]++mm)) (hg:W.grownBy w' (Zt.v ⟨some ⟨C,0,none⟩,0,0⟩).ownBlock) (hat:s'.v.ownBlock=(Zt.v ⟨some ⟨C,0,none⟩,0,0⟩).ownBlock∨∀ q,s'.v.ownBlock=some q→W.heap.size≤q):Qp A0 pc rg mm a1 f1 a2 f2 true true fo A B C f g s' O w':=
 ⟨hJ.I2 hJ.ln.o3 hg,hJ.ln.EI ho hg hat,hJ.i1,hJ.i2,fun _=>rfl,hJ.L5 hJ.ln.o3 hg⟩
theorem Qp.obj (hJ:Qp A0 pc rg mm a1 f1 a2 f2 a3 f3 false A B C f g h O W):Qp A0 pc rg mm a1 f1 a2 f2 a3 f3 true A B C f g h W.heap.size (W.alloc (.cells #[.slice none 0 0,.slice none 0 0,.slice none 0 0,.slice none 0 0] 141)):=
 ⟨hJ.out.alloc hJ.out.size _,hJ.ln.below ((Below.refl _ _).alloc (Nat.le_refl _) _),hJ.i1,hJ.i2,hJ.i3,fun _=>⟨heap_alloc_new W _,hJ.out.size⟩⟩
end
theorem Bn {w w':World}{l:Array Value}{T:TypeId}{n c:Nat}(hg:(w.alloc (.cells l T)).drew.grownBy w' (Zt.v ⟨some ⟨w.heap.size,0,none⟩,n,c⟩).ownBlock):Below w.heap.size w w':=
 ((Below.refl w.heap.size w).alloc (Nat.le_refl _) (.cells l T)).drew.grown hg Sm (fun q hq=>by simp[Value.ownBlock]at hq;omega)
structure Ln (w:World) (B O m:Nat) (vs:List Value) (x:SV) (s:St) (k:Nat):Prop where
 bx:w.heap[B]? = some (.cells vs.toArray 141 (0,0))
 br:w.heap[B+1]? = some (.cells #[.slice none 0 0,.slice none 0 0,.slice none 0 0,.slice none 0 0] 141 (0,0))
 bo:w.heap[O]? = some (.cells #[.slice x.p.a x.p.n x.p.cap,.slice x.r.a x.r.n x.r.cap,.slice x.m.a x.m.n x.m.cap,.slice x.b.a x.b.n x.b.cap] 141 (0,0))
 ln:Yp w B x.p x.r x.m s.pc s.rg s.mm
 bf:ZG Zo 66 3 w m x.b.v (s.bf.take k)
 p1:∀ q,x.p.v.ownBlock=some q→q < m
 p2:∀ q,x.r.v.ownBlock=some q→q < m
 p3:∀ q,x.m.v.ownBlock=some q→q < m
 lO:O < m
 lB:B+1 < O
 lm:m≤w.heap.size
 zz:True
theorem YG (x:SV) (s:St) (w:World) (hx:ZB w x s) (h1:s.pc.length≤1048576) (h2:s.rg.length≤1048576) (h3:s.mm.length≤1048576) (h4:s.bf.length≤1048576) (h5:∀ o∈s.bf,o.length≤1048576) :
 Calls Tryz.prog 137 #[.agg #[.slice x.p.a x.p.n x.p.cap,.slice x.r.a x.r.n x.r.cap,.slice x.m.a x.m.n x.m.cap,.slice x.b.a x.b.n x.b.cap]] w (Xt w s):=by
 obtain⟨⟨pa,pn,pk⟩,⟨ra,rn,rk⟩,⟨ma,mn,mk⟩,⟨ba,bn,bk⟩⟩:=x;have HX:=Za hx;obtain⟨ba',bc',hv,-,-,-,-⟩:=hx.bf.open;simp only[Zt.v,Value.slice.injEq]at hv;obtain⟨rfl,hbn,rfl⟩:=hv;have HBN:=Za hbn;have hbn4:bn≤1048576:=by rw[hbn];exact h4
 clear hx;have HB0:=Za (((Below.refl w.heap.size w).alloc (Nat.le_refl _) (.cells #[.slice pa pn pk,.slice ra rn rk,.slice ma mn mk,.slice ba bn bk] 141)).alloc Sm (.cells #[.slice none 0 0,.slice none 0 0,.slice none 0 0,.slice none 0 0] 141));obtain⟨A0,hA0⟩:∃ A0,A0=(w.alloc (.cells #[.slice pa pn pk,.slice ra rn rk,.slice ma mn mk,.slice ba bn bk] 141)).alloc (.cells #[.slice none 0 0,.slice none 0 0,.slice none 0 0,.slice none 0 0] 141):=⟨_,rfl⟩
 have hz:A0.heap.size=w.heap.size+2:=by rw[hA0];simp
 have HX2:Hid (A0.heap[w.heap.size]? = some (.cells #[.slice pa pn pk,.slice ra rn rk,.slice ma mn mk,.slice ba bn bk] 141 (0,0))):=Za (by
  rw[hA0,heap_alloc_old _ _ Sm];exact heap_alloc_new w _)
 have HR2:Hid (A0.heap[w.heap.size+1]? = some (.cells #[.slice none 0 0,.slice none 0 0,.slice none 0 0,.slice none 0 0] 141 (0,0))):=Za (by
  have h:=heap_alloc_new (w.alloc (.cells #[.slice pa pn pk,.slice ra rn rk,.slice ma mn mk,.slice ba bn bk] 141)) (.cells #[.slice none 0 0,.slice none 0 0,.slice none 0 0,.slice none 0 0] 141);rw[hA0];simpa using h)
 have HB:Hid (Below w.heap.size w A0):=Za (by rw[hA0];exact HB0.out);clear HB0;have HA0:=Za hA0;clear hA0 hbn;go_enter Tryz.func137,Tryz.ntmps137;go_wp2_with fail;rw[← HA0.out]
 -- ZQ copy
 refine Zl (n:=14) Kr rfl Kr Kr (fun A ls a' W => ∃ (ga:Nat) (gb:Nat) (gc:Nat) (f:Zt) (g:Zt) (h:Zt) (O:Nat) (x5 x6 x7 x8 x9 x10 x11 x12 x13 x14 x15 x16 x17 x3:Value),a'=Zk A [(5,x5),(6,x6),(7,x7),(8,x8),(9,x9),(10,x10),(11,x11),(12,x12),(13,x13),(14,x14),(15,x15),(16,x16),(17,x17),(3,x3)]∧Vd ls 0 [] x5 (.slice (some ⟨ga,0,none⟩) 0 0)∧Vd ls 1 [] x6 (.pointer (some ⟨w.heap.size,0,none⟩))∧Vd ls 2 [] x7 (.slice pa pn pk)∧Vd ls 3 [0] x8 (.slice f.a f.n f.cap)∧Vd ls 4 [] x9 (.slice (some ⟨gb,0,none⟩) 0 0)∧Vd ls 5 [] x10 (.pointer (some ⟨w.heap.size,1,none⟩))∧Vd ls 6 [] x11 (.slice ra rn rk)∧Vd ls 7 [4] x12 (.slice g.a g.n g.cap)∧Vd ls 8 [] x13 (.slice (some ⟨gc,0,none⟩) 0 0)∧Vd ls 9 [] x14 (.pointer (some ⟨w.heap.size,2,none⟩))∧Vd ls 10 [] x15 (.slice ma mn mk)∧Vd ls 11 [8] x16 (.slice h.a h.n h.cap)∧Vd ls 12 [0,3,4,7,8,11] x17 (.agg #[.slice f.a f.n f.cap,.slice g.a g.n g.cap,.slice h.a h.n h.cap,.slice none 0 0])∧Vd ls 13 [] x3 (.pointer (some ⟨O,0,none⟩))∧Qp A0 s.pc s.rg s.mm (fl ls 0) (fl ls 3) (fl ls 4) (fl ls 7) (fl ls 8) (fl ls 11) (fl ls 13) ga gb gc f g h O W) ?r0 ?rs ?re
 case r0 =>
  exact⟨0,0,0,⟨none,0,0⟩,⟨none,0,0⟩,⟨none,0,0⟩,0,undef,undef,undef,undef,undef,undef,undef,undef,undef,undef,undef,undef,undef,undef,pA,Vs,Vs,Vs,Vs,Vs,Vs,Vs,Vs,Vs,Vs,Vs,Vs,Vs,Vs,by simp only[Ye];exact Qp.start (hz ▸ (Below.refl _ _).drew)⟩
 case rs =>
  rintro ls a' W hs hnl ⟨ga,gb,gc,f,g,h,O,x5,x6,x7,x8,x9,x10,x11,x12,x13,x14,x15,x16,x17,x3,ha,cv0,cv1,cv2,cv3,cv4,cv5,cv6,cv7,cv8,cv9,cv10,cv11,cv12,cv13,hJ⟩ k o hkn mc K hK;simp only[Zk,Act.put,List.setIfInBounds_toArray,List.set_cons_succ,List.set_cons_zero]at ha;subst ha;have hkc:k=0∨k=1∨k=2∨k=3∨k=4∨k=5∨k=6∨k=7∨k=8∨k=9∨k=10∨k=11∨k=12∨k=13:=Om;have hop:=mc.op;have haf:=mc.after;rcases hkc with rfl | rfl | rfl | rfl | rfl | rfl | rfl | rfl | rfl | rfl | rfl | rfl | rfl | rfl
  ·simp at hop;subst hop;simp[Region.binds]at haf
   have f0:=ZV mc.new;rw[f0]at hJ;go_simp;exact hK _ _ ⟨W.heap.size,gb,gc,f,g,h,O,_,_,_,_,_,_,_,_,_,_,_,_,_,_,pA,Ve,cv1.s,cv2.s,cv3.void Dc Dc mc.new,cv4.s,cv5.s,cv6.s,cv7.s,cv8.s,cv9.s,cv10.s,cv11.s,cv12.void Dc Dc mc.new,cv13.s,by rw[ZD hs Dc,fs 0 3,fs 0 4,fs 0 7,fs 0 8,fs 0 11,fs 0 13];exact hJ.Ly hJ.out.size⟩
  ·simp at hop;subst hop;simp[Region.binds]at haf
   go_simp;exact hK _ _ ⟨ga,gb,gc,f,g,h,O,_,_,_,_,_,_,_,_,_,_,_,_,_,_,pA,cv0.s,Ve,cv2.s,cv3.s,cv4.s,cv5.s,cv6.s,cv7.s,cv8.s,cv9.s,cv10.s,cv11.s,cv12.s,cv13.s,by rw[fs 1 0,fs 1 3,fs 1 4,fs 1 7,fs 1 8,fs 1 11,fs 1 13];exact hJ⟩
  ·simp at hop;subst hop;simp[Region.binds]at haf
   obtain rfl:=(cv1.get (by simp[haf])).symm;have hbk:=(hJ.out.block w.heap.size Om).trans HX2.out;have d0:W.cell? ⟨w.heap.size,0,none⟩=some (.slice pa pn pk):=Zc hbk (k:=0) rfl;have d1:W.cell? ⟨w.heap.size,1,none⟩=some (.slice ra rn rk):=Zc hbk (k:=1) rfl;have d2:W.cell? ⟨w.heap.size,2,none⟩=some (.slice ma mn mk):=Zc hbk (k:=2) rfl;have dl:=Zb d0;go_simp;exact hK _ _ ⟨ga,gb,gc,f,g,h,O,_,_,_,_,_,_,_,_,_,_,_,_,_,_,pA,cv0.s,cv1.s,Ve,cv3.s,cv4.s,cv5.s,cv6.s,cv7.s,cv8.s,cv9.s,cv10.s,cv11.s,cv12.s,cv13.s,by rw[fs 2 0,fs 2 3,fs 2 4,fs 2 7,fs 2 8,fs 2 11,fs 2 13];exact hJ⟩
  ·simp at hop;subst hop;simp[Region.binds]at haf
   obtain rfl:=(cv0.get (by simp[haf])).symm;obtain rfl:=(cv2.get (by simp[haf])).symm;have f3:=ZV mc.new;rw[f3]at hJ;have f0:=Zz (show ls[0]? = some true by simp[haf]);rw[f0]at hJ;refine ZT Zo 3 Tryz.Yb rfl Tryz.underlying66 A0.heap.size ⟨some ⟨ga,0,none⟩,0,0⟩ [] s.pc _ (by have h:=hJ.ln.o1;simpa[KR,KS] using h) ((HX.out.pc.below HB.out).below (hz ▸ hJ.out)) Dc So (by have:=hJ.out.size;omega) Rf _ _ Rf Rf Rf ?_;intro s6 w6 hown6 hgr6 hat6;exact hK _ _ ⟨ga,gb,gc,s6,g,h,O,_,_,_,_,_,_,_,_,_,_,_,_,_,_,pA,cv0.s,cv1.s,cv2.s,Vd.same (by simp[haf]),cv4.s,cv5.s,cv6.s,cv7.s,cv8.s,cv9.s,cv10.s,cv11.s,cv12.void Dc Dc mc.new,cv13.s,by rw[fs 3 0,ZD hs Dc,fs 3 4,fs 3 7,fs 3 8,fs 3 11,fs 3 13,f0];exact hJ.H9 hown6 hgr6 hat6⟩
  ·simp at hop;subst hop;simp[Region.binds]at haf
   have f4:=ZV mc.new;rw[f4]at hJ;go_simp;exact hK _ _ ⟨ga,W.heap.size,gc,f,g,h,O,_,_,_,_,_,_,_,_,_,_,_,_,_,_,pA,cv0.s,cv1.s,cv2.s,cv3.s,Ve,cv5.s,cv6.s,cv7.void Dc Dc mc.new,cv8.s,cv9.s,cv10.s,cv11.s,cv12.void Dc Dc mc.new,cv13.s,by rw[fs 4 0,fs 4 3,ZD hs Dc,fs 4 7,fs 4 8,fs 4 11,fs 4 13];exact hJ.Iu hJ.out.size⟩
  ·simp at hop;subst hop;simp[Region.binds]at haf
   go_simp;exact hK _ _ ⟨ga,gb,gc,f,g,h,O,_,_,_,_,_,_,_,_,_,_,_,_,_,_,pA,cv0.s,cv1.s,cv2.s,cv3.s,cv4.s,Ve,cv6.s,cv7.s,cv8.s,cv9.s,cv10.s,cv11.s,cv12.s,cv13.s,by rw[fs 5 0,fs 5 3,fs 5 4,fs 5 7,fs 5 8,fs 5 11,fs 5 13];exact hJ⟩
  ·simp at hop;subst hop;simp[Region.binds]at haf
   obtain rfl:=(cv5.get (by simp[haf])).symm;have hbk:=(hJ.out.block w.heap.size Om).trans HX2.out;have d0:W.cell? ⟨w.heap.size,0,none⟩=some (.slice pa pn pk):=Zc hbk (k:=0) rfl;have d1:W.cell? ⟨w.heap.size,1,none⟩=some (.slice ra rn rk):=Zc hbk (k:=1) rfl;have d2:W.cell? ⟨w.heap.size,2,none⟩=some (.slice ma mn mk):=Zc hbk (k:=2) rfl;have dl:=Zb d0;go_simp;exact hK _ _ ⟨ga,gb,gc,f,g,h,O,_,_,_,_,_,_,_,_,_,_,_,_,_,_,pA,cv0.s,cv1.s,cv2.s,cv3.s,cv4.s,cv5.s,Ve,cv7.s,cv8.s,cv9.s,cv10.s,cv11.s,cv12.s,cv13.s,by rw[fs 6 0,fs 6 3,fs 6 4,fs 6 7,fs 6 8,fs 6 11,fs 6 13];exact hJ⟩
  ·simp at hop;subst hop;simp[Region.binds]at haf
   obtain rfl:=(cv4.get (by simp[haf])).symm;obtain rfl:=(cv6.get (by simp[haf])).symm;have f7:=ZV mc.new;rw[f7]at hJ;have f4:=Zz (show ls[4]? = some true by simp[haf]);rw[f4]at hJ;refine ZT Zo 3 Tryz.Yb rfl Tryz.underlying66 A0.heap.size ⟨some ⟨gb,0,none⟩,0,0⟩ [] s.rg _ (by have h:=hJ.ln.o2;simpa[KR,KS] using h) ((HX.out.rg.below HB.out).below (hz ▸ hJ.out)) Dc So (by have:=hJ.out.size;omega) Rf _ _ Rf Rf Rf ?_;intro s6 w6 hown6 hgr6 hat6;exact hK _ _ ⟨ga,gb,gc,f,s6,h,O,_,_,_,_,_,_,_,_,_,_,_,_,_,_,pA,cv0.s,cv1.s,cv2.s,cv3.s,cv4.s,cv5.s,cv6.s,Vd.same (by simp[haf]),cv8.s,cv9.s,cv10.s,cv11.s,cv12.void Dc Dc mc.new,cv13.s,by rw[fs 7 0,fs 7 3,fs 7 4,ZD hs Dc,fs 7 8,fs 7 11,fs 7 13,f4];exact hJ.Bl hown6 hgr6 hat6⟩
  ·simp at hop;subst hop;simp[Region.binds]at haf
   have f8:=ZV mc.new;rw[f8]at hJ;go_simp;exact hK _ _ ⟨ga,gb,W.heap.size,f,g,h,O,_,_,_,_,_,_,_,_,_,_,_,_,_,_,pA,cv0.s,cv1.s,cv2.s,cv3.s,cv4.s,cv5.s,cv6.s,cv7.s,Ve,cv9.s,cv10.s,cv11.void Dc Dc mc.new,cv12.void Dc Dc mc.new,cv13.s,by rw[fs 8 0,fs 8 3,fs 8 4,fs 8 7,ZD hs Dc,fs 8 11,fs 8 13];exact hJ.Lz hJ.out.size⟩
  ·simp at hop;subst hop;simp[Region.binds]at haf
   go_simp;exact hK _ _ ⟨ga,gb,gc,f,g,h,O,_,_,_,_,_,_,_,_,_,_,_,_,_,_,pA,cv0.s,cv1.s,cv2.s,cv3.s,cv4.s,cv5.s,cv6.s,cv7.s,cv8.s,Ve,cv10.s,cv11.s,cv12.s,cv13.s,by rw[fs 9 0,fs 9 3,fs 9 4,fs 9 7,fs 9 8,fs 9 11,fs 9 13];exact hJ⟩
  ·simp at hop;subst hop;simp[Region.binds]at haf
   obtain rfl:=(cv9.get (by simp[haf])).symm;have hbk:=(hJ.out.block w.heap.size Om).trans HX2.out;have d0:W.cell? ⟨w.heap.size,0,none⟩=some (.slice pa pn pk):=Zc hbk (k:=0) rfl;have d1:W.cell? ⟨w.heap.size,1,none⟩=some (.slice ra rn rk):=Zc hbk (k:=1) rfl;have d2:W.cell? ⟨w.heap.size,2,none⟩=some (.slice ma mn mk):=Zc hbk (k:=2) rfl;have dl:=Zb d0;go_simp;exact hK _ _ ⟨ga,gb,gc,f,g,h,O,_,_,_,_,_,_,_,_,_,_,_,_,_,_,pA,cv0.s,cv1.s,cv2.s,cv3.s,cv4.s,cv5.s,cv6.s,cv7.s,cv8.s,cv9.s,Ve,cv11.s,cv12.s,cv13.s,by rw[fs 10 0,fs 10 3,fs 10 4,fs 10 7,fs 10 8,fs 10 11,fs 10 13];exact hJ⟩
  ·simp at hop;subst hop;simp[Region.binds]at haf
   obtain rfl:=(cv8.get (by simp[haf])).symm;obtain rfl:=(cv10.get (by simp[haf])).symm;have f11:=ZV mc.new;rw[f11]at hJ;have f8:=Zz (show ls[8]? = some true by simp[haf]);rw[f8]at hJ;refine ZT Zo 3 Tryz.Yb rfl Tryz.underlying66 A0.heap.size ⟨some ⟨gc,0,none⟩,0,0⟩ [] s.mm _ (by have h:=hJ.ln.o3;simpa[KR,KS] using h) ((HX.out.mm.below HB.out).below (hz ▸ hJ.out)) Dc So (by have:=hJ.out.size;omega) Rf _ _ Rf Rf Rf ?_;intro s6 w6 hown6 hgr6 hat6;exact hK _ _ ⟨ga,gb,gc,f,g,s6,O,_,_,_,_,_,_,_,_,_,_,_,_,_,_,pA,cv0.s,cv1.s,cv2.s,cv3.s,cv4.s,cv5.s,cv6.s,cv7.s,cv8.s,cv9.s,cv10.s,Vd.same (by simp[haf]),cv12.void Dc Dc mc.new,cv13.s,by rw[fs 11 0,fs 11 3,fs 11 4,fs 11 7,fs 11 8,ZD hs Dc,fs 11 13,f8];exact hJ.Lu hown6 hgr6 hat6⟩
  ·simp at hop;subst hop;simp[Region.binds]at haf
   have q3:=(cv3 (by simp[haf])).1;simp at q3;have q7:=(cv7 (by simp[haf])).1;simp at q7;have q11:=(cv11 (by simp[haf])).1;simp at q11;obtain rfl:=(cv3.get (by simp[haf])).symm;obtain rfl:=(cv7.get (by simp[haf])).symm;obtain rfl:=(cv11.get (by simp[haf])).symm;go_simp;exact hK _ _ ⟨ga,gb,gc,f,g,h,O,_,_,_,_,_,_,_,_,_,_,_,_,_,_,pA,cv0.s,cv1.s,cv2.s,cv3.s,cv4.s,cv5.s,cv6.s,cv7.s,cv8.s,cv9.s,cv10.s,cv11.s,Vd.same (by simp[haf,q3,q7,q11]),cv13.s,by rw[fs 12 0,fs 12 3,fs 12 4,fs 12 7,fs 12 8,fs 12 11,fs 12 13];exact hJ⟩
  ·simp at hop;subst hop;simp[Region.binds]at haf
   have f13:=ZV mc.new;rw[f13]at hJ;go_simp;exact hK _ _ ⟨ga,gb,gc,f,g,h,W.heap.size,_,_,_,_,_,_,_,_,_,_,_,_,_,_,pA,cv0.s,cv1.s,cv2.s,cv3.s,cv4.s,cv5.s,cv6.s,cv7.s,cv8.s,cv9.s,cv10.s,cv11.s,cv12.s,Ve,by rw[fs 13 0,fs 13 3,fs 13 4,fs 13 7,fs 13 8,fs 13 11,ZD hs Dc];exact hJ.obj⟩
 case re =>
  rintro ls a' W hall ⟨ga,gb,gc,f,g,h,O,x5,x6,x7,x8,x9,x10,x11,x12,x13,x14,x15,x16,x17,x3,ha,cv0,cv1,cv2,cv3,cv4,cv5,cv6,cv7,cv8,cv9,cv10,cv11,cv12,cv13,hJ⟩ o hop;simp only[Zk,Act.put,List.setIfInBounds_toArray,List.set_cons_succ,List.set_cons_zero]at ha;subst ha;simp at hop;subst hop;obtain rfl:=cv0.ga hall;obtain rfl:=cv1.ga hall;obtain rfl:=cv2.ga hall;obtain rfl:=cv3.ga hall;obtain rfl:=cv4.ga hall;obtain rfl:=cv5.ga hall;obtain rfl:=cv6.ga hall;obtain rfl:=cv7.ga hall;obtain rfl:=cv8.ga hall;obtain rfl:=cv9.ga hall;obtain rfl:=cv10.ga hall;obtain rfl:=cv11.ga hall;obtain rfl:=cv12.ga hall;obtain rfl:=cv13.ga hall;rw[Zz (hall 0 Dc)]at hJ;rw[Zz (hall 3 Dc)]at hJ;rw[Zz (hall 4 Dc)]at hJ;rw[Zz (hall 7 Dc)]at hJ;rw[Zz (hall 8 Dc)]at hJ;rw[Zz (hall 11 Dc)]at hJ;rw[Zz (hall 13 Dc)]at hJ;obtain⟨hbo,hbB⟩:=hJ.ob rfl;have hln:=hJ.ln;simp only[KR,KS,if_true]at hln;have hbk:=(hJ.out.block w.heap.size Om).trans HX2.out
  have hbr:=(hJ.out.block (w.heap.size+1) Om).trans HR2.out;have d3:W.cell? ⟨w.heap.size,3,none⟩=some (.slice ba bn bk):=Zc hbk (k:=3) rfl;have dl:=Zb d3;have hne1:w.heap.size≠O:=Om;have c0:W.cell? ⟨O,0,none⟩=some (.slice none 0 0):=Zc hbo (k:=0) rfl;have c1:W.cell? ⟨O,1,none⟩=some (.slice none 0 0):=Zc hbo (k:=1) rfl;have c2:W.cell? ⟨O,2,none⟩=some (.slice none 0 0):=Zc hbo (k:=2) rfl;have c3:W.cell? ⟨O,3,none⟩=some (.slice none 0 0):=Zc hbo (k:=3) rfl;have cfz:=Z6 hbo;have cl:=Zb c0;go_simp;have hb0:=heap_setCell_same W O 0 _ _ (.slice f.a f.n f.cap) hbo;have hb1:=heap_setCell_same (W.setCell ⟨O,0,none⟩ (.slice f.a f.n f.cap)) O 1 _ _ (.slice g.a g.n g.cap) hb0;have hb2:=heap_setCell_same ((W.setCell ⟨O,0,none⟩ (.slice f.a f.n f.cap)).setCell ⟨O,1,none⟩ (.slice g.a g.n g.cap)) O 2 _ _ (.slice h.a h.n h.cap) hb1;have hb3:=heap_setCell_same (((W.setCell ⟨O,0,none⟩ (.slice f.a f.n f.cap)).setCell ⟨O,1,none⟩ (.slice g.a g.n g.cap)).setCell ⟨O,2,none⟩ (.slice h.a h.n h.cap)) O 3 _ _ (.slice none 0 0) hb2
  have hl3:=(((hln.Zy (j:=0) (u:=.slice f.a f.n f.cap) Dc hbo).Zy (j:=1) (u:=.slice g.a g.n g.cap) Dc hb0).Zy (j:=2) (u:=.slice h.a h.n h.cap) Dc hb1).Zy (j:=3) (u:=.slice none 0 0) Dc hb2;have hO:=(((hJ.out.setCell (p:=⟨O,0,none⟩) hbB (.slice f.a f.n f.cap)).setCell (p:=⟨O,1,none⟩) hbB (.slice g.a g.n g.cap)).setCell (p:=⟨O,2,none⟩) hbB (.slice h.a h.n h.cap)).setCell (p:=⟨O,3,none⟩) hbB (.slice none 0 0);have HO:=Za hO;have HL3:=Za hl3;have HB3:=Za hb3;have HBO:=Za hbB
  have HWS:Hid (W.heap.size=W.heap.size):=Za rfl;have HC0:=Za (Ln.mk (x:=⟨f,g,h,⟨none,0,0⟩⟩) (m:=W.heap.size) (B:=w.heap.size) (k:=0) (s:=s) ((hO.block w.heap.size Om).trans HX2.out) ((hO.block (w.heap.size+1) Om).trans HR2.out) hb3 (hl3.mono Om) (ZG.nil _ _ _ _) (fun q hq=>(World.ownsRow.lt hln.o1 q hq).2) (fun q hq=>(World.ownsRow.lt hln.o2 q hq).2) (fun q hq=>(World.ownsRow.lt hln.o3 q hq).2) Om Om Sm trivial);have HB9:=Za (HB.out.trans (hO.mono HB.out.size));clear hb0 hb1 hb2 hb3 hl3 hO hbB hJ hln hbk hbr c0 c1 c2 c3 cfz cl hbo;go_wp2_with fail;clear d3 dl hne1
  go_loopw [4] (fun i wr => ∃ k:Nat,k≤bn∧i = .int .i64 k∧(∃ sv:Zt,Ln wr w.heap.size O W.heap.size [.slice pa pn pk,.slice ra rn rk,.slice ma mn mk,.slice ba bn bk] ⟨f,g,h,sv⟩ s k)∧Below w.heap.size w wr) (fun i _=>bn - (intOf i).toNat)
  case atStart=>exact⟨0,Nat.zero_le _,rfl,⟨_,HC0.out⟩,HB9.out⟩
  case round =>
   obtain⟨k,hk,rfl,⟨⟨sa,sn,sc⟩,hc⟩,hbr⟩:=hrel;have x3:wr.cell? ⟨w.heap.size,3,none⟩=some (.slice ba bn bk):=Zc hc.bx (k:=3) rfl;have o3:wr.cell? ⟨O,3,none⟩=some (.slice sa sn sc):=Zc hc.bo (k:=3) rfl;have ofz:=Z6 hc.bo;have xl:=Zb x3;have ol:=Zb o3;by_cases hlt:k < bn
   ·obtain⟨r,hrk⟩:=Zd (xs:=s.bf) (k:=k) (by rw[← HBN.out];exact hlt)
    have hltk:=Zh hlt;obtain⟨b2,o2,qa,qc,rfl,hbl2,q0,q1⟩:=(show Yv Zo w (.slice ba bn bk) s.bf from HX.out.bf).row hrk;have q0:=(hbr.cell (p:=⟨b2,o2+k,none⟩) hbl2).trans q0;have hbl2':=Nat.lt_of_lt_of_le hbl2 hbr.size;have RS:Hid (s.bf.take (k+1)=s.bf.take k++[r]):=Za (by rw[List.take_add_one,hrk];rfl);have hn1:([]:List Int).length+r.length≤68719476736:=by have:=h5 r (List.mem_of_getElem? hrk);simp;omega
    have HRP:=Za ((q1.below hbr).below ((Below.refl wr.heap.size wr).alloc (Nat.le_refl _) (.cells #[] 3)).drew);have HLT:Hid (Own Zo 3 (wr.alloc (.cells #[] 3)).drew wr.heap.size (.slice (some ⟨wr.heap.size,0,none⟩) 0 0) []):=Za (Own.empty (E:=Zo) 3 wr (Nat.le_refl _));have hlen:(s.bf.take k).length≤68719476736:=by rw[List.length_take];omega
    have HC:=Za hc;obtain⟨us,hU,-⟩:=hc.bf.told;have HU:=Za hU;have HUL:Hid (us.length≤68719476736):=Za (by rw[hU.1];exact hlen);have HBR:=Za hbr;have hbs:w.heap.size≤wr.heap.size:=hbr.size;have hm:=hc.lm;have hlO:=hc.lO;have hlB:=hc.lB;have HBN2:=HBN;clear HBN;clear hrk q1 hlen hU hbr hc;go_wp2_with fail
    go_region_law (first
     | (refine ZT Zo 3 Tryz.Yb rfl Tryz.underlying66 wr.heap.size ⟨some ⟨wr.heap.size,0,none⟩,0,0⟩ [] r _ HLT.out HRP.out Dc hn1 Sm Rf _ _ Rf Rf Rf ?_;rintro ⟨a6,n6,c6⟩ w6 hown6 hgr6 -;have O6:=Za hown6;have B6:=Za (Bn hgr6);have hk6:(∀ o,w6.cell? ⟨O,o,none⟩=wr.cell? ⟨O,o,none⟩):=(fun o=>B6.out.cell (p:=⟨O,o,none⟩) ol);have hb6:=B6.out.size;have ol6:O < w6.heap.size:=(Nat.lt_of_lt_of_le ol hb6);clear hown6 hgr6)
     | (refine Fb Zw 66 Tryz.Yl rfl Tryz.underlying46 W.heap.size _ us ⟨a6,n6,c6⟩ ((HU.out.2.1.below B6.out).alloc _) Dc HUL.out So Rf _ _ Rf Rf w6.heap.size 0 1 Rf Zp ?_;intro v8 w8 hown8 hgr8;obtain⟨⟨a8,n8,c8⟩,rfl,-⟩:=hown8.YL;have K8:=(YS.Zf (L:=[66]) (B:=0) (B6.out.alloc hb6 (.cells #[.slice a6 n6 c6] 66))).trans (YS.grown ((HU.out.2.1.below B6.out).alloc _) Dc (Nat.zero_le _) hgr8);have bo8:=K8.same HC.out.bo Dc;have o8:w8.cell? ⟨O,3,none⟩=some (.slice sa sn sc):=Zc bo8 (k:=3) rfl;have ofz8:=Z6 bo8;have ol8:=Zb o8))
    all_goals
     have R8:=Yt.app Dc HU.out (B6.out.alloc hb6 (.cells #[.slice a6 n6 c6] 66)) hm (O6.out.alloc _) hown8 hgr8;rw[List.nil_append,← RS.out]at R8;have B8:=(HBR.out.trans (B6.out.mono hbs)).alloc Om (.cells #[.slice a6 n6 c6] 66);have B9:=B8.grown hgr8 So (fun q hq=>by have:=(World.ownsRow.lt HU.out.2.1 q hq).1;omega);have bx8:=K8.same HC.out.bx Dc;have br8:=K8.same HC.out.br Dc;have C9:Ln (w8.setCell ⟨O,3,none⟩ (.slice a8 n8 c8)) w.heap.size O W.heap.size [.slice pa pn pk,.slice ra rn rk,.slice ma mn mk,.slice (some ⟨b2,o2,none⟩) bn bk] ⟨f,g,h,⟨a8,n8,c8⟩⟩ s (k+1):=
      ⟨(heap_setCell_other w8 ⟨O,3,none⟩ _ _ (show w.heap.size≠O by omega)).trans bx8,(heap_setCell_other w8 ⟨O,3,none⟩ _ _ (show w.heap.size+1≠O by omega)).trans br8,heap_setCell_same w8 O 3 _ _ _ bo8,
       (HC.out.ln.kp K8 Dc).Zy Dc bo8,R8.Zy Dc Dc bo8,HC.out.p1,HC.out.p2,HC.out.p3,hlO,hlB,by have:=K8.size;simp;omega,trivial⟩
     have HC9:=Za C9;have HB10:=Za (B9.setCell (p:=⟨O,3,none⟩) (show w.heap.size≤O by omega) (.slice a8 n8 c8));clear C9 R8 B8 B9 bx8 br8 K8 bo8;go_wp2_with fail;go_roundw
     case rel=>exact⟨k+1,Om,Gn,⟨⟨a8,n8,c8⟩,HC9.out⟩,HB10.out⟩
     case measure=>simp[intOf];omega
   ·obtain rfl:k=bn:=Om
    have o0:wr.cell? ⟨O,0,none⟩=some (.slice f.a f.n f.cap):=Zc hc.bo (k:=0) rfl;have o1:wr.cell? ⟨O,1,none⟩=some (.slice g.a g.n g.cap):=Zc hc.bo (k:=1) rfl;have o2:wr.cell? ⟨O,2,none⟩=some (.slice h.a h.n h.cap):=Zc hc.bo (k:=2) rfl;have r0:wr.cell? ⟨w.heap.size+1,0,none⟩=some (.slice none 0 0):=Zc hc.br (k:=0) rfl;have r1:wr.cell? ⟨w.heap.size+1,1,none⟩=some (.slice none 0 0):=Zc hc.br (k:=1) rfl;have r2:wr.cell? ⟨w.heap.size+1,2,none⟩=some (.slice none 0 0):=Zc hc.br (k:=2) rfl;have r3:wr.cell? ⟨w.heap.size+1,3,none⟩=some (.slice none 0 0):=Zc hc.br (k:=3) rfl;have rfz:=Z6 hc.br;have rl:=Zb r0;have HC:=Za hc;have hE:s.bf.take k=s.bf:=List.take_of_length_le (by rw[← HBN.out];exact Nat.le_refl _);have HE:=Za hE;have HBR:=Za hbr;clear hc hE hbr;go_wp2_with fail;have hS:Y0 wr w.heap.size W.heap.size ⟨f,g,h,⟨sa,sn,sc⟩⟩ s:=⟨HC.out.ln,by have q:=HC.out.bf;rw[HE.out]at q;exact q,HC.out.p1,HC.out.p2,HC.out.p3,by have:=HC.out.lB;have:=HC.out.lO;omega,HC.out.lm⟩
    have t0:Ry 141 wr (w.heap.size+1):=⟨_,HC.out.br⟩
    refine bodyPost_ret (v:=.agg #[.slice f.a f.n f.cap,.slice g.a g.n g.cap,.slice h.a h.n h.cap,.slice sa sn sc]) (by simp[results,Tryz.results137,go_sem, *]) rfl ⟨⟨f,g,h,⟨sa,sn,sc⟩⟩,W.heap.size,rfl,?_,?_⟩
    ·exact(((hS.Yh Dc Dc t0).Yh Dc Dc (t0.set _ _ _)).Yh Dc Dc ((t0.set _ _ _).set _ _ _)).Yh Dc Dc (((t0.set _ _ _).set _ _ _).set _ _ _)
    ·exact(((HBR.out.setCell (p:=⟨w.heap.size+1,0,none⟩) (show w.heap.size≤w.heap.size+1 by omega) _).setCell (p:=⟨w.heap.size+1,1,none⟩) (show w.heap.size≤w.heap.size+1 by omega) _).setCell (p:=⟨w.heap.size+1,2,none⟩) (show w.heap.size≤w.heap.size+1 by omega) _).setCell (p:=⟨w.heap.size+1,3,none⟩) (show w.heap.size≤w.heap.size+1 by omega) _
 -- end copy
section
variable {A0 W w' : World} {pc rg mm : List Int} {a1 f1 a2 f2 a3 f3 fo : Bool} {A B C O n : Nat} {f g h : Zt}
theorem Qp.Ma (hJ:Qp A0 pc rg mm false false a2 f2 a3 f3 fo A B C f g h O W) (ho:Own Zo 3 w' W.heap.size (.slice (some ⟨W.heap.size,0,none⟩) n n) pc) (hg:W.grownBy w' none):Qp A0 pc rg mm true true a2 f2 a3 f3 fo A B C ⟨some ⟨W.heap.size,0,none⟩,n,n⟩ g h O w':=
 ⟨hJ.out.grown hg hJ.out.size (fun q hq=>nomatch hq),hJ.ln.Dy (c1':=⟨some ⟨W.heap.size,0,none⟩,n,n⟩) (ho.mono hJ.out.size) hg (.inr fun q hq=>by simp[Value.ownBlock]at hq;omega),fun _=>rfl,hJ.i2,hJ.i3,hJ.IG ((Below.refl _ _).grown hg (Nat.le_refl _) (fun q hq=>nomatch hq))⟩
theorem Qp.Mb (hJ:Qp A0 pc rg mm a1 f1 false false a3 f3 fo A B C f g h O W) (ho:Own Zo 3 w' W.heap.size (.slice (some ⟨W.heap.size,0,none⟩) n n) rg) (hg:W.grownBy w' none):Qp A0 pc rg mm a1 f1 true true a3 f3 fo A B C f ⟨some ⟨W.heap.size,0,none⟩,n,n⟩ h O w':=
 ⟨hJ.out.grown hg hJ.out.size (fun q hq=>nomatch hq),hJ.ln.FV (c2':=⟨some ⟨W.heap.size,0,none⟩,n,n⟩) (ho.mono hJ.out.size) hg (.inr fun q hq=>by simp[Value.ownBlock]at hq;omega),hJ.i1,fun _=>rfl,hJ.i3,hJ.IG ((Below.refl _ _).grown hg (Nat.le_refl _) (fun q hq=>nomatch hq))⟩
theorem Qp.Mc (hJ:Qp A0 pc rg mm a1 f1 a2 f2 false false fo A B C f g h O W) (ho:Own Zo 3 w' W.heap.size (.slice (some ⟨W.heap.size,0,none⟩) n n) mm) (hg:W.grownBy w' none):Qp A0 pc rg mm a1 f1 a2 f2 true true fo A B C f g ⟨some ⟨W.heap.size,0,none⟩,n,n⟩ O w':=
 ⟨hJ.out.grown hg hJ.out.size (fun q hq=>nomatch hq),hJ.ln.EI (c3':=⟨some ⟨W.heap.size,0,none⟩,n,n⟩) (ho.mono hJ.out.size) hg (.inr fun q hq=>by simp[Value.ownBlock]at hq;omega),hJ.i1,hJ.i2,fun _=>rfl,hJ.IG ((Below.refl _ _).grown hg (Nat.le_refl _) (fun q hq=>nomatch hq))⟩
end
theorem A8 (pa:Option Addr) (pk n nb:Nat) (w:World) (hn:n≤1048576) (hnb:nb≤1048576) :
 Calls Tryz.prog 109 #[.slice pa n pk,.int .i64 (nb:Int)] w (Xt w ⟨List.replicate n 0,List.replicate (n * 3) 0,List.replicate 3 0,List.replicate nb []⟩):=by
 obtain⟨A0,hA0⟩:∃ A0,A0=w.alloc (.cells #[.slice none 0 0,.slice none 0 0,.slice none 0 0,.slice none 0 0] 141):=⟨_,rfl⟩
 have HB:Hid (Below w.heap.size w A0):=Za (by rw[hA0];exact Ze _ _);have hz:A0.heap.size=w.heap.size+1:=by rw[hA0];simp
 have HR2:Hid (A0.heap[w.heap.size]? = some (.cells #[.slice none 0 0,.slice none 0 0,.slice none 0 0,.slice none 0 0] 141 (0,0))):=Za (by rw[hA0];exact heap_alloc_new w _);have HA0:=Za hA0;clear hA0;go_enter Tryz.func109,Tryz.ntmps109;go_wp2_with fail;rw[← HA0.out]
 -- ZQ start
 refine Zl (n:=10) Kr rfl Kr Kr (fun A ls a' W => ∃ (f:Zt) (g:Zt) (h:Zt) (O:Nat) (x6 x7 x8 x9 x10 x11 x12 x13 x14 x5:Value),a'=Zk A [(6,x6),(7,x7),(8,x8),(9,x9),(10,x10),(11,x11),(12,x12),(13,x13),(14,x14),(5,x5)]∧Vd ls 0 [] x6 (.slice pa n pk)∧Vd ls 1 [] x7 (.int .i64 (n:Int))∧Vd ls 2 [] x8 (.slice f.a f.n f.cap)∧Vd ls 3 [] x9 (.slice pa n pk)∧Vd ls 4 [] x10 (.int .i64 (n:Int))∧Vd ls 5 [] x11 (.int .i64 ((n:Int) * 3))∧Vd ls 6 [] x12 (.slice g.a g.n g.cap)∧Vd ls 7 [] x13 (.slice h.a h.n h.cap)∧Vd ls 8 [2,6,7] x14 (.agg #[.slice f.a f.n f.cap,.slice g.a g.n g.cap,.slice h.a h.n h.cap,.slice none 0 0])∧Vd ls 9 [] x5 (.pointer (some ⟨O,0,none⟩))∧Qp A0 (List.replicate n 0) (List.replicate (n * 3) 0) (List.replicate 3 0) (fl ls 2) (fl ls 2) (fl ls 6) (fl ls 6) (fl ls 7) (fl ls 7) (fl ls 9) 0 0 0 f g h O W) ?r0 ?rs ?re
 case r0 =>
  exact⟨⟨none,0,0⟩,⟨none,0,0⟩,⟨none,0,0⟩,0,undef,undef,undef,undef,undef,undef,undef,undef,undef,undef,pA,Vs,Vs,Vs,Vs,Vs,Vs,Vs,Vs,Vs,Vs,by simp only[Ye];exact Qp.start (hz ▸ (Below.refl _ _).drew)⟩
 case rs =>
  rintro ls a' W hs hnl ⟨f,g,h,O,x6,x7,x8,x9,x10,x11,x12,x13,x14,x5,ha,cv0,cv1,cv2,cv3,cv4,cv5,cv6,cv7,cv8,cv9,hJ⟩ k o hkn mc K hK;simp only[Zk,Act.put,List.setIfInBounds_toArray,List.set_cons_succ,List.set_cons_zero]at ha;subst ha;have hkc:k=0∨k=1∨k=2∨k=3∨k=4∨k=5∨k=6∨k=7∨k=8∨k=9:=Om;have hop:=mc.op;have haf:=mc.after;rcases hkc with rfl | rfl | rfl | rfl | rfl | rfl | rfl | rfl | rfl | rfl
  ·simp at hop;subst hop;simp[Region.binds]at haf
   go_simp;exact hK _ _ ⟨f,g,h,O,_,_,_,_,_,_,_,_,_,_,pA,Ve,cv1.s,cv2.s,cv3.s,cv4.s,cv5.s,cv6.s,cv7.s,cv8.s,cv9.s,by rw[fs 0 2,fs 0 6,fs 0 7,fs 0 9];exact hJ⟩
  ·simp at hop;subst hop;simp[Region.binds]at haf
   obtain rfl:=(cv0.get (by simp[haf])).symm;go_simp;exact hK _ _ ⟨f,g,h,O,_,_,_,_,_,_,_,_,_,_,pA,cv0.s,Ve,cv2.s,cv3.s,cv4.s,cv5.s,cv6.s,cv7.s,cv8.s,cv9.s,by rw[fs 1 2,fs 1 6,fs 1 7,fs 1 9];exact hJ⟩
  ·simp at hop;subst hop;simp[Region.binds]at haf
   obtain rfl:=(cv1.get (by simp[haf])).symm;have f2:=ZV mc.new;rw[f2]at hJ;have hsz:=hJ.out.size;refine step_mk Zo 3 0 Tryz.Yb rfl Tryz.underlying66 (n) Dc Om Rf _ _ Rf Rf Rf ?_;intro w6 ho6 hg6;exact hK _ _ ⟨⟨some ⟨W.heap.size,0,none⟩,n,n⟩,g,h,O,_,_,_,_,_,_,_,_,_,_,pA,cv0.s,cv1.s,Ve,cv3.s,cv4.s,cv5.s,cv6.s,cv7.s,cv8.void Dc Dc mc.new,cv9.s,by rw[ZD hs Dc,fs 2 6,fs 2 7,fs 2 9];exact hJ.Ma ho6 hg6⟩
  ·simp at hop;subst hop;simp[Region.binds]at haf
   go_simp;exact hK _ _ ⟨f,g,h,O,_,_,_,_,_,_,_,_,_,_,pA,cv0.s,cv1.s,cv2.s,Ve,cv4.s,cv5.s,cv6.s,cv7.s,cv8.s,cv9.s,by rw[fs 3 2,fs 3 6,fs 3 7,fs 3 9];exact hJ⟩
  ·simp at hop;subst hop;simp[Region.binds]at haf
   obtain rfl:=(cv3.get (by simp[haf])).symm;go_simp;exact hK _ _ ⟨f,g,h,O,_,_,_,_,_,_,_,_,_,_,pA,cv0.s,cv1.s,cv2.s,cv3.s,Ve,cv5.s,cv6.s,cv7.s,cv8.s,cv9.s,by rw[fs 4 2,fs 4 6,fs 4 7,fs 4 9];exact hJ⟩
  ·simp at hop;subst hop;simp[Region.binds]at haf
   obtain rfl:=(cv4.get (by simp[haf])).symm;have hw5:IntKind.i64.wrap ((n:Int) * 3)=(n:Int) * 3:=XY Om Om;go_simp;exact hK _ _ ⟨f,g,h,O,_,_,_,_,_,_,_,_,_,_,pA,cv0.s,cv1.s,cv2.s,cv3.s,cv4.s,Ve,cv6.s,cv7.s,cv8.s,cv9.s,by rw[fs 5 2,fs 5 6,fs 5 7,fs 5 9];exact hJ⟩
  ·simp at hop;subst hop;simp[Region.binds]at haf
   obtain rfl:=(cv5.get (by simp[haf])).symm;have f6:=ZV mc.new;rw[f6]at hJ;have hsz:=hJ.out.size;refine step_mk Zo 3 0 Tryz.Yb rfl Tryz.underlying66 (n * 3) Dc Om Rf _ _ Rf (by show Value.int .i64 ((n:Int) * 3)=_;congr 1) (by show Value.int .i64 ((n:Int) * 3)=_;congr 1) ?_;intro w6 ho6 hg6;exact hK _ _ ⟨f,⟨some ⟨W.heap.size,0,none⟩,n * 3,n * 3⟩,h,O,_,_,_,_,_,_,_,_,_,_,pA,cv0.s,cv1.s,cv2.s,cv3.s,cv4.s,cv5.s,Ve,cv7.s,cv8.void Dc Dc mc.new,cv9.s,by rw[fs 6 2,ZD hs Dc,fs 6 7,fs 6 9];exact hJ.Mb ho6 hg6⟩
  ·simp at hop;subst hop;simp[Region.binds]at haf
   have f7:=ZV mc.new;rw[f7]at hJ;have hsz:=hJ.out.size;refine step_mk Zo 3 0 Tryz.Yb rfl Tryz.underlying66 (3) Dc Om Rf _ _ Rf Rf Rf ?_;intro w6 ho6 hg6;exact hK _ _ ⟨f,g,⟨some ⟨W.heap.size,0,none⟩,3,3⟩,O,_,_,_,_,_,_,_,_,_,_,pA,cv0.s,cv1.s,cv2.s,cv3.s,cv4.s,cv5.s,cv6.s,Ve,cv8.void Dc Dc mc.new,cv9.s,by rw[fs 7 2,fs 7 6,ZD hs Dc,fs 7 9];exact hJ.Mc ho6 hg6⟩
  ·simp at hop;subst hop;simp[Region.binds]at haf
   obtain rfl:=(cv2.get (by simp[haf])).symm;obtain rfl:=(cv6.get (by simp[haf])).symm;obtain rfl:=(cv7.get (by simp[haf])).symm;go_simp;exact hK _ _ ⟨f,g,h,O,_,_,_,_,_,_,_,_,_,_,pA,cv0.s,cv1.s,cv2.s,cv3.s,cv4.s,cv5.s,cv6.s,cv7.s,Vd.same (by simp[haf]),cv9.s,by rw[fs 8 2,fs 8 6,fs 8 7,fs 8 9];exact hJ⟩
  ·simp at hop;subst hop;simp[Region.binds]at haf
   have f9:=ZV mc.new;rw[f9]at hJ;go_simp;exact hK _ _ ⟨f,g,h,W.heap.size,_,_,_,_,_,_,_,_,_,_,pA,cv0.s,cv1.s,cv2.s,cv3.s,cv4.s,cv5.s,cv6.s,cv7.s,cv8.s,Ve,by rw[fs 9 2,fs 9 6,fs 9 7,ZD hs Dc];exact hJ.obj⟩
 case re =>
  rintro ls a' W hall ⟨f,g,h,O,x6,x7,x8,x9,x10,x11,x12,x13,x14,x5,ha,cv0,cv1,cv2,cv3,cv4,cv5,cv6,cv7,cv8,cv9,hJ⟩ o hop;simp only[Zk,Act.put,List.setIfInBounds_toArray,List.set_cons_succ,List.set_cons_zero]at ha;subst ha;simp at hop;subst hop;obtain rfl:=cv0.ga hall;obtain rfl:=cv1.ga hall;obtain rfl:=cv2.ga hall;obtain rfl:=cv3.ga hall;obtain rfl:=cv4.ga hall;obtain rfl:=cv5.ga hall;obtain rfl:=cv6.ga hall;obtain rfl:=cv7.ga hall;obtain rfl:=cv8.ga hall;obtain rfl:=cv9.ga hall;rw[Zz (hall 2 Dc)]at hJ;rw[Zz (hall 6 Dc)]at hJ;rw[Zz (hall 7 Dc)]at hJ;rw[Zz (hall 9 Dc)]at hJ;obtain⟨hbo,hbB⟩:=hJ.ob rfl;have hln:=hJ.ln;simp only[KR,KS,if_true]at hln;have hbr:=(hJ.out.block w.heap.size Om).trans HR2.out;have c0:W.cell? ⟨O,0,none⟩=some (.slice none 0 0):=Zc hbo (k:=0) rfl;have c1:W.cell? ⟨O,1,none⟩=some (.slice none 0 0):=Zc hbo (k:=1) rfl;have c2:W.cell? ⟨O,2,none⟩=some (.slice none 0 0):=Zc hbo (k:=2) rfl;have c3:W.cell? ⟨O,3,none⟩=some (.slice none 0 0):=Zc hbo (k:=3) rfl;have cfz:=Z6 hbo
  have cl:=Zb c0;go_simp;have hb0:=heap_setCell_same W O 0 _ _ (.slice f.a f.n f.cap) hbo;have hb1:=heap_setCell_same (W.setCell ⟨O,0,none⟩ (.slice f.a f.n f.cap)) O 1 _ _ (.slice g.a g.n g.cap) hb0;have hb2:=heap_setCell_same ((W.setCell ⟨O,0,none⟩ (.slice f.a f.n f.cap)).setCell ⟨O,1,none⟩ (.slice g.a g.n g.cap)) O 2 _ _ (.slice h.a h.n h.cap) hb1;have hb3:=heap_setCell_same (((W.setCell ⟨O,0,none⟩ (.slice f.a f.n f.cap)).setCell ⟨O,1,none⟩ (.slice g.a g.n g.cap)).setCell ⟨O,2,none⟩ (.slice h.a h.n h.cap)) O 3 _ _ (.slice none 0 0) hb2;have hl3:=(((hln.Zy (j:=0) (u:=.slice f.a f.n f.cap) Dc hbo).Zy (j:=1) (u:=.slice g.a g.n g.cap) Dc hb0).Zy (j:=2) (u:=.slice h.a h.n h.cap) Dc hb1).Zy (j:=3) (u:=.slice none 0 0) Dc hb2;have hO:=(((hJ.out.setCell (p:=⟨O,0,none⟩) hbB (.slice f.a f.n f.cap)).setCell (p:=⟨O,1,none⟩) hbB (.slice g.a g.n g.cap)).setCell (p:=⟨O,2,none⟩) hbB (.slice h.a h.n h.cap)).setCell (p:=⟨O,3,none⟩) hbB (.slice none 0 0);have HO:=Za hO;have HL3:=Za hl3;have HB3:=Za hb3;have HBO:=Za hbB
  have P1:=Za (fun q hq=>(World.ownsRow.lt hln.o1 q hq).2);have P2:=Za (fun q hq=>(World.ownsRow.lt hln.o2 q hq).2);have P3:=Za (fun q hq=>(World.ownsRow.lt hln.o3 q hq).2)
  obtain⟨WB,hWB⟩:∃ WB,WB=(((W.setCell ⟨O,0,none⟩ (.slice f.a f.n f.cap)).setCell ⟨O,1,none⟩ (.slice g.a g.n g.cap)).setCell ⟨O,2,none⟩ (.slice h.a h.n h.cap)).setCell ⟨O,3,none⟩ (.slice none 0 0):=⟨_,rfl⟩
  have hWs:WB.heap.size=W.heap.size:=by rw[hWB];simp
  rw[← hWB]at HO HL3 HB3;simp at HB3;rw[← hWB];have hOW:O < W.heap.size:=(Array.getElem?_eq_some_iff.1 hbo).1;clear hb0 hb1 hb2 hb3 hl3 hO hJ hln hbr c0 c1 c2 c3 cfz cl hbo hWB;have e3:WB.cell? ⟨O,3,none⟩=some (.slice none 0 0):=Zc HB3.out (k:=3) rfl;have efz:=Z6 HB3.out;have el:=Zb e3
  go_wp2_with (at_make;refine Y4 Zw 66 ⟨none,0,0⟩ Tryz.Yl rfl Tryz.underlying46 nb Dc Om rfl _ _ rfl rfl rfl ?_;intro w5 hown5 hgr5;have hbo5:=(hgr5.block O el Sm).trans HB3.out;have g0:w5.cell? ⟨O,0,none⟩=some (.slice f.a f.n f.cap):=Zc hbo5 (k:=0) rfl;have g1:w5.cell? ⟨O,1,none⟩=some (.slice g.a g.n g.cap):=Zc hbo5 (k:=1) rfl;have g2:w5.cell? ⟨O,2,none⟩=some (.slice h.a h.n h.cap):=Zc hbo5 (k:=2) rfl;have g3:w5.cell? ⟨O,3,none⟩=some (.slice none 0 0):=Zc hbo5 (k:=3) rfl;have gfz:=Z6 hbo5;have gl:=Zb g0;have hbr5:=(hgr5.block w.heap.size Om Sm).trans ((HO.out.block w.heap.size Om).trans HR2.out);have r0:w5.cell? ⟨w.heap.size,0,none⟩=some (.slice none 0 0):=Zc hbr5 (k:=0) rfl;have r1:w5.cell? ⟨w.heap.size,1,none⟩=some (.slice none 0 0):=Zc hbr5 (k:=1) rfl;have r2:w5.cell? ⟨w.heap.size,2,none⟩=some (.slice none 0 0):=Zc hbr5 (k:=2) rfl;have r3:w5.cell? ⟨w.heap.size,3,none⟩=some (.slice none 0 0):=Zc hbr5 (k:=3) rfl;have rfz:=Z6 hbr5;have rl:=Zb r0;have O5:=Za hown5;have G5:=Za hgr5;have HBO5:=Za hbo5;have HBR5:=Za hbr5;have hne5:O≠w.heap.size:=Om;clear hown5 hgr5 hbo5 hbr5)
  have B5:=(Below.refl WB.heap.size WB).grown G5.out (Nat.le_refl _) (fun q hq=>nomatch hq);have hS:Y0 w5 A0.heap.size WB.heap.size ⟨f,g,h,⟨some ⟨WB.heap.size,0,none⟩,nb,nb⟩⟩ ⟨List.replicate n 0,List.replicate (n * 3) 0,List.replicate 3 0,List.replicate nb []⟩:=
   ⟨HL3.out.below B5,ZG.made O5.out,fun q hq=>by have:=P1.out q hq;omega,fun q hq=>by have:=P2.out q hq;omega,fun q hq=>by have:=P3.out q hq;omega,by have:=HO.out.size;omega,B5.size⟩
  have t0:Ry 141 w5 O:=⟨_,HBO5.out⟩
  have t1:Ry 141 w5 w.heap.size:=⟨_,HBR5.out⟩
  refine bodyPost_ret (v:=.agg #[.slice f.a f.n f.cap,.slice g.a g.n g.cap,.slice h.a h.n h.cap,.slice (some ⟨WB.heap.size,0,none⟩) nb nb]) (by simp[results,Tryz.results109,go_sem, *]) rfl ⟨⟨f,g,h,⟨some ⟨WB.heap.size,0,none⟩,nb,nb⟩⟩,WB.heap.size,rfl,?_,?_⟩
  ·exact((((((hS.Yh (j:=3) Dc Dc t0).Yh Dc Dc (t1.set _ _ _)).Yh Dc Dc ((t1.set _ _ _).set _ _ _)).Yh Dc Dc (((t1.set _ _ _).set _ _ _).set _ _ _)).Yh Dc Dc ((((t1.set _ _ _).set _ _ _).set _ _ _).set _ _ _))).mono Om
  ·have hb9:=(HB.out.trans (HO.out.mono HB.out.size)).trans (B5.mono Om)
   exact((((hb9.setCell (p:=⟨O,3,none⟩) (show w.heap.size≤O by omega) _).setCell (p:=⟨w.heap.size,0,none⟩) (Nat.le_refl _) _).setCell (p:=⟨w.heap.size,1,none⟩) (Nat.le_refl _) _).setCell (p:=⟨w.heap.size,2,none⟩) (Nat.le_refl _) _).setCell (p:=⟨w.heap.size,3,none⟩) (Nat.le_refl _) _
 -- end start
abbrev St.q (s:St):Sq:=⟨s.pc,s.rg,s.mm⟩
theorem Qf (t r:Nat) (w:World) (h0:t≤2) (h1:r≤2):Calls Tryz.prog 138 #[.int .i64 (t:Int),.int .i64 (r:Int)] w fun e w'=>e = .returned (.int .i64 ((t * 3+r:Nat):Int))∧w=w':=by
 go_enter Tryz.func138,Tryz.ntmps138;go_wp2_with fail;go_ret;refine⟨congrArg Ending.returned (congrArg (Value.int .i64) ?_),rfl⟩;omega
theorem DG {s:Sq}{t:Nat}{i:Ins}(h:i.op=3):ZL s t i=s.rg.getD (t * 3+i.ZQ.toNat) 0:=by unfold ZL;rw[if_pos h]
theorem EZ {s:Sq}{t:Nat}{i:Ins}(h:i.op≠3):ZL s t i=i.val:=by unfold ZL;rw[if_neg h]
theorem YH (x:SV) (s:St) (t r:Nat) (op loc val:Int) (w:World) (hx:ZB w x s) (ht:t≤2) (h1:r≤2) (hl:t * 3+r < s.rg.length) :
 Calls Tryz.prog 139 #[.agg #[.slice x.p.a x.p.n x.p.cap,.slice x.r.a x.r.n x.r.cap,.slice x.m.a x.m.n x.m.cap,.slice x.b.a x.b.n x.b.cap],.int .i64 (t:Int),.agg #[.int .i64 op,.int .i64 loc,.int .i64 (r:Int),.int .i64 val]] w
  fun e w'=>e = .returned (.int .i64 (ZL s.q t ⟨op,loc,r,val⟩))∧Below w.heap.size w w':=by
 obtain⟨⟨pa,pn,pk⟩,⟨ra,rn,rk⟩,⟨ma,mn,mk⟩,⟨ba,bn,bk⟩⟩:=x;obtain⟨y,hy⟩:=Zd (xs:=s.rg) (k:=t * 3+r) hl;obtain⟨_,_,hv2,-,-,-,-⟩:=hx.rg.open;simp only[Zt.v,Value.slice.injEq]at hv2;obtain⟨rfl,hn2,rfl⟩:=hv2;obtain⟨b,o,rfl,hbl,i0⟩:=(show Z7 Zo w (.slice ra rn rk) s.rg from hx.rg).int hy;have HREG:=Za (fun w'=>Qf t r w' ht h1);have hlt:((t * 3+r:Nat):Int) < (rn:Int):=Om;have hb0:=(Ze w (.cells #[.slice pa pn pk,.slice (some ⟨b,o,none⟩) rn rk,.slice ma mn mk,.slice ba bn bk] 141)).alloc Sm (.cells #[.int .i64 op,.int .i64 loc,.int .i64 (r:Int),.int .i64 val] 44);have HB0:=Za hb0;obtain⟨A0,hA0⟩:∃ A0,A0=(w.alloc (.cells #[.slice pa pn pk,.slice (some ⟨b,o,none⟩) rn rk,.slice ma mn mk,.slice ba bn bk] 141)).alloc (.cells #[.int .i64 op,.int .i64 loc,.int .i64 (r:Int),.int .i64 val] 44):=⟨_,rfl⟩
 rw[← hA0]at HB0;have hbl1:b < A0.heap.size:=Nat.lt_of_lt_of_le hbl HB0.out.size;have i1:=(HB0.out.cell (p:=⟨b,o+(t * 3+r),none⟩) hbl).trans i0;have hX1:A0.heap[w.heap.size]? = some (.cells #[.slice pa pn pk,.slice (some ⟨b,o,none⟩) rn rk,.slice ma mn mk,.slice ba bn bk] 141 (0,0)):=by
  rw[hA0,heap_alloc_old _ _ Sm];exact heap_alloc_new w _
 have hX2:A0.heap[w.heap.size+1]? = some (.cells #[.int .i64 op,.int .i64 loc,.int .i64 (r:Int),.int .i64 val] 44 (0,0)):=by
  have h:=heap_alloc_new (w.alloc (.cells #[.slice pa pn pk,.slice (some ⟨b,o,none⟩) rn rk,.slice ma mn mk,.slice ba bn bk] 141)) (.cells #[.int .i64 op,.int .i64 loc,.int .i64 (r:Int),.int .i64 val] 44);rw[hA0];simpa using h
 have a1:A0.cell? ⟨w.heap.size,1,none⟩=some (.slice (some ⟨b,o,none⟩) rn rk):=Zc hX1 (k:=1) rfl;have a2:A0.cell? ⟨w.heap.size+1,2,none⟩=some (.int .i64 (r:Int)):=Zc hX2 (k:=2) rfl;have a3:A0.cell? ⟨w.heap.size+1,0,none⟩=some (.int .i64 op):=Zc hX2 (k:=0) rfl;have a4:A0.cell? ⟨w.heap.size+1,3,none⟩=some (.int .i64 val):=Zc hX2 (k:=3) rfl;have al:=Zb a1;have al2:=Zb a2;have HA0:=Za hA0;clear hX1 hX2 hA0;have E1:Hid (op=3→ZL s.q t ⟨op,loc,r,val⟩=y):=Za fun h=>by rw[DG h];simp only[Int.toNat_natCast,List.getD_eq_getElem?_getD,hy,Option.getD_some]
 have E2:Hid (op≠3→ZL s.q t ⟨op,loc,r,val⟩=val):=Za fun h=>EZ h;generalize ZL s.q t ⟨op,loc,r,val⟩=R at *;generalize t * 3+r=q at *;clear hx hy hl hb0 hn2 i0 hbl;by_cases h3:op=3
 ·obtain rfl:=E1.out h3
  subst h3;clear E1 E2;go_enter Tryz.func139,Tryz.ntmps139;go_wp2_with fail;rw[← HA0.out];go_wp2_with fail;refine Zs Kr Kr ?_
  repeat (go_big_quiet_step ((go_at_call 138;(with_reducible exact Calls.Vk (HREG.out _)))))
  refine wpQuiet_nil ?_;intro w1 hw1;go_wp2_with fail;go_ret;exact⟨rfl,HB0.out.trans (hw1.mono HB0.out.size)⟩
 ·obtain rfl:=E2.out h3
  have h3':(op==3)=false:=by simpa using h3
  clear E1 E2 h3;go_enter Tryz.func139,Tryz.ntmps139;go_wp2_with fail;go_ret;exact⟨rfl,by rw[← HA0.out];exact HB0.out⟩
theorem IS {p:List (List Ins)}{s:Sq}{t:Nat}{k:Int}{r:List Ins}(hk:s.pc[t]? = some k) (hr:p[t]? = some r) (h:k < r.length):Yi p s=false:=by
 unfold Yi;rw[List.all_eq_false];refine⟨t,List.mem_range.2 (List.getElem?_eq_some_iff.1 hr).1,?_⟩;simp[List.getD_eq_getElem?_getD,hk,hr];omega
theorem IT {p:List (List Ins)}{s:Sq}(h:∀ t < p.length,∃ k r,s.pc[t]? = some k∧p[t]? = some r∧(r.length:Int)≤k):Yi p s=true:=by
 unfold Yi;rw[List.all_eq_true];intro t ht;obtain⟨k,r,hk,hr,hn⟩:=h t (List.mem_range.1 ht);simp[List.getD_eq_getElem?_getD,hk,hr];omega
theorem BJ (vp:Value) (p:List (List Ins)) (x:SV) (s:St) (w:World) (hp:Z5 w vp p) (hx:ZB w x s) (hl:s.pc.length=p.length) (hpl:p.length≤1048576) :
 Calls Tryz.prog 112 #[vp,.agg #[.slice x.p.a x.p.n x.p.cap,.slice x.r.a x.r.n x.r.cap,.slice x.m.a x.m.n x.m.cap,.slice x.b.a x.b.n x.b.cap]] w
  fun e w'=>e = .returned (.bool (Yi p s.q))∧Below w.heap.size w w':=by
 obtain⟨⟨pa,pn,pk⟩,⟨ra,rn,rk⟩,⟨ma,mn,mk⟩,⟨ba,bn,bk⟩⟩:=x;obtain⟨va,vc,rfl,hc1,hc2,hc3,hp⟩:=hp.open;obtain⟨_,_,hv2,-,-,-,-⟩:=hx.pc.open;simp only[Zt.v,Value.slice.injEq]at hv2;obtain⟨rfl,hn2,rfl⟩:=hv2;have HX:Hid (Z7 Zo w (.slice pa pn pk) s.pc):=Za hx.pc;have HP:=Za hp;have HL:=Za hl;obtain⟨A0,hA0⟩:∃ A0,A0=w.alloc (.cells #[.slice pa pn pk,.slice ra rn rk,.slice ma mn mk,.slice ba bn bk] 141):=⟨_,rfl⟩
 have HB:Hid (Below w.heap.size w A0):=Za (by rw[hA0];exact Ze _ _);have hz:A0.heap.size=w.heap.size+1:=by rw[hA0];simp
 have HX2:Hid (A0.heap[w.heap.size]? = some (.cells #[.slice pa pn pk,.slice ra rn rk,.slice ma mn mk,.slice ba bn bk] 141 (0,0))):=Za (by rw[hA0];exact heap_alloc_new w _);have HA0:=Za hA0;have hpn:pn=p.length:=Om;generalize hn:p.length=n at *;have HN:=Za hn;clear hA0 hx hp hl hn2 hn;subst hpn;go_enter Tryz.func112,Tryz.ntmps112;go_wp2_with fail;rw[← HA0.out]
 go_loopw [5] (fun i wr => ∃ k:Nat,k≤pn∧i = .int .i64 k∧Hid (∀ t < k,∃ c r,s.pc[t]? = some c∧p[t]? = some r∧(r.length:Int)≤c)∧Below A0.heap.size A0 wr) (fun i _=>pn - (intOf i).toNat)
 case atStart=>exact⟨0,Nat.zero_le _,rfl,Za (fun t h=>absurd h (Nat.not_lt_zero t)),Below.refl _ _⟩
 case round =>
  obtain⟨k,hk,rfl,hno,hb⟩:=hrel;by_cases hlt:k < pn
  ·have hlt':=Zh hlt
   have hbw:=HB.out.trans (hb.mono HB.out.size);have d0:wr.cell? ⟨w.heap.size,0,none⟩=some (.slice pa pn pk):=Zc ((hb.block w.heap.size Om).trans HX2.out) (k:=0) rfl;have dl:=Zb d0;obtain⟨y,hy⟩:=Zd (xs:=s.pc) (k:=k) (by rw[HL.out];exact hlt);obtain⟨r,hrk⟩:=Zd (xs:=p) (k:=k) (by rw[HN.out];exact hlt);obtain⟨b,o,rfl,hbl,i0⟩:=(HX.out.below hbw).int hy;obtain⟨b2,o2,qa,qc,rfl,hbl2,q0,q1⟩:=(HP.out.below hbw).row hrk;obtain⟨_,_,_,_,hrl,_,_⟩:=q1.open;have HBR:=Za hb;have HBS:=Za hb.size;have Y:=Za hy;have RK:=Za hrk
   clear hy hrk q1 hb hbw;by_cases hlt2:y < (r.length:Int)
   ·have E:Hid (Yi p s.q=false):=Za (IS (s:=s.q) Y.out RK.out hlt2)
    go_wp2_with fail;refine Zs Kr Kr ?_
    repeat (go_big_quiet_step (fail))
    refine wpQuiet_nil ?_;intro w1 hw1;go_wp2_with fail;go_ret;rw[E.out];exact⟨rfl,HB.out.trans ((HBR.out.trans (hw1.mono HBS.out)).mono HB.out.size)⟩
   ·have NO:Hid (∀ t < k+1,∃ c r,s.pc[t]? = some c∧p[t]? = some r∧(r.length:Int)≤c):=Za fun t ht=>by
     by_cases e:t=k
     ·subst e;exact⟨y,r,Y.out,RK.out,Int.not_lt.1 hlt2⟩
     ·exact hno.out t Om
    have hlt3:(r.length:Int)≤y:=Int.not_lt.1 hlt2;clear hlt2;go_wp2_with fail;refine Zs Kr Kr ?_
    repeat (go_big_quiet_step (fail))
    refine wpQuiet_nil ?_;intro w1 hw1;go_wp2_with fail;go_roundw
    case rel=>exact⟨k+1,Om,Gn,NO,HBR.out.trans (hw1.mono HBS.out)⟩
    case measure=>simp[intOf];omega
  ·obtain rfl:k=pn:=Om
   have E:Hid (Yi p s.q=true):=Za (IT (s:=s.q) (fun t ht=>hno.out t (by rw[HN.out]at ht;exact ht)));go_wp2_with fail;go_ret;rw[E.out];exact⟨rfl,HB.out.trans (hb.mono HB.out.size)⟩
end Go.Proofs.YtngekjpklkjnbaaGreat
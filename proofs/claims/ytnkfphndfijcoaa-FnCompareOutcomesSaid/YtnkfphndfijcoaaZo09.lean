/-
  The reference's copy of a state. Condition: bounds on lengths.
-/
import Derived.Test.YtnkfphndfijcoaaZo05
import Derived.Test.YtnkfphndfijcoaaZo04
import Derived.Test.YtnkfphndfijcoaaZo00
import Derived.Test.YtnkfphndfijcoaaZo03
import Derived.Maps.AppendAt
import Derived.Test.YtnkfphndfijcoaaZo02
import Derived.Laws.BytesArg
import Derived.Laws.DeepStrings4
import Derived.Deep.RegionHeld3
import Derived.Deep.DeepCutAuto
import Derived.Deep.RegionLaw
set_option maxHeartbeats 6400000
set_option maxRecDepth 100000
namespace Go.Proofs.Ytnkfphndfijcoaa
open Go.RowKit
theorem Own2U.outside {α:Type}{E:El α}{T1 T2:TypeId}{b:Nat}{us:List Slc}{w w':World}{base:Nat}{v:Value}{p:List (List α)}(h:Own2U E T1 T2 us w base v p) (ho:Outside b (b+1) w w') (hb:b < base):Own2U E T1 T2 us w' base v p:=by
 obtain⟨h1,h2,h3,h4,h5⟩:=h;exact⟨h1,ho.ownHi h2 hb,fun i u r hu hr=>ho.ownHi (h3 i u r hu hr) hb,h4,h5⟩
theorem Own2.outside {α:Type}{E:El α}{T1 T2:TypeId}{b:Nat}{w w':World}{base:Nat}{v:Value}{p:List (List α)}(h:Own2 E T1 T2 w base v p) (ho:Outside b (b+1) w w') (hb:b < base):Own2 E T1 T2 w' base v p:=
 h.outHi ho hb
theorem Own2U.app2 {α:Type}{E:El α}{T1 T2:TypeId}(hT:T1≠T2) {us:List Slc}{w1 w2:World}{base B:Nat}{v v':Value}{p:List (List α)}(h:Own2U E T1 T2 us w1 base v p)
 (hold:∀ (i:Nat) (u':Slc),us[i]? = some u'→∀ q,u'.v.ownBlock=some q→q < B) (hbase:base≤B) {r:List α}{s:Slc}
 (hu:Own E T2 w1 B s.v r) (h2'':Own SlcE T1 w2 base v' (us++[s])) (hg:w1.grownBy w2 v.ownBlock):Own2 E T1 T2 w2 base v' (p++[r]):=by
 obtain⟨h1,h2',h3,h4,h5⟩:=h;have hnew:∀ q,s.v.ownBlock=some q→B≤q:=fun q hq=>(World.ownsRow.lt hu q hq).1;have split:∀ (i:Nat) (u':Slc),(us++[s])[i]? = some u'→(i=us.length∧u'=s)∨(i < us.length∧us[i]? = some u'):=fun i u' hi=>by
  by_cases hlt:i < us.length
  ·rw[List.getElem?_append_left hlt]at hi;exact .inr ⟨hlt,hi⟩
  ·rw[List.getElem?_append_right (by omega)]at hi
   have:i - us.length=0:=by
    rcases Nat.eq_zero_or_pos (i - us.length) with h | h
    ·exact h
    ·rw[List.getElem?_eq_none (by simp;omega)]at hi;cases hi
   rw[this]at hi;simp at hi;exact .inl ⟨by omega,hi.symm⟩
 have hus:Own E T2 w2 base s.v r:=(hu.mono hbase).grown hg (by
  rcases hq:s.v.ownBlock with _ | q
  ·exact .inl rfl
  ·exact .inr (fun e=>own_ne hT h2' hu q hq e.symm))
 have hrows:∀ (i:Nat) (u:Slc) (r':List α),us[i]? = some u→p[i]? = some r'→Own E T2 w2 base u.v r':=fun i u r' hi hr' =>
  (h3 i u r' hi hr').grown hg (by
   rcases hq:u.v.ownBlock with _ | q
   ·exact .inl rfl
   ·exact .inr (fun e=>h5 i u hi q hq e.symm))
 refine⟨us++[s],by simp[h1],h2'',?_,?_,?_⟩
 ·intro i u r' hi hr'
  rcases split i u hi with⟨e1,e2⟩ | ⟨hlt,hi'⟩
  ·rw[e1,List.getElem?_append_right (by omega),h1,Nat.sub_self]at hr'
   simp at hr';rw[e2,← hr'];exact hus
  ·rw[List.getElem?_append_left (by omega)]at hr'
   exact hrows i u r' hi' hr'
 ·intro i j u u' hi hj hij q hq hq'
  rcases split i u hi with⟨e1,e2⟩ | ⟨hlt,hi'⟩
  ·rcases split j u' hj with⟨e3,e4⟩ | ⟨hlt',hj'⟩
   ·omega
   ·rw[e2]at hq;have a1:=hnew q hq;have a2:=hold j u' hj' q hq';omega
  ·rcases split j u' hj with⟨e3,e4⟩ | ⟨hlt',hj'⟩
   ·rw[e4]at hq';have a1:=hnew q hq';have a2:=hold i u hi' q hq;omega
   ·exact h4 i j u u' hi' hj' hij q hq hq'
 ·intro i u hi q hq
  rcases split i u hi with⟨e1,e2⟩ | ⟨hlt,hi'⟩
  ·rw[e2]at hq;exact own_ne hT h2'' hus q hq
  ·obtain⟨r',hr'⟩:=get_of_lt (xs:=p) (k:=i) (by omega)
   exact own_ne hT h2'' (hrows i u r' hi' hr') q hq
theorem Own.rowGe {α:Type}{E:El α}{T:TypeId}{w:World}{base:Nat}{v:Value}{xs:List α}(h:Own E T w base v xs):∀ q,v.ownBlock=some q→base≤q:=fun q hq=>(World.ownsRow.lt h q hq).1
theorem OneOf.open3 {x y z:Int}{v:Value}{w:World}(h:OneOf [x,y,z] v w):∃ u,v = .int .i64 u∧(u=x∨u=y∨u=z):=by
 obtain⟨u,hu,rfl⟩:=h;exact⟨u,rfl,by simpa using hu⟩
theorem OneOf.open5 {x y z s t:Int}{v:Value}{w:World}(h:OneOf [x,y,z,s,t] v w):∃ u,v = .int .i64 u∧(u=x∨u=y∨u=z∨u=s∨u=t):=by
 obtain⟨u,hu,rfl⟩:=h;exact⟨u,rfl,by simpa using hu⟩
def QPV (lo:Nat) (v:Value) (w:World):Prop:=∃ P:List (List Ins),OwnP w lo v P∧P.length≤4∧(∀ r∈P,r.length≤8)∧progValid P=true
theorem one_valid {x:Ins}(h:insValid x=true):progValid [[x]]=true:=by
 have hc:∀ (f:Ins→Bool),cnt f [[x]]=if f x=true then 1 else 0:=fun f=>by simp[cnt,List.countP_cons]
 have hp:∀ l:Nat,pl [[x]] l≤2:=fun l=>by
  unfold pl;rw[hc,hc];split <;> split <;> decide
 have hP:prodP [[x]]≤8:=by
  simp only[prodP,prodTo,Nat.one_mul];have h0:=hp 0;have h1:=hp 1;have h2:=hp 2
  exact Nat.le_trans (Nat.mul_le_mul (Nat.mul_le_mul h0 h1) h2) (by decide)
 have hn:cnt notFence [[x]]≤12:=by rw[hc];split <;> omega
 unfold progValid shapeOk rowOk;simp[h,hn];omega
theorem l1Draw_anyV (b:Nat) (a:Option Addr) (c:Nat) (xs:List Int) (p:Int) (w:World) (hr:Rd w b a c xs p) (hp:p≤800000000) :
 Calls Try.prog 18 #[.pointer (some ⟨b,0,none⟩)] w (RetRd w b a c xs p 60 (QPV w.heap.size)):=by
 have HP:=hide (fun (p:Int) n w' h hp (hn:n≤100) (hn0:0≤n)=>pick_any b a c xs p n w' h hp (by omega) (by omega));have HI:=hide (fun (p:Int) w' h hp=>l1Instr_anyV b a c xs p w' h hp);have HN3:=hide (fun (p:Int) w' G hG hb h hp=>numLit3 b a c xs p 2 3 1 w' G hG hb h hp);have HN5:=hide (fun (p:Int) w' G hG hb h hp=>numLit5 b a c xs p 2 1 3 2 0 w' G hG hb h hp);have hlt:=hr.lt;have R0:=hide hr;clear hr;go_enter Try.func18,Try.ntmps18;go_wp2_with fail
 (with_reducible refine(l1Tests_any w).mono ?_);rintro e w1 ⟨rfl,hl1,hb1⟩
 have R1:=hide (R0.out.keep hb1 hlt);have O1:=hide (Outside.of_below (lo:=b) (hi:=b+1) hb1);have L1:=hide hl1
 clear hb1 hl1 R0;go_wp2_with fail
 (with_reducible refine(HP.out p _ _ R1.out (by omega) (by omega) (by omega)).mono ?_);rintro e w2 ⟨v2,p2,rfl,⟨q2,rfl,hq2,-⟩,hp2,hr2,ho2⟩
 have R2:=hide hr2;have O2:=hide (O1.out.trans ho2);have L2:=hide (ho2.ownHi L1.out hlt)
 clear hr2 ho2 R1 O1 L1;by_cases hq:0 < q2
 ·go_wp2_with fail
  (with_reducible refine(HP.out p2 _ _ R2.out (by omega) (by omega) (by omega)).mono ?_);rintro e w3 ⟨v3,p3,rfl,⟨q3,rfl,hq3,hq3'⟩,hp3,hr3,ho3⟩
  obtain⟨Q,rfl⟩:=Int.eq_ofNat_of_zero_le hq3;have hQ:Q < 21:=by have:=hq3' (by omega);omega
  have R3:=hide hr3;have O3:=hide (O2.out.trans ho3)
  have hl3:=ho3.ownHi L2.out hlt;obtain⟨x,hx⟩:=get_of_lt (xs:=testTexts) (k:=Q) (by have:testTexts.length=21:=rfl;omega);have hxs:=testTexts_le x (List.mem_of_getElem? hx);obtain⟨g,o,he,hgl,i0⟩:=hl3.rep.str hx;simp only[Option.some.injEq,Addr.mk.injEq,and_true]at he;obtain⟨he1,he2⟩:=he;rw[← he1,← he2,Nat.zero_add]at i0;rw[← he1]at hgl;have HS:=hide (fun w'=>sParseProgram_anyV x w' hxs);clear hr3 ho3 R2 O2 L2 hl3 hx hxs he1 he2;go_wp2_with fail
  (with_reducible refine(HS.out _).mono ?_);rintro e w4 ⟨v4,ok,rfl,hQP,hb4⟩
  have hsz:=O3.out.size;have hQP:Hid (ok=true→QPV w.heap.size v4 w4):=hide (by
   obtain⟨P,h1,h2,h3,h4⟩:=hQP;exact fun h=>⟨P,h1.mono hsz,h2,h3,h4 h⟩)
  have R4:=hide (R3.out.keep hb4 R3.out.lt);have O4:=hide (O3.out.trans (Outside.of_below hb4))
  clear hb4 R3 O3 HS i0 hgl;by_cases hok:ok=true
  ·subst hok
   go_wp2_with fail;go_ret;exact⟨_,p3,rfl,hQP.out trivial,by omega,R4.out,O4.out⟩
  ·obtain rfl:ok=false:=by simpa using hok
   clear hok;have hsK4:=O4.out.size;go_wp2_with fail
   (with_reducible refine(HN3.out p3 _ _ (by simp) (by omega) ((R4.out.allocNew _).allocNew _) (by omega)).mono ?_);rintro e wa ⟨va,pa,rfl,hone,hpa,hra,hoa⟩
   obtain⟨y,rfl,hy⟩:=hone.open3;have RA:=hide hra;have OA:=hide (((O4.out.allocNew (.cells #[] 54)).allocNew (.cells #[.int .i64 2,.int .i64 3,.int .i64 1] 3)).trans hoa)
   have UA:=hide ((((Own2.empty (E:=InsE) 54 56 w4 hsK4).below (belowAlloc _ _))).outside hoa hlt);obtain⟨Y,rfl⟩:∃ Y:Nat,y=(Y:Int):=⟨y.toNat,by omega⟩
   have hY:Y≤3:=by omega
   clear hra hoa hone R4 O4 hy;go_wp2_with fail
   go_loopw [6,7] (fun v i wr => ∃ (m:Nat) (P:List (List Ins)) (pp:Int),i = .int .i64 m∧P.length+m≤3∧(∀ r∈P,r.length≤3)∧OwnP wr w.heap.size v P∧Rd wr b a c xs pp∧pp+14 * m≤p3+50∧Outside b (b+1) w wr) (fun _ i _=>(intOf i).toNat)
   case atStart=>exact⟨Y,[],pa,rfl,by simpa using hY,by simp,UA.out,RA.out,by omega,OA.out⟩
   case round =>
    obtain⟨m,P,pp,rfl,hPl,hPr,ho,hR,hpp,hO⟩:=hrel;obtain⟨wm,rfl⟩:∃ wm:World,wm=wr:=⟨_,rfl⟩
    clear RA OA UA;by_cases hm:0 < m
    ·have hm':(0:Int) < m:=by omega
     have hsm:=hO.size;obtain⟨us,hU,hold⟩:=ho.told;have hub:us.length≤68719476736:=by rw[hU.1];omega
     have HU:=hide hU;have HOLD:=hide hold;have RM:=hide hR;have OM:=hide hO;have HPR:=hide hPr
     clear ho hR hO hU hold hPr;go_wp2_with fail
     (with_reducible refine(HN5.out pp _ _ (by simp) (by omega) ((RM.out.allocNew _).allocNew _) (by omega)).mono ?_);rintro e wb ⟨vb,pb,rfl,hone,hpb,hrb,hob⟩
     obtain⟨z,rfl,hz⟩:=hone.open5;have RB:=hide hrb;have OB:=hide ((((Outside.refl b (b+1) wm).allocNew (.cells #[] 56)).allocNew (.cells #[.int .i64 2,.int .i64 1,.int .i64 3,.int .i64 2,.int .i64 0] 3)).trans hob)
     have LB:=hide (hob.ownHi ((Own.empty (E:=InsE) 56 wm (Nat.le_refl _)).alloc (.cells #[.int .i64 2,.int .i64 1,.int .i64 3,.int .i64 2,.int .i64 0] 3)) (show b < wm.heap.size by omega));obtain⟨Z,rfl⟩:∃ Z:Nat,z=(Z:Int):=⟨z.toNat,by omega⟩
     have hZ:Z≤3:=by omega
     clear hrb hob hone hz;go_wp2_with fail
     go_loopw [8,9] (fun l k wr' => ∃ (n:Nat) (ys:List Ins) (pq:Int),k = .int .i64 n∧ys.length+n≤3∧OwnI wr' wm.heap.size l ys∧Rd wr' b a c xs pq∧pq+4 * n≤pb+12∧Outside b (b+1) wm wr') (fun _ k _=>(intOf k).toNat)
     case atStart=>exact⟨Z,[],pb,rfl,by simpa using hZ,LB.out,RB.out,by omega,OB.out⟩
     case round =>
      obtain⟨n,ys,pq,rfl,hyl,hl,hR,hpq,hO⟩:=hrel;clear RB OB LB;by_cases hn:0 < n
      ·have hn':(0:Int) < n:=by omega
       have RW:=hide hR;have OW:=hide hO;have LW:=hide hl
       clear hR hO hl;go_wp2_with fail
       (with_reducible refine(HI.out pq _ RW.out (by omega)).mono ?_);rintro e wc ⟨vc,pc,rfl,⟨io,il,ir,ix,rfl,hiv⟩,hpc,hrc,hoc⟩
       have hlc:=hide (hoc.ownHi LW.out (show b < wm.heap.size by omega));have RC:=hide hrc;have OC:=hide (OW.out.trans hoc)
       have hsz:=OC.out.size;have hyl64:ys.length≤68719476736:=by omega
       clear hrc hoc RW OW LW;go_wp2_with (at_builtin;refine wpList_app InsE 56 Try.infoIns rfl Try.underlying54 wm.heap.size _ ys ⟨io,il,ir,ix⟩ (hlc.out.alloc _) (by decide) hyl64 (by simp;omega) rfl _ _ rfl rfl _ 0 1 rfl news_alloc ?_;intro v6 w6 ho6 hgr6);have R6:=(RC.out.allocNew _).grownNew hgr6 (fun q hq=>by have:=hlc.out.rowGe q hq;omega);have O6:=(OC.out.allocNew _).grownNew hgr6 (fun q hq=>hlc.out.rowGe q hq);go_roundw
       case rel=>exact⟨n - 1,ys++[⟨io,il,ir,ix⟩],pc,by go_num,by simp;omega,ho6,R6,by omega,O6⟩
       case measure=>simp[intOf];omega
      ·obtain rfl:n=0:=by omega
       obtain⟨la,ln,lc,rfl,hln⟩:=hl.toSl;have hU3:=hide (HU.out.outside hO hlt);have HL:=hide hl;have RW:=hide hR;have OW:=hide hO
       have hsz:=hO.size;clear hl hR hO hln;go_wp2_with (at_builtin;refine wpList_app SlcE 54 Try.infoInsS rfl Try.underlying31 w.heap.size _ us ⟨la,ln,lc⟩ (hU3.out.2.1.alloc _) (by decide) hub (by simp;omega) rfl _ _ rfl rfl _ 0 1 rfl news_alloc ?_;intro v5 w5 ho5 hgr5);have ho6:=(hU3.out.below (belowAlloc _ _)).app2 (by decide) (fun i u hu q hq=>(HOLD.out i u hu q hq).2) hsm (s:=⟨la,ln,lc⟩) (HL.out.alloc _) ho5 hgr5;have R6:=(RW.out.allocNew _).grownNew hgr5 (fun q hq=>by have:=hU3.out.2.1.rowGe q hq;omega);have O6:=((OM.out.trans OW.out).allocNew _).grownNew hgr5 (fun q hq=>hU3.out.2.1.rowGe q hq);go_roundw
       case rel=>exact⟨m - 1,P++[ys],pq,by go_num,by simp;omega,by
        intro r hr;rcases List.mem_append.1 hr with h | h
        ·exact HPR.out r h
        ·rw[List.mem_singleton.1 h];omega,ho6,R6,by omega,O6⟩
       case measure=>simp[intOf];omega
    ·obtain rfl:m=0:=by omega
     obtain⟨us,hU,-⟩:=ho.told;obtain⟨oa,on,oc,rfl,hon⟩:=hU.2.1.toSl;have hfl:P.flatten.length≤1048576:=by
      have:=flatten_bound P 3 hPr;have:P.length * 3≤3 * 3:=Nat.mul_le_mul_right _ (by omega);omega
     have HV:=hide (fun w' h=>sProgramValid_any (.slice oa on oc) P w' h hfl (by omega));have HO:=hide ho;have RM:=hide hR;have OM:=hide hO;have HPR:=hide hPr
     clear hU hon ho hR hO hPr hfl;go_wp2_with fail
     (with_reducible refine(HV.out _ HO.out.rep).mono ?_);rintro e w4 ⟨rfl,hb4⟩
     have R4:=hide (RM.out.keep hb4 RM.out.lt);have O4:=hide (OM.out.trans (Outside.of_below hb4));have HO4:=hide (HO.out.below hb4)
     clear hb4 HO RM OM HV;by_cases hv:progValid P=true
     ·go_wp2_with fail
      go_ret;exact⟨_,pp,rfl,⟨P,HO4.out,by omega,fun r hr=>Nat.le_trans (HPR.out r hr) (by omega),hv⟩,by omega,R4.out,O4.out⟩
     ·have hv':progValid P=false:=by simpa using hv
      clear hv HO4;go_wp2_with fail
      (with_reducible refine(HI.out pp _ R4.out (by omega)).mono ?_);rintro e wc ⟨vc,pc,rfl,⟨io,il,ir,ix,rfl,hiv⟩,hpc,hrc,hoc⟩
      have RC:=hide hrc;have OC:=hide (O4.out.trans hoc)
      clear hrc hoc R4 O4;have hsz:=OC.out.size;go_wp2_with fail;go_ret;exact⟨_,pc,rfl,⟨[[⟨io,il,ir,ix⟩]],own2_one hsz ⟨io,il,ir,ix⟩ rfl,by simp,by simp,one_valid hiv⟩,by omega,(RC.out.allocNew _).allocNew _,(OC.out.allocNew _).allocNew _⟩
 ·have hq':decide (0 < q2)=false:=decide_eq_false hq
  clear hq;have hsK2:=O2.out.size;go_wp2_with fail
  (with_reducible refine(HN3.out p2 _ _ (by simp) (by omega) ((R2.out.allocNew _).allocNew _) (by omega)).mono ?_);rintro e wa ⟨va,pa,rfl,hone,hpa,hra,hoa⟩
  obtain⟨y,rfl,hy⟩:=hone.open3;have RA:=hide hra;have OA:=hide (((O2.out.allocNew (.cells #[] 54)).allocNew (.cells #[.int .i64 2,.int .i64 3,.int .i64 1] 3)).trans hoa)
  have UA:=hide ((((Own2.empty (E:=InsE) 54 56 w2 hsK2).below (belowAlloc _ _))).outside hoa hlt);obtain⟨Y,rfl⟩:∃ Y:Nat,y=(Y:Int):=⟨y.toNat,by omega⟩
  have hY:Y≤3:=by omega
  clear hra hoa hone R2 O2 hy;go_wp2_with fail
  go_loopw [6,7] (fun v i wr => ∃ (m:Nat) (P:List (List Ins)) (pp:Int),i = .int .i64 m∧P.length+m≤3∧(∀ r∈P,r.length≤3)∧OwnP wr w.heap.size v P∧Rd wr b a c xs pp∧pp+14 * m≤p2+50∧Outside b (b+1) w wr) (fun _ i _=>(intOf i).toNat)
  case atStart=>exact⟨Y,[],pa,rfl,by simpa using hY,by simp,UA.out,RA.out,by omega,OA.out⟩
  case round =>
   obtain⟨m,P,pp,rfl,hPl,hPr,ho,hR,hpp,hO⟩:=hrel;obtain⟨wm,rfl⟩:∃ wm:World,wm=wr:=⟨_,rfl⟩
   clear RA OA UA;by_cases hm:0 < m
   ·have hm':(0:Int) < m:=by omega
    have hsm:=hO.size;obtain⟨us,hU,hold⟩:=ho.told;have hub:us.length≤68719476736:=by rw[hU.1];omega
    have HU:=hide hU;have HOLD:=hide hold;have RM:=hide hR;have OM:=hide hO;have HPR:=hide hPr
    clear ho hR hO hU hold hPr;go_wp2_with fail
    (with_reducible refine(HN5.out pp _ _ (by simp) (by omega) ((RM.out.allocNew _).allocNew _) (by omega)).mono ?_);rintro e wb ⟨vb,pb,rfl,hone,hpb,hrb,hob⟩
    obtain⟨z,rfl,hz⟩:=hone.open5;have RB:=hide hrb;have OB:=hide ((((Outside.refl b (b+1) wm).allocNew (.cells #[] 56)).allocNew (.cells #[.int .i64 2,.int .i64 1,.int .i64 3,.int .i64 2,.int .i64 0] 3)).trans hob)
    have LB:=hide (hob.ownHi ((Own.empty (E:=InsE) 56 wm (Nat.le_refl _)).alloc (.cells #[.int .i64 2,.int .i64 1,.int .i64 3,.int .i64 2,.int .i64 0] 3)) (show b < wm.heap.size by omega));obtain⟨Z,rfl⟩:∃ Z:Nat,z=(Z:Int):=⟨z.toNat,by omega⟩
    have hZ:Z≤3:=by omega
    clear hrb hob hone hz;go_wp2_with fail
    go_loopw [8,9] (fun l k wr' => ∃ (n:Nat) (ys:List Ins) (pq:Int),k = .int .i64 n∧ys.length+n≤3∧OwnI wr' wm.heap.size l ys∧Rd wr' b a c xs pq∧pq+4 * n≤pb+12∧Outside b (b+1) wm wr') (fun _ k _=>(intOf k).toNat)
    case atStart=>exact⟨Z,[],pb,rfl,by simpa using hZ,LB.out,RB.out,by omega,OB.out⟩
    case round =>
     obtain⟨n,ys,pq,rfl,hyl,hl,hR,hpq,hO⟩:=hrel;clear RB OB LB;by_cases hn:0 < n
     ·have hn':(0:Int) < n:=by omega
      have RW:=hide hR;have OW:=hide hO;have LW:=hide hl
      clear hR hO hl;go_wp2_with fail
      (with_reducible refine(HI.out pq _ RW.out (by omega)).mono ?_);rintro e wc ⟨vc,pc,rfl,⟨io,il,ir,ix,rfl,hiv⟩,hpc,hrc,hoc⟩
      have hlc:=hide (hoc.ownHi LW.out (show b < wm.heap.size by omega));have RC:=hide hrc;have OC:=hide (OW.out.trans hoc)
      have hsz:=OC.out.size;have hyl64:ys.length≤68719476736:=by omega
      clear hrc hoc RW OW LW;go_wp2_with (at_builtin;refine wpList_app InsE 56 Try.infoIns rfl Try.underlying54 wm.heap.size _ ys ⟨io,il,ir,ix⟩ (hlc.out.alloc _) (by decide) hyl64 (by simp;omega) rfl _ _ rfl rfl _ 0 1 rfl news_alloc ?_;intro v6 w6 ho6 hgr6);have R6:=(RC.out.allocNew _).grownNew hgr6 (fun q hq=>by have:=hlc.out.rowGe q hq;omega);have O6:=(OC.out.allocNew _).grownNew hgr6 (fun q hq=>hlc.out.rowGe q hq);go_roundw
      case rel=>exact⟨n - 1,ys++[⟨io,il,ir,ix⟩],pc,by go_num,by simp;omega,ho6,R6,by omega,O6⟩
      case measure=>simp[intOf];omega
     ·obtain rfl:n=0:=by omega
      obtain⟨la,ln,lc,rfl,hln⟩:=hl.toSl;have hU3:=hide (HU.out.outside hO hlt);have HL:=hide hl;have RW:=hide hR;have OW:=hide hO
      have hsz:=hO.size;clear hl hR hO hln;go_wp2_with (at_builtin;refine wpList_app SlcE 54 Try.infoInsS rfl Try.underlying31 w.heap.size _ us ⟨la,ln,lc⟩ (hU3.out.2.1.alloc _) (by decide) hub (by simp;omega) rfl _ _ rfl rfl _ 0 1 rfl news_alloc ?_;intro v5 w5 ho5 hgr5);have ho6:=(hU3.out.below (belowAlloc _ _)).app2 (by decide) (fun i u hu q hq=>(HOLD.out i u hu q hq).2) hsm (s:=⟨la,ln,lc⟩) (HL.out.alloc _) ho5 hgr5;have R6:=(RW.out.allocNew _).grownNew hgr5 (fun q hq=>by have:=hU3.out.2.1.rowGe q hq;omega);have O6:=((OM.out.trans OW.out).allocNew _).grownNew hgr5 (fun q hq=>hU3.out.2.1.rowGe q hq);go_roundw
      case rel=>exact⟨m - 1,P++[ys],pq,by go_num,by simp;omega,by
       intro r hr;rcases List.mem_append.1 hr with h | h
       ·exact HPR.out r h
       ·rw[List.mem_singleton.1 h];omega,ho6,R6,by omega,O6⟩
      case measure=>simp[intOf];omega
   ·obtain rfl:m=0:=by omega
    obtain⟨us,hU,-⟩:=ho.told;obtain⟨oa,on,oc,rfl,hon⟩:=hU.2.1.toSl;have hfl:P.flatten.length≤1048576:=by
     have:=flatten_bound P 3 hPr;have:P.length * 3≤3 * 3:=Nat.mul_le_mul_right _ (by omega);omega
    have HV:=hide (fun w' h=>sProgramValid_any (.slice oa on oc) P w' h hfl (by omega));have HO:=hide ho;have RM:=hide hR;have OM:=hide hO;have HPR:=hide hPr
    clear hU hon ho hR hO hPr hfl;go_wp2_with fail
    (with_reducible refine(HV.out _ HO.out.rep).mono ?_);rintro e w4 ⟨rfl,hb4⟩
    have R4:=hide (RM.out.keep hb4 RM.out.lt);have O4:=hide (OM.out.trans (Outside.of_below hb4));have HO4:=hide (HO.out.below hb4)
    clear hb4 HO RM OM HV;by_cases hv:progValid P=true
    ·go_wp2_with fail
     go_ret;exact⟨_,pp,rfl,⟨P,HO4.out,by omega,fun r hr=>Nat.le_trans (HPR.out r hr) (by omega),hv⟩,by omega,R4.out,O4.out⟩
    ·have hv':progValid P=false:=by simpa using hv
     clear hv HO4;go_wp2_with fail
     (with_reducible refine(HI.out pp _ R4.out (by omega)).mono ?_);rintro e wc ⟨vc,pc,rfl,⟨io,il,ir,ix,rfl,hiv⟩,hpc,hrc,hoc⟩
     have RC:=hide hrc;have OC:=hide (O4.out.trans hoc)
     clear hrc hoc R4 O4;have hsz:=OC.out.size;go_wp2_with fail;go_ret;exact⟨_,pc,rfl,⟨[[⟨io,il,ir,ix⟩]],own2_one hsz ⟨io,il,ir,ix⟩ rfl,by simp,by simp,one_valid hiv⟩,by omega,(RC.out.allocNew _).allocNew _,(OC.out.allocNew _).allocNew _⟩
theorem l1Draw_any (b:Nat) (a:Option Addr) (c:Nat) (xs:List Int) (p:Int) (w:World) (hr:Rd w b a c xs p) (hp:p≤800000000) :
 Calls Try.prog 18 #[.pointer (some ⟨b,0,none⟩)] w (RetRd w b a c xs p 60 (QP w.heap.size)):=
 (l1Draw_anyV b a c xs p w hr hp).mono fun _ _ ⟨v,p',h1,⟨P,h2,h3,h4,_⟩,h5⟩=>⟨v,p',h1,⟨P,h2,h3,h4⟩,h5⟩
end Go.Proofs.Ytnkfphndfijcoaa
namespace Go.Proofs.Ytnkfphndfijcoaa
open Go.RowKit
theorem QP.mono {lo lo':Nat}{v:Value}{w:World}(h:QP lo v w) (hl:lo'≤lo):QP lo' v w:=by
 obtain⟨P,h1,h2,h3⟩:=h;exact⟨P,h1.mono hl,h2,h3⟩
theorem l1Execs200_any (v:Value) (p:List (List Ins)) (w:World) (hp:RepP w v p) (hl:p.flatten.length≤1048576) (hpl:p.length≤1048576) :
 Calls Try.prog 19 #[v,.int .i64 200] w fun e w' => ∃ k:Int,e = .returned (.int .i64 k)∧Below w.heap.size w w':=by
 have HP:=hide hp;clear hp;have HL:=hide hl;clear hl;go_enter Try.func19,Try.ntmps19;go_wp2_with fail
 go_loopw [5,6] (fun q i wr => ∃ (k:Nat) (N:Int),k≤3∧i = .int .i64 k∧q = .int .i64 N∧Below w.heap.size w wr) (fun _ i _=>3 - (intOf i).toNat)
 case atStart=>exact⟨0,1,by omega,rfl,rfl,Below.refl _ _⟩
 case round =>
  obtain⟨k,N,hk,rfl,rfl,hb⟩:=hrel;by_cases hlt:k < 3
  ·have hlt':(k:Int)≤2:=by omega
   have hbR:=Nat.le_trans (cnt_le_flatten (fR k) p) HL.out;have hbW:=Nat.le_trans (cnt_le_flatten (fW k) p) HL.out;have C1:∀ w',RepP w' v p→Calls Try.prog 32 #[v,.int .i64 (k:Int),.bool true] w' fun e w2=>e = .returned (.int .i64 (cnt (fW k) p:Nat))∧Below w'.heap.size w' w2:=fun w' h=>by
    have:=l1Count_any v p k true w' h HL.out hpl;rwa[fRW_true]at this
   have C2:∀ w',RepP w' v p→Calls Try.prog 32 #[v,.int .i64 (k:Int),.bool false] w' fun e w2=>e = .returned (.int .i64 (cnt (fR k) p:Nat))∧Below w'.heap.size w' w2:=fun w' h=>by
    have:=l1Count_any v p k false w' h HL.out hpl;rwa[fRW_false]at this
   generalize hR:cnt (fR k) p=R at *;generalize hW:cnt (fW k) p=W at *;have D1:=hide C1;have D2:=hide C2
   clear hR hW C1 C2;go_wp2_with (go_at_call 32;(with_reducible refine(D1.out _ (HP.out.below hb)).mono ?_);rintro e w1 ⟨rfl,hb1⟩);have hb:=hb.trans (hb1.mono hb.size);clear hb1
   go_loopw [5,8] (fun q i wr => ∃ (t:Nat) (M:Int),t≤R∧i = .int .i64 t∧q = .int .i64 M∧Below w.heap.size w wr) (fun _ i _=>R - (intOf i).toNat)
   case atStart=>exact⟨0,N,by omega,rfl,rfl,hb⟩
   case round =>
    clear hb;obtain⟨t,M,ht,rfl,rfl,hb⟩:=hrel;by_cases hlt3:t < R
    ·have hlt3':=nat_of_lt hlt3
     by_cases hM:M≤200
     ·go_wp2_with (go_at_call 32;(with_reducible refine(D2.out _ (HP.out.below hb)).mono ?_);rintro e w1 ⟨rfl,hb1⟩)
      go_roundw
      case rel=>exact⟨t+1,_,by omega,by go_num,rfl,hb.trans (hb1.mono hb.size)⟩
      case measure=>simp[intOf];omega
     ·have hM':decide (M≤200)=false:=decide_eq_false hM
      clear hM;go_wp2_with (go_at_call 32;(with_reducible refine(D2.out _ (HP.out.below hb)).mono ?_);rintro e w1 ⟨rfl,hb1⟩);have hb:=hb.trans (hb1.mono hb.size);clear hb1
      go_loopw [5,9] (fun q i wr => ∃ (s:Nat) (L:Int),1≤s∧s≤W+1∧i = .int .i64 (s+1)∧q = .int .i64 L∧Below w.heap.size w wr) (fun _ i _=>W+1 - (intOf i).toNat)
      case atStart=>exact⟨1,M,by omega,by omega,rfl,rfl,hb⟩
      case round =>
       clear hb;obtain⟨s,L,hs1,hs2,rfl,rfl,hb⟩:=hrel;by_cases hlt5:(s:Int)+1≤W
       ·by_cases hL:L≤200
        ·go_wp2_with fail
         go_roundw
         case rel=>exact⟨s+1,_,by omega,by omega,by go_num,rfl,hb⟩
         case measure=>simp[intOf];omega
        ·have hL':decide (L≤200)=false:=decide_eq_false hL
         clear hL;go_wp2_with fail;go_roundw
         case rel=>exact⟨k+1,L,by omega,by go_num,rfl,hb⟩
         case measure=>simp[intOf];omega
       ·have hlt5':decide ((s:Int)+1≤W)=false:=decide_eq_false hlt5
        go_wp2_with fail;go_roundw
        case rel=>exact⟨k+1,L,by omega,by go_num,rfl,hb⟩
        case measure=>simp[intOf];omega
    ·have hlt3':decide (t < R)=false:=decide_eq_false hlt3
     have hlt3'':decide ((t:Int) < R)=false:=decide_eq_false (by omega);go_wp2_with (go_at_call 32;(with_reducible refine(D2.out _ (HP.out.below hb)).mono ?_);rintro e w1 ⟨rfl,hb1⟩);have hb:=hb.trans (hb1.mono hb.size);clear hb1
     go_loopw [5,9] (fun q i wr => ∃ (s:Nat) (L:Int),1≤s∧s≤W+1∧i = .int .i64 (s+1)∧q = .int .i64 L∧Below w.heap.size w wr) (fun _ i _=>W+1 - (intOf i).toNat)
     case atStart=>exact⟨1,M,by omega,by omega,rfl,rfl,hb⟩
     case round =>
      clear hb;obtain⟨s,L,hs1,hs2,rfl,rfl,hb⟩:=hrel;by_cases hlt5:(s:Int)+1≤W
      ·by_cases hL:L≤200
       ·go_wp2_with fail
        go_roundw
        case rel=>exact⟨s+1,_,by omega,by omega,by go_num,rfl,hb⟩
        case measure=>simp[intOf];omega
       ·have hL':decide (L≤200)=false:=decide_eq_false hL
        clear hL;go_wp2_with fail;go_roundw
        case rel=>exact⟨k+1,L,by omega,by go_num,rfl,hb⟩
        case measure=>simp[intOf];omega
      ·have hlt5':decide ((s:Int)+1≤W)=false:=decide_eq_false hlt5
       go_wp2_with fail;go_roundw
       case rel=>exact⟨k+1,L,by omega,by go_num,rfl,hb⟩
       case measure=>simp[intOf];omega
  ·have e:k=3:=by omega
   subst e;by_cases h3:200 < N
   ·go_wp2_with fail
    go_ret
    first | exact⟨_,rfl,hb⟩ | exact⟨⟨_,rfl⟩,hb⟩
   ·have h3':decide (200 < N)=false:=decide_eq_false h3
    go_wp2_with fail;go_ret
    first | exact⟨_,rfl,hb⟩ | exact⟨⟨_,rfl⟩,hb⟩
theorem l8Small_any (b:Nat) (a:Option Addr) (c:Nat) (xs:List Int) (p:Int) (w:World) (hr:Rd w b a c xs p) (hp:p≤800000000) :
 Calls Try.prog 9 #[.pointer (some ⟨b,0,none⟩)] w (RetRd w b a c xs p 60 (QP w.heap.size)):=by
 have HD:=hide (l1Draw_any b a c xs p w hr hp);have hlt:=hr.lt;have HS:=hide (fun w'=>sParseProgram_any ⟨#[120,61,49,59,97,61,121,124,121,61,49,59,97,61,120]⟩ w' (by decide));clear hr;go_enter Try.func9,Try.ntmps9;go_wp2_with fail
 (with_reducible refine HD.out.mono ?_);rintro e w1 ⟨v1,p1,rfl,⟨P,ho,hPl,hPr⟩,hp1,hr1,ho1⟩
 have hfl:P.flatten.length≤1048576:=by
  have:=flatten_bound P 8 hPr;have:P.length * 8≤4 * 8:=Nat.mul_le_mul_right _ (by omega);omega
 obtain⟨us,hU,-⟩:=ho.told;obtain⟨oa,on,oc,rfl,hon⟩:=hU.2.1.toSl;have HX:=hide (fun w' h=>l1Execs200_any (.slice oa on oc) P w' h hfl (by omega));have HO:=hide ho;have R1:=hide hr1;have O1:=hide ho1;have HPR:=hide hPr
 clear hU ho hr1 ho1 hPr hfl hon HD;go_wp2_with fail
 (with_reducible refine(HX.out _ HO.out.rep).mono ?_);rintro e w2 ⟨k,rfl,hb2⟩
 have HO2:=hide (HO.out.below hb2);have R2:=hide (R1.out.keep hb2 R1.out.lt);have O2:=hide (O1.out.trans (Outside.of_below hb2))
 clear HO R1 O1 hb2 HX;by_cases hk:k≤200
 ·go_wp2_with fail
  go_ret;exact⟨_,p1,rfl,⟨P,HO2.out,hPl,HPR.out⟩,hp1,R2.out,O2.out⟩
 ·have hk':decide (k≤200)=false:=decide_eq_false hk
  clear hk HO2;go_wp2_with fail
  (with_reducible refine(HS.out _).mono ?_);rintro e w4 ⟨v4,ok,rfl,hQP,hb4⟩
  have hsz:=O2.out.size;go_wp2_with fail;go_ret;exact⟨_,p1,rfl,hQP.mono hsz,hp1,R2.out.keep hb4 R2.out.lt,O2.out.trans (Outside.of_below hb4)⟩
end Go.Proofs.Ytnkfphndfijcoaa
namespace Go.Proofs.Ytnkfphndfijcoaa
open Go.RowKit
theorem Own2U.rowput2 {α:Type}{E:El α}{T1 T2:TypeId}{us:List Slc}{w w':World}{base g n cap:Nat}{p:List (List α)}(h:Own2U E T1 T2 us w base (.slice (some ⟨g,0,none⟩) n cap) p) {k:Nat}{s s':Slc}(hs:us[k]? = some s) {r':List α}
 (ho:Own E T2 w' base s'.v r') (hg:w.grownBy w' s.v.ownBlock) (hb:s'.v.ownBlock=s.v.ownBlock∨∃ q,s'.v.ownBlock=some q∧w.heap.size≤q):Own2U E T1 T2 (us.set k s') (w'.setCell ⟨g,k,none⟩ s'.v) base (.slice (some ⟨g,0,none⟩) n cap) (p.set k r'):=by
 obtain⟨h1,h2,h3,h4,h5⟩:=h;have hk:=(List.getElem?_eq_some_iff.1 hs).1;have hglt:=(World.ownsRow.lt h2 g rfl).2;have h2':=h2.grown hg (.inr (fun e=>h5 k s hs g (by rw[← e];rfl) rfl));have h2s:=h2'.set (i:=k) (j:=0) s' (u:=s'.v) (by decide) hs rfl;simp only[SlcE,Nat.mul_one,Nat.add_zero]at h2s;have hgs:w'.grownBy (w'.setCell ⟨g,k,none⟩ s'.v) (some g):=grown_set (World.grownBy.refl _ _) _ _;have hlt:∀ (i:Nat) (u:Slc),us[i]? = some u→∀ q,u.v.ownBlock=some q→q < w.heap.size:=fun i u hi q hq=>by
  obtain⟨r,hr⟩:=get_of_lt (xs:=p) (k:=i) (by have:=(List.getElem?_eq_some_iff.1 hi).1;omega);exact(World.ownsRow.lt (h3 i u r hi hr) q hq).2
 have hs5:∀ q,s'.v.ownBlock=some q→q≠g:=fun q hq e=>by
  subst e;rcases hb with hb | ⟨q',h6,h7⟩
  ·exact h5 k s hs q (by rw[← hb];exact hq) rfl
  ·rw[h6]at hq;simp at hq;omega
 have hs4:∀ (i:Nat) (u:Slc),us[i]? = some u→i≠k→∀ q,u.v.ownBlock=some q→s'.v.ownBlock≠some q:=fun i u hi hne q hq hq'=>by
  rcases hb with hb | ⟨q',h6,h7⟩
  ·exact h4 i k u s hi hs hne q hq (by rw[← hb];exact hq')
  ·rw[h6]at hq';simp at hq';have:=hlt i u hi q hq;omega
 have split:∀ (i:Nat) (u:Slc),(us.set k s')[i]? = some u→(i=k∧u=s')∨(i≠k∧us[i]? = some u):=fun i u hi=>by
  rw[List.getElem?_set]at hi;by_cases e:k=i
  ·subst e;rw[if_pos rfl,if_pos hk]at hi;simp at hi;exact .inl ⟨rfl,hi.symm⟩
  ·rw[if_neg e]at hi;exact .inr ⟨fun h=>e h.symm,hi⟩
 refine⟨by simp[h1],h2s,?_,?_,?_⟩
 ·intro i u r hi hr
  rcases split i u hi with⟨e1,e2⟩ | ⟨hne,hi'⟩
  ·rw[e1,List.getElem?_set,if_pos rfl,if_pos (by omega)]at hr
   simp at hr;subst hr;rw[e2];refine ho.grown hgs ?_;rcases hq:s'.v.ownBlock with _ | q
   ·exact .inl rfl
   ·exact .inr (fun e=>hs5 q hq (by simpa using e))
  ·rw[List.getElem?_set,if_neg (fun e=>hne e.symm)]at hr
   refine((h3 i u r hi' hr).grown hg ?_).grown hgs ?_
   ·rcases hq:u.v.ownBlock with _ | q
    ·exact .inl rfl
    ·exact .inr (fun e=>h4 i k u s hi' hs hne q hq e.symm)
   ·rcases hq:u.v.ownBlock with _ | q
    ·exact .inl rfl
    ·exact .inr (fun e=>h5 i u hi' q hq (by rw[e];rfl))
 ·intro i j u u' hi hj hij q hq hq'
  rcases split i u hi with⟨e1,e2⟩ | ⟨hne,hi'⟩
  ·rcases split j u' hj with⟨e3,e4⟩ | ⟨hne',hj'⟩
   ·omega
   ·rw[e2]at hq;exact hs4 j u' hj' hne' q hq' hq
  ·rcases split j u' hj with⟨e3,e4⟩ | ⟨hne',hj'⟩
   ·rw[e4]at hq';exact hs4 i u hi' hne q hq hq'
   ·exact h4 i j u u' hi' hj' hij q hq hq'
 ·intro i u hi q hq hq'
  rcases split i u hi with⟨e1,e2⟩ | ⟨hne,hi'⟩
  ·rw[e2]at hq;exact hs5 q hq (by simp[Value.ownBlock]at hq';exact hq'.symm)
  ·exact h5 i u hi' q hq hq'
end Go.Proofs.Ytnkfphndfijcoaa
namespace Go.Proofs.Ytnkfphndfijcoaa
open Go.RowKit
abbrev keyB (l:List Int):ByteArray:=strOfNums l
theorem keyB_inj {l l':List Int}(h:∀ x∈l,0≤x∧x≤255) (h':∀ x∈l',0≤x∧x≤255) (e:keyB l=keyB l'):l=l':=by
 have e1:(l.map fun x=>UInt8.ofNat x.toNat)=l'.map fun x=>UInt8.ofNat x.toNat:=by
  have:=congrArg (fun b:ByteArray=>b.data.toList) e;simpa[strOfNums] using this
 clear e
 induction l generalizing l' with
 | nil=>cases l' with
  | nil=>rfl
  | cons y l'=>simp at e1
 | cons x l ih =>
  cases l' with
  | nil=>simp at e1
  | cons y l' =>
   simp only[List.map_cons,List.cons.injEq]at e1;have h1:=h x (by simp);have h2:=h' y (by simp);have e2:=congrArg UInt8.toNat e1.1;simp only[UInt8.toNat_ofNat']at e2;rw[Nat.mod_eq_of_lt (by omega),Nat.mod_eq_of_lt (by omega)]at e2;rw[ih (fun z hz=>h z (by simp[hz])) (fun z hz=>h' z (by simp[hz])) e1.2,show x=y by omega]
def hashL (l:List UInt8):Nat:=l.foldl (fun n c=>(n * 31+c.toNat) % 4096) 0
def hashB (s:ByteArray):Nat:=hashL s.data.toList
theorem hashL_snoc (l:List UInt8) (c:UInt8):hashL (l++[c])=(hashL l * 31+c.toNat) % 4096:=by simp[hashL]
theorem hashL_lt (l:List UInt8):hashL l < 4096:=by
 rcases List.eq_nil_or_concat l with rfl | ⟨l',c,rfl⟩
 ·simp[hashL]
 ·rw[List.concat_eq_append,hashL_snoc];exact Nat.mod_lt _ (by decide)
theorem hashB_lt (s:ByteArray):hashB s < 4096:=hashL_lt _
def rowT (ks:List ByteArray) (h:Nat):List ByteArray:=ks.filter fun k=>hashB k==h
def rowsT (ks:List ByteArray):List (List ByteArray):=(List.range 4096).map (rowT ks)
theorem rowsT_length (ks:List ByteArray):(rowsT ks).length=4096:=by simp[rowsT]
theorem rowsT_get (ks:List ByteArray) {h:Nat}(hh:h < 4096):(rowsT ks)[h]? = some (rowT ks h):=by
 unfold rowsT;rw[List.getElem?_map,List.getElem?_range hh];rfl
theorem rowsT_nil:rowsT []=List.replicate 4096 []:=by
 apply List.ext_getElem?;intro k;by_cases h:k < 4096
 ·rw[rowsT_get _ h,List.getElem?_replicate,if_pos h];rfl
 ·rw[List.getElem?_eq_none (by rw[rowsT_length];omega),List.getElem?_eq_none (by rw[List.length_replicate];omega)]
theorem rowsT_mark (ks:List ByteArray) (s:ByteArray):(rowsT ks).set (hashB s) (rowT ks (hashB s)++[s])=rowsT (ks++[s]):=by
 apply List.ext_getElem?;intro k;by_cases h:k < 4096
 ·rw[rowsT_get _ h,List.getElem?_set]
  by_cases e:hashB s=k
  ·rw[if_pos e,if_pos (by rw[rowsT_length];omega)]
   subst e;simp[rowT,List.filter_append]
  ·rw[if_neg e,rowsT_get _ h]
   have e2:(hashB s==k)=false:=by simpa using e
   simp[rowT,List.filter_append,e2]
 ·rw[List.getElem?_eq_none (by rw[List.length_set,rowsT_length];omega),List.getElem?_eq_none (by rw[rowsT_length];omega)]
theorem rowT_mem (ks:List ByteArray) (s:ByteArray):s∈rowT ks (hashB s)↔s∈ks:=by simp[rowT]
theorem rowT_le (ks:List ByteArray) (h:Nat):(rowT ks h).length≤ks.length:=List.length_filter_le _ _
end Go.Proofs.Ytnkfphndfijcoaa
namespace Go.Proofs.Ytnkfphndfijcoaa
open Go.RowKit
theorem byteGetM {s:ByteArray}{k:Nat}(h:k < s.size):s.data.toList[k]? = some (s[k]'h):=by
 rw[List.getElem?_eq_getElem (by rw[Array.length_toList];exact h),Array.getElem_toList];rfl
theorem l3Hash_any (s:ByteArray) (w:World) (hs:s.size≤1000000) :
 Calls Try.prog 62 #[.string s] w fun e w'=>e = .returned (.int .i64 (hashB s:Nat))∧w=w':=by
 have HH:Hid (hashB s=hashL s.data.toList):=hide rfl;have HN:Hid (s.data.toList.length=s.size):=hide (by rw[Array.length_toList];rfl);have HG:=hide (fun (k:Nat) (h:k < s.size)=>byteGetM h);generalize hl:s.data.toList=l at *;clear hl;go_enter Try.func62,Try.ntmps62;go_wp2_with fail
 go_loopw [3,4] (fun n i wr => ∃ k:Nat,k≤s.size∧i = .int .i64 k∧n = .int .i64 (hashL (l.take k):Nat)∧w=wr) (fun _ i _=>s.size - (intOf i).toNat)
 case atStart=>exact⟨0,Nat.zero_le _,rfl,by simp[hashL],rfl⟩
 case round =>
  obtain⟨k,hk,rfl,rfl,rfl⟩:=hrel;by_cases hlt:k < s.size
  ·have hlt':=nat_of_lt hlt
   have hki:0≤(k:Int)∧(k:Int) < s.size:=by omega
   have hg:=HG.out k hlt;have HS:Hid (hashL (l.take (k+1))=(hashL (l.take k) * 31+(s[k]'hlt).toNat) % 4096):=hide (by rw[List.take_add_one,hg];exact hashL_snoc _ _);have hb:=(s[k]'hlt).toNat_lt;have hq:=hashL_lt (l.take k);generalize hashL (l.take k)=q at *;clear hg;go_wp2_with fail;go_roundw
   case rel=>exact⟨k+1,by omega,by go_num,by rw[HS.out];go_num,by trivial⟩
   case measure=>simp[intOf];omega
  ·have e:k=s.size:=by omega
   subst e;have E:Hid (hashL (l.take s.size)=hashB s):=hide (by rw[HH.out,List.take_of_length_le (by rw[HN.out];exact Nat.le_refl _)]);go_wp2_with fail;go_ret;rw[E.out];exact⟨rfl,rfl⟩
abbrev Tab (w:World) (base:Nat) (v:Value) (ks:List ByteArray):Prop:=Own2 StrE 51 9 w base v (rowsT ks)
theorem Rep.strM {w:World}{a:Option Addr}{n c:Nat}{xs:List ByteArray}(h:Rep StrE w (.slice a n c) xs) {k:Nat}{x:ByteArray}(hx:xs[k]? = some x) :
 ∃ b o,a=some ⟨b,o,none⟩∧b < w.heap.size∧w.cell? ⟨b,o+k,none⟩=some (.string x):=by
 obtain⟨a',c',hv,_,_,h⟩:=h;simp only[Value.slice.injEq]at hv;obtain⟨rfl,rfl,rfl⟩:=hv;obtain⟨b,o,rfl,h'⟩:=h k x hx;have:=h' 0 _ rfl;simp only[StrE,Nat.mul_one,Nat.add_zero]at this;exact⟨b,o,rfl,lt_of_cell this,this⟩
theorem strEqM (a b:ByteArray) {D:Bool}(hD:D=true↔a=b):(a.toList==b.toList)=D:=by
 rw[ByteArray.toList_eq,ByteArray.toList_eq];rcases hq:(a.data.toList==b.data.toList) with _ | _
 ·symm
  rw[Bool.eq_false_iff];intro h;have:=hD.1 h;subst this;simp at hq
 ·symm
  exact hD.2 (ByteArray.ext (Array.toList_inj.1 (by simpa using hq)))
def RetIfM (w:World) (q:Prop) (e:Ending) (w':World):Prop:=∃ D:Bool,e = .returned (.bool D)∧(D=true↔q)∧w=w'
theorem l3Found_any (vt:Value) (ks:List ByteArray) (s:ByteArray) (w:World) (hr:Rep2 StrE w vt (rowsT ks)) (hs:s.size≤1000000) :
 Calls Try.prog 44 #[vt,.string s] w (RetIfM w (s∈ks)):=by
 obtain⟨a,c,rfl,hc1,hc2,hc3,hr⟩:=hr.open;have hh:=hashB_lt s;obtain⟨b,o,ra,rc,rfl,hbl,i0,i1⟩:=hr.row (rowsT_get ks hh);obtain⟨_,_,_,_,hrl,_,_⟩:=i1.open;rw[rowsT_length]at hc1 hc2 ⊢;have HI:=hide i1;have HH:=hide (l3Hash_any s w hs);have hh':(hashB s:Int) < 4096:=by omega
 have HM:Hid (s∈rowT ks (hashB s)↔s∈ks):=hide (rowT_mem ks s);generalize rowT ks (hashB s)=R at *;generalize (s∈ks)=D at *;generalize hashB s=H at *;generalize hn:R.length=n at *;have HN:=hide hn;clear hn i1 hr;go_enter Try.func44,Try.ntmps44;go_wp2_with (go_at_call 62;(with_reducible refine HH.out.mono ?_);rintro e w1 ⟨rfl,rfl⟩)
 go_loopw [6] (fun i wr => ∃ k:Nat,k≤n∧i = .int .i64 k∧Hid (s∉R.take k)∧w=wr) (fun i _=>n - (intOf i).toNat)
 case atStart=>exact⟨0,Nat.zero_le _,rfl,hide (by simp),rfl⟩
 case round =>
  obtain⟨k,hk,rfl,hno,rfl⟩:=hrel;by_cases hlt:k < n
  ·have hlt':=nat_of_lt hlt
   obtain⟨y,hy⟩:=get_of_lt (xs:=R) (k:=k) (by rw[HN.out];exact hlt);obtain⟨b',o',rfl,hbl',j0⟩:=HI.out.strM hy;have Y:=hide hy;clear hy;by_cases e:y=s
   ·have hq':(y.toList==s.toList)=true:=strEqM y s (by simp[e])
    have E:Hid D:=hide (HM.out.1 (by rw[← e];exact List.mem_of_getElem? Y.out));clear e;go_wp2_with fail;go_ret;exact⟨true,rfl,by simp[E.out],rfl⟩
   ·have hq':(y.toList==s.toList)=false:=strEqM y s (by simp[e])
    have NO:Hid (s∉R.take (k+1)):=hide (by
     rw[List.take_add_one,Y.out];simp only[Option.toList_some,List.mem_append,List.mem_singleton,not_or];exact⟨hno.out,fun q=>e q.symm⟩)
    clear e;go_wp2_with fail;go_roundw
    case rel=>exact⟨k+1,by omega,by go_num,NO,by trivial⟩
    case measure=>simp[intOf];omega
  ·have E:Hid (¬ D):=hide (by
    rw[← HM.out];have h:=hno.out;rwa[List.take_of_length_le (by rw[HN.out];omega)]at h)
   have hlt':¬ (k:Int) < n:=by omega
   go_wp2_with fail;go_ret;exact⟨false,rfl,by simp[E.out],rfl⟩
def RetMark (w:World) (base:Nat) (vt:Value) (ks:List ByteArray) (e:Ending) (w':World):Prop:=e = .returned (.tuple #[])∧Tab w' base vt ks∧KpT [51,9] base w w'
theorem l3MarkL_any (vt:Value) (ks:List ByteArray) (s:ByteArray) (base:Nat) (w:World) (hr:Tab w base vt ks) (hs:s.size≤1000000) (hk:ks.length≤8796093022000) (hB:base≤w.heap.size) :
 Calls Try.prog 38 #[vt,.string s] w (RetMark w base vt (ks++[s])):=by
 obtain⟨us,hU,-⟩:=hr.told;have hh:=hashB_lt s;have HH:=hide (fun w'=>l3Hash_any s w' hs);rcases hU.2.1.shape with⟨_,hn⟩ | ⟨g,cap,rfl,hg1,hg2,hg3,hg4⟩
 ·have:=hU.1
  rw[hn,rowsT_length]at this;simp at this
 have hul:us.length=4096:=by rw[hU.1,rowsT_length]
 rw[hul]at hU ⊢;obtain⟨u,hu,hgl,hcell,hrow,-⟩:=hU.row (rowsT_get ks hh);have hfz:w.frozen? ⟨g,hashB s,none⟩=false:=hU.2.1.frozen _;have hl:(rowT ks (hashB s)).length≤8796093022000:=Nat.le_trans (rowT_le _ _) hk;have HU:=hide hU;have HUS:=hide hu
 have HMk:=hide (rowsT_mark ks s);have hh':(hashB s:Int) < 4096:=by omega
 have HR:=hide hrow;have HT:=hide hr;generalize rowT ks (hashB s)=R at *;generalize hashB s=H at *;clear hrow hu hU hr hul;have hne:u.v.ownBlock≠some g:=fun e=>HU.out.2.2.2.2 H u HUS.out g e rfl;have hx1:((w.alloc (.cells #[.string s] 9)).cell? ⟨g,H,none⟩)=some (.slice u.a u.n u.cap):=(World.cell?_alloc_lt w _ _ hgl).trans hcell;go_enter Try.func38,Try.ntmps38;go_wp2_with (first
  | (go_at_call 62;(with_reducible refine(HH.out _).mono ?_);rintro e w1 ⟨rfl,rfl⟩)
  | (at_builtin;refine wpList_appAtL StrE 9 Try.infoStr rfl Try.underlying51 base _ R s (HR.out.alloc _) (by omega) (by omega) (by simp;omega) rfl _ _ rfl rfl _ 0 1 rfl news_alloc ?_;intro v4 w4 hown4 hgr4 hat4;obtain⟨⟨a4,n4,c4⟩,rfl,-⟩:=hown4.toSlc;have hgb:=hgr4.block g (by simp;omega) (fun e=>hne e.symm);have hx4:w4.cell? ⟨g,H,none⟩=some (.slice u.a u.n u.cap):=(cell_of_block3 hgb H).trans hx1;have hf4:w4.frozen? ⟨g,H,none⟩=false:=(by unfold World.frozen?;rw[hgb,heap_alloc_old _ _ hgl]:w4.frozen? ⟨g,H,none⟩=w.frozen? ⟨g,H,none⟩).trans hfz;have hgl4:=lt_of_cell hx4;have O4:=hide hown4;have G4:=hide hgr4;have A4:=hide hat4;clear hown4 hgr4 hat4 hgb))
 have hU1:=HU.out.below (belowAlloc w (.cells #[.string s] 9));have hN:=hU1.rowput2 HUS.out O4.out G4.out A4.out;rw[HMk.out]at hN;refine bodyPost_ret (v:=.tuple #[]) (by simp[results,Try.results38,go_sem]) rfl ⟨rfl,hN.own,?_⟩;obtain⟨a9,ha9⟩:=(HU.out.2.1.below (belowAlloc w (.cells #[.string s] 9))).typeT (g:=g) rfl;have hgb4:=(G4.out.block g (by simp;omega) (fun e=>hne e.symm)).trans ha9;exact((KpT.alloc w _).trans (KpT.grown (HR.out.alloc _) (by decide) (Nat.le_refl _) G4.out)).trans (KpT.set hgb4 (by decide) hg1 _)
theorem l3Mark_any (vt:Value) (ks:List ByteArray) (s:ByteArray) (base:Nat) (w:World) (hr:Tab w base vt ks) (hs:s.size≤1000000) (hk:ks.length≤68719476736) (hB:base≤w.heap.size) :
 Calls Try.prog 38 #[vt,.string s] w (RetMark w base vt (ks++[s])):=l3MarkL_any vt ks s base w hr hs (by omega) hB
end Go.Proofs.Ytnkfphndfijcoaa
namespace Go.Proofs.Ytnkfphndfijcoaa
open Go.RowKit
def laneA (fa ff:Bool) (A:Nat) (f:Slc):Slc:=if ff=true then f else if fa=true then ⟨some ⟨A,0,none⟩,0,0⟩ else ⟨none,0,0⟩
def laneL (ff:Bool) (l:List Int):List Int:=if ff=true then l else []
structure JCp (A0:World) (pc rg mm:List Int) (a1 f1 a2 f2 a3 f3 fo:Bool) (A B C:Nat) (f g h:Slc) (O:Nat) (W:World):Prop where
 out:Below A0.heap.size A0 W
 ln:Lanes W A0.heap.size (laneA a1 f1 A f) (laneA a2 f2 B g) (laneA a3 f3 C h) (laneL f1 pc) (laneL f2 rg) (laneL f3 mm)
 i1:f1=true→a1=true
 i2:f2=true→a2=true
 i3:f3=true→a3=true
 ob:fo=true→W.heap[O]? = some (.cells #[.slice none 0 0,.slice none 0 0,.slice none 0 0,.slice none 0 0] 64 (0,0))∧A0.heap.size≤O
section
variable {A0 W w' : World} {pc rg mm : List Int} {a1 f1 a2 f2 a3 f3 fo : Bool} {A B C O : Nat} {f g h s' : Slc}
theorem JCp.start (hb:Below A0.heap.size A0 W):JCp A0 pc rg mm false false false false false false false A B C f g h O W:=⟨hb,Lanes.nil _ _,fun e=>(nomatch e),fun e=>(nomatch e),fun e=>(nomatch e),fun e=>(nomatch e)⟩
theorem JCp.obB (hJ:JCp A0 pc rg mm a1 f1 a2 f2 a3 f3 fo A B C f g h O W) (hb:Below W.heap.size W w'):fo=true→w'.heap[O]? = some (.cells #[.slice none 0 0,.slice none 0 0,.slice none 0 0,.slice none 0 0] 64 (0,0))∧A0.heap.size≤O:=fun e =>
 ⟨(hb.block O (Array.getElem?_eq_some_iff.1 (hJ.ob e).1).1).trans (hJ.ob e).1,(hJ.ob e).2⟩
theorem JCp.obG (hJ:JCp A0 pc rg mm a1 f1 a2 f2 a3 f3 fo A B C f g h O W) {c:Slc}{l:List Int}{base:Nat}(ho:Own IntE 3 W base c.v l) (hg:W.grownBy w' c.v.ownBlock):fo=true→w'.heap[O]? = some (.cells #[.slice none 0 0,.slice none 0 0,.slice none 0 0,.slice none 0 0] 64 (0,0))∧A0.heap.size≤O:=fun e=>by
 have h1:=(hJ.ob e).1;refine⟨(hg.block O (Array.getElem?_eq_some_iff.1 h1).1 fun q => ?_).trans h1,(hJ.ob e).2⟩;obtain⟨a,ha⟩:=ho.typeT q.symm;rw[h1]at ha;simp at ha
theorem JCp.outG (hJ:JCp A0 pc rg mm a1 f1 a2 f2 a3 f3 fo A B C f g h O W) {c:Slc}{l:List Int}(ho:Own IntE 3 W A0.heap.size c.v l) (hg:W.grownBy w' c.v.ownBlock):Below A0.heap.size A0 w':=
 hJ.out.grown hg hJ.out.size fun q hq=>(World.ownsRow.lt ho q hq).1
theorem JCp.lit1 (hJ:JCp A0 pc rg mm false f1 a2 f2 a3 f3 fo A B C f g h O W) (hB:A0.heap.size≤W.heap.size):JCp A0 pc rg mm true f1 a2 f2 a3 f3 fo W.heap.size B C f g h O (W.alloc (.cells #[] 3)):=by
 have hb:=(Below.refl W.heap.size W).alloc (Nat.le_refl _) (.cells #[] 3);cases hf:f1 with
 | true=>exact(nomatch hJ.i1 hf)
 | false =>
  subst hf;exact⟨hJ.out.alloc hB _,hJ.ln.put1 (c1':=⟨some ⟨W.heap.size,0,none⟩,0,0⟩) (Own.empty _ _ hB) (grown_of_below hb _) (.inr fun q hq=>by simp[Value.ownBlock]at hq;omega),fun e=>(nomatch e),hJ.i2,hJ.i3,hJ.obB hb⟩
theorem JCp.lit2 (hJ:JCp A0 pc rg mm a1 f1 false f2 a3 f3 fo A B C f g h O W) (hB:A0.heap.size≤W.heap.size):JCp A0 pc rg mm a1 f1 true f2 a3 f3 fo A W.heap.size C f g h O (W.alloc (.cells #[] 3)):=by
 have hb:=(Below.refl W.heap.size W).alloc (Nat.le_refl _) (.cells #[] 3);cases hf:f2 with
 | true=>exact(nomatch hJ.i2 hf)
 | false =>
  subst hf;exact⟨hJ.out.alloc hB _,hJ.ln.put2 (c2':=⟨some ⟨W.heap.size,0,none⟩,0,0⟩) (Own.empty _ _ hB) (grown_of_below hb _) (.inr fun q hq=>by simp[Value.ownBlock]at hq;omega),hJ.i1,fun e=>(nomatch e),hJ.i3,hJ.obB hb⟩
theorem JCp.lit3 (hJ:JCp A0 pc rg mm a1 f1 a2 f2 false f3 fo A B C f g h O W) (hB:A0.heap.size≤W.heap.size):JCp A0 pc rg mm a1 f1 a2 f2 true f3 fo A B W.heap.size f g h O (W.alloc (.cells #[] 3)):=by
 have hb:=(Below.refl W.heap.size W).alloc (Nat.le_refl _) (.cells #[] 3);cases hf:f3 with
 | true=>exact(nomatch hJ.i3 hf)
 | false =>
  subst hf;exact⟨hJ.out.alloc hB _,hJ.ln.put3 (c3':=⟨some ⟨W.heap.size,0,none⟩,0,0⟩) (Own.empty _ _ hB) (grown_of_below hb _) (.inr fun q hq=>by simp[Value.ownBlock]at hq;omega),hJ.i1,hJ.i2,fun e=>(nomatch e),hJ.obB hb⟩
theorem JCp.app1 (hJ:JCp A0 pc rg mm true false a2 f2 a3 f3 fo A B C f g h O W) (ho:Own IntE 3 w' A0.heap.size s'.v ([]++pc)) (hg:W.grownBy w' (Slc.v ⟨some ⟨A,0,none⟩,0,0⟩).ownBlock) (hat:s'.v.ownBlock=(Slc.v ⟨some ⟨A,0,none⟩,0,0⟩).ownBlock∨∀ q,s'.v.ownBlock=some q→W.heap.size≤q):JCp A0 pc rg mm true true a2 f2 a3 f3 fo A B C s' g h O w':=
 ⟨hJ.outG hJ.ln.o1 hg,hJ.ln.put1 ho hg hat,fun _=>rfl,hJ.i2,hJ.i3,hJ.obG hJ.ln.o1 hg⟩
theorem JCp.app2 (hJ:JCp A0 pc rg mm a1 f1 true false a3 f3 fo A B C f g h O W) (ho:Own IntE 3 w' A0.heap.size s'.v ([]++rg)) (hg:W.grownBy w' (Slc.v ⟨some ⟨B,0,none⟩,0,0⟩).ownBlock) (hat:s'.v.ownBlock=(Slc.v ⟨some ⟨B,0,none⟩,0,0⟩).ownBlock∨∀ q,s'.v.ownBlock=some q→W.heap.size≤q):JCp A0 pc rg mm a1 f1 true true a3 f3 fo A B C f s' h O w':=
 ⟨hJ.outG hJ.ln.o2 hg,hJ.ln.put2 ho hg hat,hJ.i1,fun _=>rfl,hJ.i3,hJ.obG hJ.ln.o2 hg⟩
theorem JCp.app3 (hJ:JCp A0 pc rg mm a1 f1 a2 f2 true false fo A B C f g h O W) (ho:Own IntE 3 w' A0.heap.size s'.v ([]++mm)) (hg:W.grownBy w' (Slc.v ⟨some ⟨C,0,none⟩,0,0⟩).ownBlock) (hat:s'.v.ownBlock=(Slc.v ⟨some ⟨C,0,none⟩,0,0⟩).ownBlock∨∀ q,s'.v.ownBlock=some q→W.heap.size≤q):JCp A0 pc rg mm a1 f1 a2 f2 true true fo A B C f g s' O w':=
 ⟨hJ.outG hJ.ln.o3 hg,hJ.ln.put3 ho hg hat,hJ.i1,hJ.i2,fun _=>rfl,hJ.obG hJ.ln.o3 hg⟩
theorem JCp.obj (hJ:JCp A0 pc rg mm a1 f1 a2 f2 a3 f3 false A B C f g h O W):JCp A0 pc rg mm a1 f1 a2 f2 a3 f3 true A B C f g h W.heap.size (W.alloc (.cells #[.slice none 0 0,.slice none 0 0,.slice none 0 0,.slice none 0 0] 64)):=
 ⟨hJ.out.alloc hJ.out.size _,hJ.ln.below ((Below.refl _ _).alloc (Nat.le_refl _) _),hJ.i1,hJ.i2,hJ.i3,fun _=>⟨heap_alloc_new W _,hJ.out.size⟩⟩
end
theorem below_litM {w w':World}{l:Array Value}{T:TypeId}{n c:Nat}(hg:(w.alloc (.cells l T)).drew.grownBy w' (Slc.v ⟨some ⟨w.heap.size,0,none⟩,n,c⟩).ownBlock):Below w.heap.size w w':=
 ((Below.refl w.heap.size w).alloc (Nat.le_refl _) (.cells l T)).drew.grown hg (by simp) (fun q hq=>by simp[Value.ownBlock]at hq;omega)
structure CpS (w:World) (B O m:Nat) (vs:List Value) (x:SV) (s:St) (k:Nat):Prop where
 bx:w.heap[B]? = some (.cells vs.toArray 64 (0,0))
 br:w.heap[B+1]? = some (.cells #[.slice none 0 0,.slice none 0 0,.slice none 0 0,.slice none 0 0] 64 (0,0))
 bo:w.heap[O]? = some (.cells #[.slice x.p.a x.p.n x.p.cap,.slice x.r.a x.r.n x.r.cap,.slice x.m.a x.m.n x.m.cap,.slice x.b.a x.b.n x.b.cap] 64 (0,0))
 ln:Lanes w B x.p x.r x.m s.pc s.rg s.mm
 bf:Own2 IntE 34 3 w m x.b.v (s.bf.take k)
 p1:∀ q,x.p.v.ownBlock=some q→q < m
 p2:∀ q,x.r.v.ownBlock=some q→q < m
 p3:∀ q,x.m.v.ownBlock=some q→q < m
 lO:O < m
 lB:B+1 < O
 lm:m≤w.heap.size
 zz:True
theorem l3Copy_any (x:SV) (s:St) (w:World) (hx:RepSt w x s) (h1:s.pc.length≤1048576) (h2:s.rg.length≤1048576) (h3:s.mm.length≤1048576) (h4:s.bf.length≤1048576) (h5:∀ o∈s.bf,o.length≤1048576) :
 Calls Try.prog 63 #[.agg #[.slice x.p.a x.p.n x.p.cap,.slice x.r.a x.r.n x.r.cap,.slice x.m.a x.m.n x.m.cap,.slice x.b.a x.b.n x.b.cap]] w (RetSt w s):=by
 obtain⟨⟨pa,pn,pk⟩,⟨ra,rn,rk⟩,⟨ma,mn,mk⟩,⟨ba,bn,bk⟩⟩:=x;have HX:=hide hx;obtain⟨ba',bc',hv,-,-,-,-⟩:=hx.bf.open;simp only[Slc.v,Value.slice.injEq]at hv;obtain⟨rfl,hbn,rfl⟩:=hv;have HBN:=hide hbn;have hbn4:bn≤1048576:=by rw[hbn];exact h4
 clear hx;have HB0:=hide (((Below.refl w.heap.size w).alloc (Nat.le_refl _) (.cells #[.slice pa pn pk,.slice ra rn rk,.slice ma mn mk,.slice ba bn bk] 64)).alloc (by simp) (.cells #[.slice none 0 0,.slice none 0 0,.slice none 0 0,.slice none 0 0] 64));obtain⟨A0,hA0⟩:∃ A0,A0=(w.alloc (.cells #[.slice pa pn pk,.slice ra rn rk,.slice ma mn mk,.slice ba bn bk] 64)).alloc (.cells #[.slice none 0 0,.slice none 0 0,.slice none 0 0,.slice none 0 0] 64):=⟨_,rfl⟩
 have hz:A0.heap.size=w.heap.size+2:=by rw[hA0];simp
 have HX2:Hid (A0.heap[w.heap.size]? = some (.cells #[.slice pa pn pk,.slice ra rn rk,.slice ma mn mk,.slice ba bn bk] 64 (0,0))):=hide (by
  rw[hA0,heap_alloc_old _ _ (by simp)];exact heap_alloc_new w _)
 have HR2:Hid (A0.heap[w.heap.size+1]? = some (.cells #[.slice none 0 0,.slice none 0 0,.slice none 0 0,.slice none 0 0] 64 (0,0))):=hide (by
  have h:=heap_alloc_new (w.alloc (.cells #[.slice pa pn pk,.slice ra rn rk,.slice ma mn mk,.slice ba bn bk] 64)) (.cells #[.slice none 0 0,.slice none 0 0,.slice none 0 0,.slice none 0 0] 64);rw[hA0];simpa using h)
 have HB:Hid (Below w.heap.size w A0):=hide (by rw[hA0];exact HB0.out);clear HB0;have HA0:=hide hA0;clear hA0 hbn;go_enter Try.func63,Try.ntmps63;go_wp2_with fail;rw[← HA0.out]
 -- reg copy
 refine wp_region_inv3 (n:=14) (by kernel_rfl) rfl (by kernel_rfl) (by kernel_rfl) (fun A ls a' W => ∃ (ga:Nat) (gb:Nat) (gc:Nat) (f:Slc) (g:Slc) (h:Slc) (O:Nat) (x5 x6 x7 x8 x9 x10 x11 x12 x13 x14 x15 x16 x17 x3:Value),a'=putAll A [(5,x5),(6,x6),(7,x7),(8,x8),(9,x9),(10,x10),(11,x11),(12,x12),(13,x13),(14,x14),(15,x15),(16,x16),(17,x17),(3,x3)]∧Vd ls 0 [] x5 (.slice (some ⟨ga,0,none⟩) 0 0)∧Vd ls 1 [] x6 (.pointer (some ⟨w.heap.size,0,none⟩))∧Vd ls 2 [] x7 (.slice pa pn pk)∧Vd ls 3 [0] x8 (.slice f.a f.n f.cap)∧Vd ls 4 [] x9 (.slice (some ⟨gb,0,none⟩) 0 0)∧Vd ls 5 [] x10 (.pointer (some ⟨w.heap.size,1,none⟩))∧Vd ls 6 [] x11 (.slice ra rn rk)∧Vd ls 7 [4] x12 (.slice g.a g.n g.cap)∧Vd ls 8 [] x13 (.slice (some ⟨gc,0,none⟩) 0 0)∧Vd ls 9 [] x14 (.pointer (some ⟨w.heap.size,2,none⟩))∧Vd ls 10 [] x15 (.slice ma mn mk)∧Vd ls 11 [8] x16 (.slice h.a h.n h.cap)∧Vd ls 12 [0,3,4,7,8,11] x17 (.agg #[.slice f.a f.n f.cap,.slice g.a g.n g.cap,.slice h.a h.n h.cap,.slice none 0 0])∧Vd ls 13 [] x3 (.pointer (some ⟨O,0,none⟩))∧JCp A0 s.pc s.rg s.mm (fl ls 0) (fl ls 3) (fl ls 4) (fl ls 7) (fl ls 8) (fl ls 11) (fl ls 13) ga gb gc f g h O W) ?r0 ?rs ?re
 case r0 =>
  exact⟨0,0,0,⟨none,0,0⟩,⟨none,0,0⟩,⟨none,0,0⟩,0,undef,undef,undef,undef,undef,undef,undef,undef,undef,undef,undef,undef,undef,undef,by simp only[putAll,Act.put,List.setIfInBounds_toArray,List.set_cons_succ,List.set_cons_zero],Vd.start,Vd.start,Vd.start,Vd.start,Vd.start,Vd.start,Vd.start,Vd.start,Vd.start,Vd.start,Vd.start,Vd.start,Vd.start,Vd.start,by simp only[fl_start];exact JCp.start (hz ▸ (Below.refl _ _).drew)⟩
 case rs =>
  rintro ls a' W hs hnl ⟨ga,gb,gc,f,g,h,O,x5,x6,x7,x8,x9,x10,x11,x12,x13,x14,x15,x16,x17,x3,ha,cv0,cv1,cv2,cv3,cv4,cv5,cv6,cv7,cv8,cv9,cv10,cv11,cv12,cv13,hJ⟩ k o hkn mc K hK;simp only[putAll,Act.put,List.setIfInBounds_toArray,List.set_cons_succ,List.set_cons_zero]at ha;subst ha;have hkc:k=0∨k=1∨k=2∨k=3∨k=4∨k=5∨k=6∨k=7∨k=8∨k=9∨k=10∨k=11∨k=12∨k=13:=by omega
  have hop:=mc.op;have haf:=mc.after;rcases hkc with rfl | rfl | rfl | rfl | rfl | rfl | rfl | rfl | rfl | rfl | rfl | rfl | rfl | rfl
  ·simp at hop;subst hop;simp[Region.binds]at haf
   have f0:=fl_no mc.new;rw[f0]at hJ;go_simp;exact hK _ _ ⟨W.heap.size,gb,gc,f,g,h,O,_,_,_,_,_,_,_,_,_,_,_,_,_,_,by simp only[putAll,Act.put,List.setIfInBounds_toArray,List.set_cons_succ,List.set_cons_zero],Vd.same (by simp),cv1.set (by decide),cv2.set (by decide),cv3.void (by decide) (by decide) mc.new,cv4.set (by decide),cv5.set (by decide),cv6.set (by decide),cv7.set (by decide),cv8.set (by decide),cv9.set (by decide),cv10.set (by decide),cv11.set (by decide),cv12.void (by decide) (by decide) mc.new,cv13.set (by decide),by rw[fl_got hs (by decide),fl_set (show 0≠3 by decide),fl_set (show 0≠4 by decide),fl_set (show 0≠7 by decide),fl_set (show 0≠8 by decide),fl_set (show 0≠11 by decide),fl_set (show 0≠13 by decide)];exact hJ.lit1 hJ.out.size⟩
  ·simp at hop;subst hop;simp[Region.binds]at haf
   go_simp;exact hK _ _ ⟨ga,gb,gc,f,g,h,O,_,_,_,_,_,_,_,_,_,_,_,_,_,_,by simp only[putAll,Act.put,List.setIfInBounds_toArray,List.set_cons_succ,List.set_cons_zero],cv0.set (by decide),Vd.same (by simp),cv2.set (by decide),cv3.set (by decide),cv4.set (by decide),cv5.set (by decide),cv6.set (by decide),cv7.set (by decide),cv8.set (by decide),cv9.set (by decide),cv10.set (by decide),cv11.set (by decide),cv12.set (by decide),cv13.set (by decide),by rw[fl_set (show 1≠0 by decide),fl_set (show 1≠3 by decide),fl_set (show 1≠4 by decide),fl_set (show 1≠7 by decide),fl_set (show 1≠8 by decide),fl_set (show 1≠11 by decide),fl_set (show 1≠13 by decide)];exact hJ⟩
  ·simp at hop;subst hop;simp[Region.binds]at haf
   obtain rfl:=(cv1.get (by simp[haf])).symm;have hbk:=(hJ.out.block w.heap.size (by omega)).trans HX2.out;have d0:W.cell? ⟨w.heap.size,0,none⟩=some (.slice pa pn pk):=cellH hbk (k:=0) rfl;have d1:W.cell? ⟨w.heap.size,1,none⟩=some (.slice ra rn rk):=cellH hbk (k:=1) rfl;have d2:W.cell? ⟨w.heap.size,2,none⟩=some (.slice ma mn mk):=cellH hbk (k:=2) rfl;have dl:=lt_of_cell d0;go_simp;exact hK _ _ ⟨ga,gb,gc,f,g,h,O,_,_,_,_,_,_,_,_,_,_,_,_,_,_,by simp only[putAll,Act.put,List.setIfInBounds_toArray,List.set_cons_succ,List.set_cons_zero],cv0.set (by decide),cv1.set (by decide),Vd.same (by simp),cv3.set (by decide),cv4.set (by decide),cv5.set (by decide),cv6.set (by decide),cv7.set (by decide),cv8.set (by decide),cv9.set (by decide),cv10.set (by decide),cv11.set (by decide),cv12.set (by decide),cv13.set (by decide),by rw[fl_set (show 2≠0 by decide),fl_set (show 2≠3 by decide),fl_set (show 2≠4 by decide),fl_set (show 2≠7 by decide),fl_set (show 2≠8 by decide),fl_set (show 2≠11 by decide),fl_set (show 2≠13 by decide)];exact hJ⟩
  ·simp at hop;subst hop;simp[Region.binds]at haf
   obtain rfl:=(cv0.get (by simp[haf])).symm;obtain rfl:=(cv2.get (by simp[haf])).symm;have f3:=fl_no mc.new;rw[f3]at hJ;have f0:=fl_yes (show ls[0]? = some true by simp[haf]);rw[f0]at hJ;refine step_appSAtM IntE 3 Try.infoInt rfl Try.underlying34 A0.heap.size ⟨some ⟨ga,0,none⟩,0,0⟩ [] s.pc _ (by have h:=hJ.ln.o1;simpa[laneA,laneL] using h) ((HX.out.pc.below HB.out).below (hz ▸ hJ.out)) (by decide) (by simp;omega) (by have:=hJ.out.size;omega) (by rfl) _ _ (by rfl) (by rfl) (by rfl) ?_;intro s6 w6 hown6 hgr6 hat6
   exact hK _ _ ⟨ga,gb,gc,s6,g,h,O,_,_,_,_,_,_,_,_,_,_,_,_,_,_,by simp only[putAll,Act.put,List.setIfInBounds_toArray,List.set_cons_succ,List.set_cons_zero],cv0.set (by decide),cv1.set (by decide),cv2.set (by decide),Vd.same (by simp[haf]),cv4.set (by decide),cv5.set (by decide),cv6.set (by decide),cv7.set (by decide),cv8.set (by decide),cv9.set (by decide),cv10.set (by decide),cv11.set (by decide),cv12.void (by decide) (by decide) mc.new,cv13.set (by decide),by rw[fl_set (show 3≠0 by decide),fl_got hs (by decide),fl_set (show 3≠4 by decide),fl_set (show 3≠7 by decide),fl_set (show 3≠8 by decide),fl_set (show 3≠11 by decide),fl_set (show 3≠13 by decide),f0];exact hJ.app1 hown6 hgr6 hat6⟩
  ·simp at hop;subst hop;simp[Region.binds]at haf
   have f4:=fl_no mc.new;rw[f4]at hJ;go_simp;exact hK _ _ ⟨ga,W.heap.size,gc,f,g,h,O,_,_,_,_,_,_,_,_,_,_,_,_,_,_,by simp only[putAll,Act.put,List.setIfInBounds_toArray,List.set_cons_succ,List.set_cons_zero],cv0.set (by decide),cv1.set (by decide),cv2.set (by decide),cv3.set (by decide),Vd.same (by simp),cv5.set (by decide),cv6.set (by decide),cv7.void (by decide) (by decide) mc.new,cv8.set (by decide),cv9.set (by decide),cv10.set (by decide),cv11.set (by decide),cv12.void (by decide) (by decide) mc.new,cv13.set (by decide),by rw[fl_set (show 4≠0 by decide),fl_set (show 4≠3 by decide),fl_got hs (by decide),fl_set (show 4≠7 by decide),fl_set (show 4≠8 by decide),fl_set (show 4≠11 by decide),fl_set (show 4≠13 by decide)];exact hJ.lit2 hJ.out.size⟩
  ·simp at hop;subst hop;simp[Region.binds]at haf
   go_simp;exact hK _ _ ⟨ga,gb,gc,f,g,h,O,_,_,_,_,_,_,_,_,_,_,_,_,_,_,by simp only[putAll,Act.put,List.setIfInBounds_toArray,List.set_cons_succ,List.set_cons_zero],cv0.set (by decide),cv1.set (by decide),cv2.set (by decide),cv3.set (by decide),cv4.set (by decide),Vd.same (by simp),cv6.set (by decide),cv7.set (by decide),cv8.set (by decide),cv9.set (by decide),cv10.set (by decide),cv11.set (by decide),cv12.set (by decide),cv13.set (by decide),by rw[fl_set (show 5≠0 by decide),fl_set (show 5≠3 by decide),fl_set (show 5≠4 by decide),fl_set (show 5≠7 by decide),fl_set (show 5≠8 by decide),fl_set (show 5≠11 by decide),fl_set (show 5≠13 by decide)];exact hJ⟩
  ·simp at hop;subst hop;simp[Region.binds]at haf
   obtain rfl:=(cv5.get (by simp[haf])).symm;have hbk:=(hJ.out.block w.heap.size (by omega)).trans HX2.out;have d0:W.cell? ⟨w.heap.size,0,none⟩=some (.slice pa pn pk):=cellH hbk (k:=0) rfl;have d1:W.cell? ⟨w.heap.size,1,none⟩=some (.slice ra rn rk):=cellH hbk (k:=1) rfl;have d2:W.cell? ⟨w.heap.size,2,none⟩=some (.slice ma mn mk):=cellH hbk (k:=2) rfl;have dl:=lt_of_cell d0;go_simp;exact hK _ _ ⟨ga,gb,gc,f,g,h,O,_,_,_,_,_,_,_,_,_,_,_,_,_,_,by simp only[putAll,Act.put,List.setIfInBounds_toArray,List.set_cons_succ,List.set_cons_zero],cv0.set (by decide),cv1.set (by decide),cv2.set (by decide),cv3.set (by decide),cv4.set (by decide),cv5.set (by decide),Vd.same (by simp),cv7.set (by decide),cv8.set (by decide),cv9.set (by decide),cv10.set (by decide),cv11.set (by decide),cv12.set (by decide),cv13.set (by decide),by rw[fl_set (show 6≠0 by decide),fl_set (show 6≠3 by decide),fl_set (show 6≠4 by decide),fl_set (show 6≠7 by decide),fl_set (show 6≠8 by decide),fl_set (show 6≠11 by decide),fl_set (show 6≠13 by decide)];exact hJ⟩
  ·simp at hop;subst hop;simp[Region.binds]at haf
   obtain rfl:=(cv4.get (by simp[haf])).symm;obtain rfl:=(cv6.get (by simp[haf])).symm;have f7:=fl_no mc.new;rw[f7]at hJ;have f4:=fl_yes (show ls[4]? = some true by simp[haf]);rw[f4]at hJ;refine step_appSAtM IntE 3 Try.infoInt rfl Try.underlying34 A0.heap.size ⟨some ⟨gb,0,none⟩,0,0⟩ [] s.rg _ (by have h:=hJ.ln.o2;simpa[laneA,laneL] using h) ((HX.out.rg.below HB.out).below (hz ▸ hJ.out)) (by decide) (by simp;omega) (by have:=hJ.out.size;omega) (by rfl) _ _ (by rfl) (by rfl) (by rfl) ?_;intro s6 w6 hown6 hgr6 hat6
   exact hK _ _ ⟨ga,gb,gc,f,s6,h,O,_,_,_,_,_,_,_,_,_,_,_,_,_,_,by simp only[putAll,Act.put,List.setIfInBounds_toArray,List.set_cons_succ,List.set_cons_zero],cv0.set (by decide),cv1.set (by decide),cv2.set (by decide),cv3.set (by decide),cv4.set (by decide),cv5.set (by decide),cv6.set (by decide),Vd.same (by simp[haf]),cv8.set (by decide),cv9.set (by decide),cv10.set (by decide),cv11.set (by decide),cv12.void (by decide) (by decide) mc.new,cv13.set (by decide),by rw[fl_set (show 7≠0 by decide),fl_set (show 7≠3 by decide),fl_set (show 7≠4 by decide),fl_got hs (by decide),fl_set (show 7≠8 by decide),fl_set (show 7≠11 by decide),fl_set (show 7≠13 by decide),f4];exact hJ.app2 hown6 hgr6 hat6⟩
  ·simp at hop;subst hop;simp[Region.binds]at haf
   have f8:=fl_no mc.new;rw[f8]at hJ;go_simp;exact hK _ _ ⟨ga,gb,W.heap.size,f,g,h,O,_,_,_,_,_,_,_,_,_,_,_,_,_,_,by simp only[putAll,Act.put,List.setIfInBounds_toArray,List.set_cons_succ,List.set_cons_zero],cv0.set (by decide),cv1.set (by decide),cv2.set (by decide),cv3.set (by decide),cv4.set (by decide),cv5.set (by decide),cv6.set (by decide),cv7.set (by decide),Vd.same (by simp),cv9.set (by decide),cv10.set (by decide),cv11.void (by decide) (by decide) mc.new,cv12.void (by decide) (by decide) mc.new,cv13.set (by decide),by rw[fl_set (show 8≠0 by decide),fl_set (show 8≠3 by decide),fl_set (show 8≠4 by decide),fl_set (show 8≠7 by decide),fl_got hs (by decide),fl_set (show 8≠11 by decide),fl_set (show 8≠13 by decide)];exact hJ.lit3 hJ.out.size⟩
  ·simp at hop;subst hop;simp[Region.binds]at haf
   go_simp;exact hK _ _ ⟨ga,gb,gc,f,g,h,O,_,_,_,_,_,_,_,_,_,_,_,_,_,_,by simp only[putAll,Act.put,List.setIfInBounds_toArray,List.set_cons_succ,List.set_cons_zero],cv0.set (by decide),cv1.set (by decide),cv2.set (by decide),cv3.set (by decide),cv4.set (by decide),cv5.set (by decide),cv6.set (by decide),cv7.set (by decide),cv8.set (by decide),Vd.same (by simp),cv10.set (by decide),cv11.set (by decide),cv12.set (by decide),cv13.set (by decide),by rw[fl_set (show 9≠0 by decide),fl_set (show 9≠3 by decide),fl_set (show 9≠4 by decide),fl_set (show 9≠7 by decide),fl_set (show 9≠8 by decide),fl_set (show 9≠11 by decide),fl_set (show 9≠13 by decide)];exact hJ⟩
  ·simp at hop;subst hop;simp[Region.binds]at haf
   obtain rfl:=(cv9.get (by simp[haf])).symm;have hbk:=(hJ.out.block w.heap.size (by omega)).trans HX2.out;have d0:W.cell? ⟨w.heap.size,0,none⟩=some (.slice pa pn pk):=cellH hbk (k:=0) rfl;have d1:W.cell? ⟨w.heap.size,1,none⟩=some (.slice ra rn rk):=cellH hbk (k:=1) rfl;have d2:W.cell? ⟨w.heap.size,2,none⟩=some (.slice ma mn mk):=cellH hbk (k:=2) rfl;have dl:=lt_of_cell d0;go_simp;exact hK _ _ ⟨ga,gb,gc,f,g,h,O,_,_,_,_,_,_,_,_,_,_,_,_,_,_,by simp only[putAll,Act.put,List.setIfInBounds_toArray,List.set_cons_succ,List.set_cons_zero],cv0.set (by decide),cv1.set (by decide),cv2.set (by decide),cv3.set (by decide),cv4.set (by decide),cv5.set (by decide),cv6.set (by decide),cv7.set (by decide),cv8.set (by decide),cv9.set (by decide),Vd.same (by simp),cv11.set (by decide),cv12.set (by decide),cv13.set (by decide),by rw[fl_set (show 10≠0 by decide),fl_set (show 10≠3 by decide),fl_set (show 10≠4 by decide),fl_set (show 10≠7 by decide),fl_set (show 10≠8 by decide),fl_set (show 10≠11 by decide),fl_set (show 10≠13 by decide)];exact hJ⟩
  ·simp at hop;subst hop;simp[Region.binds]at haf
   obtain rfl:=(cv8.get (by simp[haf])).symm;obtain rfl:=(cv10.get (by simp[haf])).symm;have f11:=fl_no mc.new;rw[f11]at hJ;have f8:=fl_yes (show ls[8]? = some true by simp[haf]);rw[f8]at hJ;refine step_appSAtM IntE 3 Try.infoInt rfl Try.underlying34 A0.heap.size ⟨some ⟨gc,0,none⟩,0,0⟩ [] s.mm _ (by have h:=hJ.ln.o3;simpa[laneA,laneL] using h) ((HX.out.mm.below HB.out).below (hz ▸ hJ.out)) (by decide) (by simp;omega) (by have:=hJ.out.size;omega) (by rfl) _ _ (by rfl) (by rfl) (by rfl) ?_;intro s6 w6 hown6 hgr6 hat6
   exact hK _ _ ⟨ga,gb,gc,f,g,s6,O,_,_,_,_,_,_,_,_,_,_,_,_,_,_,by simp only[putAll,Act.put,List.setIfInBounds_toArray,List.set_cons_succ,List.set_cons_zero],cv0.set (by decide),cv1.set (by decide),cv2.set (by decide),cv3.set (by decide),cv4.set (by decide),cv5.set (by decide),cv6.set (by decide),cv7.set (by decide),cv8.set (by decide),cv9.set (by decide),cv10.set (by decide),Vd.same (by simp[haf]),cv12.void (by decide) (by decide) mc.new,cv13.set (by decide),by rw[fl_set (show 11≠0 by decide),fl_set (show 11≠3 by decide),fl_set (show 11≠4 by decide),fl_set (show 11≠7 by decide),fl_set (show 11≠8 by decide),fl_got hs (by decide),fl_set (show 11≠13 by decide),f8];exact hJ.app3 hown6 hgr6 hat6⟩
  ·simp at hop;subst hop;simp[Region.binds]at haf
   have q3:=(cv3 (by simp[haf])).1;simp at q3;have q7:=(cv7 (by simp[haf])).1;simp at q7;have q11:=(cv11 (by simp[haf])).1;simp at q11;obtain rfl:=(cv3.get (by simp[haf])).symm;obtain rfl:=(cv7.get (by simp[haf])).symm;obtain rfl:=(cv11.get (by simp[haf])).symm;go_simp;exact hK _ _ ⟨ga,gb,gc,f,g,h,O,_,_,_,_,_,_,_,_,_,_,_,_,_,_,by simp only[putAll,Act.put,List.setIfInBounds_toArray,List.set_cons_succ,List.set_cons_zero],cv0.set (by decide),cv1.set (by decide),cv2.set (by decide),cv3.set (by decide),cv4.set (by decide),cv5.set (by decide),cv6.set (by decide),cv7.set (by decide),cv8.set (by decide),cv9.set (by decide),cv10.set (by decide),cv11.set (by decide),Vd.same (by simp[haf,q3,q7,q11]),cv13.set (by decide),by rw[fl_set (show 12≠0 by decide),fl_set (show 12≠3 by decide),fl_set (show 12≠4 by decide),fl_set (show 12≠7 by decide),fl_set (show 12≠8 by decide),fl_set (show 12≠11 by decide),fl_set (show 12≠13 by decide)];exact hJ⟩
  ·simp at hop;subst hop;simp[Region.binds]at haf
   have f13:=fl_no mc.new;rw[f13]at hJ;go_simp;exact hK _ _ ⟨ga,gb,gc,f,g,h,W.heap.size,_,_,_,_,_,_,_,_,_,_,_,_,_,_,by simp only[putAll,Act.put,List.setIfInBounds_toArray,List.set_cons_succ,List.set_cons_zero],cv0.set (by decide),cv1.set (by decide),cv2.set (by decide),cv3.set (by decide),cv4.set (by decide),cv5.set (by decide),cv6.set (by decide),cv7.set (by decide),cv8.set (by decide),cv9.set (by decide),cv10.set (by decide),cv11.set (by decide),cv12.set (by decide),Vd.same (by simp),by rw[fl_set (show 13≠0 by decide),fl_set (show 13≠3 by decide),fl_set (show 13≠4 by decide),fl_set (show 13≠7 by decide),fl_set (show 13≠8 by decide),fl_set (show 13≠11 by decide),fl_got hs (by decide)];exact hJ.obj⟩
 case re =>
  rintro ls a' W hall ⟨ga,gb,gc,f,g,h,O,x5,x6,x7,x8,x9,x10,x11,x12,x13,x14,x15,x16,x17,x3,ha,cv0,cv1,cv2,cv3,cv4,cv5,cv6,cv7,cv8,cv9,cv10,cv11,cv12,cv13,hJ⟩ o hop;simp only[putAll,Act.put,List.setIfInBounds_toArray,List.set_cons_succ,List.set_cons_zero]at ha;subst ha;simp at hop;subst hop;obtain rfl:=(cv0.get (hall 0 (by decide))).symm;obtain rfl:=(cv1.get (hall 1 (by decide))).symm;obtain rfl:=(cv2.get (hall 2 (by decide))).symm;obtain rfl:=(cv3.get (hall 3 (by decide))).symm;obtain rfl:=(cv4.get (hall 4 (by decide))).symm;obtain rfl:=(cv5.get (hall 5 (by decide))).symm;obtain rfl:=(cv6.get (hall 6 (by decide))).symm;obtain rfl:=(cv7.get (hall 7 (by decide))).symm;obtain rfl:=(cv8.get (hall 8 (by decide))).symm;obtain rfl:=(cv9.get (hall 9 (by decide))).symm;obtain rfl:=(cv10.get (hall 10 (by decide))).symm;obtain rfl:=(cv11.get (hall 11 (by decide))).symm;obtain rfl:=(cv12.get (hall 12 (by decide))).symm;obtain rfl:=(cv13.get (hall 13 (by decide))).symm;rw[fl_yes (hall 0 (by decide))]at hJ;rw[fl_yes (hall 3 (by decide))]at hJ;rw[fl_yes (hall 4 (by decide))]at hJ;rw[fl_yes (hall 7 (by decide))]at hJ;rw[fl_yes (hall 8 (by decide))]at hJ;rw[fl_yes (hall 11 (by decide))]at hJ
  rw[fl_yes (hall 13 (by decide))]at hJ;obtain⟨hbo,hbB⟩:=hJ.ob rfl;have hln:=hJ.ln;simp only[laneA,laneL,if_true]at hln;have hbk:=(hJ.out.block w.heap.size (by omega)).trans HX2.out;have hbr:=(hJ.out.block (w.heap.size+1) (by omega)).trans HR2.out;have d3:W.cell? ⟨w.heap.size,3,none⟩=some (.slice ba bn bk):=cellH hbk (k:=3) rfl;have dl:=lt_of_cell d3;have hne1:w.heap.size≠O:=by omega
  have c0:W.cell? ⟨O,0,none⟩=some (.slice none 0 0):=cellH hbo (k:=0) rfl;have c1:W.cell? ⟨O,1,none⟩=some (.slice none 0 0):=cellH hbo (k:=1) rfl;have c2:W.cell? ⟨O,2,none⟩=some (.slice none 0 0):=cellH hbo (k:=2) rfl;have c3:W.cell? ⟨O,3,none⟩=some (.slice none 0 0):=cellH hbo (k:=3) rfl;have cfz:=frozH hbo;have cl:=lt_of_cell c0;go_simp;have hb0:=heap_setCell_same W O 0 _ _ (.slice f.a f.n f.cap) hbo;have hb1:=heap_setCell_same (W.setCell ⟨O,0,none⟩ (.slice f.a f.n f.cap)) O 1 _ _ (.slice g.a g.n g.cap) hb0;have hb2:=heap_setCell_same ((W.setCell ⟨O,0,none⟩ (.slice f.a f.n f.cap)).setCell ⟨O,1,none⟩ (.slice g.a g.n g.cap)) O 2 _ _ (.slice h.a h.n h.cap) hb1;have hb3:=heap_setCell_same (((W.setCell ⟨O,0,none⟩ (.slice f.a f.n f.cap)).setCell ⟨O,1,none⟩ (.slice g.a g.n g.cap)).setCell ⟨O,2,none⟩ (.slice h.a h.n h.cap)) O 3 _ _ (.slice none 0 0) hb2;have hl3:=(((hln.setOther (j:=0) (u:=.slice f.a f.n f.cap) (by decide) hbo).setOther (j:=1) (u:=.slice g.a g.n g.cap) (by decide) hb0).setOther (j:=2) (u:=.slice h.a h.n h.cap) (by decide) hb1).setOther (j:=3) (u:=.slice none 0 0) (by decide) hb2
  have hO:=(((hJ.out.setCell (p:=⟨O,0,none⟩) hbB (.slice f.a f.n f.cap)).setCell (p:=⟨O,1,none⟩) hbB (.slice g.a g.n g.cap)).setCell (p:=⟨O,2,none⟩) hbB (.slice h.a h.n h.cap)).setCell (p:=⟨O,3,none⟩) hbB (.slice none 0 0);have HO:=hide hO;have HL3:=hide hl3;have HB3:=hide hb3;have HBO:=hide hbB
  have HWS:Hid (W.heap.size=W.heap.size):=hide rfl;have HC0:=hide (CpS.mk (x:=⟨f,g,h,⟨none,0,0⟩⟩) (m:=W.heap.size) (B:=w.heap.size) (k:=0) (s:=s) ((hO.block w.heap.size (by omega)).trans HX2.out) ((hO.block (w.heap.size+1) (by omega)).trans HR2.out) hb3 (hl3.mono (by omega)) (Own2.nil _ _ _ _) (fun q hq=>(World.ownsRow.lt hln.o1 q hq).2) (fun q hq=>(World.ownsRow.lt hln.o2 q hq).2) (fun q hq=>(World.ownsRow.lt hln.o3 q hq).2) (by omega) (by omega) (by simp) trivial);have HB9:=hide (HB.out.trans (hO.mono HB.out.size));clear hb0 hb1 hb2 hb3 hl3 hO hbB hJ hln hbk hbr c0 c1 c2 c3 cfz cl hbo;go_wp2_with fail;clear d3 dl hne1
  go_loopw [4] (fun i wr => ∃ k:Nat,k≤bn∧i = .int .i64 k∧(∃ sv:Slc,CpS wr w.heap.size O W.heap.size [.slice pa pn pk,.slice ra rn rk,.slice ma mn mk,.slice ba bn bk] ⟨f,g,h,sv⟩ s k)∧Below w.heap.size w wr) (fun i _=>bn - (intOf i).toNat)
  case atStart=>exact⟨0,Nat.zero_le _,rfl,⟨_,HC0.out⟩,HB9.out⟩
  case round =>
   obtain⟨k,hk,rfl,⟨⟨sa,sn,sc⟩,hc⟩,hbr⟩:=hrel;have x3:wr.cell? ⟨w.heap.size,3,none⟩=some (.slice ba bn bk):=cellH hc.bx (k:=3) rfl;have o3:wr.cell? ⟨O,3,none⟩=some (.slice sa sn sc):=cellH hc.bo (k:=3) rfl;have ofz:=frozH hc.bo;have xl:=lt_of_cell x3;have ol:=lt_of_cell o3;by_cases hlt:k < bn
   ·obtain⟨r,hrk⟩:=get_of_lt (xs:=s.bf) (k:=k) (by rw[← HBN.out];exact hlt)
    have hltk:=nat_of_lt hlt;obtain⟨b2,o2,qa,qc,rfl,hbl2,q0,q1⟩:=(show Rep2 IntE w (.slice ba bn bk) s.bf from HX.out.bf).row hrk;have q0:=(hbr.cell (p:=⟨b2,o2+k,none⟩) hbl2).trans q0;have hbl2':=Nat.lt_of_lt_of_le hbl2 hbr.size;have RS:Hid (s.bf.take (k+1)=s.bf.take k++[r]):=hide (by rw[List.take_add_one,hrk];rfl);have hn1:([]:List Int).length+r.length≤68719476736:=by have:=h5 r (List.mem_of_getElem? hrk);simp;omega
    have HRP:=hide ((q1.below hbr).below ((Below.refl wr.heap.size wr).alloc (Nat.le_refl _) (.cells #[] 3)).drew);have HLT:Hid (Own IntE 3 (wr.alloc (.cells #[] 3)).drew wr.heap.size (.slice (some ⟨wr.heap.size,0,none⟩) 0 0) []):=hide (Own.empty (E:=IntE) 3 wr (Nat.le_refl _));have hlen:(s.bf.take k).length≤68719476736:=by rw[List.length_take];omega
    have HC:=hide hc;obtain⟨us,hU,-⟩:=hc.bf.told;have HU:=hide hU;have HUL:Hid (us.length≤68719476736):=hide (by rw[hU.1];exact hlen);have HBR:=hide hbr;have hbs:w.heap.size≤wr.heap.size:=hbr.size;have hm:=hc.lm;have hlO:=hc.lO;have hlB:=hc.lB;have HBN2:=HBN;clear HBN;clear hrk q1 hlen hU hbr hc;go_wp2_with fail
    go_region_law (first
     | (refine step_appSAtM IntE 3 Try.infoInt rfl Try.underlying34 wr.heap.size ⟨some ⟨wr.heap.size,0,none⟩,0,0⟩ [] r _ HLT.out HRP.out (by decide) hn1 (by simp) (by rfl) _ _ (by rfl) (by rfl) (by rfl) ?_;rintro ⟨a6,n6,c6⟩ w6 hown6 hgr6 -;have O6:=hide hown6;have B6:=hide (below_litM hgr6);have hk6:(∀ o,w6.cell? ⟨O,o,none⟩=wr.cell? ⟨O,o,none⟩):=(fun o=>B6.out.cell (p:=⟨O,o,none⟩) ol);have hb6:=B6.out.size;have ol6:O < w6.heap.size:=(Nat.lt_of_lt_of_le ol hb6);clear hown6 hgr6)
     | (refine step_app SlcE 34 Try.infoIntSM rfl Try.underlying23 W.heap.size _ us ⟨a6,n6,c6⟩ ((HU.out.2.1.below B6.out).alloc _) (by decide) HUL.out (by simp;omega) (by rfl) _ _ (by rfl) (by rfl) w6.heap.size 0 1 (by rfl) news_alloc ?_;intro v8 w8 hown8 hgr8;obtain⟨⟨a8,n8,c8⟩,rfl,-⟩:=hown8.toSlc;have K8:=(KpT.of_below (L:=[34]) (B:=0) (B6.out.alloc hb6 (.cells #[.slice a6 n6 c6] 34))).trans (KpT.grown ((HU.out.2.1.below B6.out).alloc _) (by decide) (Nat.zero_le _) hgr8);have bo8:=K8.same HC.out.bo (by decide);have o8:w8.cell? ⟨O,3,none⟩=some (.slice sa sn sc):=cellH bo8 (k:=3) rfl;have ofz8:=frozH bo8;have ol8:=lt_of_cell o8))
    all_goals
     have R8:=Own2U.app (by decide) HU.out (B6.out.alloc hb6 (.cells #[.slice a6 n6 c6] 34)) hm (O6.out.alloc _) hown8 hgr8;rw[List.nil_append,← RS.out]at R8;have B8:=(HBR.out.trans (B6.out.mono hbs)).alloc (by omega) (.cells #[.slice a6 n6 c6] 34);have B9:=B8.grown hgr8 (by simp;omega) (fun q hq=>by have:=(World.ownsRow.lt HU.out.2.1 q hq).1;omega);have bx8:=K8.same HC.out.bx (by decide);have br8:=K8.same HC.out.br (by decide);have C9:CpS (w8.setCell ⟨O,3,none⟩ (.slice a8 n8 c8)) w.heap.size O W.heap.size [.slice pa pn pk,.slice ra rn rk,.slice ma mn mk,.slice (some ⟨b2,o2,none⟩) bn bk] ⟨f,g,h,⟨a8,n8,c8⟩⟩ s (k+1):=
      ⟨(heap_setCell_other w8 ⟨O,3,none⟩ _ _ (show w.heap.size≠O by omega)).trans bx8,(heap_setCell_other w8 ⟨O,3,none⟩ _ _ (show w.heap.size+1≠O by omega)).trans br8,heap_setCell_same w8 O 3 _ _ _ bo8,
       (HC.out.ln.kp K8 (by decide)).setOther (by decide) bo8,R8.setOther (by decide) (by decide) bo8,HC.out.p1,HC.out.p2,HC.out.p3,hlO,hlB,by have:=K8.size;simp;omega,trivial⟩
     have HC9:=hide C9;have HB10:=hide (B9.setCell (p:=⟨O,3,none⟩) (show w.heap.size≤O by omega) (.slice a8 n8 c8));clear C9 R8 B8 B9 bx8 br8 K8 bo8;go_wp2_with fail;go_roundw
     case rel=>exact⟨k+1,by omega,by go_num,⟨⟨a8,n8,c8⟩,HC9.out⟩,HB10.out⟩
     case measure=>simp[intOf];omega
   ·obtain rfl:k=bn:=by omega
    have o0:wr.cell? ⟨O,0,none⟩=some (.slice f.a f.n f.cap):=cellH hc.bo (k:=0) rfl;have o1:wr.cell? ⟨O,1,none⟩=some (.slice g.a g.n g.cap):=cellH hc.bo (k:=1) rfl;have o2:wr.cell? ⟨O,2,none⟩=some (.slice h.a h.n h.cap):=cellH hc.bo (k:=2) rfl;have r0:wr.cell? ⟨w.heap.size+1,0,none⟩=some (.slice none 0 0):=cellH hc.br (k:=0) rfl;have r1:wr.cell? ⟨w.heap.size+1,1,none⟩=some (.slice none 0 0):=cellH hc.br (k:=1) rfl;have r2:wr.cell? ⟨w.heap.size+1,2,none⟩=some (.slice none 0 0):=cellH hc.br (k:=2) rfl;have r3:wr.cell? ⟨w.heap.size+1,3,none⟩=some (.slice none 0 0):=cellH hc.br (k:=3) rfl;have rfz:=frozH hc.br;have rl:=lt_of_cell r0;have HC:=hide hc;have hE:s.bf.take k=s.bf:=List.take_of_length_le (by rw[← HBN.out];exact Nat.le_refl _);have HE:=hide hE;have HBR:=hide hbr;clear hc hE hbr;go_wp2_with fail;have hS:OwnSt wr w.heap.size W.heap.size ⟨f,g,h,⟨sa,sn,sc⟩⟩ s:=⟨HC.out.ln,by have q:=HC.out.bf;rw[HE.out]at q;exact q,HC.out.p1,HC.out.p2,HC.out.p3,by have:=HC.out.lB;have:=HC.out.lO;omega,HC.out.lm⟩
    have t0:TyB 64 wr (w.heap.size+1):=⟨_,HC.out.br⟩
    refine bodyPost_ret (v:=.agg #[.slice f.a f.n f.cap,.slice g.a g.n g.cap,.slice h.a h.n h.cap,.slice sa sn sc]) (by simp[results,Try.results63,go_sem, *]) rfl ⟨⟨f,g,h,⟨sa,sn,sc⟩⟩,W.heap.size,rfl,?_,?_⟩
    ·exact(((hS.setT (by decide) (by decide) t0).setT (by decide) (by decide) (t0.set _ _ _)).setT (by decide) (by decide) ((t0.set _ _ _).set _ _ _)).setT (by decide) (by decide) (((t0.set _ _ _).set _ _ _).set _ _ _)
    ·exact(((HBR.out.setCell (p:=⟨w.heap.size+1,0,none⟩) (show w.heap.size≤w.heap.size+1 by omega) _).setCell (p:=⟨w.heap.size+1,1,none⟩) (show w.heap.size≤w.heap.size+1 by omega) _).setCell (p:=⟨w.heap.size+1,2,none⟩) (show w.heap.size≤w.heap.size+1 by omega) _).setCell (p:=⟨w.heap.size+1,3,none⟩) (show w.heap.size≤w.heap.size+1 by omega) _
 -- end copy
end Go.Proofs.Ytnkfphndfijcoaa
/-
  Rows of a program that grow in place. No condition.
-/
import Derived.Test.YtlddmagfbcomgaaGreatZq07
import Derived.Test.YtlddmagfbcomgaaGreatZq02
import Derived.Test.YtlddmagfbcomgaaGreatZq06
import Derived.Maps.AppendAt
set_option maxHeartbeats 6400000
set_option maxRecDepth 100000
namespace Go.Proofs.YtlddmagfbcomgaaGreat
open Go.RowKit
theorem Own2U.outside {α:Type} {E:El α} {T1 T2:TypeId} {b:Nat} {us:List Slc} {w w':World} {base:Nat} {v:Value} {p:List (List α)} (h:Own2U E T1 T2 us w base v p) (ho:Outside b (b+1) w w') (hb:b < base):Own2U E T1 T2 us w' base v p:=by
 obtain ⟨h1,h2,h3,h4,h5⟩:=h
 exact ⟨h1,ho.ownHi h2 hb,fun i u r hu hr=>ho.ownHi (h3 i u r hu hr) hb,h4,h5⟩
theorem Own2.outside {α:Type} {E:El α} {T1 T2:TypeId} {b:Nat} {w w':World} {base:Nat} {v:Value} {p:List (List α)} (h:Own2 E T1 T2 w base v p) (ho:Outside b (b+1) w w') (hb:b < base):Own2 E T1 T2 w' base v p:=
 h.outHi ho hb
theorem Own2U.app2 {α:Type} {E:El α} {T1 T2:TypeId} (hT:T1≠T2) {us:List Slc} {w1 w2:World} {base B:Nat} {v v':Value} {p:List (List α)} (h:Own2U E T1 T2 us w1 base v p)
 (hold:∀ (i:Nat) (u':Slc),us[i]? = some u'→∀ q,u'.v.ownBlock=some q→q < B) (hbase:base≤B) {r:List α} {s:Slc}
 (hu:Own E T2 w1 B s.v r) (h2'':Own SlcE T1 w2 base v' (us++[s])) (hg:w1.grownBy w2 v.ownBlock):Own2 E T1 T2 w2 base v' (p++[r]):=by
 obtain ⟨h1,h2',h3,h4,h5⟩:=h
 have hnew:∀ q,s.v.ownBlock=some q→B≤q:=fun q hq=>(World.ownsRow.lt hu q hq).1
 have split:∀ (i:Nat) (u':Slc),(us++[s])[i]? = some u'→(i=us.length∧u'=s)∨(i < us.length∧us[i]? = some u'):=fun i u' hi=>by
  by_cases hlt:i < us.length
  ·rw [List.getElem?_append_left hlt] at hi;exact .inr ⟨hlt,hi⟩
  ·rw [List.getElem?_append_right (by omega)] at hi
   have:i - us.length=0:=by
    rcases Nat.eq_zero_or_pos (i - us.length) with h | h
    ·exact h
    ·rw [List.getElem?_eq_none (by simp;omega)] at hi;cases hi
   rw [this] at hi;simp at hi
   exact .inl ⟨by omega,hi.symm⟩
 have hus:Own E T2 w2 base s.v r:=(hu.mono hbase).grown hg (by
  rcases hq:s.v.ownBlock with _ | q
  ·exact .inl rfl
  ·exact .inr (fun e=>own_ne hT h2' hu q hq e.symm))
 have hrows:∀ (i:Nat) (u:Slc) (r':List α),us[i]? = some u→p[i]? = some r'→Own E T2 w2 base u.v r':=fun i u r' hi hr' =>
  (h3 i u r' hi hr').grown hg (by
   rcases hq:u.v.ownBlock with _ | q
   ·exact .inl rfl
   ·exact .inr (fun e=>h5 i u hi q hq e.symm))
 refine ⟨us++[s],by simp [h1],h2'', ?_, ?_, ?_⟩
 ·intro i u r' hi hr'
  rcases split i u hi with ⟨e1,e2⟩ | ⟨hlt,hi'⟩
  ·rw [e1,List.getElem?_append_right (by omega),h1,Nat.sub_self] at hr'
   simp at hr'
   rw [e2,← hr'];exact hus
  ·rw [List.getElem?_append_left (by omega)] at hr'
   exact hrows i u r' hi' hr'
 ·intro i j u u' hi hj hij q hq hq'
  rcases split i u hi with ⟨e1,e2⟩ | ⟨hlt,hi'⟩
  ·rcases split j u' hj with ⟨e3,e4⟩ | ⟨hlt',hj'⟩
   ·omega
   ·rw [e2] at hq;have a1:=hnew q hq;have a2:=hold j u' hj' q hq';omega
  ·rcases split j u' hj with ⟨e3,e4⟩ | ⟨hlt',hj'⟩
   ·rw [e4] at hq';have a1:=hnew q hq';have a2:=hold i u hi' q hq;omega
   ·exact h4 i j u u' hi' hj' hij q hq hq'
 ·intro i u hi q hq
  rcases split i u hi with ⟨e1,e2⟩ | ⟨hlt,hi'⟩
  ·rw [e2] at hq;exact own_ne hT h2'' hus q hq
  ·obtain ⟨r',hr'⟩:=get_of_lt (xs:=p) (k:=i) (by omega)
   exact own_ne hT h2'' (hrows i u r' hi' hr') q hq
theorem Own.rowGe {α:Type} {E:El α} {T:TypeId} {w:World} {base:Nat} {v:Value} {xs:List α} (h:Own E T w base v xs):∀ q,v.ownBlock=some q→base≤q:=fun q hq=>(World.ownsRow.lt h q hq).1
theorem OneOf.open3 {x y z:Int} {v:Value} {w:World} (h:OneOf [x,y,z] v w):∃ u,v = .int .i64 u∧(u=x∨u=y∨u=z):=by
 obtain ⟨u,hu,rfl⟩:=h
 exact ⟨u,rfl,by simpa using hu⟩
theorem OneOf.open5 {x y z s t:Int} {v:Value} {w:World} (h:OneOf [x,y,z,s,t] v w):∃ u,v = .int .i64 u∧(u=x∨u=y∨u=z∨u=s∨u=t):=by
 obtain ⟨u,hu,rfl⟩:=h
 exact ⟨u,rfl,by simpa using hu⟩
def QPV (lo:Nat) (v:Value) (w:World):Prop:=∃ P:List (List Ins),OwnP w lo v P∧P.length≤4∧(∀ r∈P,r.length≤8)∧progValid P=true
theorem one_valid {x:Ins} (h:insValid x=true):progValid [[x]]=true:=by
 have hc:∀ (f:Ins→Bool),cnt f [[x]]=if f x=true then 1 else 0:=fun f=>by simp [cnt,List.countP_cons]
 have hp:∀ l:Nat,pl [[x]] l≤2:=fun l=>by
  unfold pl
  rw [hc,hc]
  split <;> split <;> decide
 have hP:prodP [[x]]≤8:=by
  simp only [prodP,prodTo,Nat.one_mul]
  have h0:=hp 0;have h1:=hp 1;have h2:=hp 2
  exact Nat.le_trans (Nat.mul_le_mul (Nat.mul_le_mul h0 h1) h2) (by decide)
 have hn:cnt notFence [[x]]≤12:=by rw [hc];split <;> omega
 unfold progValid shapeOk rowOk
 simp [h,hn]
 omega
theorem l1Draw_anyV (b:Nat) (a:Option Addr) (c:Nat) (xs:List Int) (p:Int) (w:World) (hr:Rd w b a c xs p) (hp:p≤800000000) :
 Calls Tryz.prog 161 #[.pointer (some ⟨b,0,none⟩)] w (RetRd w b a c xs p 60 (QPV w.heap.size)):=by
 have HP:=hide (fun (p:Int) n w' h hp (hn:n≤100) (hn0:0≤n)=>pick_any b a c xs p n w' h hp (by omega) (by omega))
 have HI:=hide (fun (p:Int) w' h hp=>l1Instr_anyV b a c xs p w' h hp)
 have HN3:=hide (fun (p:Int) w' G hG hb h hp=>numLit3 b a c xs p 2 3 1 w' G hG hb h hp)
 have HN5:=hide (fun (p:Int) w' G hG hb h hp=>numLit5 b a c xs p 2 1 3 2 0 w' G hG hb h hp)
 have hlt:=hr.lt
 have R0:=hide hr
 clear hr
 go_enter Tryz.func161,Tryz.ntmps161
 go_wp2_with fail
 (with_reducible refine (l1Tests_any w).mono ?_);rintro e w1 ⟨rfl,hl1,hb1⟩
 have R1:=hide (R0.out.keep hb1 hlt);have O1:=hide (Outside.of_below (lo:=b) (hi:=b+1) hb1);have L1:=hide hl1
 clear hb1 hl1 R0
 go_wp2_with fail
 (with_reducible refine (HP.out p _ _ R1.out (by omega) (by omega) (by omega)).mono ?_);rintro e w2 ⟨v2,p2,rfl,⟨q2,rfl,hq2, -⟩,hp2,hr2,ho2⟩
 have R2:=hide hr2;have O2:=hide (O1.out.trans ho2);have L2:=hide (ho2.ownHi L1.out hlt)
 clear hr2 ho2 R1 O1 L1
 by_cases hq:0 < q2
 ·go_wp2_with fail
  (with_reducible refine (HP.out p2 _ _ R2.out (by omega) (by omega) (by omega)).mono ?_);rintro e w3 ⟨v3,p3,rfl,⟨q3,rfl,hq3,hq3'⟩,hp3,hr3,ho3⟩
  obtain ⟨Q,rfl⟩:=Int.eq_ofNat_of_zero_le hq3
  have hQ:Q < 21:=by have:=hq3' (by omega);omega
  have R3:=hide hr3;have O3:=hide (O2.out.trans ho3)
  have hl3:=ho3.ownHi L2.out hlt
  obtain ⟨x,hx⟩:=get_of_lt (xs:=testTexts) (k:=Q) (by have:testTexts.length=21:=rfl;omega)
  have hxs:=testTexts_le x (List.mem_of_getElem? hx)
  obtain ⟨g,o,he,hgl,i0⟩:=hl3.rep.str hx
  simp only [Option.some.injEq,Addr.mk.injEq,and_true] at he
  obtain ⟨he1,he2⟩:=he
  rw [← he1,← he2,Nat.zero_add] at i0
  rw [← he1] at hgl
  have HS:=hide (fun w'=>sParseProgram_anyV x w' hxs)
  clear hr3 ho3 R2 O2 L2 hl3 hx hxs he1 he2
  go_wp2_with fail
  (with_reducible refine (HS.out _).mono ?_);rintro e w4 ⟨v4,ok,rfl,hQP,hb4⟩
  have hsz:=O3.out.size
  have hQP:Hid (ok=true→QPV w.heap.size v4 w4):=hide (by
   obtain ⟨P,h1,h2,h3,h4⟩:=hQP
   exact fun h=>⟨P,h1.mono hsz,h2,h3,h4 h⟩)
  have R4:=hide (R3.out.keep hb4 R3.out.lt);have O4:=hide (O3.out.trans (Outside.of_below hb4))
  clear hb4 R3 O3 HS i0 hgl
  by_cases hok:ok=true
  ·subst hok
   go_wp2_with fail
   go_ret
   exact ⟨_,p3,rfl,hQP.out trivial,by omega,R4.out,O4.out⟩
  ·obtain rfl:ok=false:=by simpa using hok
   clear hok
   have hsK4:=O4.out.size
   go_wp2_with fail
   (with_reducible refine (HN3.out p3 _ _ (by simp) (by omega) ((R4.out.allocNew _).allocNew _) (by omega)).mono ?_);rintro e wa ⟨va,pa,rfl,hone,hpa,hra,hoa⟩
   obtain ⟨y,rfl,hy⟩:=hone.open3
   have RA:=hide hra;have OA:=hide (((O4.out.allocNew (.cells #[] 71)).allocNew (.cells #[.int .i64 2, .int .i64 3, .int .i64 1] 3)).trans hoa)
   have UA:=hide ((((Own2.empty (E:=InsE) 71 74 w4 hsK4).below (belowAlloc _ _))).outside hoa hlt)
   obtain ⟨Y,rfl⟩:∃ Y:Nat,y=(Y:Int):=⟨y.toNat,by omega⟩
   have hY:Y≤3:=by omega
   clear hra hoa hone R4 O4 hy
   go_wp2_with fail
   go_loopw [6,7] (fun v i wr => ∃ (m:Nat) (P:List (List Ins)) (pp:Int),i = .int .i64 m∧P.length+m≤3∧(∀ r∈P,r.length≤3)∧OwnP wr w.heap.size v P∧Rd wr b a c xs pp∧pp+14 * m≤p3+50∧Outside b (b+1) w wr) (fun _ i _=>(intOf i).toNat)
   case atStart=>exact ⟨Y,[],pa,rfl,by simpa using hY,by simp,UA.out,RA.out,by omega,OA.out⟩
   case round =>
    obtain ⟨m,P,pp,rfl,hPl,hPr,ho,hR,hpp,hO⟩:=hrel
    obtain ⟨wm,rfl⟩:∃ wm:World,wm=wr:=⟨_,rfl⟩
    clear RA OA UA
    by_cases hm:0 < m
    ·have hm':(0:Int) < m:=by omega
     have hsm:=hO.size
     obtain ⟨us,hU,hold⟩:=ho.told
     have hub:us.length≤68719476736:=by rw [hU.1];omega
     have HU:=hide hU;have HOLD:=hide hold;have RM:=hide hR;have OM:=hide hO;have HPR:=hide hPr
     clear ho hR hO hU hold hPr
     go_wp2_with fail
     (with_reducible refine (HN5.out pp _ _ (by simp) (by omega) ((RM.out.allocNew _).allocNew _) (by omega)).mono ?_);rintro e wb ⟨vb,pb,rfl,hone,hpb,hrb,hob⟩
     obtain ⟨z,rfl,hz⟩:=hone.open5
     have RB:=hide hrb;have OB:=hide ((((Outside.refl b (b+1) wm).allocNew (.cells #[] 74)).allocNew (.cells #[.int .i64 2, .int .i64 1, .int .i64 3, .int .i64 2, .int .i64 0] 3)).trans hob)
     have LB:=hide (hob.ownHi ((Own.empty (E:=InsE) 74 wm (Nat.le_refl _)).alloc (.cells #[.int .i64 2, .int .i64 1, .int .i64 3, .int .i64 2, .int .i64 0] 3)) (show b < wm.heap.size by omega))
     obtain ⟨Z,rfl⟩:∃ Z:Nat,z=(Z:Int):=⟨z.toNat,by omega⟩
     have hZ:Z≤3:=by omega
     clear hrb hob hone hz
     go_wp2_with fail
     go_loopw [8,9] (fun l k wr' => ∃ (n:Nat) (ys:List Ins) (pq:Int),k = .int .i64 n∧ys.length+n≤3∧OwnI wr' wm.heap.size l ys∧Rd wr' b a c xs pq∧pq+4 * n≤pb+12∧Outside b (b+1) wm wr') (fun _ k _=>(intOf k).toNat)
     case atStart=>exact ⟨Z,[],pb,rfl,by simpa using hZ,LB.out,RB.out,by omega,OB.out⟩
     case round =>
      obtain ⟨n,ys,pq,rfl,hyl,hl,hR,hpq,hO⟩:=hrel
      clear RB OB LB
      by_cases hn:0 < n
      ·have hn':(0:Int) < n:=by omega
       have RW:=hide hR;have OW:=hide hO;have LW:=hide hl
       clear hR hO hl
       go_wp2_with fail
       (with_reducible refine (HI.out pq _ RW.out (by omega)).mono ?_);rintro e wc ⟨vc,pc,rfl,⟨io,il,ir,ix,rfl,hiv⟩,hpc,hrc,hoc⟩
       have hlc:=hide (hoc.ownHi LW.out (show b < wm.heap.size by omega))
       have RC:=hide hrc;have OC:=hide (OW.out.trans hoc)
       have hsz:=OC.out.size
       have hyl64:ys.length≤68719476736:=by omega
       clear hrc hoc RW OW LW
       go_wp2_with (at_builtin;refine wpList_app InsE 74 Tryz.infoIns rfl Tryz.underlying71 wm.heap.size _ ys ⟨io,il,ir,ix⟩ (hlc.out.alloc _) (by decide) hyl64 (by simp;omega) rfl _ _ rfl rfl _ 0 1 rfl news_alloc ?_;intro v6 w6 ho6 hgr6)
       have R6:=(RC.out.allocNew _).grownNew hgr6 (fun q hq=>by have:=hlc.out.rowGe q hq;omega)
       have O6:=(OC.out.allocNew _).grownNew hgr6 (fun q hq=>hlc.out.rowGe q hq)
       go_roundw
       case rel=>exact ⟨n - 1,ys++[⟨io,il,ir,ix⟩],pc,by go_num,by simp;omega,ho6,R6,by omega,O6⟩
       case measure=>simp [intOf];omega
      ·obtain rfl:n=0:=by omega
       obtain ⟨la,ln,lc,rfl,hln⟩:=hl.toSl
       have hU3:=hide (HU.out.outside hO hlt)
       have HL:=hide hl;have RW:=hide hR;have OW:=hide hO
       have hsz:=hO.size
       clear hl hR hO hln
       go_wp2_with (at_builtin;refine wpList_app SlcE 71 Tryz.infoInsS rfl Tryz.underlying23 w.heap.size _ us ⟨la,ln,lc⟩ (hU3.out.2.1.alloc _) (by decide) hub (by simp;omega) rfl _ _ rfl rfl _ 0 1 rfl news_alloc ?_;intro v5 w5 ho5 hgr5)
       have ho6:=(hU3.out.below (belowAlloc _ _)).app2 (by decide) (fun i u hu q hq=>(HOLD.out i u hu q hq).2) hsm (s:=⟨la,ln,lc⟩) (HL.out.alloc _) ho5 hgr5
       have R6:=(RW.out.allocNew _).grownNew hgr5 (fun q hq=>by have:=hU3.out.2.1.rowGe q hq;omega)
       have O6:=((OM.out.trans OW.out).allocNew _).grownNew hgr5 (fun q hq=>hU3.out.2.1.rowGe q hq)
       go_roundw
       case rel=>exact ⟨m - 1,P++[ys],pq,by go_num,by simp;omega,by
        intro r hr
        rcases List.mem_append.1 hr with h | h
        ·exact HPR.out r h
        ·rw [List.mem_singleton.1 h];omega,ho6,R6,by omega,O6⟩
       case measure=>simp [intOf];omega
    ·obtain rfl:m=0:=by omega
     obtain ⟨us,hU, -⟩:=ho.told
     obtain ⟨oa,on,oc,rfl,hon⟩:=hU.2.1.toSl
     have hfl:P.flatten.length≤1048576:=by
      have:=flatten_bound P 3 hPr
      have:P.length * 3≤3 * 3:=Nat.mul_le_mul_right _ (by omega)
      omega
     have HV:=hide (fun w' h=>sProgramValid_any (.slice oa on oc) P w' h hfl (by omega))
     have HO:=hide ho;have RM:=hide hR;have OM:=hide hO;have HPR:=hide hPr
     clear hU hon ho hR hO hPr hfl
     go_wp2_with fail
     (with_reducible refine (HV.out _ HO.out.rep).mono ?_);rintro e w4 ⟨rfl,hb4⟩
     have R4:=hide (RM.out.keep hb4 RM.out.lt);have O4:=hide (OM.out.trans (Outside.of_below hb4));have HO4:=hide (HO.out.below hb4)
     clear hb4 HO RM OM HV
     by_cases hv:progValid P=true
     ·go_wp2_with fail
      go_ret
      exact ⟨_,pp,rfl,⟨P,HO4.out,by omega,fun r hr=>Nat.le_trans (HPR.out r hr) (by omega),hv⟩,by omega,R4.out,O4.out⟩
     ·have hv':progValid P=false:=by simpa using hv
      clear hv HO4
      go_wp2_with fail
      (with_reducible refine (HI.out pp _ R4.out (by omega)).mono ?_);rintro e wc ⟨vc,pc,rfl,⟨io,il,ir,ix,rfl,hiv⟩,hpc,hrc,hoc⟩
      have RC:=hide hrc;have OC:=hide (O4.out.trans hoc)
      clear hrc hoc R4 O4
      have hsz:=OC.out.size
      go_wp2_with fail
      go_ret
      exact ⟨_,pc,rfl,⟨[[⟨io,il,ir,ix⟩]],own2_one hsz ⟨io,il,ir,ix⟩ rfl,by simp,by simp,one_valid hiv⟩,by omega,(RC.out.allocNew _).allocNew _,(OC.out.allocNew _).allocNew _⟩
 ·have hq':decide (0 < q2)=false:=decide_eq_false hq
  clear hq
  have hsK2:=O2.out.size
  go_wp2_with fail
  (with_reducible refine (HN3.out p2 _ _ (by simp) (by omega) ((R2.out.allocNew _).allocNew _) (by omega)).mono ?_);rintro e wa ⟨va,pa,rfl,hone,hpa,hra,hoa⟩
  obtain ⟨y,rfl,hy⟩:=hone.open3
  have RA:=hide hra;have OA:=hide (((O2.out.allocNew (.cells #[] 71)).allocNew (.cells #[.int .i64 2, .int .i64 3, .int .i64 1] 3)).trans hoa)
  have UA:=hide ((((Own2.empty (E:=InsE) 71 74 w2 hsK2).below (belowAlloc _ _))).outside hoa hlt)
  obtain ⟨Y,rfl⟩:∃ Y:Nat,y=(Y:Int):=⟨y.toNat,by omega⟩
  have hY:Y≤3:=by omega
  clear hra hoa hone R2 O2 hy
  go_wp2_with fail
  go_loopw [6,7] (fun v i wr => ∃ (m:Nat) (P:List (List Ins)) (pp:Int),i = .int .i64 m∧P.length+m≤3∧(∀ r∈P,r.length≤3)∧OwnP wr w.heap.size v P∧Rd wr b a c xs pp∧pp+14 * m≤p2+50∧Outside b (b+1) w wr) (fun _ i _=>(intOf i).toNat)
  case atStart=>exact ⟨Y,[],pa,rfl,by simpa using hY,by simp,UA.out,RA.out,by omega,OA.out⟩
  case round =>
   obtain ⟨m,P,pp,rfl,hPl,hPr,ho,hR,hpp,hO⟩:=hrel
   obtain ⟨wm,rfl⟩:∃ wm:World,wm=wr:=⟨_,rfl⟩
   clear RA OA UA
   by_cases hm:0 < m
   ·have hm':(0:Int) < m:=by omega
    have hsm:=hO.size
    obtain ⟨us,hU,hold⟩:=ho.told
    have hub:us.length≤68719476736:=by rw [hU.1];omega
    have HU:=hide hU;have HOLD:=hide hold;have RM:=hide hR;have OM:=hide hO;have HPR:=hide hPr
    clear ho hR hO hU hold hPr
    go_wp2_with fail
    (with_reducible refine (HN5.out pp _ _ (by simp) (by omega) ((RM.out.allocNew _).allocNew _) (by omega)).mono ?_);rintro e wb ⟨vb,pb,rfl,hone,hpb,hrb,hob⟩
    obtain ⟨z,rfl,hz⟩:=hone.open5
    have RB:=hide hrb;have OB:=hide ((((Outside.refl b (b+1) wm).allocNew (.cells #[] 74)).allocNew (.cells #[.int .i64 2, .int .i64 1, .int .i64 3, .int .i64 2, .int .i64 0] 3)).trans hob)
    have LB:=hide (hob.ownHi ((Own.empty (E:=InsE) 74 wm (Nat.le_refl _)).alloc (.cells #[.int .i64 2, .int .i64 1, .int .i64 3, .int .i64 2, .int .i64 0] 3)) (show b < wm.heap.size by omega))
    obtain ⟨Z,rfl⟩:∃ Z:Nat,z=(Z:Int):=⟨z.toNat,by omega⟩
    have hZ:Z≤3:=by omega
    clear hrb hob hone hz
    go_wp2_with fail
    go_loopw [8,9] (fun l k wr' => ∃ (n:Nat) (ys:List Ins) (pq:Int),k = .int .i64 n∧ys.length+n≤3∧OwnI wr' wm.heap.size l ys∧Rd wr' b a c xs pq∧pq+4 * n≤pb+12∧Outside b (b+1) wm wr') (fun _ k _=>(intOf k).toNat)
    case atStart=>exact ⟨Z,[],pb,rfl,by simpa using hZ,LB.out,RB.out,by omega,OB.out⟩
    case round =>
     obtain ⟨n,ys,pq,rfl,hyl,hl,hR,hpq,hO⟩:=hrel
     clear RB OB LB
     by_cases hn:0 < n
     ·have hn':(0:Int) < n:=by omega
      have RW:=hide hR;have OW:=hide hO;have LW:=hide hl
      clear hR hO hl
      go_wp2_with fail
      (with_reducible refine (HI.out pq _ RW.out (by omega)).mono ?_);rintro e wc ⟨vc,pc,rfl,⟨io,il,ir,ix,rfl,hiv⟩,hpc,hrc,hoc⟩
      have hlc:=hide (hoc.ownHi LW.out (show b < wm.heap.size by omega))
      have RC:=hide hrc;have OC:=hide (OW.out.trans hoc)
      have hsz:=OC.out.size
      have hyl64:ys.length≤68719476736:=by omega
      clear hrc hoc RW OW LW
      go_wp2_with (at_builtin;refine wpList_app InsE 74 Tryz.infoIns rfl Tryz.underlying71 wm.heap.size _ ys ⟨io,il,ir,ix⟩ (hlc.out.alloc _) (by decide) hyl64 (by simp;omega) rfl _ _ rfl rfl _ 0 1 rfl news_alloc ?_;intro v6 w6 ho6 hgr6)
      have R6:=(RC.out.allocNew _).grownNew hgr6 (fun q hq=>by have:=hlc.out.rowGe q hq;omega)
      have O6:=(OC.out.allocNew _).grownNew hgr6 (fun q hq=>hlc.out.rowGe q hq)
      go_roundw
      case rel=>exact ⟨n - 1,ys++[⟨io,il,ir,ix⟩],pc,by go_num,by simp;omega,ho6,R6,by omega,O6⟩
      case measure=>simp [intOf];omega
     ·obtain rfl:n=0:=by omega
      obtain ⟨la,ln,lc,rfl,hln⟩:=hl.toSl
      have hU3:=hide (HU.out.outside hO hlt)
      have HL:=hide hl;have RW:=hide hR;have OW:=hide hO
      have hsz:=hO.size
      clear hl hR hO hln
      go_wp2_with (at_builtin;refine wpList_app SlcE 71 Tryz.infoInsS rfl Tryz.underlying23 w.heap.size _ us ⟨la,ln,lc⟩ (hU3.out.2.1.alloc _) (by decide) hub (by simp;omega) rfl _ _ rfl rfl _ 0 1 rfl news_alloc ?_;intro v5 w5 ho5 hgr5)
      have ho6:=(hU3.out.below (belowAlloc _ _)).app2 (by decide) (fun i u hu q hq=>(HOLD.out i u hu q hq).2) hsm (s:=⟨la,ln,lc⟩) (HL.out.alloc _) ho5 hgr5
      have R6:=(RW.out.allocNew _).grownNew hgr5 (fun q hq=>by have:=hU3.out.2.1.rowGe q hq;omega)
      have O6:=((OM.out.trans OW.out).allocNew _).grownNew hgr5 (fun q hq=>hU3.out.2.1.rowGe q hq)
      go_roundw
      case rel=>exact ⟨m - 1,P++[ys],pq,by go_num,by simp;omega,by
       intro r hr
       rcases List.mem_append.1 hr with h | h
       ·exact HPR.out r h
       ·rw [List.mem_singleton.1 h];omega,ho6,R6,by omega,O6⟩
      case measure=>simp [intOf];omega
   ·obtain rfl:m=0:=by omega
    obtain ⟨us,hU, -⟩:=ho.told
    obtain ⟨oa,on,oc,rfl,hon⟩:=hU.2.1.toSl
    have hfl:P.flatten.length≤1048576:=by
     have:=flatten_bound P 3 hPr
     have:P.length * 3≤3 * 3:=Nat.mul_le_mul_right _ (by omega)
     omega
    have HV:=hide (fun w' h=>sProgramValid_any (.slice oa on oc) P w' h hfl (by omega))
    have HO:=hide ho;have RM:=hide hR;have OM:=hide hO;have HPR:=hide hPr
    clear hU hon ho hR hO hPr hfl
    go_wp2_with fail
    (with_reducible refine (HV.out _ HO.out.rep).mono ?_);rintro e w4 ⟨rfl,hb4⟩
    have R4:=hide (RM.out.keep hb4 RM.out.lt);have O4:=hide (OM.out.trans (Outside.of_below hb4));have HO4:=hide (HO.out.below hb4)
    clear hb4 HO RM OM HV
    by_cases hv:progValid P=true
    ·go_wp2_with fail
     go_ret
     exact ⟨_,pp,rfl,⟨P,HO4.out,by omega,fun r hr=>Nat.le_trans (HPR.out r hr) (by omega),hv⟩,by omega,R4.out,O4.out⟩
    ·have hv':progValid P=false:=by simpa using hv
     clear hv HO4
     go_wp2_with fail
     (with_reducible refine (HI.out pp _ R4.out (by omega)).mono ?_);rintro e wc ⟨vc,pc,rfl,⟨io,il,ir,ix,rfl,hiv⟩,hpc,hrc,hoc⟩
     have RC:=hide hrc;have OC:=hide (O4.out.trans hoc)
     clear hrc hoc R4 O4
     have hsz:=OC.out.size
     go_wp2_with fail
     go_ret
     exact ⟨_,pc,rfl,⟨[[⟨io,il,ir,ix⟩]],own2_one hsz ⟨io,il,ir,ix⟩ rfl,by simp,by simp,one_valid hiv⟩,by omega,(RC.out.allocNew _).allocNew _,(OC.out.allocNew _).allocNew _⟩
theorem l1Draw_any (b:Nat) (a:Option Addr) (c:Nat) (xs:List Int) (p:Int) (w:World) (hr:Rd w b a c xs p) (hp:p≤800000000) :
 Calls Tryz.prog 161 #[.pointer (some ⟨b,0,none⟩)] w (RetRd w b a c xs p 60 (QP w.heap.size)):=
 (l1Draw_anyV b a c xs p w hr hp).mono fun _ _ ⟨v,p',h1,⟨P,h2,h3,h4,_⟩,h5⟩=>⟨v,p',h1,⟨P,h2,h3,h4⟩,h5⟩
end Go.Proofs.YtlddmagfbcomgaaGreat
namespace Go.Proofs.YtlddmagfbcomgaaGreat
open Go.RowKit
def OneStr (ys:List ByteArray) (v:Value) (_:World):Prop:=∃ y∈ys,v = .string y
theorem of_any (b:Nat) (a:Option Addr) (c:Nat) (xs:List Int) (p:Int) (v:Value) (ys:List ByteArray) (w:World) (base:Nat) (hr:Rd w b a c xs p) (hp:p≤1000000000) (hy:Own StrE 9 w base v ys) (hl:ys.length≤100) (h0:1≤ys.length) (hb:b < base) :
 Calls Tryz.prog 100 #[.pointer (some ⟨b,0,none⟩),v] w (RetRd w b a c xs p 1 (OneStr ys)):=by
 obtain ⟨a2,n,c2,rfl,hn⟩:=hy.toSl
 have HY:=hide hy;clear hy
 have H:=hide hn
 have HP:=hide (fun w' h=>pick_any b a c xs p n w' h hp (by omega) (by omega))
 clear hn
 go_enter Tryz.func100,Tryz.ntmps100
 go_wp2_with fail
 (with_reducible refine (HP.out _ hr).mono ?_);rintro e w1 ⟨v1,p1,rfl,⟨q,rfl,hq0,hq1⟩,hp1,hr1,ho1⟩
 obtain ⟨Q,rfl⟩:=Int.eq_ofNat_of_zero_le hq0
 have hQ:Q < n:=by have:=hq1 (by have:=H.out;omega);omega
 obtain ⟨y,hyq⟩:=get_of_lt (xs:=ys) (k:=Q) (by rw [← H.out];exact hQ)
 have hy1:=ho1.ownHi HY.out hb
 obtain ⟨g,o,rfl,hg,i0⟩:=hy1.rep.str hyq
 have hQ':=nat_of_lt hQ
 have hm:=List.mem_of_getElem? hyq
 clear hyq hy1
 go_wp2_with fail
 go_ret
 exact ⟨_,p1,rfl,⟨y,hm,rfl⟩,hp1,hr1,ho1⟩
theorem QP.mono {lo lo':Nat} {v:Value} {w:World} (h:QP lo v w) (hl:lo'≤lo):QP lo' v w:=by
 obtain ⟨P,h1,h2,h3⟩:=h
 exact ⟨P,h1.mono hl,h2,h3⟩
theorem l1Execs200_any (v:Value) (p:List (List Ins)) (w:World) (hp:RepP w v p) (hl:p.flatten.length≤1048576) (hpl:p.length≤1048576) :
 Calls Tryz.prog 111 #[v, .int .i64 200] w fun e w' => ∃ k:Int,e = .returned (.int .i64 k)∧Below w.heap.size w w':=by
 have HP:=hide hp;clear hp
 have HL:=hide hl;clear hl
 go_enter Tryz.func111,Tryz.ntmps111
 go_wp2_with fail
 go_loopw [5,6] (fun q i wr => ∃ (k:Nat) (N:Int),k≤3∧i = .int .i64 k∧q = .int .i64 N∧Below w.heap.size w wr) (fun _ i _=>3 - (intOf i).toNat)
 case atStart=>exact ⟨0,1,by omega,rfl,rfl,Below.refl _ _⟩
 case round =>
  obtain ⟨k,N,hk,rfl,rfl,hb⟩:=hrel
  by_cases hlt:k < 3
  ·have hlt':(k:Int)≤2:=by omega
   have hbR:=Nat.le_trans (cnt_le_flatten (fR k) p) HL.out
   have hbW:=Nat.le_trans (cnt_le_flatten (fW k) p) HL.out
   have C1:∀ w',RepP w' v p→Calls Tryz.prog 77 #[v, .int .i64 (k:Int), .bool true] w' fun e w2=>e = .returned (.int .i64 (cnt (fW k) p:Nat))∧Below w'.heap.size w' w2:=fun w' h=>by
    have:=l1Count_any v p k true w' h HL.out hpl;rwa [fRW_true] at this
   have C2:∀ w',RepP w' v p→Calls Tryz.prog 77 #[v, .int .i64 (k:Int), .bool false] w' fun e w2=>e = .returned (.int .i64 (cnt (fR k) p:Nat))∧Below w'.heap.size w' w2:=fun w' h=>by
    have:=l1Count_any v p k false w' h HL.out hpl;rwa [fRW_false] at this
   generalize hR:cnt (fR k) p=R at *
   generalize hW:cnt (fW k) p=W at *
   have D1:=hide C1;have D2:=hide C2
   clear hR hW C1 C2
   go_wp2_with (go_at_call 77;(with_reducible refine (D1.out _ (HP.out.below hb)).mono ?_);rintro e w1 ⟨rfl,hb1⟩)
   have hb:=hb.trans (hb1.mono hb.size)
   clear hb1
   go_loopw [5,8] (fun q i wr => ∃ (t:Nat) (M:Int),t≤R∧i = .int .i64 t∧q = .int .i64 M∧Below w.heap.size w wr) (fun _ i _=>R - (intOf i).toNat)
   case atStart=>exact ⟨0,N,by omega,rfl,rfl,hb⟩
   case round =>
    clear hb
    obtain ⟨t,M,ht,rfl,rfl,hb⟩:=hrel
    by_cases hlt3:t < R
    ·have hlt3':=nat_of_lt hlt3
     by_cases hM:M≤200
     ·go_wp2_with (go_at_call 77;(with_reducible refine (D2.out _ (HP.out.below hb)).mono ?_);rintro e w1 ⟨rfl,hb1⟩)
      go_roundw
      case rel=>exact ⟨t+1,_,by omega,by go_num,rfl,hb.trans (hb1.mono hb.size)⟩
      case measure=>simp [intOf];omega
     ·have hM':decide (M≤200)=false:=decide_eq_false hM
      clear hM
      go_wp2_with (go_at_call 77;(with_reducible refine (D2.out _ (HP.out.below hb)).mono ?_);rintro e w1 ⟨rfl,hb1⟩)
      have hb:=hb.trans (hb1.mono hb.size)
      clear hb1
      go_loopw [5,9] (fun q i wr => ∃ (s:Nat) (L:Int),1≤s∧s≤W+1∧i = .int .i64 (s+1)∧q = .int .i64 L∧Below w.heap.size w wr) (fun _ i _=>W+1 - (intOf i).toNat)
      case atStart=>exact ⟨1,M,by omega,by omega,rfl,rfl,hb⟩
      case round =>
       clear hb
       obtain ⟨s,L,hs1,hs2,rfl,rfl,hb⟩:=hrel
       by_cases hlt5:(s:Int)+1≤W
       ·by_cases hL:L≤200
        ·go_wp2_with fail
         go_roundw
         case rel=>exact ⟨s+1,_,by omega,by omega,by go_num,rfl,hb⟩
         case measure=>simp [intOf];omega
        ·have hL':decide (L≤200)=false:=decide_eq_false hL
         clear hL
         go_wp2_with fail
         go_roundw
         case rel=>exact ⟨k+1,L,by omega,by go_num,rfl,hb⟩
         case measure=>simp [intOf];omega
       ·have hlt5':decide ((s:Int)+1≤W)=false:=decide_eq_false hlt5
        go_wp2_with fail
        go_roundw
        case rel=>exact ⟨k+1,L,by omega,by go_num,rfl,hb⟩
        case measure=>simp [intOf];omega
    ·have hlt3':decide (t < R)=false:=decide_eq_false hlt3
     have hlt3'':decide ((t:Int) < R)=false:=decide_eq_false (by omega)
     go_wp2_with (go_at_call 77;(with_reducible refine (D2.out _ (HP.out.below hb)).mono ?_);rintro e w1 ⟨rfl,hb1⟩)
     have hb:=hb.trans (hb1.mono hb.size)
     clear hb1
     go_loopw [5,9] (fun q i wr => ∃ (s:Nat) (L:Int),1≤s∧s≤W+1∧i = .int .i64 (s+1)∧q = .int .i64 L∧Below w.heap.size w wr) (fun _ i _=>W+1 - (intOf i).toNat)
     case atStart=>exact ⟨1,M,by omega,by omega,rfl,rfl,hb⟩
     case round =>
      clear hb
      obtain ⟨s,L,hs1,hs2,rfl,rfl,hb⟩:=hrel
      by_cases hlt5:(s:Int)+1≤W
      ·by_cases hL:L≤200
       ·go_wp2_with fail
        go_roundw
        case rel=>exact ⟨s+1,_,by omega,by omega,by go_num,rfl,hb⟩
        case measure=>simp [intOf];omega
       ·have hL':decide (L≤200)=false:=decide_eq_false hL
        clear hL
        go_wp2_with fail
        go_roundw
        case rel=>exact ⟨k+1,L,by omega,by go_num,rfl,hb⟩
        case measure=>simp [intOf];omega
      ·have hlt5':decide ((s:Int)+1≤W)=false:=decide_eq_false hlt5
       go_wp2_with fail
       go_roundw
       case rel=>exact ⟨k+1,L,by omega,by go_num,rfl,hb⟩
       case measure=>simp [intOf];omega
  ·have e:k=3:=by omega
   subst e
   by_cases h3:200 < N
   ·go_wp2_with fail
    go_ret
    first | exact ⟨_,rfl,hb⟩ | exact ⟨⟨_,rfl⟩,hb⟩
   ·have h3':decide (200 < N)=false:=decide_eq_false h3
    go_wp2_with fail
    go_ret
    first | exact ⟨_,rfl,hb⟩ | exact ⟨⟨_,rfl⟩,hb⟩
theorem l8Small_any (b:Nat) (a:Option Addr) (c:Nat) (xs:List Int) (p:Int) (w:World) (hr:Rd w b a c xs p) (hp:p≤800000000) :
 Calls Tryz.prog 98 #[.pointer (some ⟨b,0,none⟩)] w (RetRd w b a c xs p 60 (QP w.heap.size)):=by
 have HD:=hide (l1Draw_any b a c xs p w hr hp)
 have hlt:=hr.lt
 have HS:=hide (fun w'=>sParseProgram_any ⟨#[120,61,49,59,97,61,121,124,121,61,49,59,97,61,120]⟩ w' (by decide))
 clear hr
 go_enter Tryz.func98,Tryz.ntmps98
 go_wp2_with fail
 (with_reducible refine HD.out.mono ?_);rintro e w1 ⟨v1,p1,rfl,⟨P,ho,hPl,hPr⟩,hp1,hr1,ho1⟩
 have hfl:P.flatten.length≤1048576:=by
  have:=flatten_bound P 8 hPr
  have:P.length * 8≤4 * 8:=Nat.mul_le_mul_right _ (by omega)
  omega
 obtain ⟨us,hU, -⟩:=ho.told
 obtain ⟨oa,on,oc,rfl,hon⟩:=hU.2.1.toSl
 have HX:=hide (fun w' h=>l1Execs200_any (.slice oa on oc) P w' h hfl (by omega))
 have HO:=hide ho;have R1:=hide hr1;have O1:=hide ho1;have HPR:=hide hPr
 clear hU ho hr1 ho1 hPr hfl hon HD
 go_wp2_with fail
 (with_reducible refine (HX.out _ HO.out.rep).mono ?_);rintro e w2 ⟨k,rfl,hb2⟩
 have HO2:=hide (HO.out.below hb2);have R2:=hide (R1.out.keep hb2 R1.out.lt);have O2:=hide (O1.out.trans (Outside.of_below hb2))
 clear HO R1 O1 hb2 HX
 by_cases hk:k≤200
 ·go_wp2_with fail
  go_ret
  exact ⟨_,p1,rfl,⟨P,HO2.out,hPl,HPR.out⟩,hp1,R2.out,O2.out⟩
 ·have hk':decide (k≤200)=false:=decide_eq_false hk
  clear hk HO2
  go_wp2_with fail
  (with_reducible refine (HS.out _).mono ?_);rintro e w4 ⟨v4,ok,rfl,hQP,hb4⟩
  have hsz:=O2.out.size
  go_wp2_with fail
  go_ret
  exact ⟨_,p1,rfl,hQP.mono hsz,hp1,R2.out.keep hb4 R2.out.lt,O2.out.trans (Outside.of_below hb4)⟩
def texts9:List ByteArray:=[⟨#[120,61,49,59,97,61,121,124,121,61,49,59,97,61,120]⟩,⟨#[120,61,49,59,121,61,49,124,97,61,121,59,98,61,120]⟩,⟨#[120,61,49,59,102,101,110,99,101,59,97,61,121,124,121,61,49,59,102,101,110,99,101,59,97,61,120]⟩]
theorem texts9_le:∀ x∈texts9,x.size≤1000:=by
 have h:(texts9.all fun x=>decide (x.size≤1000))=true:=by rfl
 intro x hx
 have:=List.all_eq_true.1 h x hx
 simpa using this
theorem l9Draw_any (b:Nat) (a:Option Addr) (c:Nat) (xs:List Int) (p:Int) (w:World) (hr:Rd w b a c xs p) (hp:p≤800000000) :
 Calls Tryz.prog 43 #[.pointer (some ⟨b,0,none⟩)] w (RetRd w b a c xs p 61 (QP w.heap.size)):=by
 have HD:=hide (l8Small_any b a c xs p w hr hp)
 have hlt:=hr.lt
 clear hr
 go_enter Tryz.func43,Tryz.ntmps43
 go_wp2_with fail
 (with_reducible refine HD.out.mono ?_);rintro e w1 ⟨v1,p1,rfl,⟨P,ho,hPl,hPr⟩,hp1,hr1,ho1⟩
 have hfl:P.flatten.length≤1048576:=by
  have:=flatten_bound P 8 hPr
  have:P.length * 8≤4 * 8:=Nat.mul_le_mul_right _ (by omega)
  omega
 obtain ⟨us,hU, -⟩:=ho.told
 obtain ⟨oa,on,oc,rfl,hon⟩:=hU.2.1.toSl
 have HX:=hide (fun w' h=>l9Gaps_any (.slice oa on oc) P w' h hfl)
 have HO:=hide ho;have R1:=hide hr1;have O1:=hide ho1;have HPR:=hide hPr
 clear hU ho hr1 ho1 hPr hfl hon HD
 go_wp2_with fail
 (with_reducible refine (HX.out _ HO.out.rep).mono ?_);rintro e w2 ⟨v2,rfl,hg2,hb2⟩
 obtain ⟨ga,gn,gc,rfl, -⟩:=hg2.toSl
 have HO2:=hide (HO.out.below hb2);have R2:=hide (R1.out.keep hb2 R1.out.lt);have O2:=hide (O1.out.trans (Outside.of_below hb2))
 clear HO R1 O1 hb2 HX hg2
 have hsz:=O2.out.size
 by_cases hk:gn > 5
 ·have hk':(5:Int) < gn:=by omega
  have L2:=hide (Own.lit (E:=StrE) (T:=9) hsz texts9 #[.string ⟨#[120,61,49,59,97,61,121,124,121,61,49,59,97,61,120]⟩, .string ⟨#[120,61,49,59,121,61,49,124,97,61,121,59,98,61,120]⟩, .string ⟨#[120,61,49,59,102,101,110,99,101,59,97,61,121,124,121,61,49,59,102,101,110,99,101,59,97,61,120]⟩] 3 rfl rfl (by omega))
  have HF:=hide (of_any b a c xs p1 _ texts9 _ _ (R2.out.allocNew _) (by omega) L2.out (by decide) (by decide) hlt)
  have O2':=hide (O2.out.allocNew (.cells #[.string ⟨#[120,61,49,59,97,61,121,124,121,61,49,59,97,61,120]⟩, .string ⟨#[120,61,49,59,121,61,49,124,97,61,121,59,98,61,120]⟩, .string ⟨#[120,61,49,59,102,101,110,99,101,59,97,61,121,124,121,61,49,59,102,101,110,99,101,59,97,61,120]⟩] 9))
  clear HO2 L2 O2 R2
  go_wp2_with fail
  (with_reducible refine HF.out.mono ?_);rintro e w3 ⟨v3,p3,rfl,⟨y,hy,rfl⟩,hp3,hr3,ho3⟩
  have HS:=hide (fun w'=>sParseProgram_any y w' (texts9_le y hy))
  have R3:=hide hr3;have O3:=hide (O2'.out.trans ho3)
  clear hr3 ho3 hy O2' HF
  go_wp2_with fail
  (with_reducible refine (HS.out _).mono ?_);rintro e w4 ⟨v4,ok,rfl,hQP,hb4⟩
  have hsz:=O3.out.size
  go_wp2_with fail
  go_ret
  exact ⟨_,p3,rfl,hQP.mono hsz,by omega,R3.out.keep hb4 R3.out.lt,O3.out.trans (Outside.of_below hb4)⟩
 ·have hk':decide (5 < gn)=false:=decide_eq_false hk
  have hk'':decide ((5:Int) < gn)=false:=decide_eq_false (by omega)
  clear hk
  go_wp2_with fail
  go_ret
  exact ⟨_,p1,rfl,⟨P,HO2.out,hPl,HPR.out⟩,by omega,R2.out,O2.out⟩
def texts10:List ByteArray:=[⟨#[97,61,120,58,49,59,121,61,49,124,98,61,120,58,50]⟩,⟨#[120,61,49,59,120,61,50,124,121,61,49,59,97,61,121]⟩,⟨#[97,61,122,58,49,124,98,61,122,58,50,124,99,61,122,58,51]⟩,⟨#[97,61,120,124,98,61,120]⟩,⟨#[120,61,49,59,97,61,120,58,50,124,98,61,121,59,121,61,51]⟩,⟨#[97,61,120,58,49,59,98,61,121,58,49,124,97,61,121,58,50,59,98,61,120,58,50]⟩]
theorem texts10_le:∀ x∈texts10,x.size≤1000:=by
 have h:(texts10.all fun x=>decide (x.size≤1000))=true:=by rfl
 intro x hx
 have:=List.all_eq_true.1 h x hx
 simpa using this
theorem l10Draw_any (b:Nat) (a:Option Addr) (c:Nat) (xs:List Int) (p:Int) (w:World) (hr:Rd w b a c xs p) (hp:p≤700000000) :
 Calls Tryz.prog 118 #[.pointer (some ⟨b,0,none⟩)] w (RetRd w b a c xs p 70 (QP w.heap.size)):=by
 have HP:=hide (fun (p:Int) n w' h hp (hn:n≤100) (hn0:0≤n)=>pick_any b a c xs p n w' h hp (by omega) (by omega))
 have HD:=hide (fun (p:Int) w' h hp=>l9Draw_any b a c xs p w' h hp)
 have hlt:=hr.lt
 have L0:=hide (Own.lit (E:=StrE) (T:=9) (w:=w) (Nat.le_refl _) texts10 #[.string ⟨#[97,61,120,58,49,59,121,61,49,124,98,61,120,58,50]⟩, .string ⟨#[120,61,49,59,120,61,50,124,121,61,49,59,97,61,121]⟩, .string ⟨#[97,61,122,58,49,124,98,61,122,58,50,124,99,61,122,58,51]⟩, .string ⟨#[97,61,120,124,98,61,120]⟩, .string ⟨#[120,61,49,59,97,61,120,58,50,124,98,61,121,59,121,61,51]⟩, .string ⟨#[97,61,120,58,49,59,98,61,121,58,49,124,97,61,121,58,50,59,98,61,120,58,50]⟩] 6 rfl rfl (by omega))
 have R0:=hide (hr.allocNew (.cells #[.string ⟨#[97,61,120,58,49,59,121,61,49,124,98,61,120,58,50]⟩, .string ⟨#[120,61,49,59,120,61,50,124,121,61,49,59,97,61,121]⟩, .string ⟨#[97,61,122,58,49,124,98,61,122,58,50,124,99,61,122,58,51]⟩, .string ⟨#[97,61,120,124,98,61,120]⟩, .string ⟨#[120,61,49,59,97,61,120,58,50,124,98,61,121,59,121,61,51]⟩, .string ⟨#[97,61,120,58,49,59,98,61,121,58,49,124,97,61,121,58,50,59,98,61,120,58,50]⟩] 9))
 have O0:=hide (Outside.of_below (lo:=b) (hi:=b+1) (belowAlloc w (.cells #[.string ⟨#[97,61,120,58,49,59,121,61,49,124,98,61,120,58,50]⟩, .string ⟨#[120,61,49,59,120,61,50,124,121,61,49,59,97,61,121]⟩, .string ⟨#[97,61,122,58,49,124,98,61,122,58,50,124,99,61,122,58,51]⟩, .string ⟨#[97,61,120,124,98,61,120]⟩, .string ⟨#[120,61,49,59,97,61,120,58,50,124,98,61,121,59,121,61,51]⟩, .string ⟨#[97,61,120,58,49,59,98,61,121,58,49,124,97,61,121,58,50,59,98,61,120,58,50]⟩] 9)))
 clear hr
 go_enter Tryz.func118,Tryz.ntmps118
 go_wp2_with fail
 (with_reducible refine (HP.out p _ _ R0.out (by omega) (by omega) (by omega)).mono ?_);rintro e w2 ⟨v2,p2,rfl,⟨q2,rfl,hq2, -⟩,hp2,hr2,ho2⟩
 have R2:=hide hr2;have O2:=hide (O0.out.trans ho2);have L2:=hide (ho2.ownHi L0.out hlt)
 clear hr2 ho2 R0 O0 L0
 by_cases hq:q2=0
 ·subst hq
  go_wp2_with fail
  (with_reducible refine (HP.out p2 _ _ R2.out (by omega) (by omega) (by omega)).mono ?_);rintro e w3 ⟨v3,p3,rfl,⟨q3,rfl,hq3,hq3'⟩,hp3,hr3,ho3⟩
  obtain ⟨Q,rfl⟩:=Int.eq_ofNat_of_zero_le hq3
  have hQ:Q < 6:=by have:=hq3' (by omega);omega
  have R3:=hide hr3;have O3:=hide (O2.out.trans ho3)
  have hl3:=ho3.ownHi L2.out hlt
  obtain ⟨x,hx⟩:=get_of_lt (xs:=texts10) (k:=Q) (by have:texts10.length=6:=rfl;omega)
  have hxs:=texts10_le x (List.mem_of_getElem? hx)
  obtain ⟨g,o,he,hgl,i0⟩:=hl3.rep.str hx
  simp only [Option.some.injEq,Addr.mk.injEq,and_true] at he
  obtain ⟨he1,he2⟩:=he
  rw [← he1,← he2,Nat.zero_add] at i0
  rw [← he1] at hgl
  have HS:=hide (fun w'=>sParseProgram_any x w' hxs)
  clear hr3 ho3 R2 O2 L2 hl3 hx hxs he1 he2
  go_wp2_with fail
  (with_reducible refine (HS.out _).mono ?_);rintro e w4 ⟨v4,ok,rfl,hQP,hb4⟩
  have hsz:=O3.out.size
  go_wp2_with fail
  go_ret
  exact ⟨_,p3,rfl,hQP.mono hsz,by omega,R3.out.keep hb4 R3.out.lt,O3.out.trans (Outside.of_below hb4)⟩
 ·have hq':(q2==0)=false:=by simp [hq]
  clear hq L2
  have hsz:=O2.out.size
  go_wp2_with fail
  (with_reducible refine (HD.out p2 _ R2.out (by omega)).mono ?_);rintro e w3 ⟨v3,p3,rfl,hQP,hp3,hr3,ho3⟩
  go_wp2_with fail
  go_ret
  exact ⟨_,p3,rfl,hQP.mono hsz,by omega,hr3,O2.out.trans ho3⟩
end Go.Proofs.YtlddmagfbcomgaaGreat
namespace Go.Proofs.YtlddmagfbcomgaaGreat
open Go.RowKit
theorem Own2U.rowput2 {α:Type} {E:El α} {T1 T2:TypeId} {us:List Slc} {w w':World} {base g n cap:Nat} {p:List (List α)} (h:Own2U E T1 T2 us w base (.slice (some ⟨g,0,none⟩) n cap) p) {k:Nat} {s s':Slc} (hs:us[k]? = some s) {r':List α}
 (ho:Own E T2 w' base s'.v r') (hg:w.grownBy w' s.v.ownBlock) (hb:s'.v.ownBlock=s.v.ownBlock∨∃ q,s'.v.ownBlock=some q∧w.heap.size≤q):Own2U E T1 T2 (us.set k s') (w'.setCell ⟨g,k,none⟩ s'.v) base (.slice (some ⟨g,0,none⟩) n cap) (p.set k r'):=by
 obtain ⟨h1,h2,h3,h4,h5⟩:=h
 have hk:=(List.getElem?_eq_some_iff.1 hs).1
 have hglt:=(World.ownsRow.lt h2 g rfl).2
 have h2':=h2.grown hg (.inr (fun e=>h5 k s hs g (by rw [← e];rfl) rfl))
 have h2s:=h2'.set (i:=k) (j:=0) s' (u:=s'.v) (by decide) hs rfl
 simp only [SlcE,Nat.mul_one,Nat.add_zero] at h2s
 have hgs:w'.grownBy (w'.setCell ⟨g,k,none⟩ s'.v) (some g):=grown_set (World.grownBy.refl _ _) _ _
 have hlt:∀ (i:Nat) (u:Slc),us[i]? = some u→∀ q,u.v.ownBlock=some q→q < w.heap.size:=fun i u hi q hq=>by
  obtain ⟨r,hr⟩:=get_of_lt (xs:=p) (k:=i) (by have:=(List.getElem?_eq_some_iff.1 hi).1;omega)
  exact (World.ownsRow.lt (h3 i u r hi hr) q hq).2
 have hs5:∀ q,s'.v.ownBlock=some q→q≠g:=fun q hq e=>by
  subst e
  rcases hb with hb | ⟨q',h6,h7⟩
  ·exact h5 k s hs q (by rw [← hb];exact hq) rfl
  ·rw [h6] at hq;simp at hq;omega
 have hs4:∀ (i:Nat) (u:Slc),us[i]? = some u→i≠k→∀ q,u.v.ownBlock=some q→s'.v.ownBlock≠some q:=fun i u hi hne q hq hq'=>by
  rcases hb with hb | ⟨q',h6,h7⟩
  ·exact h4 i k u s hi hs hne q hq (by rw [← hb];exact hq')
  ·rw [h6] at hq';simp at hq';have:=hlt i u hi q hq;omega
 have split:∀ (i:Nat) (u:Slc),(us.set k s')[i]? = some u→(i=k∧u=s')∨(i≠k∧us[i]? = some u):=fun i u hi=>by
  rw [List.getElem?_set] at hi
  by_cases e:k=i
  ·subst e;rw [if_pos rfl,if_pos hk] at hi;simp at hi;exact .inl ⟨rfl,hi.symm⟩
  ·rw [if_neg e] at hi;exact .inr ⟨fun h=>e h.symm,hi⟩
 refine ⟨by simp [h1],h2s, ?_, ?_, ?_⟩
 ·intro i u r hi hr
  rcases split i u hi with ⟨e1,e2⟩ | ⟨hne,hi'⟩
  ·rw [e1,List.getElem?_set,if_pos rfl,if_pos (by omega)] at hr
   simp at hr;subst hr
   rw [e2]
   refine ho.grown hgs ?_
   rcases hq:s'.v.ownBlock with _ | q
   ·exact .inl rfl
   ·exact .inr (fun e=>hs5 q hq (by simpa using e))
  ·rw [List.getElem?_set,if_neg (fun e=>hne e.symm)] at hr
   refine ((h3 i u r hi' hr).grown hg ?_).grown hgs ?_
   ·rcases hq:u.v.ownBlock with _ | q
    ·exact .inl rfl
    ·exact .inr (fun e=>h4 i k u s hi' hs hne q hq e.symm)
   ·rcases hq:u.v.ownBlock with _ | q
    ·exact .inl rfl
    ·exact .inr (fun e=>h5 i u hi' q hq (by rw [e];rfl))
 ·intro i j u u' hi hj hij q hq hq'
  rcases split i u hi with ⟨e1,e2⟩ | ⟨hne,hi'⟩
  ·rcases split j u' hj with ⟨e3,e4⟩ | ⟨hne',hj'⟩
   ·omega
   ·rw [e2] at hq;exact hs4 j u' hj' hne' q hq' hq
  ·rcases split j u' hj with ⟨e3,e4⟩ | ⟨hne',hj'⟩
   ·rw [e4] at hq';exact hs4 i u hi' hne q hq hq'
   ·exact h4 i j u u' hi' hj' hij q hq hq'
 ·intro i u hi q hq hq'
  rcases split i u hi with ⟨e1,e2⟩ | ⟨hne,hi'⟩
  ·rw [e2] at hq;exact hs5 q hq (by simp [Value.ownBlock] at hq';exact hq'.symm)
  ·exact h5 i u hi' q hq hq'
theorem step_appAt {α:Type} (E:El α) {P:Program} {w:World} {ops:Array Oper} {o:Oper} {a:Act} {K:Act→World→Prop} {Q:Exit→Act→World→Prop} {F:Prop}
 (T:TypeId) {zv:Value} {bytes:Nat} (hinfo:(P.info? T).map (fun i=>(i.zero,i.size,i.bytes))=some (some zv,E.sz,bytes)) (hz:zv.cells.size=E.sz) {t:TypeId} (h1:P.underlying t=some (.slice T))
 (base:Nat) (v:Value) (xs:List α) (x:α) (hown:Own E T w base v xs) (hby:bytes≤256) (hn:xs.length≤68719476736) (hbase:base≤w.heap.size)
 (hg:o.guard=none) (s y:Operand) (hop:o.op = .call { callee:=.builtin .append,args:=#[s,y],argTypes:=#[t,t] })
 (hs:a.eval s=v) (b off c:Nat) (hy:a.eval y = .slice (some ⟨b,off,none⟩) 1 c) (hnews:∀ j u,(E.c x)[j]? = some u→w.cell? ⟨b,off+j,none⟩=some u)
 (hK:∀ (s':Slc) w',Own E T w' base s'.v (xs++[x])→w.grownBy w' v.ownBlock→(s'.v.ownBlock=v.ownBlock∨∃ q,s'.v.ownBlock=some q∧w.heap.size≤q)→K (a.put o.dst (.slice s'.a s'.n s'.cap)) w') :
 if Region.wanted o (yielded ops a.tmps)=true then Oper.wp P o a w K Q else F:=by
 obtain ⟨it,hi,hz0,hz1,hz2⟩:=info_parts hinfo
 refine step_append_lies w hg s y t hop base T it zv E.sz bytes h1 hi hz0 hz1 hz2 hz E.pos v xs.length _ hs hown ⟨b,off,none⟩ 1 c (E.c x) hy (by rw [E.len,Nat.one_mul]) ?_ (E.one x) (by omega) (by unfold maxLen;omega) ?_ hbase _ rfl ?_
 ·intro j u hu
  have hadd:(⟨b,off,none⟩:Addr).add j=⟨b,off+j,none⟩:=by unfold Addr.add;split <;> simp_all
  rw [hadd]
  exact hnews j u hu
 ·have:=Nat.mul_le_mul (show xs.length+1≤68719476737 by omega) hby
  omega
 ·intro g cap w' h2 h3 h4 _
  refine hK ⟨some ⟨g,0,none⟩,xs.length+1,cap⟩ w' ?_ h3 ?_
  ·unfold Own
   simpa [List.flatMap_append] using h2
  ·rcases h4 with h4 | h4
   ·exact .inl h4.symm
   ·exact .inr ⟨g,rfl,by omega⟩
theorem Rep.tail {α:Type} {E:El α} {w:World} {g o n c:Nat} {xs:List α} (h:Rep E w (.slice (some ⟨g,o,none⟩) n c) xs) (hn:1≤n):Rep E w (.slice (some ⟨g,o+E.sz,none⟩) (n - 1) (c - 1)) xs.tail:=by
 obtain ⟨a',c',hv,h1,h2,h3⟩:=h
 simp only [Value.slice.injEq] at hv
 obtain ⟨rfl,rfl,rfl⟩:=hv
 refine ⟨_,c - 1,by rw [List.length_tail],by rw [List.length_tail];omega,by omega,fun i x hx => ?_⟩
 rw [List.getElem?_tail] at hx
 obtain ⟨b,o',hb,hi⟩:=h3 (i+1) x hx
 simp only [Option.some.injEq,Addr.mk.injEq,and_true] at hb
 obtain ⟨rfl,rfl⟩:=hb
 refine ⟨g,o+E.sz,rfl,fun j u hu => ?_⟩
 have:=hi j u hu
 rw [Nat.add_mul,Nat.one_mul] at this
 rw [← this]
 congr 2
 omega
end Go.Proofs.YtlddmagfbcomgaaGreat
/-
  Whether a move with buffers is possible, by the reference. Condition: a state as it can be.
-/
import Derived.Test.YtngekjpklkjnbaaGreatZu24
set_option maxHeartbeats 6400000
set_option maxRecDepth 100000
namespace Go.Proofs.YtngekjpklkjnbaaGreat
open Go.RowKit
theorem KN {x:Ins}(h:Zg x=true):(0≤x.loc∧x.loc≤2)∧(0≤x.ZQ∧x.ZQ≤2)∧0≤x.val∧x.val≤3:=by
 unfold Zg Kj at h
 repeat' split at h
 all_goals (simp at h;try omega)
theorem BS (p:List (List Ins)) (split:Bool) (s:Bf) {m:Nat}(h:p.length≤m):(Zu p split s m).isSome=decide (0 < (s.bf.getD (m - p.length) []).length):=by
 obtain⟨k,rfl⟩:∃ k,m=p.length+k:=⟨m - p.length,Om⟩
 rw[JB,Nat.add_sub_cancel_left];rfl
theorem Ga (vp:Value) (p:List (List Ins)) (x:SV) (s:Bf) (split:Bool) (t:Nat) (w:World) (hp:Z5 w vp p) (hx:ZB w x (Xk s)) (hok:ZE p split s) (hpl:p.length≤3) (hiv:∀ r∈p,∀ i∈r,Zg i=true) (hm:t < p.length+s.bf.length) :
 Calls Tryz.prog 119 #[vp,.agg #[.slice x.p.a x.p.n x.p.cap,.slice x.r.a x.r.n x.r.cap,.slice x.m.a x.m.n x.m.cap,.slice x.b.a x.b.n x.b.cap],.bool split,.int .i64 (t:Int)] w
  fun e w'=>e = .returned (.bool (Zu p split s t).isSome)∧Below w.heap.size w w':=by
 have HX:=Za hx;have hlb9:s.bf.length≤9:=by
  rw[hok.lb];have:Yj split≤3:=by cases split <;> simp[Yj]
  have:=Nat.mul_le_mul hpl this;omega
 have HEM0:=fun (h:t < p.length)=>Za (fun W h2=>AA x p split s t W h2 hok h hpl);obtain⟨⟨pa,pn,pk⟩,⟨ra,rn,rk⟩,⟨ma,mn,mk⟩,⟨ba,bn,bk⟩⟩:=x;obtain⟨va,vc,rfl,hc1,hc2,hc3,hp⟩:=hp.open;obtain⟨_,_,hv1,-,-,-,-⟩:=hx.pc.open;obtain⟨_,_,hv2,-,-,-,-⟩:=hx.bf.open;simp only[Zt.v,Value.slice.injEq]at hv1 hv2;obtain⟨rfl,hn1,rfl⟩:=hv1;obtain⟨rfl,hn2,rfl⟩:=hv2;rw[List.length_map]at hn2;have hn1':pn=p.length:=by have:=hok.q.lp;have:pn=s.q.pc.length:=hn1;omega
 obtain⟨A0,hA0⟩:∃ A0,A0=w.alloc (.cells #[.slice pa pn pk,.slice ra rn rk,.slice ma mn mk,.slice ba bn bk] 141):=⟨_,rfl⟩
 have HB:Hid (Below w.heap.size w A0):=Za (by rw[hA0];exact Ze _ _);have wl0:w.heap.size < A0.heap.size:=by rw[hA0];simp
 have HXW0:Hid (A0.heap[w.heap.size]? = some (.cells #[.slice pa pn pk,.slice ra rn rk,.slice ma mn mk,.slice ba bn bk] 141 (0,0))):=Za (by rw[hA0];exact heap_alloc_new w _);have a3:A0.cell? ⟨w.heap.size,3,none⟩=some (.slice ba bn bk):=Zc HXW0.out (k:=3) rfl;have hlo:¬ ((t:Int) < 0):=Om;have hsum:¬ ((p.length:Int)+(bn:Int)≤(t:Int)):=Om;have hwr:IntKind.i64.wrap ((p.length:Int)+(bn:Int))=(p.length:Int)+(bn:Int):=by rw[IntKind.wrap_i64];omega
 have HA0:=Za hA0;by_cases hml:p.length≤t
 ·have hge:(p.length:Int)≤(t:Int):=Om
  obtain⟨k,hk⟩:∃ k,k=t - p.length:=⟨_,rfl⟩
  have hsub:IntKind.i64.wrap ((t:Int) - (p.length:Int))=(k:Int):=by rw[IntKind.wrap_i64];omega
  obtain⟨row,hrow⟩:=Zd (xs:=s.bf) (k:=k) Om;have HR:Hid ((Zu p split s t).isSome=decide (0 < row.length)):=Za (by rw[BS p split s hml,← hk,List.getD_eq_getElem?_getD,hrow];rfl);obtain⟨b2,o2,qa,qc,hbe,hbl2,q0,-⟩:=(show Yv Zo w (.slice ba bn bk) (s.bf.map ZI) from hx.bf).row (Qv hrow);subst hbe;rw[Xn]at q0;have q1:=(HB.out.cell (p:=⟨b2,o2+k,none⟩) hbl2).trans q0;have q1l:=Zb q1;have hkn:(k:Int) < (bn:Int):=Om;generalize (Zu p split s t).isSome=R at *;obtain⟨n2,hn2e⟩:∃ n2,n2=2 * row.length:=⟨_,rfl⟩
  rw[← hn2e]at q0 q1;have hdec:R=decide (0 < n2):=by rw[HR.out,hn2e];by_cases h:0 < row.length <;> simp[h]
  clear hA0 hx hp hok hn1 hn2 hn1' hrow hk hn2e HXW0 hiv HEM0 hm;generalize p.length=n at *;go_enter Tryz.func119,Tryz.ntmps119;go_wp2_with fail;go_ret;rw[← HA0.out];exact⟨rfl,HB.out⟩
 ·have htp:t < p.length:=Om
  have hge:¬ ((p.length:Int)≤(t:Int)):=Om;have HEM:=HEM0 htp;obtain⟨r,hr⟩:=Zd (xs:=p) (k:=t) htp;obtain⟨kz,hkz⟩:=Zd (xs:=s.q.pc) (k:=t) (by rw[hok.q.lp];exact htp);obtain⟨hk0,hkr⟩:=hok.q.pc t kz r hkz hr;obtain⟨kn,rfl⟩:∃ kn:Nat,kz=kn:=⟨kz.toNat,Om⟩
  obtain⟨b,o,rfl,hbl,i0⟩:=(show Z7 Zo w (.slice pa pn pk) s.q.pc from hx.pc).int hkz;obtain⟨b2,o2,qa,qc,rfl,hbl2,q0,q1⟩:=hp.row hr;have i0':=(HB.out.cell (p:=⟨b,o+t,none⟩) hbl).trans i0;have il:=Zb i0';have q0':=(HB.out.cell (p:=⟨b2,o2+t,none⟩) hbl2).trans q0;have ql:=Zb q0';have a0:A0.cell? ⟨w.heap.size,0,none⟩=some (.slice (some ⟨b,o,none⟩) pn pk):=Zc HXW0.out (k:=0) rfl;have al:=Zb a0;have htn:(t:Int) < (p.length:Int):=Om;have htn2:(t:Int) < (pn:Int):=Om;by_cases heq:kn=r.length
  ·have heq':((kn:Int)==(r.length:Int))=true:=by simp[heq]
   have HR:Hid ((Zu p split s t).isSome=false):=Za (by
    rw[Q7 htp];unfold Y7 YV;rw[hr,hkz];simp[heq])
   generalize (Zu p split s t).isSome=R at *;generalize r.length=rl at *;clear hA0 hx hp hok hn1 hn2 hn1' hr hkz q0 q1 i0 HXW0 hiv HEM0 hm hk0 hkr heq wl0;generalize p.length=n at *;go_enter Tryz.func119,Tryz.ntmps119;go_wp2_with fail;rw[← HA0.out];go_wp2_with fail;refine Zs Kr Kr ?_
   repeat (go_big_quiet_step (fail))
   refine wpQuiet_nil ?_;intro w5 hw5;go_wp2_with fail;go_ret;rw[HR.out];exact⟨rfl,HB.out.trans (hw5.mono HB.out.size)⟩
  ·have heq':((kn:Int)==(r.length:Int))=false:=So
   obtain⟨i,hi⟩:=Zd (xs:=r) (k:=kn) Om;obtain⟨⟨l0,l2⟩,⟨g0,g2⟩,-,-⟩:=KN (hiv r (List.mem_of_getElem? hr) i (List.mem_of_getElem? hi));obtain⟨op,lz,rz,val⟩:=i;simp only at l0 l2 g0 g2;obtain⟨lc,rfl⟩:∃ lc:Nat,lz=lc:=⟨lz.toNat,Om⟩
   obtain⟨rc,rfl⟩:∃ rc:Nat,rz=rc:=⟨rz.toNat,Om⟩
   obtain⟨b3,o3,rfl,hbl3,r0,r1,r2,r3⟩:=q1.ins hi;have hkn2:(kn:Int) < (r.length:Int):=Om;have EOP:Hid (((op != 4)=true∧(op != 5)=true∧(Zu p split s t).isSome=true)∨((op != 4)=false∧(Zu p split s t).isSome=ZZ s t split)∨((op != 4)=true∧(op != 5)=false∧(Zu p split s t).isSome=ZZ s t split)):=Za (by
    have hN:(Zu p split s t).isSome=if op=4∨op=5 then ZZ s t split else true:=by
     rw[Q7 htp];unfold Y7 YV;rw[hr,hkz];simp[hi]
    rw[hN];by_cases e4:op=4
    ·exact .inr (.inl ⟨by simp[e4],by simp[e4]⟩)
    ·by_cases e5:op=5
     ·exact .inr (.inr ⟨by simp[e5],by simp[e5],by simp[e5]⟩)
     ·exact .inl ⟨by simp[e4],by simp[e5],by simp[e4,e5]⟩)
   generalize (Zu p split s t).isSome=R at *;generalize ZZ s t split=EM at *;have Q0:=Za q0;have R0:=Za r0;have R1:=Za r1;have R2:=Za r2;have R3:=Za r3;have I0:=Za i0
   generalize hrl:r.length=rl at *;clear hA0 hx hp hok hn1 hn2 hn1' hr hkz q0 q1 i0 hiv HEM0 hm hk0 hkr heq r0 r1 r2 r3 hi hrl wl0;generalize p.length=n at *;go_enter Tryz.func119,Tryz.ntmps119;go_wp2_with fail;rw[← HA0.out];go_wp2_with fail;refine Zs Kr Kr ?_
   repeat (go_big_quiet_step (fail))
   refine wpQuiet_nil ?_;intro V0 hw5;have HXW:Hid (V0.heap[w.heap.size]? = some (.cells #[.slice (some ⟨b,o,none⟩) pn pk,.slice ra rn rk,.slice ma mn mk,.slice ba bn bk] 141 (0,0))):=Za ((hw5.block w.heap.size al).trans HXW0.out);have wl:=(Array.getElem?_eq_some_iff.1 HXW.out).1;have HB':=Za (HB.out.trans (hw5.mono HB.out.size));clear hw5 i0' il q0' ql a0 al a3 HB HXW0 HA0;have HB:=HB';clear HB';go_wp2_with fail;have hd1:decide (n≤t)=false:=decide_eq_false Om;have hd2:decide (n+bn≤t)=false:=decide_eq_false Om
   try simp only[hd1,hd2]
   clear hd1 hd2
   -- ZQ can7
   refine Zl (n:=12) Kr rfl Kr Kr (fun A ls a' W => ∃ (I:Nat) (x47 x48 x49 x50 x51 x52 x53 x54 x55 x56 x57 x9:Value),a'=Zk A [(47,x47),(48,x48),(49,x49),(50,x50),(51,x51),(52,x52),(53,x53),(54,x54),(55,x55),(56,x56),(57,x57),(9,x9)]∧Vd ls 0 [] x47 (.slice (some ⟨b2,o2,none⟩) n vc)∧Vd ls 1 [] x48 (.int .i64 (t:Int))∧Vd ls 2 [] x49 (.pointer (some ⟨b2,o2+t,none⟩))∧Vd ls 3 [] x50 (.slice (some ⟨b3,o3,none⟩) rl qc)∧Vd ls 4 [] x51 (.pointer (some ⟨w.heap.size,0,none⟩))∧Vd ls 5 [] x52 (.slice (some ⟨b,o,none⟩) pn pk)∧Vd ls 6 [] x53 (.int .i64 (t:Int))∧Vd ls 7 [] x54 (.pointer (some ⟨b,o+t,none⟩))∧Vd ls 8 [] x55 (.int .i64 (kn:Int))∧Vd ls 9 [] x56 (.pointer (some ⟨b3,o3+kn * 4,none⟩))∧Vd ls 10 [] x57 (.agg #[.int .i64 op,.int .i64 (lc:Int),.int .i64 (rc:Int),.int .i64 val])∧Vd ls 11 [] x9 (.pointer (some ⟨I,0,none⟩))∧Hj V0 (fl ls 11) I W) ?r0 ?rs ?re
   case r0 =>
    exact⟨0,undef,undef,undef,undef,undef,undef,undef,undef,undef,undef,undef,undef,pA,Vs,Vs,Vs,Vs,Vs,Vs,Vs,Vs,Vs,Vs,Vs,Vs,by simp only[Ye];exact⟨(Below.refl _ _).drew,fun h=>(nomatch h)⟩⟩
   case rs =>
    rintro ls a' W hs hnl ⟨I,x47,x48,x49,x50,x51,x52,x53,x54,x55,x56,x57,x9,ha,cv0,cv1,cv2,cv3,cv4,cv5,cv6,cv7,cv8,cv9,cv10,cv11,hJ⟩ k o hkn mc K hK;simp only[Zk,Act.put,List.setIfInBounds_toArray,List.set_cons_succ,List.set_cons_zero]at ha;subst ha;have hkc:k=0∨k=1∨k=2∨k=3∨k=4∨k=5∨k=6∨k=7∨k=8∨k=9∨k=10∨k=11:=Om;have hop:=mc.op;have haf:=mc.after;rcases hkc with rfl | rfl | rfl | rfl | rfl | rfl | rfl | rfl | rfl | rfl | rfl | rfl
    ·simp at hop;subst hop;simp[Region.binds]at haf
     go_simp;exact hK _ _ ⟨I,_,_,_,_,_,_,_,_,_,_,_,_,pA,Ve,cv1.s,cv2.s,cv3.s,cv4.s,cv5.s,cv6.s,cv7.s,cv8.s,cv9.s,cv10.s,cv11.s,by rw[fs 0 11];exact hJ⟩
    ·simp at hop;subst hop;simp[Region.binds]at haf
     go_simp;exact hK _ _ ⟨I,_,_,_,_,_,_,_,_,_,_,_,_,pA,cv0.s,Ve,cv2.s,cv3.s,cv4.s,cv5.s,cv6.s,cv7.s,cv8.s,cv9.s,cv10.s,cv11.s,by rw[fs 1 11];exact hJ⟩
    ·simp at hop;subst hop;simp[Region.binds]at haf
     obtain rfl:=(cv0.get (by simp[haf])).symm;obtain rfl:=(cv1.get (by simp[haf])).symm;go_simp;exact hK _ _ ⟨I,_,_,_,_,_,_,_,_,_,_,_,_,pA,cv0.s,cv1.s,Ve,cv3.s,cv4.s,cv5.s,cv6.s,cv7.s,cv8.s,cv9.s,cv10.s,cv11.s,by rw[fs 2 11];exact hJ⟩
    ·simp at hop;subst hop;simp[Region.binds]at haf
     obtain rfl:=(cv2.get (by simp[haf])).symm;have hbw:=HB.out.trans (hJ.out.mono HB.out.size);have q2:=(hbw.cell (p:=⟨b2,o2+t,none⟩) hbl2).trans Q0.out;have ql:=Zb q2;go_simp;exact hK _ _ ⟨I,_,_,_,_,_,_,_,_,_,_,_,_,pA,cv0.s,cv1.s,cv2.s,Ve,cv4.s,cv5.s,cv6.s,cv7.s,cv8.s,cv9.s,cv10.s,cv11.s,by rw[fs 3 11];exact hJ⟩
    ·simp at hop;subst hop;simp[Region.binds]at haf
     go_simp;exact hK _ _ ⟨I,_,_,_,_,_,_,_,_,_,_,_,_,pA,cv0.s,cv1.s,cv2.s,cv3.s,Ve,cv5.s,cv6.s,cv7.s,cv8.s,cv9.s,cv10.s,cv11.s,by rw[fs 4 11];exact hJ⟩
    ·simp at hop;subst hop;simp[Region.binds]at haf
     obtain rfl:=(cv4.get (by simp[haf])).symm;have d0:W.cell? ⟨w.heap.size,0,none⟩=some (.slice (some ⟨b,o,none⟩) pn pk):=Zc ((hJ.out.block w.heap.size wl).trans HXW.out) (k:=0) rfl;have dl:=Zb d0;go_simp;exact hK _ _ ⟨I,_,_,_,_,_,_,_,_,_,_,_,_,pA,cv0.s,cv1.s,cv2.s,cv3.s,cv4.s,Ve,cv6.s,cv7.s,cv8.s,cv9.s,cv10.s,cv11.s,by rw[fs 5 11];exact hJ⟩
    ·simp at hop;subst hop;simp[Region.binds]at haf
     go_simp;exact hK _ _ ⟨I,_,_,_,_,_,_,_,_,_,_,_,_,pA,cv0.s,cv1.s,cv2.s,cv3.s,cv4.s,cv5.s,Ve,cv7.s,cv8.s,cv9.s,cv10.s,cv11.s,by rw[fs 6 11];exact hJ⟩
    ·simp at hop;subst hop;simp[Region.binds]at haf
     obtain rfl:=(cv5.get (by simp[haf])).symm;obtain rfl:=(cv6.get (by simp[haf])).symm;go_simp;exact hK _ _ ⟨I,_,_,_,_,_,_,_,_,_,_,_,_,pA,cv0.s,cv1.s,cv2.s,cv3.s,cv4.s,cv5.s,cv6.s,Ve,cv8.s,cv9.s,cv10.s,cv11.s,by rw[fs 7 11];exact hJ⟩
    ·simp at hop;subst hop;simp[Region.binds]at haf
     obtain rfl:=(cv7.get (by simp[haf])).symm;have hbw:=HB.out.trans (hJ.out.mono HB.out.size);have q2:=(hbw.cell (p:=⟨b,o+t,none⟩) hbl).trans I0.out;have ql:=Zb q2;go_simp;exact hK _ _ ⟨I,_,_,_,_,_,_,_,_,_,_,_,_,pA,cv0.s,cv1.s,cv2.s,cv3.s,cv4.s,cv5.s,cv6.s,cv7.s,Ve,cv9.s,cv10.s,cv11.s,by rw[fs 8 11];exact hJ⟩
    ·simp at hop;subst hop;simp[Region.binds]at haf
     obtain rfl:=(cv3.get (by simp[haf])).symm;obtain rfl:=(cv8.get (by simp[haf])).symm;go_simp;exact hK _ _ ⟨I,_,_,_,_,_,_,_,_,_,_,_,_,pA,cv0.s,cv1.s,cv2.s,cv3.s,cv4.s,cv5.s,cv6.s,cv7.s,cv8.s,Ve,cv10.s,cv11.s,by rw[fs 9 11];exact hJ⟩
    ·simp at hop;subst hop;simp[Region.binds]at haf
     obtain rfl:=(cv9.get (by simp[haf])).symm;have hbw:=HB.out.trans (hJ.out.mono HB.out.size);have e0:=(hbw.cell (p:=⟨b3,o3+kn * 4,none⟩) hbl3).trans R0.out;have e1:=(hbw.cell (p:=⟨b3,o3+kn * 4+1,none⟩) hbl3).trans R1.out;have e2:=(hbw.cell (p:=⟨b3,o3+kn * 4+2,none⟩) hbl3).trans R2.out;have e3:=(hbw.cell (p:=⟨b3,o3+kn * 4+3,none⟩) hbl3).trans R3.out;have ql:=Zb e0;go_simp;exact hK _ _ ⟨I,_,_,_,_,_,_,_,_,_,_,_,_,pA,cv0.s,cv1.s,cv2.s,cv3.s,cv4.s,cv5.s,cv6.s,cv7.s,cv8.s,cv9.s,Ve,cv11.s,by rw[fs 10 11];exact hJ⟩
    ·simp at hop;subst hop;simp[Region.binds]at haf
     have f11:=ZV mc.new;rw[f11]at hJ;go_simp;exact hK _ _ ⟨W.heap.size,_,_,_,_,_,_,_,_,_,_,_,_,pA,cv0.s,cv1.s,cv2.s,cv3.s,cv4.s,cv5.s,cv6.s,cv7.s,cv8.s,cv9.s,cv10.s,Ve,by rw[ZD hs Dc];exact⟨hJ.out.alloc hJ.out.size _,fun _=>⟨heap_alloc_new W _,hJ.out.size⟩⟩⟩
   case re =>
    rintro ls a' W hall ⟨I,x47,x48,x49,x50,x51,x52,x53,x54,x55,x56,x57,x9,ha,cv0,cv1,cv2,cv3,cv4,cv5,cv6,cv7,cv8,cv9,cv10,cv11,hJ⟩ o hop;simp only[Zk,Act.put,List.setIfInBounds_toArray,List.set_cons_succ,List.set_cons_zero]at ha;subst ha;simp at hop;subst hop;obtain rfl:=cv0.ga hall;obtain rfl:=cv1.ga hall;obtain rfl:=cv2.ga hall;obtain rfl:=cv3.ga hall;obtain rfl:=cv4.ga hall;obtain rfl:=cv5.ga hall;obtain rfl:=cv6.ga hall;obtain rfl:=cv7.ga hall;obtain rfl:=cv8.ga hall;obtain rfl:=cv9.ga hall;obtain rfl:=cv10.ga hall;obtain rfl:=cv11.ga hall;rw[Zz (hall 11 Dc)]at hJ;obtain⟨hbi,hIV⟩:=hJ.ob rfl;have c0:W.cell? ⟨I,0,none⟩=some (.int .i64 0):=Zc hbi (k:=0) rfl;have c1:W.cell? ⟨I,1,none⟩=some (.int .i64 0):=Zc hbi (k:=1) rfl;have c2:W.cell? ⟨I,2,none⟩=some (.int .i64 0):=Zc hbi (k:=2) rfl;have c3:W.cell? ⟨I,3,none⟩=some (.int .i64 0):=Zc hbi (k:=3) rfl;have cfz:=Z6 hbi;have cl:=Zb c0;go_simp;have hb0:=heap_setCell_same W I 0 _ _ (.int .i64 op) hbi
    have hb1:=heap_setCell_same (W.setCell ⟨I,0,none⟩ (.int .i64 op)) I 1 _ _ (.int .i64 (lc:Int)) hb0;have hb2:=heap_setCell_same ((W.setCell ⟨I,0,none⟩ (.int .i64 op)).setCell ⟨I,1,none⟩ (.int .i64 (lc:Int))) I 2 _ _ (.int .i64 (rc:Int)) hb1;have hb3:=heap_setCell_same (((W.setCell ⟨I,0,none⟩ (.int .i64 op)).setCell ⟨I,1,none⟩ (.int .i64 (lc:Int))).setCell ⟨I,2,none⟩ (.int .i64 (rc:Int))) I 3 _ _ (.int .i64 val) hb2;have hO:=(((hJ.out.setCell (p:=⟨I,0,none⟩) hIV (.int .i64 op)).setCell (p:=⟨I,1,none⟩) hIV (.int .i64 (lc:Int))).setCell (p:=⟨I,2,none⟩) hIV (.int .i64 (rc:Int))).setCell (p:=⟨I,3,none⟩) hIV (.int .i64 val);obtain⟨V1,hV1⟩:∃ V1,V1=(((W.setCell ⟨I,0,none⟩ (.int .i64 op)).setCell ⟨I,1,none⟩ (.int .i64 (lc:Int))).setCell ⟨I,2,none⟩ (.int .i64 (rc:Int))).setCell ⟨I,3,none⟩ (.int .i64 val):=⟨_,rfl⟩
    rw[← hV1]at hO hb3;simp only[← hV1];have HO:=Za hO;have x0:V1.cell? ⟨w.heap.size,0,none⟩=some (.slice (some ⟨b,o,none⟩) pn pk):=Zc ((hO.block w.heap.size wl).trans HXW.out) (k:=0) rfl;have x1:V1.cell? ⟨w.heap.size,1,none⟩=some (.slice ra rn rk):=Zc ((hO.block w.heap.size wl).trans HXW.out) (k:=1) rfl;have x2:V1.cell? ⟨w.heap.size,2,none⟩=some (.slice ma mn mk):=Zc ((hO.block w.heap.size wl).trans HXW.out) (k:=2) rfl;have x3:V1.cell? ⟨w.heap.size,3,none⟩=some (.slice ba bn bk):=Zc ((hO.block w.heap.size wl).trans HXW.out) (k:=3) rfl;have xl:=Zb x0;have j0:V1.cell? ⟨I,0,none⟩=some (.int .i64 op):=Zc hb3 (k:=0) rfl;have jl:=Zb j0;have HBF:=Za (HB.out.trans (hO.mono HB.out.size));clear hb0 hb1 hb2 hb3 hO hJ hbi c0 c1 c2 c3 cfz cl hV1 hIV;rcases EOP.out with⟨n4,n5,hE⟩ | ⟨n4,hE⟩ | ⟨n4,n5,hE⟩
    ·go_wp2_with fail
     go_ret;rw[hE];exact⟨rfl,HBF.out⟩
    all_goals
     go_wp2_with (go_at_call 141;(with_reducible refine(HEM.out V1 (HX.out.below HBF.out)).mono ?_);rintro e w9 ⟨rfl,hb9⟩);go_ret;rw[hE];exact⟨rfl,HBF.out.trans (hb9.mono HBF.out.size)⟩
   -- end can7
end Go.Proofs.YtngekjpklkjnbaaGreat
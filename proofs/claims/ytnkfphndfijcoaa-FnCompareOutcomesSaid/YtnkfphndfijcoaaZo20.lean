/-
  The reference's key of a state with views. Condition: its numbers are bytes, bounds on lengths.
-/
import Derived.Test.YtnkfphndfijcoaaZo17
import Derived.Test.YtnkfphndfijcoaaZo14
set_option maxHeartbeats 6400000
set_option maxRecDepth 100000
namespace Go.Proofs.Ytnkfphndfijcoaa
open Go.RowKit
theorem l4Do_l (vp:Value) (p:List (List Ins)) (x:SV) (s:St) (t kn lc rc:Nat) (op val:Int) (r:List Ins) (w:World) (hp:RepP w vp p) (hx:RepSt w x s) (hpc:s.pc[t]? = some (kn:Int)) (hrow:p[t]? = some r) (hins:r[kn]? = some ⟨op,lc,rc,val⟩)
 (split:Bool) (hop:op=1) (sv:Int) (hseen:∀ W,RepSt W x s→Calls Try.prog 68 #[.agg #[.slice x.p.a x.p.n x.p.cap,.slice x.r.a x.r.n x.r.cap,.slice x.m.a x.m.n x.m.cap,.slice x.b.a x.b.n x.b.cap],.int .i64 (t:Int),.int .i64 (lc:Int),.bool split] W fun e w'=>e = .returned (.int .i64 sv)∧Below W.heap.size W w') (ht:t≤2) (hlc:lc≤2) (hrc:rc≤2) (h1:s.pc.length≤1000) (h2:s.rg.length=s.pc.length * 3) (h3:s.mm.length=3) (h4:s.bf.length≤100) (h5:∀ o∈s.bf,o.length≤1000) (hrl:r.length≤1000) :
 Calls Try.prog 48 #[vp,.agg #[.slice x.p.a x.p.n x.p.cap,.slice x.r.a x.r.n x.r.cap,.slice x.m.a x.m.n x.m.cap,.slice x.b.a x.b.n x.b.cap],.bool split,.int .i64 (t:Int)] w
  (RetSt w ⟨s.pc.set t ((kn:Int)+1),s.rg.set (t * 3+rc) sv,s.mm,s.bf⟩):=by
 obtain⟨⟨pa,pn,pk⟩,⟨ra,rn,rk⟩,⟨ma,mn,mk⟩,⟨ba,bn,bk⟩⟩:=x;obtain⟨va,vc,rfl,hc1,hc2,hc3,hp⟩:=hp.open;obtain⟨b2,o2,qa,qc,rfl,hbl2,q0,q1⟩:=hp.row hrow;obtain⟨b3,o3,rfl,hbl3,r0,r1,r2,r3⟩:=q1.ins hins;have hpt:=(List.getElem?_eq_some_iff.1 hrow).1;have hkr:=(List.getElem?_eq_some_iff.1 hins).1;obtain⟨_,_,hv1,-,-,-,-⟩:=hx.pc.open;obtain⟨_,_,hv3,-,-,-,-⟩:=hx.mm.open;simp only[Slc.v,Value.slice.injEq]at hv1 hv3;obtain⟨rfl,hn1,rfl⟩:=hv1;obtain⟨rfl,hn3,rfl⟩:=hv3;obtain⟨b,o,rfl,hbl,i0⟩:=(show Rep IntE w (.slice pa pn pk) s.pc from hx.pc).int hpc;obtain⟨mv,hmv⟩:=get_of_lt (xs:=s.mm) (k:=lc) (by omega);obtain⟨bm,om,rfl,hblm,m0⟩:=(show Rep IntE w (.slice ma mn mk) s.mm from hx.mm).int hmv;have htl:=(List.getElem?_eq_some_iff.1 hpc).1;obtain⟨qr,hqr⟩:∃ qr:Nat,qr=t * 3+rc:=⟨_,rfl⟩
 have HX:=hide hx;have HSEEN:=hide hseen
 rw[← hqr];have htn:¬ ((p.length:Int)≤(t:Int)):=by omega
 have e5:(op==5)=false:=by rw[hop];decide
 have e4:(op==4)=false:=by rw[hop];decide
 have e1:(op==1)=true:=by rw[hop];decide
 clear hseen hop;have HREG:=hide (fun w'=>(l3Reg_M t rc w' ht hrc).mono fun e w'' ⟨h1,h2⟩=>(⟨by rw[hqr];exact h1,h2 ▸ Below.refl _ _⟩:e=Ending.returned (.int .i64 (qr:Int))∧Below w'.heap.size w' w''));have MV:Hid (s.mm.getD lc 0=mv):=hide (by rw[List.getD_eq_getElem?_getD,hmv];rfl);have hpn:(t:Int) < (pn:Int):=by omega
 have hpn2:(t:Int) < (p.length:Int):=by omega
 have hkn2:(kn:Int) < (r.length:Int):=by omega
 have hmn:(lc:Int) < (mn:Int):=by omega
 have hrg:qr < s.rg.length:=by omega
 have H1:=hide h1;have H2:=hide h2;have H3:=hide h3;have HPC:=hide htl;have HRG:=hide hrg;have HMM:=hide (show lc < s.mm.length by omega)
 have HRL:=hide hrl;have HVAL:=hide (fun w' (h:RepSt w' ⟨⟨some ⟨b,o,none⟩,pn,pk⟩,⟨ra,rn,rk⟩,⟨some ⟨bm,om,none⟩,mn,mk⟩,⟨ba,bn,bk⟩⟩ s)=>l3Value_any _ s t rc op lc val w' h ht hrc (by omega));have hknb:(kn:Int) < 1000:=by omega
 have hkw:IntKind.i64.wrap ((kn:Int)+1)=(kn:Int)+1:=wrapM (by omega) (by omega);have HCP:=hide (fun w' (h:RepSt w' ⟨⟨some ⟨b,o,none⟩,pn,pk⟩,⟨ra,rn,rk⟩,⟨some ⟨bm,om,none⟩,mn,mk⟩,⟨ba,bn,bk⟩⟩ s)=>l3Copy_any _ s w' h (by omega) (by omega) (by omega) (by omega) (fun o ho=>by have:=h5 o ho;omega));obtain⟨A0,hA0⟩:∃ A0,A0=(w.alloc (.cells #[.slice (some ⟨b,o,none⟩) pn pk,.slice ra rn rk,.slice (some ⟨bm,om,none⟩) mn mk,.slice ba bn bk] 64)).alloc (.cells #[.slice none 0 0,.slice none 0 0,.slice none 0 0,.slice none 0 0] 64):=⟨_,rfl⟩
 have hz:A0.heap.size=w.heap.size+2:=by rw[hA0];simp
 have HX2:Hid (A0.heap[w.heap.size]? = some (.cells #[.slice (some ⟨b,o,none⟩) pn pk,.slice ra rn rk,.slice (some ⟨bm,om,none⟩) mn mk,.slice ba bn bk] 64 (0,0))):=hide (by
  rw[hA0,heap_alloc_old _ _ (by simp)];exact heap_alloc_new w _)
 have HR2:Hid (A0.heap[w.heap.size+1]? = some (.cells #[.slice none 0 0,.slice none 0 0,.slice none 0 0,.slice none 0 0] 64 (0,0))):=hide (by
  have h:=heap_alloc_new (w.alloc (.cells #[.slice (some ⟨b,o,none⟩) pn pk,.slice ra rn rk,.slice (some ⟨bm,om,none⟩) mn mk,.slice ba bn bk] 64)) (.cells #[.slice none 0 0,.slice none 0 0,.slice none 0 0,.slice none 0 0] 64);rw[hA0];simpa using h)
 have HB:Hid (Below w.heap.size w A0):=hide (by rw[hA0];exact(belowAlloc w _).alloc (by simp) _);have a0:A0.cell? ⟨w.heap.size,0,none⟩=some (.slice (some ⟨b,o,none⟩) pn pk):=cellH HX2.out (k:=0) rfl;have a1:A0.cell? ⟨w.heap.size,1,none⟩=some (.slice ra rn rk):=cellH HX2.out (k:=1) rfl;have a2:A0.cell? ⟨w.heap.size,2,none⟩=some (.slice (some ⟨bm,om,none⟩) mn mk):=cellH HX2.out (k:=2) rfl;have a3:A0.cell? ⟨w.heap.size,3,none⟩=some (.slice ba bn bk):=cellH HX2.out (k:=3) rfl;have al:=lt_of_cell a0;have HA0:=hide hA0;have HT:=hide ht;have HLC:=hide hlc;have HRC:=hide hrc
 have Q0:=hide q0;have R0:=hide r0;have R1:=hide r1;have R2:=hide r2;have R3:=hide r3;have I0:=hide i0;have M0:=hide m0
 clear hqr hn1 hn3 hx hp q1 hA0 hpc hrow hins hmv h1 h2 h3 h4 h5 hrl htl hrg q0 r0 r1 r2 r3 i0 m0;go_enter Try.func48,Try.ntmps48;go_wp2_with fail;rw[← HA0.out];go_wp2_with (go_at_call 63;(with_reducible refine(HCP.out _ (HX.out.below HB.out)).mono ?_);rintro e w1 ⟨y,m,rfl,hs1,hb1⟩;have S1:=hide hs1;have B1:=hide hb1;have hsz1:=hb1.size;clear hs1 hb1);obtain⟨V,hV⟩:∃ V,V=w1.alloc (.cells #[.slice y.p.a y.p.n y.p.cap,.slice y.r.a y.r.n y.r.cap,.slice y.m.a y.m.n y.m.cap,.slice y.b.a y.b.n y.b.cap] 64):=⟨_,rfl⟩
 have BV:Hid (Below A0.heap.size A0 V):=hide (by rw[hV];exact B1.out.alloc B1.out.size _);have BO:Hid (V.heap[w1.heap.size]? = some (.cells #[.slice y.p.a y.p.n y.p.cap,.slice y.r.a y.r.n y.r.cap,.slice y.m.a y.m.n y.m.cap,.slice y.b.a y.b.n y.b.cap] 64 (0,0))):=hide (by rw[hV];exact heap_alloc_new w1 _);have S2:Hid (OwnSt V (w.heap.size+2) m y s):=hide (by have h:=S1.out.below (belowAlloc w1 (.cells #[.slice y.p.a y.p.n y.p.cap,.slice y.r.a y.r.n y.r.cap,.slice y.m.a y.m.n y.m.cap,.slice y.b.a y.b.n y.b.cap] 64));rw[hz]at h;rw[hV];exact h);have hzV:V.heap.size=w1.heap.size+1:=by rw[hV];simp
 have hmO:Hid (m≤w1.heap.size):=hide S1.out.lh;have HV:=hide hV;rw[← hV];clear hV S1 B1;have hnt2:decide (p.length≤t)=false:=decide_eq_false (by omega)
 try simp only[hnt2]
 clear hnt2
 -- reg r7l
 refine wp_region_inv3 (n:=12) (by kernel_rfl) rfl (by kernel_rfl) (by kernel_rfl) (fun A ls a' W => ∃ (I:Nat) (x48 x49 x50 x51 x52 x53 x54 x55 x56 x57 x58 x11:Value),a'=putAll A [(48,x48),(49,x49),(50,x50),(51,x51),(52,x52),(53,x53),(54,x54),(55,x55),(56,x56),(57,x57),(58,x58),(11,x11)]∧Vd ls 0 [] x48 (.slice (some ⟨b2,o2,none⟩) p.length vc)∧Vd ls 1 [] x49 (.int .i64 (t:Int))∧Vd ls 2 [] x50 (.pointer (some ⟨b2,o2+t,none⟩))∧Vd ls 3 [] x51 (.slice (some ⟨b3,o3,none⟩) r.length qc)∧Vd ls 4 [] x52 (.pointer (some ⟨w.heap.size,0,none⟩))∧Vd ls 5 [] x53 (.slice (some ⟨b,o,none⟩) pn pk)∧Vd ls 6 [] x54 (.int .i64 (t:Int))∧Vd ls 7 [] x55 (.pointer (some ⟨b,o+t,none⟩))∧Vd ls 8 [] x56 (.int .i64 (kn:Int))∧Vd ls 9 [] x57 (.pointer (some ⟨b3,o3+kn * 4,none⟩))∧Vd ls 10 [] x58 (.agg #[.int .i64 op,.int .i64 (lc:Int),.int .i64 (rc:Int),.int .i64 val])∧Vd ls 11 [] x11 (.pointer (some ⟨I,0,none⟩))∧JDo V (fl ls 11) I W) ?r0 ?rs ?re
 case r0 =>
  exact⟨0,undef,undef,undef,undef,undef,undef,undef,undef,undef,undef,undef,undef,by simp only[putAll,Act.put,List.setIfInBounds_toArray,List.set_cons_succ,List.set_cons_zero],Vd.start,Vd.start,Vd.start,Vd.start,Vd.start,Vd.start,Vd.start,Vd.start,Vd.start,Vd.start,Vd.start,Vd.start,by simp only[fl_start];exact⟨(Below.refl _ _).drew,fun h=>(nomatch h)⟩⟩
 case rs =>
  rintro ls a' W hs hnl ⟨I,x48,x49,x50,x51,x52,x53,x54,x55,x56,x57,x58,x11,ha,cv0,cv1,cv2,cv3,cv4,cv5,cv6,cv7,cv8,cv9,cv10,cv11,hJ⟩ k o hkn mc K hK;simp only[putAll,Act.put,List.setIfInBounds_toArray,List.set_cons_succ,List.set_cons_zero]at ha;subst ha;have hkc:k=0∨k=1∨k=2∨k=3∨k=4∨k=5∨k=6∨k=7∨k=8∨k=9∨k=10∨k=11:=by omega
  have hop:=mc.op;have haf:=mc.after;rcases hkc with rfl | rfl | rfl | rfl | rfl | rfl | rfl | rfl | rfl | rfl | rfl | rfl
  ·simp at hop;subst hop;simp[Region.binds]at haf
   go_simp;exact hK _ _ ⟨I,_,_,_,_,_,_,_,_,_,_,_,_,by simp only[putAll,Act.put,List.setIfInBounds_toArray,List.set_cons_succ,List.set_cons_zero],Vd.same (by simp),cv1.set (by decide),cv2.set (by decide),cv3.set (by decide),cv4.set (by decide),cv5.set (by decide),cv6.set (by decide),cv7.set (by decide),cv8.set (by decide),cv9.set (by decide),cv10.set (by decide),cv11.set (by decide),by rw[fl_set (show 0≠11 by decide)];exact hJ⟩
  ·simp at hop;subst hop;simp[Region.binds]at haf
   go_simp;exact hK _ _ ⟨I,_,_,_,_,_,_,_,_,_,_,_,_,by simp only[putAll,Act.put,List.setIfInBounds_toArray,List.set_cons_succ,List.set_cons_zero],cv0.set (by decide),Vd.same (by simp),cv2.set (by decide),cv3.set (by decide),cv4.set (by decide),cv5.set (by decide),cv6.set (by decide),cv7.set (by decide),cv8.set (by decide),cv9.set (by decide),cv10.set (by decide),cv11.set (by decide),by rw[fl_set (show 1≠11 by decide)];exact hJ⟩
  ·simp at hop;subst hop;simp[Region.binds]at haf
   obtain rfl:=(cv0.get (by simp[haf])).symm;obtain rfl:=(cv1.get (by simp[haf])).symm;go_simp;exact hK _ _ ⟨I,_,_,_,_,_,_,_,_,_,_,_,_,by simp only[putAll,Act.put,List.setIfInBounds_toArray,List.set_cons_succ,List.set_cons_zero],cv0.set (by decide),cv1.set (by decide),Vd.same (by simp),cv3.set (by decide),cv4.set (by decide),cv5.set (by decide),cv6.set (by decide),cv7.set (by decide),cv8.set (by decide),cv9.set (by decide),cv10.set (by decide),cv11.set (by decide),by rw[fl_set (show 2≠11 by decide)];exact hJ⟩
  ·simp at hop;subst hop;simp[Region.binds]at haf
   obtain rfl:=(cv2.get (by simp[haf])).symm;have hbw:=HB.out.trans ((BV.out.trans (hJ.out.mono BV.out.size)).mono HB.out.size);have q2:=(hbw.cell (p:=⟨b2,o2+t,none⟩) hbl2).trans Q0.out;have ql:=lt_of_cell q2;go_simp;exact hK _ _ ⟨I,_,_,_,_,_,_,_,_,_,_,_,_,by simp only[putAll,Act.put,List.setIfInBounds_toArray,List.set_cons_succ,List.set_cons_zero],cv0.set (by decide),cv1.set (by decide),cv2.set (by decide),Vd.same (by simp),cv4.set (by decide),cv5.set (by decide),cv6.set (by decide),cv7.set (by decide),cv8.set (by decide),cv9.set (by decide),cv10.set (by decide),cv11.set (by decide),by rw[fl_set (show 3≠11 by decide)];exact hJ⟩
  ·simp at hop;subst hop;simp[Region.binds]at haf
   go_simp;exact hK _ _ ⟨I,_,_,_,_,_,_,_,_,_,_,_,_,by simp only[putAll,Act.put,List.setIfInBounds_toArray,List.set_cons_succ,List.set_cons_zero],cv0.set (by decide),cv1.set (by decide),cv2.set (by decide),cv3.set (by decide),Vd.same (by simp),cv5.set (by decide),cv6.set (by decide),cv7.set (by decide),cv8.set (by decide),cv9.set (by decide),cv10.set (by decide),cv11.set (by decide),by rw[fl_set (show 4≠11 by decide)];exact hJ⟩
  ·simp at hop;subst hop;simp[Region.binds]at haf
   obtain rfl:=(cv4.get (by simp[haf])).symm;have d0:W.cell? ⟨w.heap.size,0,none⟩=some (.slice (some ⟨b,o,none⟩) pn pk):=cellH ((hJ.out.block w.heap.size (by omega)).trans ((BV.out.block w.heap.size (by omega)).trans HX2.out)) (k:=0) rfl;have dl:=lt_of_cell d0;go_simp;exact hK _ _ ⟨I,_,_,_,_,_,_,_,_,_,_,_,_,by simp only[putAll,Act.put,List.setIfInBounds_toArray,List.set_cons_succ,List.set_cons_zero],cv0.set (by decide),cv1.set (by decide),cv2.set (by decide),cv3.set (by decide),cv4.set (by decide),Vd.same (by simp),cv6.set (by decide),cv7.set (by decide),cv8.set (by decide),cv9.set (by decide),cv10.set (by decide),cv11.set (by decide),by rw[fl_set (show 5≠11 by decide)];exact hJ⟩
  ·simp at hop;subst hop;simp[Region.binds]at haf
   go_simp;exact hK _ _ ⟨I,_,_,_,_,_,_,_,_,_,_,_,_,by simp only[putAll,Act.put,List.setIfInBounds_toArray,List.set_cons_succ,List.set_cons_zero],cv0.set (by decide),cv1.set (by decide),cv2.set (by decide),cv3.set (by decide),cv4.set (by decide),cv5.set (by decide),Vd.same (by simp),cv7.set (by decide),cv8.set (by decide),cv9.set (by decide),cv10.set (by decide),cv11.set (by decide),by rw[fl_set (show 6≠11 by decide)];exact hJ⟩
  ·simp at hop;subst hop;simp[Region.binds]at haf
   obtain rfl:=(cv5.get (by simp[haf])).symm;obtain rfl:=(cv6.get (by simp[haf])).symm;go_simp;exact hK _ _ ⟨I,_,_,_,_,_,_,_,_,_,_,_,_,by simp only[putAll,Act.put,List.setIfInBounds_toArray,List.set_cons_succ,List.set_cons_zero],cv0.set (by decide),cv1.set (by decide),cv2.set (by decide),cv3.set (by decide),cv4.set (by decide),cv5.set (by decide),cv6.set (by decide),Vd.same (by simp),cv8.set (by decide),cv9.set (by decide),cv10.set (by decide),cv11.set (by decide),by rw[fl_set (show 7≠11 by decide)];exact hJ⟩
  ·simp at hop;subst hop;simp[Region.binds]at haf
   obtain rfl:=(cv7.get (by simp[haf])).symm;have hbw:=HB.out.trans ((BV.out.trans (hJ.out.mono BV.out.size)).mono HB.out.size);have q2:=(hbw.cell (p:=⟨b,o+t,none⟩) hbl).trans I0.out;have ql:=lt_of_cell q2;go_simp;exact hK _ _ ⟨I,_,_,_,_,_,_,_,_,_,_,_,_,by simp only[putAll,Act.put,List.setIfInBounds_toArray,List.set_cons_succ,List.set_cons_zero],cv0.set (by decide),cv1.set (by decide),cv2.set (by decide),cv3.set (by decide),cv4.set (by decide),cv5.set (by decide),cv6.set (by decide),cv7.set (by decide),Vd.same (by simp),cv9.set (by decide),cv10.set (by decide),cv11.set (by decide),by rw[fl_set (show 8≠11 by decide)];exact hJ⟩
  ·simp at hop;subst hop;simp[Region.binds]at haf
   obtain rfl:=(cv3.get (by simp[haf])).symm;obtain rfl:=(cv8.get (by simp[haf])).symm;go_simp;exact hK _ _ ⟨I,_,_,_,_,_,_,_,_,_,_,_,_,by simp only[putAll,Act.put,List.setIfInBounds_toArray,List.set_cons_succ,List.set_cons_zero],cv0.set (by decide),cv1.set (by decide),cv2.set (by decide),cv3.set (by decide),cv4.set (by decide),cv5.set (by decide),cv6.set (by decide),cv7.set (by decide),cv8.set (by decide),Vd.same (by simp),cv10.set (by decide),cv11.set (by decide),by rw[fl_set (show 9≠11 by decide)];exact hJ⟩
  ·simp at hop;subst hop;simp[Region.binds]at haf
   obtain rfl:=(cv9.get (by simp[haf])).symm;have hbw:=HB.out.trans ((BV.out.trans (hJ.out.mono BV.out.size)).mono HB.out.size);have e0:=(hbw.cell (p:=⟨b3,o3+kn * 4,none⟩) hbl3).trans R0.out;have e1:=(hbw.cell (p:=⟨b3,o3+kn * 4+1,none⟩) hbl3).trans R1.out;have e2:=(hbw.cell (p:=⟨b3,o3+kn * 4+2,none⟩) hbl3).trans R2.out;have e3:=(hbw.cell (p:=⟨b3,o3+kn * 4+3,none⟩) hbl3).trans R3.out;have ql:=lt_of_cell e0;go_simp;exact hK _ _ ⟨I,_,_,_,_,_,_,_,_,_,_,_,_,by simp only[putAll,Act.put,List.setIfInBounds_toArray,List.set_cons_succ,List.set_cons_zero],cv0.set (by decide),cv1.set (by decide),cv2.set (by decide),cv3.set (by decide),cv4.set (by decide),cv5.set (by decide),cv6.set (by decide),cv7.set (by decide),cv8.set (by decide),cv9.set (by decide),Vd.same (by simp),cv11.set (by decide),by rw[fl_set (show 10≠11 by decide)];exact hJ⟩
  ·simp at hop;subst hop;simp[Region.binds]at haf
   have f11:=fl_no mc.new;rw[f11]at hJ;go_simp;exact hK _ _ ⟨W.heap.size,_,_,_,_,_,_,_,_,_,_,_,_,by simp only[putAll,Act.put,List.setIfInBounds_toArray,List.set_cons_succ,List.set_cons_zero],cv0.set (by decide),cv1.set (by decide),cv2.set (by decide),cv3.set (by decide),cv4.set (by decide),cv5.set (by decide),cv6.set (by decide),cv7.set (by decide),cv8.set (by decide),cv9.set (by decide),cv10.set (by decide),Vd.same (by simp),by rw[fl_got hs (by decide)];exact⟨hJ.out.alloc hJ.out.size _,fun _=>⟨heap_alloc_new W _,hJ.out.size⟩⟩⟩
 case re =>
  rintro ls a' W hall ⟨I,x48,x49,x50,x51,x52,x53,x54,x55,x56,x57,x58,x11,ha,cv0,cv1,cv2,cv3,cv4,cv5,cv6,cv7,cv8,cv9,cv10,cv11,hJ⟩ o hop;simp only[putAll,Act.put,List.setIfInBounds_toArray,List.set_cons_succ,List.set_cons_zero]at ha;subst ha;simp at hop;subst hop;obtain rfl:=(cv0.get (hall 0 (by decide))).symm;obtain rfl:=(cv1.get (hall 1 (by decide))).symm;obtain rfl:=(cv2.get (hall 2 (by decide))).symm;obtain rfl:=(cv3.get (hall 3 (by decide))).symm;obtain rfl:=(cv4.get (hall 4 (by decide))).symm;obtain rfl:=(cv5.get (hall 5 (by decide))).symm;obtain rfl:=(cv6.get (hall 6 (by decide))).symm;obtain rfl:=(cv7.get (hall 7 (by decide))).symm;obtain rfl:=(cv8.get (hall 8 (by decide))).symm;obtain rfl:=(cv9.get (hall 9 (by decide))).symm;obtain rfl:=(cv10.get (hall 10 (by decide))).symm;obtain rfl:=(cv11.get (hall 11 (by decide))).symm;rw[fl_yes (hall 11 (by decide))]at hJ;obtain⟨hbi,hIV⟩:=hJ.ob rfl;have c0:W.cell? ⟨I,0,none⟩=some (.int .i64 0):=cellH hbi (k:=0) rfl;have c1:W.cell? ⟨I,1,none⟩=some (.int .i64 0):=cellH hbi (k:=1) rfl;have c2:W.cell? ⟨I,2,none⟩=some (.int .i64 0):=cellH hbi (k:=2) rfl;have c3:W.cell? ⟨I,3,none⟩=some (.int .i64 0):=cellH hbi (k:=3) rfl;have cfz:=frozH hbi
  have cl:=lt_of_cell c0;go_simp;have hb0:=heap_setCell_same W I 0 _ _ (.int .i64 op) hbi;have hb1:=heap_setCell_same (W.setCell ⟨I,0,none⟩ (.int .i64 op)) I 1 _ _ (.int .i64 (lc:Int)) hb0;have hb2:=heap_setCell_same ((W.setCell ⟨I,0,none⟩ (.int .i64 op)).setCell ⟨I,1,none⟩ (.int .i64 (lc:Int))) I 2 _ _ (.int .i64 (rc:Int)) hb1;have hb3:=heap_setCell_same (((W.setCell ⟨I,0,none⟩ (.int .i64 op)).setCell ⟨I,1,none⟩ (.int .i64 (lc:Int))).setCell ⟨I,2,none⟩ (.int .i64 (rc:Int))) I 3 _ _ (.int .i64 val) hb2;have hO:=(((hJ.out.setCell (p:=⟨I,0,none⟩) hIV (.int .i64 op)).setCell (p:=⟨I,1,none⟩) hIV (.int .i64 (lc:Int))).setCell (p:=⟨I,2,none⟩) hIV (.int .i64 (rc:Int))).setCell (p:=⟨I,3,none⟩) hIV (.int .i64 val)
  have HD1:=hide (DoS.mk (w:=w) (O:=w1.heap.size) (I:=I) (m:=m) (xs:=[.slice (some ⟨b,o,none⟩) pn pk,.slice ra rn rk,.slice (some ⟨bm,om,none⟩) mn mk,.slice ba bn bk]) (y:=y) (i:=[.int .i64 op,.int .i64 (lc:Int),.int .i64 (rc:Int),.int .i64 val]) (s:=s) ((hO.block w.heap.size (by omega)).trans ((BV.out.block w.heap.size (by omega)).trans HX2.out)) ((hO.block (w.heap.size+1) (by omega)).trans ((BV.out.block (w.heap.size+1) (by omega)).trans HR2.out)) ((hO.block w1.heap.size (by omega)).trans BO.out) hb3 (S2.out.below hO) (HB.out.trans ((BV.out.trans (hO.mono BV.out.size)).mono HB.out.size)) (by omega) (by omega) hmO.out);obtain⟨V1,hV1⟩:∃ V1,V1=(((W.setCell ⟨I,0,none⟩ (.int .i64 op)).setCell ⟨I,1,none⟩ (.int .i64 (lc:Int))).setCell ⟨I,2,none⟩ (.int .i64 (rc:Int))).setCell ⟨I,3,none⟩ (.int .i64 val):=⟨_,rfl⟩
  rw[← hV1]at HD1;simp only[← hV1];clear hb0 hb1 hb2 hb3 hO hJ hbi c0 c1 c2 c3 cfz cl hV1 a0 a1 a2 a3 al hIV;have j0:V1.cell? ⟨I,0,none⟩=some (.int .i64 op):=cellH HD1.out.bi (k:=0) rfl;have j1:V1.cell? ⟨I,1,none⟩=some (.int .i64 (lc:Int)):=cellH HD1.out.bi (k:=1) rfl;have j2:V1.cell? ⟨I,2,none⟩=some (.int .i64 (rc:Int)):=cellH HD1.out.bi (k:=2) rfl;have j3:V1.cell? ⟨I,3,none⟩=some (.int .i64 val):=cellH HD1.out.bi (k:=3) rfl;have jl:=lt_of_cell j0;have x0:V1.cell? ⟨w.heap.size,0,none⟩=some (.slice (some ⟨b,o,none⟩) pn pk):=cellH HD1.out.bx (k:=0) rfl;have x1:V1.cell? ⟨w.heap.size,1,none⟩=some (.slice ra rn rk):=cellH HD1.out.bx (k:=1) rfl;have x2:V1.cell? ⟨w.heap.size,2,none⟩=some (.slice (some ⟨bm,om,none⟩) mn mk):=cellH HD1.out.bx (k:=2) rfl;have x3:V1.cell? ⟨w.heap.size,3,none⟩=some (.slice ba bn bk):=cellH HD1.out.bx (k:=3) rfl;have xl:=lt_of_cell x0;go_wp2_with fail;clear j0 j1 j2 j3 jl x0 x1 x2 x3 xl;obtain⟨gp,hgp,-⟩:=HD1.out.st.ln.o1.open1 (get_of_lt HPC.out).choose_spec;have HGP:=hide hgp;obtain⟨⟨yp1,yp2,yp3⟩,⟨yr1,yr2,yr3⟩,⟨ym1,ym2,ym3⟩,⟨yb1,yb2,yb3⟩⟩:=y;subst hgp;have hyp2:(t:Int) < (yp2:Int):=by have:=(show yp2=s.pc.length from HD1.out.st.ln.o1.len);have:=HPC.out;omega
  -- reg r10l
  refine wp_region_inv3 (n:=10) (by kernel_rfl) rfl (by kernel_rfl) (by kernel_rfl) (fun A ls a' W => ∃ (x71 x72 x73 x74 x75 x76 x77 x78 x79 x80:Value),a'=putAll A [(71,x71),(72,x72),(73,x73),(74,x74),(75,x75),(76,x76),(77,x77),(78,x78),(79,x79),(80,x80)]∧Vd ls 0 [] x71 (.pointer (some ⟨w1.heap.size,0,none⟩))∧Vd ls 1 [] x72 (.slice (some ⟨gp,0,none⟩) yp2 yp3)∧Vd ls 2 [] x73 (.int .i64 (t:Int))∧Vd ls 3 [] x74 (.pointer (some ⟨w.heap.size,0,none⟩))∧Vd ls 4 [] x75 (.slice (some ⟨b,o,none⟩) pn pk)∧Vd ls 5 [] x76 (.int .i64 (t:Int))∧Vd ls 6 [] x77 (.pointer (some ⟨b,o+t,none⟩))∧Vd ls 7 [] x78 (.int .i64 (kn:Int))∧Vd ls 8 [] x79 (.int .i64 ((kn:Int)+1))∧Vd ls 9 [] x80 (.pointer (some ⟨gp,t,none⟩))∧Below V1.heap.size V1 W) ?r0 ?rs ?re
  case r0 =>
   exact⟨undef,undef,undef,undef,undef,undef,undef,undef,undef,undef,by simp only[putAll,Act.put,List.setIfInBounds_toArray,List.set_cons_succ,List.set_cons_zero],Vd.start,Vd.start,Vd.start,Vd.start,Vd.start,Vd.start,Vd.start,Vd.start,Vd.start,Vd.start,by exact(Below.refl _ _).drew⟩
  case rs =>
   rintro ls a' W hs hnl ⟨x71,x72,x73,x74,x75,x76,x77,x78,x79,x80,ha,cv0,cv1,cv2,cv3,cv4,cv5,cv6,cv7,cv8,cv9,hJ⟩ k o hkn mc K hK;simp only[putAll,Act.put,List.setIfInBounds_toArray,List.set_cons_succ,List.set_cons_zero]at ha;subst ha;have hkc:k=0∨k=1∨k=2∨k=3∨k=4∨k=5∨k=6∨k=7∨k=8∨k=9:=by omega
   have hop:=mc.op;have haf:=mc.after;rcases hkc with rfl | rfl | rfl | rfl | rfl | rfl | rfl | rfl | rfl | rfl
   ·simp at hop;subst hop;simp[Region.binds]at haf
    go_simp;exact hK _ _ ⟨_,_,_,_,_,_,_,_,_,_,by simp only[putAll,Act.put,List.setIfInBounds_toArray,List.set_cons_succ,List.set_cons_zero],Vd.same (by simp),cv1.set (by decide),cv2.set (by decide),cv3.set (by decide),cv4.set (by decide),cv5.set (by decide),cv6.set (by decide),cv7.set (by decide),cv8.set (by decide),cv9.set (by decide),by exact hJ⟩
   ·simp at hop;subst hop;simp[Region.binds]at haf
    obtain rfl:=(cv0.get (by simp[haf])).symm;have d0:W.cell? ⟨w1.heap.size,0,none⟩=some (.slice (some ⟨gp,0,none⟩) yp2 yp3):=cellH ((hJ.block w1.heap.size (Array.getElem?_eq_some_iff.1 HD1.out.bo).1).trans HD1.out.bo) (k:=0) rfl;have dl:=lt_of_cell d0;go_simp;exact hK _ _ ⟨_,_,_,_,_,_,_,_,_,_,by simp only[putAll,Act.put,List.setIfInBounds_toArray,List.set_cons_succ,List.set_cons_zero],cv0.set (by decide),Vd.same (by simp),cv2.set (by decide),cv3.set (by decide),cv4.set (by decide),cv5.set (by decide),cv6.set (by decide),cv7.set (by decide),cv8.set (by decide),cv9.set (by decide),by exact hJ⟩
   ·simp at hop;subst hop;simp[Region.binds]at haf
    go_simp;exact hK _ _ ⟨_,_,_,_,_,_,_,_,_,_,by simp only[putAll,Act.put,List.setIfInBounds_toArray,List.set_cons_succ,List.set_cons_zero],cv0.set (by decide),cv1.set (by decide),Vd.same (by simp),cv3.set (by decide),cv4.set (by decide),cv5.set (by decide),cv6.set (by decide),cv7.set (by decide),cv8.set (by decide),cv9.set (by decide),by exact hJ⟩
   ·simp at hop;subst hop;simp[Region.binds]at haf
    go_simp;exact hK _ _ ⟨_,_,_,_,_,_,_,_,_,_,by simp only[putAll,Act.put,List.setIfInBounds_toArray,List.set_cons_succ,List.set_cons_zero],cv0.set (by decide),cv1.set (by decide),cv2.set (by decide),Vd.same (by simp),cv4.set (by decide),cv5.set (by decide),cv6.set (by decide),cv7.set (by decide),cv8.set (by decide),cv9.set (by decide),by exact hJ⟩
   ·simp at hop;subst hop;simp[Region.binds]at haf
    obtain rfl:=(cv3.get (by simp[haf])).symm;have d0:W.cell? ⟨w.heap.size,0,none⟩=some (.slice (some ⟨b,o,none⟩) pn pk):=cellH ((hJ.block w.heap.size (Array.getElem?_eq_some_iff.1 HD1.out.bx).1).trans HD1.out.bx) (k:=0) rfl;have dl:=lt_of_cell d0;go_simp;exact hK _ _ ⟨_,_,_,_,_,_,_,_,_,_,by simp only[putAll,Act.put,List.setIfInBounds_toArray,List.set_cons_succ,List.set_cons_zero],cv0.set (by decide),cv1.set (by decide),cv2.set (by decide),cv3.set (by decide),Vd.same (by simp),cv5.set (by decide),cv6.set (by decide),cv7.set (by decide),cv8.set (by decide),cv9.set (by decide),by exact hJ⟩
   ·simp at hop;subst hop;simp[Region.binds]at haf
    go_simp;exact hK _ _ ⟨_,_,_,_,_,_,_,_,_,_,by simp only[putAll,Act.put,List.setIfInBounds_toArray,List.set_cons_succ,List.set_cons_zero],cv0.set (by decide),cv1.set (by decide),cv2.set (by decide),cv3.set (by decide),cv4.set (by decide),Vd.same (by simp),cv6.set (by decide),cv7.set (by decide),cv8.set (by decide),cv9.set (by decide),by exact hJ⟩
   ·simp at hop;subst hop;simp[Region.binds]at haf
    obtain rfl:=(cv4.get (by simp[haf])).symm;obtain rfl:=(cv5.get (by simp[haf])).symm;go_simp;exact hK _ _ ⟨_,_,_,_,_,_,_,_,_,_,by simp only[putAll,Act.put,List.setIfInBounds_toArray,List.set_cons_succ,List.set_cons_zero],cv0.set (by decide),cv1.set (by decide),cv2.set (by decide),cv3.set (by decide),cv4.set (by decide),cv5.set (by decide),Vd.same (by simp),cv7.set (by decide),cv8.set (by decide),cv9.set (by decide),by exact hJ⟩
   ·simp at hop;subst hop;simp[Region.binds]at haf
    obtain rfl:=(cv6.get (by simp[haf])).symm;have hbw:=HD1.out.bl.trans (hJ.mono HD1.out.bl.size);have q2:=(hbw.cell (p:=⟨b,o+t,none⟩) hbl).trans I0.out;have ql:=lt_of_cell q2;go_simp;exact hK _ _ ⟨_,_,_,_,_,_,_,_,_,_,by simp only[putAll,Act.put,List.setIfInBounds_toArray,List.set_cons_succ,List.set_cons_zero],cv0.set (by decide),cv1.set (by decide),cv2.set (by decide),cv3.set (by decide),cv4.set (by decide),cv5.set (by decide),cv6.set (by decide),Vd.same (by simp),cv8.set (by decide),cv9.set (by decide),by exact hJ⟩
   ·simp at hop;subst hop;simp[Region.binds]at haf
    obtain rfl:=(cv7.get (by simp[haf])).symm;go_simp;exact hK _ _ ⟨_,_,_,_,_,_,_,_,_,_,by simp only[putAll,Act.put,List.setIfInBounds_toArray,List.set_cons_succ,List.set_cons_zero],cv0.set (by decide),cv1.set (by decide),cv2.set (by decide),cv3.set (by decide),cv4.set (by decide),cv5.set (by decide),cv6.set (by decide),cv7.set (by decide),Vd.same (by simp),cv9.set (by decide),by exact hJ⟩
   ·simp at hop;subst hop;simp[Region.binds]at haf
    obtain rfl:=(cv1.get (by simp[haf])).symm;obtain rfl:=(cv2.get (by simp[haf])).symm;go_simp;exact hK _ _ ⟨_,_,_,_,_,_,_,_,_,_,by simp only[putAll,Act.put,List.setIfInBounds_toArray,List.set_cons_succ,List.set_cons_zero],cv0.set (by decide),cv1.set (by decide),cv2.set (by decide),cv3.set (by decide),cv4.set (by decide),cv5.set (by decide),cv6.set (by decide),cv7.set (by decide),cv8.set (by decide),Vd.same (by simp),by exact hJ⟩
  case re =>
   rintro ls a' W hall ⟨x71,x72,x73,x74,x75,x76,x77,x78,x79,x80,ha,cv0,cv1,cv2,cv3,cv4,cv5,cv6,cv7,cv8,cv9,hJ⟩ o hop;simp only[putAll,Act.put,List.setIfInBounds_toArray,List.set_cons_succ,List.set_cons_zero]at ha;subst ha;simp at hop;subst hop;obtain rfl:=(cv0.get (hall 0 (by decide))).symm;obtain rfl:=(cv1.get (hall 1 (by decide))).symm;obtain rfl:=(cv2.get (hall 2 (by decide))).symm;obtain rfl:=(cv3.get (hall 3 (by decide))).symm;obtain rfl:=(cv4.get (hall 4 (by decide))).symm;obtain rfl:=(cv5.get (hall 5 (by decide))).symm;obtain rfl:=(cv6.get (hall 6 (by decide))).symm;obtain rfl:=(cv7.get (hall 7 (by decide))).symm;obtain rfl:=(cv8.get (hall 8 (by decide))).symm;obtain rfl:=(cv9.get (hall 9 (by decide))).symm;obtain⟨hD,hgl,⟨z,hz0⟩,hfz⟩:=(HD1.out.below hJ).pc (k:=t) rfl HPC.out ((kn:Int)+1);go_simp;have HD2:=hide hD;obtain⟨V2,hV2⟩:∃ V2,V2=W.setCell ⟨gp,t,none⟩ (.int .i64 ((kn:Int)+1)):=⟨_,rfl⟩
   rw[← hV2]at HD2;simp only[← hV2];clear hD hgl hz0 hfz hJ hV2;have i0:V2.cell? ⟨I,0,none⟩=some (.int .i64 op):=cellH HD2.out.bi (k:=0) rfl;have i1:V2.cell? ⟨I,1,none⟩=some (.int .i64 (lc:Int)):=cellH HD2.out.bi (k:=1) rfl;have i2:V2.cell? ⟨I,2,none⟩=some (.int .i64 (rc:Int)):=cellH HD2.out.bi (k:=2) rfl;have i3:V2.cell? ⟨I,3,none⟩=some (.int .i64 val):=cellH HD2.out.bi (k:=3) rfl;have il:=lt_of_cell i0;go_wp2_with fail;clear i0 i1 i2 i3 il;obtain⟨gr,hgr,-⟩:=HD2.out.st.ln.o2.open1 (get_of_lt HRG.out).choose_spec;subst hgr;have hyr2:(qr:Int) < (yr2:Int):=by have:=(show yr2=s.rg.length from HD2.out.st.ln.o2.len);have:=HRG.out;omega
   -- reg r12l
   refine wp_region_inv3 (n:=13) (by kernel_rfl) rfl (by kernel_rfl) (by kernel_rfl) (fun A ls a' W => ∃ (x84 x85 x86 x87 x88 x89 x90 x91 x92 x93 x94 x95 x96:Value),a'=putAll A [(84,x84),(85,x85),(86,x86),(87,x87),(88,x88),(89,x89),(90,x90),(91,x91),(92,x92),(93,x93),(94,x94),(95,x95),(96,x96)]∧Vd ls 0 [] x84 (.pointer (some ⟨w1.heap.size,1,none⟩))∧Vd ls 1 [] x85 (.slice (some ⟨gr,0,none⟩) yr2 yr3)∧Vd ls 2 [] x86 (.int .i64 (t:Int))∧Vd ls 3 [] x87 (.pointer (some ⟨I,2,none⟩))∧Vd ls 4 [] x88 (.int .i64 (rc:Int))∧Vd ls 5 [] x89 (.int .i64 (qr:Int))∧Vd ls 6 [] x90 (.agg #[.slice (some ⟨b,o,none⟩) pn pk,.slice ra rn rk,.slice (some ⟨bm,om,none⟩) mn mk,.slice ba bn bk])∧Vd ls 7 [] x91 (.int .i64 (t:Int))∧Vd ls 8 [] x92 (.pointer (some ⟨I,1,none⟩))∧Vd ls 9 [] x93 (.int .i64 (lc:Int))∧Vd ls 10 [] x94 (.bool split)∧Vd ls 11 [] x95 (.int .i64 sv)∧Vd ls 12 [] x96 (.pointer (some ⟨gr,qr,none⟩))∧Below V2.heap.size V2 W) ?r0 ?rs ?re
   case r0 =>
    exact⟨undef,undef,undef,undef,undef,undef,undef,undef,undef,undef,undef,undef,undef,by simp only[putAll,Act.put,List.setIfInBounds_toArray,List.set_cons_succ,List.set_cons_zero],Vd.start,Vd.start,Vd.start,Vd.start,Vd.start,Vd.start,Vd.start,Vd.start,Vd.start,Vd.start,Vd.start,Vd.start,Vd.start,by exact(Below.refl _ _).drew⟩
   case rs =>
    rintro ls a' W hs hnl ⟨x84,x85,x86,x87,x88,x89,x90,x91,x92,x93,x94,x95,x96,ha,cv0,cv1,cv2,cv3,cv4,cv5,cv6,cv7,cv8,cv9,cv10,cv11,cv12,hJ⟩ k o hkn mc K hK;simp only[putAll,Act.put,List.setIfInBounds_toArray,List.set_cons_succ,List.set_cons_zero]at ha;subst ha;have hkc:k=0∨k=1∨k=2∨k=3∨k=4∨k=5∨k=6∨k=7∨k=8∨k=9∨k=10∨k=11∨k=12:=by omega
    have hop:=mc.op;have haf:=mc.after;rcases hkc with rfl | rfl | rfl | rfl | rfl | rfl | rfl | rfl | rfl | rfl | rfl | rfl | rfl
    ·simp at hop;subst hop;simp[Region.binds]at haf
     go_simp;exact hK _ _ ⟨_,_,_,_,_,_,_,_,_,_,_,_,_,by simp only[putAll,Act.put,List.setIfInBounds_toArray,List.set_cons_succ,List.set_cons_zero],Vd.same (by simp),cv1.set (by decide),cv2.set (by decide),cv3.set (by decide),cv4.set (by decide),cv5.set (by decide),cv6.set (by decide),cv7.set (by decide),cv8.set (by decide),cv9.set (by decide),cv10.set (by decide),cv11.set (by decide),cv12.set (by decide),by exact hJ⟩
    ·simp at hop;subst hop;simp[Region.binds]at haf
     obtain rfl:=(cv0.get (by simp[haf])).symm;have d1:W.cell? ⟨w1.heap.size,1,none⟩=some (.slice (some ⟨gr,0,none⟩) yr2 yr3):=cellH ((hJ.block w1.heap.size (Array.getElem?_eq_some_iff.1 HD2.out.bo).1).trans HD2.out.bo) (k:=1) rfl;have dl:=lt_of_cell d1;go_simp;exact hK _ _ ⟨_,_,_,_,_,_,_,_,_,_,_,_,_,by simp only[putAll,Act.put,List.setIfInBounds_toArray,List.set_cons_succ,List.set_cons_zero],cv0.set (by decide),Vd.same (by simp),cv2.set (by decide),cv3.set (by decide),cv4.set (by decide),cv5.set (by decide),cv6.set (by decide),cv7.set (by decide),cv8.set (by decide),cv9.set (by decide),cv10.set (by decide),cv11.set (by decide),cv12.set (by decide),by exact hJ⟩
    ·simp at hop;subst hop;simp[Region.binds]at haf
     go_simp;exact hK _ _ ⟨_,_,_,_,_,_,_,_,_,_,_,_,_,by simp only[putAll,Act.put,List.setIfInBounds_toArray,List.set_cons_succ,List.set_cons_zero],cv0.set (by decide),cv1.set (by decide),Vd.same (by simp),cv3.set (by decide),cv4.set (by decide),cv5.set (by decide),cv6.set (by decide),cv7.set (by decide),cv8.set (by decide),cv9.set (by decide),cv10.set (by decide),cv11.set (by decide),cv12.set (by decide),by exact hJ⟩
    ·simp at hop;subst hop;simp[Region.binds]at haf
     go_simp;exact hK _ _ ⟨_,_,_,_,_,_,_,_,_,_,_,_,_,by simp only[putAll,Act.put,List.setIfInBounds_toArray,List.set_cons_succ,List.set_cons_zero],cv0.set (by decide),cv1.set (by decide),cv2.set (by decide),Vd.same (by simp),cv4.set (by decide),cv5.set (by decide),cv6.set (by decide),cv7.set (by decide),cv8.set (by decide),cv9.set (by decide),cv10.set (by decide),cv11.set (by decide),cv12.set (by decide),by exact hJ⟩
    ·simp at hop;subst hop;simp[Region.binds]at haf
     obtain rfl:=(cv3.get (by simp[haf])).symm;have d2:W.cell? ⟨I,2,none⟩=some (.int .i64 (rc:Int)):=cellH ((hJ.block I (Array.getElem?_eq_some_iff.1 HD2.out.bi).1).trans HD2.out.bi) (k:=2) rfl;have dl:=lt_of_cell d2;go_simp;exact hK _ _ ⟨_,_,_,_,_,_,_,_,_,_,_,_,_,by simp only[putAll,Act.put,List.setIfInBounds_toArray,List.set_cons_succ,List.set_cons_zero],cv0.set (by decide),cv1.set (by decide),cv2.set (by decide),cv3.set (by decide),Vd.same (by simp),cv5.set (by decide),cv6.set (by decide),cv7.set (by decide),cv8.set (by decide),cv9.set (by decide),cv10.set (by decide),cv11.set (by decide),cv12.set (by decide),by exact hJ⟩
    ·simp at hop;subst hop;simp[Region.binds]at haf
     obtain rfl:=(cv2.get (by simp[haf])).symm;obtain rfl:=(cv4.get (by simp[haf])).symm;go_simp;go_at_call 64
     (with_reducible refine(HREG.out W).mono ?_);rintro e u ⟨rfl,hbu⟩
     exact hK _ _ ⟨_,_,_,_,_,_,_,_,_,_,_,_,_,by simp only[putAll,Act.put,List.setIfInBounds_toArray,List.set_cons_succ,List.set_cons_zero],cv0.set (by decide),cv1.set (by decide),cv2.set (by decide),cv3.set (by decide),cv4.set (by decide),Vd.same (by simp),cv6.set (by decide),cv7.set (by decide),cv8.set (by decide),cv9.set (by decide),cv10.set (by decide),cv11.set (by decide),cv12.set (by decide),by exact hJ.trans (hbu.mono hJ.size)⟩
    ·simp at hop;subst hop;simp[Region.binds]at haf
     have d0:W.cell? ⟨w.heap.size,0,none⟩=some (.slice (some ⟨b,o,none⟩) pn pk):=cellH ((hJ.block w.heap.size (Array.getElem?_eq_some_iff.1 HD2.out.bx).1).trans HD2.out.bx) (k:=0) rfl;have dl:=lt_of_cell d0;have d1:W.cell? ⟨w.heap.size,1,none⟩=some (.slice ra rn rk):=cellH ((hJ.block w.heap.size (Array.getElem?_eq_some_iff.1 HD2.out.bx).1).trans HD2.out.bx) (k:=1) rfl;have dl:=lt_of_cell d1;have d2:W.cell? ⟨w.heap.size,2,none⟩=some (.slice (some ⟨bm,om,none⟩) mn mk):=cellH ((hJ.block w.heap.size (Array.getElem?_eq_some_iff.1 HD2.out.bx).1).trans HD2.out.bx) (k:=2) rfl;have dl:=lt_of_cell d2;have d3:W.cell? ⟨w.heap.size,3,none⟩=some (.slice ba bn bk):=cellH ((hJ.block w.heap.size (Array.getElem?_eq_some_iff.1 HD2.out.bx).1).trans HD2.out.bx) (k:=3) rfl;have dl:=lt_of_cell d3;go_simp;exact hK _ _ ⟨_,_,_,_,_,_,_,_,_,_,_,_,_,by simp only[putAll,Act.put,List.setIfInBounds_toArray,List.set_cons_succ,List.set_cons_zero],cv0.set (by decide),cv1.set (by decide),cv2.set (by decide),cv3.set (by decide),cv4.set (by decide),cv5.set (by decide),Vd.same (by simp),cv7.set (by decide),cv8.set (by decide),cv9.set (by decide),cv10.set (by decide),cv11.set (by decide),cv12.set (by decide),by exact hJ⟩
    ·simp at hop;subst hop;simp[Region.binds]at haf
     go_simp;exact hK _ _ ⟨_,_,_,_,_,_,_,_,_,_,_,_,_,by simp only[putAll,Act.put,List.setIfInBounds_toArray,List.set_cons_succ,List.set_cons_zero],cv0.set (by decide),cv1.set (by decide),cv2.set (by decide),cv3.set (by decide),cv4.set (by decide),cv5.set (by decide),cv6.set (by decide),Vd.same (by simp),cv8.set (by decide),cv9.set (by decide),cv10.set (by decide),cv11.set (by decide),cv12.set (by decide),by exact hJ⟩
    ·simp at hop;subst hop;simp[Region.binds]at haf
     go_simp;exact hK _ _ ⟨_,_,_,_,_,_,_,_,_,_,_,_,_,by simp only[putAll,Act.put,List.setIfInBounds_toArray,List.set_cons_succ,List.set_cons_zero],cv0.set (by decide),cv1.set (by decide),cv2.set (by decide),cv3.set (by decide),cv4.set (by decide),cv5.set (by decide),cv6.set (by decide),cv7.set (by decide),Vd.same (by simp),cv9.set (by decide),cv10.set (by decide),cv11.set (by decide),cv12.set (by decide),by exact hJ⟩
    ·simp at hop;subst hop;simp[Region.binds]at haf
     obtain rfl:=(cv8.get (by simp[haf])).symm;have d1:W.cell? ⟨I,1,none⟩=some (.int .i64 (lc:Int)):=cellH ((hJ.block I (Array.getElem?_eq_some_iff.1 HD2.out.bi).1).trans HD2.out.bi) (k:=1) rfl;have dl:=lt_of_cell d1;go_simp;exact hK _ _ ⟨_,_,_,_,_,_,_,_,_,_,_,_,_,by simp only[putAll,Act.put,List.setIfInBounds_toArray,List.set_cons_succ,List.set_cons_zero],cv0.set (by decide),cv1.set (by decide),cv2.set (by decide),cv3.set (by decide),cv4.set (by decide),cv5.set (by decide),cv6.set (by decide),cv7.set (by decide),cv8.set (by decide),Vd.same (by simp),cv10.set (by decide),cv11.set (by decide),cv12.set (by decide),by exact hJ⟩
    ·simp at hop;subst hop;simp[Region.binds]at haf
     go_simp;exact hK _ _ ⟨_,_,_,_,_,_,_,_,_,_,_,_,_,by simp only[putAll,Act.put,List.setIfInBounds_toArray,List.set_cons_succ,List.set_cons_zero],cv0.set (by decide),cv1.set (by decide),cv2.set (by decide),cv3.set (by decide),cv4.set (by decide),cv5.set (by decide),cv6.set (by decide),cv7.set (by decide),cv8.set (by decide),cv9.set (by decide),Vd.same (by simp),cv11.set (by decide),cv12.set (by decide),by exact hJ⟩
    ·simp at hop;subst hop;simp[Region.binds]at haf
     obtain rfl:=(cv6.get (by simp[haf])).symm;obtain rfl:=(cv7.get (by simp[haf])).symm;obtain rfl:=(cv9.get (by simp[haf])).symm;obtain rfl:=(cv10.get (by simp[haf])).symm;go_simp;go_at_call 68
     (with_reducible refine(HSEEN.out W (HX.out.below (HD2.out.bl.trans (hJ.mono HD2.out.bl.size)))).mono ?_);rintro e u ⟨rfl,hbu⟩
     exact hK _ _ ⟨_,_,_,_,_,_,_,_,_,_,_,_,_,by simp only[putAll,Act.put,List.setIfInBounds_toArray,List.set_cons_succ,List.set_cons_zero],cv0.set (by decide),cv1.set (by decide),cv2.set (by decide),cv3.set (by decide),cv4.set (by decide),cv5.set (by decide),cv6.set (by decide),cv7.set (by decide),cv8.set (by decide),cv9.set (by decide),cv10.set (by decide),Vd.same (by simp),cv12.set (by decide),by exact hJ.trans (hbu.mono hJ.size)⟩
    ·simp at hop;subst hop;simp[Region.binds]at haf
     obtain rfl:=(cv1.get (by simp[haf])).symm;obtain rfl:=(cv5.get (by simp[haf])).symm;go_simp;exact hK _ _ ⟨_,_,_,_,_,_,_,_,_,_,_,_,_,by simp only[putAll,Act.put,List.setIfInBounds_toArray,List.set_cons_succ,List.set_cons_zero],cv0.set (by decide),cv1.set (by decide),cv2.set (by decide),cv3.set (by decide),cv4.set (by decide),cv5.set (by decide),cv6.set (by decide),cv7.set (by decide),cv8.set (by decide),cv9.set (by decide),cv10.set (by decide),cv11.set (by decide),Vd.same (by simp),by exact hJ⟩
   case re =>
    rintro ls a' W hall ⟨x84,x85,x86,x87,x88,x89,x90,x91,x92,x93,x94,x95,x96,ha,cv0,cv1,cv2,cv3,cv4,cv5,cv6,cv7,cv8,cv9,cv10,cv11,cv12,hJ⟩ o hop;simp only[putAll,Act.put,List.setIfInBounds_toArray,List.set_cons_succ,List.set_cons_zero]at ha;subst ha;simp at hop;subst hop;obtain rfl:=(cv0.get (hall 0 (by decide))).symm;obtain rfl:=(cv1.get (hall 1 (by decide))).symm;obtain rfl:=(cv2.get (hall 2 (by decide))).symm;obtain rfl:=(cv3.get (hall 3 (by decide))).symm;obtain rfl:=(cv4.get (hall 4 (by decide))).symm;obtain rfl:=(cv5.get (hall 5 (by decide))).symm;obtain rfl:=(cv6.get (hall 6 (by decide))).symm;obtain rfl:=(cv7.get (hall 7 (by decide))).symm;obtain rfl:=(cv8.get (hall 8 (by decide))).symm;obtain rfl:=(cv9.get (hall 9 (by decide))).symm;obtain rfl:=(cv10.get (hall 10 (by decide))).symm;obtain rfl:=(cv11.get (hall 11 (by decide))).symm;obtain rfl:=(cv12.get (hall 12 (by decide))).symm;obtain⟨hD,hgl,⟨z,hz0⟩,hfz⟩:=(HD2.out.below hJ).rg (k:=qr) rfl HRG.out (sv);go_simp;have HD4:=hide hD;obtain⟨V4,hV4⟩:∃ V4,V4=W.setCell ⟨gr,qr,none⟩ (.int .i64 (sv)):=⟨_,rfl⟩
    rw[← hV4]at HD4;simp only[← hV4];clear hD hgl hz0 hfz hJ hV4;have hD:=HD4.out;have g0:V4.cell? ⟨w1.heap.size,0,none⟩=some (.slice (some ⟨gp,0,none⟩) yp2 yp3):=cellH hD.bo (k:=0) rfl;have g1:V4.cell? ⟨w1.heap.size,1,none⟩=some (.slice (some ⟨gr,0,none⟩) yr2 yr3):=cellH hD.bo (k:=1) rfl;have g2:V4.cell? ⟨w1.heap.size,2,none⟩=some (.slice ym1 ym2 ym3):=cellH hD.bo (k:=2) rfl;have g3:V4.cell? ⟨w1.heap.size,3,none⟩=some (.slice yb1 yb2 yb3):=cellH hD.bo (k:=3) rfl;have gl:=lt_of_cell g0;have r0:V4.cell? ⟨w.heap.size+1,0,none⟩=some (.slice none 0 0):=cellH hD.br (k:=0) rfl;have r1:V4.cell? ⟨w.heap.size+1,1,none⟩=some (.slice none 0 0):=cellH hD.br (k:=1) rfl;have r2:V4.cell? ⟨w.heap.size+1,2,none⟩=some (.slice none 0 0):=cellH hD.br (k:=2) rfl;have r3:V4.cell? ⟨w.heap.size+1,3,none⟩=some (.slice none 0 0):=cellH hD.br (k:=3) rfl;have rfz:=frozH hD.br;have rl:=lt_of_cell r0;clear hD;go_wp2_with fail;have hS:=HD4.out.st.mono (show w.heap.size≤w.heap.size+2 by omega);have t0:TyB 64 V4 (w.heap.size+1):=⟨_,HD4.out.br⟩
    refine bodyPost_ret (v:=.agg #[.slice (some ⟨gp,0,none⟩) yp2 yp3,.slice (some ⟨gr,0,none⟩) yr2 yr3,.slice ym1 ym2 ym3,.slice yb1 yb2 yb3]) (by simp[results,Try.results48,go_sem, *]) rfl ⟨⟨⟨some ⟨gp,0,none⟩,yp2,yp3⟩,⟨some ⟨gr,0,none⟩,yr2,yr3⟩,⟨ym1,ym2,ym3⟩,⟨yb1,yb2,yb3⟩⟩,m,rfl,?_,?_⟩
    ·exact(((hS.setT (by decide) (by decide) t0).setT (by decide) (by decide) (t0.set _ _ _)).setT (by decide) (by decide) ((t0.set _ _ _).set _ _ _)).setT (by decide) (by decide) (((t0.set _ _ _).set _ _ _).set _ _ _)
    ·exact(((HD4.out.bl.setCell (p:=⟨w.heap.size+1,0,none⟩) (show w.heap.size≤w.heap.size+1 by omega) _).setCell (p:=⟨w.heap.size+1,1,none⟩) (show w.heap.size≤w.heap.size+1 by omega) _).setCell (p:=⟨w.heap.size+1,2,none⟩) (show w.heap.size≤w.heap.size+1 by omega) _).setCell (p:=⟨w.heap.size+1,3,none⟩) (show w.heap.size≤w.heap.size+1 by omega) _
   -- end r12l
  -- end r10l
 -- end r7l
end Go.Proofs.Ytnkfphndfijcoaa
namespace Go.Proofs.Ytnkfphndfijcoaa
open Go.RowKit
theorem msText_snoc (l:List Mg) (m:Mg):msText (l++[m])=msText l++mText m:=by
 induction l with
 | nil=>simp[msText]
 | cons a l ih=>simp[msText,ih]
theorem lsText_snoc (ls:List (List Mg)) (l:List Mg):lsText (ls++[l])=lsText ls++255 :: msText l:=by
 induction ls with
 | nil=>simp[lsText]
 | cons a ls ih=>simp[lsText,ih]
theorem box_app {α:Type}{E:El α}{T U:TypeId}(hT:T≠U) {w w1:World}{o:Obj}{v:Value}{xs:List α}{B base:Nat}{a:Array Value}(hb:w.heap[B]? = some (.cells a U (0,0))) (hown:Own E T w base v xs) (hg:(w.alloc o).grownBy w1 v.ownBlock):w1.heap[B]? = some (.cells a U (0,0)):=by
 have hlt:=(Array.getElem?_eq_some_iff.1 hb).1;refine(hg.block B (by simp;omega) (fun e => ?_)).trans ((heap_alloc_old w o hlt).trans hb);obtain⟨a',ha⟩:=hown.typeT e.symm;rw[hb]at ha;simp only[Option.some.injEq,Obj.cells.injEq]at ha;exact hT ha.2.1.symm
theorem flatten_le {ls:List (List Int)}{m:Nat}(h:∀ o∈ls,o.length≤m):ls.flatten.length≤ls.length * m:=by
 induction ls with
 | nil=>simp
 | cons l ls ih =>
  have h1:=ih fun o ho=>h o (by simp[ho]);have h2:=h l (by simp);simp only[List.flatten_cons,List.length_append,List.length_cons,Nat.add_mul,Nat.one_mul];omega
theorem msText_le {l:List Mg}{V:Nat}(h:∀ m∈l,m.view.length≤V):(msText l).length≤l.length * (V+2):=by
 induction l with
 | nil=>simp[msText]
 | cons m l ih =>
  have h1:=ih fun o ho=>h o (by simp[ho]);have h2:=h m (by simp);have h3:(mText m).length≤V+2:=by
   unfold mText;simp only[List.length_cons,List.length_append];split <;> simp <;> omega
  simp only[msText,List.length_append,List.length_cons,Nat.add_mul,Nat.one_mul]at h1 ⊢;omega
theorem lsText_le {ls:List (List Mg)}{B:Nat}(h:∀ l∈ls,(msText l).length≤B):(lsText ls).length≤ls.length * (B+1):=by
 induction ls with
 | nil=>simp[lsText]
 | cons l ls ih =>
  have h1:=ih fun o ho=>h o (by simp[ho]);have h2:=h l (by simp);simp only[lsText,List.length_append,List.length_cons,Nat.add_mul,Nat.one_mul]at h1 ⊢;omega
theorem l5Key_any (x:SV) (s:Vw) (w:World) (hx:RepVw w x s) (h1:s.pc.length≤1000) (h2:s.rg.length≤1000) (h3:s.vw.length≤100) (h3':∀ o∈s.vw,o.length≤1000) (h4:s.ls.length≤100)
 (h5:∀ l∈s.ls,l.length≤1000) (h6:∀ l∈s.ls,∀ m∈l,m.view.length≤1000)
 (b1:byteR s.pc) (b2:byteR s.rg) (b3:∀ o∈s.vw,byteR o) (b4:∀ l∈s.ls,∀ m∈l,(0≤m.val∧m.val≤255)∧byteR m.view) :
 Calls Try.prog 50 #[.agg #[.slice x.p.a x.p.n x.p.cap,.slice x.r.a x.r.n x.r.cap,.slice x.m.a x.m.n x.m.cap,.slice x.b.a x.b.n x.b.cap]] w fun e w'=>e = .returned (.string (strOfNums (vwKey s)))∧Below w.heap.size w w':=by
 obtain⟨⟨pa,pn,pk⟩,⟨ra,rn,rk⟩,⟨ma,mn,mk⟩,⟨ba,bn,bk⟩⟩:=x;have HX:=hide hx;obtain⟨_,_,hv1,-,-,-,-⟩:=hx.pc.open;obtain⟨_,_,hv2,-,-,-,-⟩:=hx.rg.open;obtain⟨_,_,hv3,-,-,-,-⟩:=hx.vw.open;obtain⟨_,_,hv4,-,-⟩:=hx.ls.open;simp only[Slc.v,Value.slice.injEq]at hv1 hv2 hv3 hv4;obtain⟨rfl,hn1,rfl⟩:=hv1;obtain⟨rfl,hn2,rfl⟩:=hv2;obtain⟨rfl,hn3,rfl⟩:=hv3;obtain⟨rfl,hn4,rfl⟩:=hv4;have N1:=hide hn1;have N2:=hide hn2;have N3:=hide hn3;have N4:=hide hn4
 have k1:pn≤1000:=by omega
 have k2:rn≤1000:=by omega
 have k3:mn≤100:=by omega
 have k4:bn≤100:=by omega
 have HK:Hid (vwKey s=s.pc++s.rg++s.vw.flatten++lsText s.ls):=hide rfl;have HFL:=hide (fun k=>flatten_le (ls:=s.vw.take k) (m:=1000) (fun o ho=>h3' o (List.mem_of_mem_take ho)));have HFA:=hide (flatten_le (ls:=s.vw) (m:=1000) h3');have HLL:=hide (fun k=>lsText_le (ls:=s.ls.take k) (B:=1000 * 1002) (fun l hl=>Nat.le_trans (msText_le (h6 l (List.mem_of_mem_take hl))) (Nat.mul_le_mul_right _ (h5 l (List.mem_of_mem_take hl)))));have H3':=hide h3';have H5:=hide h5;have H6:=hide h6;have B3:=hide b3;have B4:=hide b4
 clear hx hn1 hn2 hn3 hn4 h1 h2 h3 h4 h3' h5 h6 b3 b4;obtain⟨A0,hA0⟩:∃ A0,A0=w.alloc (.cells #[.slice pa pn pk,.slice ra rn rk,.slice ma mn mk,.slice ba bn bk] 79):=⟨_,rfl⟩
 have HB:Hid (Below w.heap.size w A0):=hide (by rw[hA0];exact belowAlloc _ _);have hz:A0.heap.size=w.heap.size+1:=by rw[hA0];simp
 have HX2:Hid (A0.heap[w.heap.size]? = some (.cells #[.slice pa pn pk,.slice ra rn rk,.slice ma mn mk,.slice ba bn bk] 79 (0,0))):=hide (by rw[hA0];exact heap_alloc_new w _);have HA0:=hide hA0;clear hA0;have HE:=hide (Own.empty (E:=ByteE) 5 A0 (Nat.le_refl _));have HBE:=hide (belowAlloc A0 (.cells #[] 5));go_enter Try.func50,Try.ntmps50;go_wp2_with fail;rw[← HA0.out]
 go_loopw [3,4] (fun v i wr => ∃ k:Nat,k≤pn∧i = .int .i64 k∧Own ByteE 5 wr A0.heap.size v (s.pc.take k)∧Below A0.heap.size A0 wr) (fun _ i _=>pn - (intOf i).toNat)
 case atStart=>exact⟨0,Nat.zero_le _,rfl,by rw[List.take_zero,← hz];exact HE.out,HBE.out⟩
 case round =>
  obtain⟨k,hk,rfl,ho,hb⟩:=hrel;have d0:wr.cell? ⟨w.heap.size,0,none⟩=some (.slice pa pn pk):=cellH ((hb.block w.heap.size (by omega)).trans HX2.out) (k:=0) rfl;have dl:=lt_of_cell d0;have hbs:=hb.size;by_cases hlt:k < pn
  ·have hlt':=nat_of_lt hlt
   obtain⟨y,hy⟩:=get_of_lt (xs:=s.pc) (k:=k) (by rw[← N1.out];exact hlt);obtain⟨b',o',rfl,hbl',j0⟩:=((show Rep IntE w (.slice pa pn pk) s.pc from HX.out.pc).below (HB.out.trans (hb.mono HB.out.size))).int hy;have hyb:=b1.at hy;have hlen:(s.pc.take k).length≤68719476736:=by have:=N1.out;have:=N2.out;simp only[List.length_take];omega
   have RS:Hid (s.pc.take (k+1)=(s.pc.take k)++[y]):=hide (by rw[List.take_add_one,hy];simp);have HBR:=hide hb;have HOW:=hide ho
   clear hy hb;generalize s.pc.take k=PP at *;clear ho;go_wp2_with (at_builtin;refine wpList_app ByteE 5 Try.infoU8M rfl Try.underlying22 A0.heap.size _ PP y (HOW.out.alloc _) (by decide) hlen (by simp;omega) rfl _ _ rfl rfl _ 0 1 rfl news_alloc ?_;intro v6 w6 hown6 hgr6;have O6:=hide hown6;have B6:=hide (below_app HBR.out HOW.out hgr6);clear hown6 hgr6);go_roundw
   case rel=>exact⟨k+1,by omega,by go_num,by rw[RS.out];exact O6.out,B6.out⟩
   case measure=>simp[intOf];omega
  ·obtain rfl:k=pn:=by omega
   rw[List.take_of_length_le (by rw[N1.out];exact Nat.le_refl _)]at ho;have HO0:=hide ho;have HBW0:=hide hb
   clear ho hb;go_wp2_with fail;clear d0 dl hbs hlt hk
   go_loopw [3,5] (fun v i wr => ∃ k:Nat,k≤rn∧i = .int .i64 k∧Own ByteE 5 wr A0.heap.size v (s.pc++s.rg.take k)∧Below A0.heap.size A0 wr) (fun _ i _=>rn - (intOf i).toNat)
   case atStart=>exact⟨0,Nat.zero_le _,rfl,by rw[List.take_zero,List.append_nil];exact HO0.out,HBW0.out⟩
   case round =>
    obtain⟨k,hk,rfl,ho,hb⟩:=hrel;have d0:wr.cell? ⟨w.heap.size,1,none⟩=some (.slice ra rn rk):=cellH ((hb.block w.heap.size (by omega)).trans HX2.out) (k:=1) rfl;have dl:=lt_of_cell d0;have hbs:=hb.size;by_cases hlt:k < rn
    ·have hlt':=nat_of_lt hlt
     obtain⟨y,hy⟩:=get_of_lt (xs:=s.rg) (k:=k) (by rw[← N2.out];exact hlt);obtain⟨b',o',rfl,hbl',j0⟩:=((show Rep IntE w (.slice ra rn rk) s.rg from HX.out.rg).below (HB.out.trans (hb.mono HB.out.size))).int hy;have hyb:=b2.at hy;have hlen:(s.pc++s.rg.take k).length≤68719476736:=by have:=N1.out;have:=N2.out;simp only[List.length_append,List.length_take];omega
     have RS:Hid (s.pc++s.rg.take (k+1)=(s.pc++s.rg.take k)++[y]):=hide (by rw[List.take_add_one,hy];simp);have HBR:=hide hb;have HOW:=hide ho
     clear hy hb;generalize s.pc++s.rg.take k=PP at *;clear ho;go_wp2_with (at_builtin;refine wpList_app ByteE 5 Try.infoU8M rfl Try.underlying22 A0.heap.size _ PP y (HOW.out.alloc _) (by decide) hlen (by simp;omega) rfl _ _ rfl rfl _ 0 1 rfl news_alloc ?_;intro v6 w6 hown6 hgr6;have O6:=hide hown6;have B6:=hide (below_app HBR.out HOW.out hgr6);clear hown6 hgr6);go_roundw
     case rel=>exact⟨k+1,by omega,by go_num,by rw[RS.out];exact O6.out,B6.out⟩
     case measure=>simp[intOf];omega
    ·obtain rfl:k=rn:=by omega
     rw[List.take_of_length_le (by rw[N2.out];exact Nat.le_refl _)]at ho;have HO1:=hide ho;have HBW1:=hide hb
     clear ho hb;go_wp2_with fail;clear d0 dl hbs hlt hk
     go_loopw [3,6] (fun v i wr => ∃ k:Nat,k≤mn∧i = .int .i64 k∧Own ByteE 5 wr A0.heap.size v (s.pc++s.rg++(s.vw.take k).flatten)∧Below A0.heap.size A0 wr) (fun _ i _=>mn - (intOf i).toNat)
     case atStart=>exact⟨0,Nat.zero_le _,rfl,by rw[List.take_zero];simpa using HO1.out,HBW1.out⟩
     case round =>
      obtain⟨k,hk,rfl,ho,hb⟩:=hrel;have d0:wr.cell? ⟨w.heap.size,2,none⟩=some (.slice ma mn mk):=cellH ((hb.block w.heap.size (by omega)).trans HX2.out) (k:=2) rfl;have dl:=lt_of_cell d0;have hbs:=hb.size;by_cases hlt:k < mn
      ·have hlt':=nat_of_lt hlt
       obtain⟨r,hrk⟩:=get_of_lt (xs:=s.vw) (k:=k) (by rw[← N3.out];exact hlt);obtain⟨b2',o2',qa,qc,rfl,hbl2,q0,q1⟩:=((show Rep2 IntE w (.slice ma mn mk) s.vw from HX.out.vw).below (HB.out.trans (hb.mono HB.out.size))).row hrk;have hrl:=H3'.out r (List.mem_of_getElem? hrk);have B5:=hide (B3.out r (List.mem_of_getElem? hrk));have hlen:(s.pc++s.rg++(s.vw.take k).flatten).length≤1000000:=by have h1:=N1.out;have h2:=N2.out;have h3:=HFL.out k;rw[List.length_take]at h3;simp only[List.length_append];omega
       have RS:Hid (s.pc++s.rg++(s.vw.take (k+1)).flatten=(s.pc++s.rg++(s.vw.take k).flatten)++r):=hide (by rw[List.take_add_one,hrk];simp);have HBR:=hide hb;have HOW:=hide ho;have HRK:=hide hrk
       clear hrk hb q1;generalize s.pc++s.rg++(s.vw.take k).flatten=PP at *;clear ho;go_wp2_with fail;clear d0 dl hbs q0
       go_loopw [3,7] (fun v i wr => ∃ j:Nat,j≤r.length∧i = .int .i64 j∧Own ByteE 5 wr A0.heap.size v (PP++r.take j)∧Below A0.heap.size A0 wr) (fun _ i _=>r.length - (intOf i).toNat)
       case atStart=>exact⟨0,Nat.zero_le _,rfl,by rw[List.take_zero,List.append_nil];exact HOW.out,HBR.out⟩
       case round =>
        obtain⟨j,hj,rfl,ho,hb⟩:=hrel;have d0:wr.cell? ⟨w.heap.size,2,none⟩=some (.slice (some ⟨b2',o2',none⟩) mn mk):=cellH ((hb.block w.heap.size (by omega)).trans HX2.out) (k:=2) rfl;have dl:=lt_of_cell d0;have hbs:=hb.size;obtain⟨_,_,qa',qc',hq2,hbl3,q0,q1⟩:=((show Rep2 IntE w (.slice (some ⟨b2',o2',none⟩) mn mk) s.vw from HX.out.vw).below (HB.out.trans (hb.mono HB.out.size))).row HRK.out;simp only[Option.some.injEq,Addr.mk.injEq,and_true]at hq2;obtain⟨rfl,rfl⟩:=hq2;by_cases hlt2:j < r.length
        ·have hlt3:=nat_of_lt hlt2
         obtain⟨y,hy⟩:=get_of_lt (xs:=r) (k:=j) hlt2;obtain⟨b',o',rfl,hbl',j0⟩:=q1.int hy;have hyb:=B5.out.at hy;have hlen2:(PP++r.take j).length≤68719476736:=by simp only[List.length_append,List.length_take];omega
         have RS2:Hid (PP++r.take (j+1)=(PP++r.take j)++[y]):=hide (by rw[List.take_add_one,hy];simp);have HBR2:=hide hb;have HOW2:=hide ho
         clear hy hb q1;generalize PP++r.take j=PQ at *;clear ho;go_wp2_with (at_builtin;refine wpList_app ByteE 5 Try.infoU8M rfl Try.underlying22 A0.heap.size _ PQ y (HOW2.out.alloc _) (by decide) hlen2 (by simp;omega) rfl _ _ rfl rfl _ 0 1 rfl news_alloc ?_;intro v7 w7 hown7 hgr7;have O7:=hide hown7;have B7:=hide (below_app HBR2.out HOW2.out hgr7);clear hown7 hgr7);go_roundw
         case rel=>exact⟨j+1,by omega,by go_num,by rw[RS2.out];exact O7.out,B7.out⟩
         case measure=>simp[intOf];omega
        ·obtain rfl:j=r.length:=by omega
         rw[List.take_length]at ho;have HO3:=hide ho;have HB3:=hide hb
         clear ho hb q1;go_wp2_with fail;go_roundw
         case rel=>exact⟨k+1,by omega,by go_num,by rw[RS.out];exact HO3.out,HB3.out⟩
         case measure=>simp[intOf];omega
      ·obtain rfl:k=mn:=by omega
       rw[List.take_of_length_le (by rw[N3.out];exact Nat.le_refl _)]at ho;have HO2:=hide ho;have HBW2:=hide hb
       have hpl:(s.pc++s.rg++s.vw.flatten).length≤1000000:=by have h1:=N1.out;have h2:=N2.out;have h3:=N3.out;have h4:=HFA.out;simp only[List.length_append];omega
       clear ho hb HFL HFA;generalize s.pc++s.rg++s.vw.flatten=P0 at *;go_wp2_with fail;clear d0 dl hbs hlt hk
       go_loopw [3,8] (fun v i wr => ∃ k:Nat,k≤bn∧i = .int .i64 k∧Own ByteE 5 wr A0.heap.size v (P0++lsText (s.ls.take k))∧Below A0.heap.size A0 wr) (fun _ i _=>bn - (intOf i).toNat)
       case atStart=>exact⟨0,Nat.zero_le _,rfl,by rw[List.take_zero];simpa[lsText] using HO2.out,HBW2.out⟩
       case round =>
        obtain⟨k,hk,rfl,ho,hb⟩:=hrel;have d0:wr.cell? ⟨w.heap.size,3,none⟩=some (.slice ba bn bk):=cellH ((hb.block w.heap.size (by omega)).trans HX2.out) (k:=3) rfl;have dl:=lt_of_cell d0;have hbs:=hb.size;by_cases hlt:k < bn
        ·have hlt':=nat_of_lt hlt
         obtain⟨l,hlk⟩:=get_of_lt (xs:=s.ls) (k:=k) (by rw[← N4.out];exact hlt);obtain⟨b2',o2',qa,qc,rfl,hbl2,q0,q1,-⟩:=((show RepLs w (.slice ba bn bk) s.ls from HX.out.ls).below (HB.out.trans (hb.mono HB.out.size))).row hlk;have hll:=H5.out l (List.mem_of_getElem? hlk);have H6':=hide (H6.out l (List.mem_of_getElem? hlk));have B5:=hide (B4.out l (List.mem_of_getElem? hlk))
         have hlen:(P0++lsText (s.ls.take k)).length≤200000000:=by have h3:=HLL.out k;rw[List.length_take]at h3;simp only[List.length_append];omega
         have RS:Hid (P0++lsText (s.ls.take (k+1))=((P0++lsText (s.ls.take k))++[255])++msText l):=hide (by rw[List.take_add_one,hlk];simp[lsText_snoc]);have HBR:=hide hb;have HOW:=hide ho;have HRK:=hide hlk
         clear hlk hb q1;generalize P0++lsText (s.ls.take k)=PP at *;clear ho;go_wp2_with (at_builtin;refine wpList_app ByteE 5 Try.infoU8M rfl Try.underlying22 A0.heap.size _ PP 255 (HOW.out.alloc _) (by decide) (by omega) (by simp;omega) rfl _ _ rfl rfl _ 0 1 rfl news_alloc ?_;intro v6 w6 hown6 hgr6;have O6:=hide hown6;have B6:=hide (below_app HBR.out HOW.out hgr6);clear hown6 hgr6);clear d0 dl hbs q0
         go_loopw [3,9] (fun v i wr => ∃ j:Nat,j≤l.length∧i = .int .i64 j∧Own ByteE 5 wr A0.heap.size v (PP++[255]++msText (l.take j))∧Below A0.heap.size A0 wr) (fun _ i _=>l.length - (intOf i).toNat)
         case atStart=>exact⟨0,Nat.zero_le _,rfl,by rw[List.take_zero];simpa[msText] using O6.out,B6.out⟩
         case round =>
          obtain⟨j,hj,rfl,ho,hb⟩:=hrel;have d0:wr.cell? ⟨w.heap.size,3,none⟩=some (.slice (some ⟨b2',o2',none⟩) bn bk):=cellH ((hb.block w.heap.size (by omega)).trans HX2.out) (k:=3) rfl;have dl:=lt_of_cell d0;have hbs:=hb.size;obtain⟨_,_,qa',qc',hq2,hbl3,q0A,q1,-⟩:=((show RepLs w (.slice (some ⟨b2',o2',none⟩) bn bk) s.ls from HX.out.ls).below HB.out).row HRK.out;simp only[Option.some.injEq,Addr.mk.injEq,and_true]at hq2;obtain⟨rfl,rfl⟩:=hq2;have q0:=(hb.cell (p:=⟨b2',o2'+k,none⟩) hbl3).trans q0A;by_cases hlt2:j < l.length
          ·have hlt3:=nat_of_lt hlt2
           obtain⟨m,hmj⟩:=get_of_lt (xs:=l) (k:=j) hlt2;obtain⟨b',o',va,vc,rfl,hbl',j0A,j1A,j2A,j3⟩:=q1.msg hmj;have j0:=(hb.cell (p:=⟨b',o'+j * 3,none⟩) hbl').trans j0A;have j1:=(hb.cell (p:=⟨b',o'+j * 3+1,none⟩) hbl').trans j1A;have j2:=(hb.cell (p:=⟨b',o'+j * 3+2,none⟩) hbl').trans j2A;have hblr':=Nat.lt_of_lt_of_le hbl' hb.size;obtain⟨⟨hm0,hm1⟩,hmv⟩:=B5.out m (List.mem_of_getElem? hmj);have hvl:=H6'.out m (List.mem_of_getElem? hmj);have hml:(msText (l.take j)).length≤1000 * 1002:=Nat.le_trans (msText_le (V:=1000) (fun y hy=>H6'.out y (List.mem_of_mem_take hy))) (Nat.mul_le_mul_right _ (by rw[List.length_take];omega));have hlen2:(PP++[255]++msText (l.take j)).length≤300000000:=by simp only[List.length_append,List.length_singleton];omega
           have RS2:Hid (PP++[255]++msText (l.take (j+1))=(PP++[255]++msText (l.take j))++mText m):=hide (by rw[List.take_add_one,hmj];simp[msText_snoc]);have HBR2:=hide hb;have HOW2:=hide ho;have HMV:=hide hmv
           have J3:=hide j3;clear hmj hb q1 hml j3 hmv q0A j0A j1A j2A;generalize PP++[255]++msText (l.take j)=PQ at *;clear ho;obtain⟨mv,ml,mw⟩:=m;simp only at hm0 hm1 hvl j0 j1 j2;have J3:Hid (Rep IntE A0 (.slice va mw.length vc) mw):=J3;have HMV:Hid (byteR mw):=HMV;obtain⟨wm,rfl⟩:∃ wm:World,wm=wr:=⟨_,rfl⟩
           obtain⟨A1,hA1⟩:∃ A1,A1=wm.alloc (.cells #[.int .i64 mv,.bool ml,.slice va mw.length vc] 101):=⟨_,rfl⟩
           have BA1:=hide (show Below wm.heap.size wm A1 by rw[hA1];exact belowAlloc _ _);have hz1:A1.heap.size=wm.heap.size+1:=by rw[hA1];simp
           have BX:Hid (A1.heap[wm.heap.size]? = some (.cells #[.int .i64 mv,.bool ml,.slice va mw.length vc] 101 (0,0))):=hide (by rw[hA1];exact heap_alloc_new wm _);have HOW3:=hide (HOW2.out.below BA1.out);have HBR3:=hide (HBR2.out.trans (BA1.out.mono HBR2.out.size))
           have HA1:=hide hA1;clear hA1;cases ml
           ·have RS3:Hid (PP++[255]++msText (l.take (j+1))=(PQ++[mv])++mw):=hide (by rw[RS2.out];simp[mText])
            go_wp2_with (first
             | (at_builtin;rw[← HA1.out];refine wpList_app ByteE 5 Try.infoU8M rfl Try.underlying22 A0.heap.size _ PQ mv (HOW3.out.alloc _) (by decide) (by omega) (by simp;omega) rfl _ _ rfl rfl _ 0 1 rfl (by rw[← hz1];exact news_alloc) ?_;intro v8 w8 hown8 hgr8;have O8:=hide hown8;have BX8:=hide (box_app (by decide) BX.out HOW3.out hgr8);have B8:=hide (below_app HBR3.out HOW3.out hgr8);have e18:=cellH BX8.out (k:=1) rfl;have el8:=lt_of_cell e18;clear hown8 hgr8))
            have hpm:(PQ++[mv]).length≤300000002:=by simp;omega
            clear e18 el8 RS2;generalize PQ++[mv]=PM at *
            go_loopw [3,11] (fun v i wr => ∃ q:Nat,q≤mw.length∧i = .int .i64 q∧Own ByteE 5 wr A0.heap.size v (PM++mw.take q)∧Below A0.heap.size A0 wr∧Hid (wr.heap[wm.heap.size]? = some (.cells #[.int .i64 mv,.bool false,.slice va mw.length vc] 101 (0,0)))) (fun _ i _=>mw.length - (intOf i).toNat)
            case atStart=>exact⟨0,Nat.zero_le _,rfl,by rw[List.take_zero,List.append_nil];exact O8.out,B8.out,BX8⟩
            case round =>
             obtain⟨q,hq,rfl,ho,hb,HBX⟩:=hrel;have e2:=cellH HBX.out (k:=2) rfl;have el:=lt_of_cell e2;have hbs:=hb.size;by_cases hltq:q < mw.length
             ·have hltq':=nat_of_lt hltq
              obtain⟨y,hy⟩:=get_of_lt (xs:=mw) (k:=q) hltq;obtain⟨b4,o4,rfl,hbl4,y0⟩:=(J3.out.below hb).int hy;have hyb:=HMV.out.at hy;have hlen4:(PM++mw.take q).length≤68719476736:=by simp only[List.length_append,List.length_take];omega
              have RS4:Hid (PM++mw.take (q+1)=(PM++mw.take q)++[y]):=hide (by rw[List.take_add_one,hy];simp);have HBR4:=hide hb;have HOW4:=hide ho
              clear hy hb;generalize PM++mw.take q=PX at *;clear ho;go_wp2_with (at_builtin;refine wpList_app ByteE 5 Try.infoU8M rfl Try.underlying22 A0.heap.size _ PX y (HOW4.out.alloc _) (by decide) hlen4 (by simp;omega) rfl _ _ rfl rfl _ 0 1 rfl news_alloc ?_;intro v7 w7 hown7 hgr7;have O7:=hide hown7;have BX7:=hide (box_app (by decide) HBX.out HOW4.out hgr7);have B7:=hide (below_app HBR4.out HOW4.out hgr7);clear hown7 hgr7);go_roundw
              case rel=>exact⟨q+1,by omega,by go_num,by rw[RS4.out];exact O7.out,B7.out,BX7⟩
              case measure=>simp[intOf];omega
             ·obtain rfl:q=mw.length:=by omega
              rw[List.take_length]at ho;have HO4:=hide ho;have HB4:=hide hb
              clear ho hb;go_wp2_with fail;go_roundw
              case rel=>exact⟨j+1,by omega,by go_num,by rw[RS3.out];exact HO4.out,HB4.out⟩
              case measure=>simp[intOf];omega
           ·have RS3:Hid (PP++[255]++msText (l.take (j+1))=(PQ++[mv]++[254])++mw):=hide (by rw[RS2.out];simp[mText])
            go_wp2_with (first
             | (at_builtin;rw[← HA1.out];refine wpList_app ByteE 5 Try.infoU8M rfl Try.underlying22 A0.heap.size _ PQ mv (HOW3.out.alloc _) (by decide) (by omega) (by simp;omega) rfl _ _ rfl rfl _ 0 1 rfl (by rw[← hz1];exact news_alloc) ?_;intro v8 w8 hown8 hgr8;have O8:=hide hown8;have BX8:=hide (box_app (by decide) BX.out HOW3.out hgr8);have B8:=hide (below_app HBR3.out HOW3.out hgr8);have e18:=cellH BX8.out (k:=1) rfl;have el8:=lt_of_cell e18;clear hown8 hgr8)
             | (at_builtin;refine wpList_app ByteE 5 Try.infoU8M rfl Try.underlying22 A0.heap.size _ (PQ++[mv]) 254 (O8.out.alloc _) (by decide) (by simp;omega) (by have:=B8.out.size;simp;omega) rfl _ _ rfl rfl _ 0 1 rfl news_alloc ?_;intro v9 w9 hown9 hgr9;have O9:=hide hown9;have BX9:=hide (box_app (by decide) BX8.out O8.out hgr9);have B9:=hide (below_app B8.out O8.out hgr9);clear hown9 hgr9))
            have hpm:(PQ++[mv]++[254]).length≤300000002:=by simp;omega
            clear e18 el8 RS2;generalize PQ++[mv]++[254]=PM at *
            go_loopw [3,11] (fun v i wr => ∃ q:Nat,q≤mw.length∧i = .int .i64 q∧Own ByteE 5 wr A0.heap.size v (PM++mw.take q)∧Below A0.heap.size A0 wr∧Hid (wr.heap[wm.heap.size]? = some (.cells #[.int .i64 mv,.bool true,.slice va mw.length vc] 101 (0,0)))) (fun _ i _=>mw.length - (intOf i).toNat)
            case atStart=>exact⟨0,Nat.zero_le _,rfl,by rw[List.take_zero,List.append_nil];exact O9.out,B9.out,BX9⟩
            case round =>
             obtain⟨q,hq,rfl,ho,hb,HBX⟩:=hrel;have e2:=cellH HBX.out (k:=2) rfl;have el:=lt_of_cell e2;have hbs:=hb.size;by_cases hltq:q < mw.length
             ·have hltq':=nat_of_lt hltq
              obtain⟨y,hy⟩:=get_of_lt (xs:=mw) (k:=q) hltq;obtain⟨b4,o4,rfl,hbl4,y0⟩:=(J3.out.below hb).int hy;have hyb:=HMV.out.at hy;have hlen4:(PM++mw.take q).length≤68719476736:=by simp only[List.length_append,List.length_take];omega
              have RS4:Hid (PM++mw.take (q+1)=(PM++mw.take q)++[y]):=hide (by rw[List.take_add_one,hy];simp);have HBR4:=hide hb;have HOW4:=hide ho
              clear hy hb;generalize PM++mw.take q=PX at *;clear ho;go_wp2_with (at_builtin;refine wpList_app ByteE 5 Try.infoU8M rfl Try.underlying22 A0.heap.size _ PX y (HOW4.out.alloc _) (by decide) hlen4 (by simp;omega) rfl _ _ rfl rfl _ 0 1 rfl news_alloc ?_;intro v7 w7 hown7 hgr7;have O7:=hide hown7;have BX7:=hide (box_app (by decide) HBX.out HOW4.out hgr7);have B7:=hide (below_app HBR4.out HOW4.out hgr7);clear hown7 hgr7);go_roundw
              case rel=>exact⟨q+1,by omega,by go_num,by rw[RS4.out];exact O7.out,B7.out,BX7⟩
              case measure=>simp[intOf];omega
             ·obtain rfl:q=mw.length:=by omega
              rw[List.take_length]at ho;have HO4:=hide ho;have HB4:=hide hb
              clear ho hb;go_wp2_with fail;go_roundw
              case rel=>exact⟨j+1,by omega,by go_num,by rw[RS3.out];exact HO4.out,HB4.out⟩
              case measure=>simp[intOf];omega
          ·obtain rfl:j=l.length:=by omega
           rw[List.take_length]at ho;have HO3:=hide ho;have HB3:=hide hb
           clear ho hb q1;go_wp2_with fail;go_roundw
           case rel=>exact⟨k+1,by omega,by go_num,by rw[RS.out];exact HO3.out,HB3.out⟩
           case measure=>simp[intOf];omega
        ·obtain rfl:k=bn:=by omega
         rw[List.take_of_length_le (by rw[N4.out];exact Nat.le_refl _),← HK.out]at ho;have HB3:=hide (HB.out.trans (hb.mono HB.out.size));generalize hK:vwKey s=K at *;have HKK:=hide hK;clear hK HK;rcases ho.shape with⟨rfl,rfl⟩ | ⟨g,cap,rfl,hg1,hg2,hg3,hg4⟩
         ·have kc:(convert 22 9 (.slice none 0 0)).run Try.prog wr = .ok (.string (strOfNums [])) wr:=by rfl
          go_wp2_with fail;go_ret;exact⟨by rw[HKK.out];rfl,HB3.out⟩
         ·have kc:=run_convert_bytes_arg (P:=Try.prog) wr 22 5 Try.underlying22 Try.underlying5 g 0 K.length cap K rfl (fun i hi=>by
           obtain⟨y,hy⟩:=get_of_lt hi;have h:=ho.cell hy (j:=0) rfl;simp only[ByteE,Nat.mul_one,Nat.add_zero]at h;rw[Nat.zero_add,h,List.getD_eq_getElem?_getD,hy];rfl) 9 Try.underlying9
          clear ho;generalize K.length=n at *;go_wp2_with fail;go_ret;exact⟨by rw[HKK.out];rfl,HB3.out⟩
end Go.Proofs.Ytnkfphndfijcoaa
/-
  The writes of a state that a call made: where they lie, a view of one turned. No condition.
-/
import Derived.Test.YtnkfphndfijcoaaZo17
set_option maxHeartbeats 6400000
set_option maxRecDepth 100000
namespace Go.Proofs.Ytnkfphndfijcoaa
open Go.RowKit
theorem ins_rangesR {x:Ins}(h:insValid x=true):(0≤x.loc∧x.loc≤2)∧(0≤x.reg∧x.reg≤2)∧0≤x.val∧x.val≤3:=by
 unfold insValid inB at h
 repeat' split at h
 all_goals (simp at h;try omega)
theorem next_flush (p:List (List Ins)) (split:Bool) (s:Bf) {m:Nat}(h:p.length≤m):(bfNext p split s m).isSome=decide (0 < (s.bf.getD (m - p.length) []).length):=by
 obtain⟨k,rfl⟩:∃ k,m=p.length+k:=⟨m - p.length,by omega⟩
 rw[bfNext_has,Nat.add_sub_cancel_left];rfl
theorem l4Can_any (vp:Value) (p:List (List Ins)) (x:SV) (s:Bf) (split:Bool) (t:Nat) (w:World) (hp:RepP w vp p) (hx:RepSt w x (stF s)) (hok:BfOk p split s) (hpl:p.length≤3) (hiv:∀ r∈p,∀ i∈r,insValid i=true) (hm:t < p.length+s.bf.length) :
 Calls Try.prog 47 #[vp,.agg #[.slice x.p.a x.p.n x.p.cap,.slice x.r.a x.r.n x.r.cap,.slice x.m.a x.m.n x.m.cap,.slice x.b.a x.b.n x.b.cap],.bool split,.int .i64 (t:Int)] w
  fun e w'=>e = .returned (.bool (bfNext p split s t).isSome)∧Below w.heap.size w w':=by
 have HX:=hide hx;have hlb9:s.bf.length≤9:=by
  rw[hok.lb];have:bfN split≤3:=by cases split <;> simp[bfN]
  have:=Nat.mul_le_mul hpl this;omega
 have HEM0:=fun (h:t < p.length)=>hide (fun W h2=>l4Empty_any x p split s t W h2 hok h hpl);obtain⟨⟨pa,pn,pk⟩,⟨ra,rn,rk⟩,⟨ma,mn,mk⟩,⟨ba,bn,bk⟩⟩:=x;obtain⟨va,vc,rfl,hc1,hc2,hc3,hp⟩:=hp.open;obtain⟨_,_,hv1,-,-,-,-⟩:=hx.pc.open;obtain⟨_,_,hv2,-,-,-,-⟩:=hx.bf.open;simp only[Slc.v,Value.slice.injEq]at hv1 hv2;obtain⟨rfl,hn1,rfl⟩:=hv1;obtain⟨rfl,hn2,rfl⟩:=hv2;rw[List.length_map]at hn2;have hn1':pn=p.length:=by have:=hok.q.lp;have:pn=s.q.pc.length:=hn1;omega
 obtain⟨A0,hA0⟩:∃ A0,A0=w.alloc (.cells #[.slice pa pn pk,.slice ra rn rk,.slice ma mn mk,.slice ba bn bk] 64):=⟨_,rfl⟩
 have HB:Hid (Below w.heap.size w A0):=hide (by rw[hA0];exact belowAlloc _ _);have wl0:w.heap.size < A0.heap.size:=by rw[hA0];simp
 have HXW0:Hid (A0.heap[w.heap.size]? = some (.cells #[.slice pa pn pk,.slice ra rn rk,.slice ma mn mk,.slice ba bn bk] 64 (0,0))):=hide (by rw[hA0];exact heap_alloc_new w _);have a3:A0.cell? ⟨w.heap.size,3,none⟩=some (.slice ba bn bk):=cellH HXW0.out (k:=3) rfl;have hlo:¬ ((t:Int) < 0):=by omega
 have hsum:¬ ((p.length:Int)+(bn:Int)≤(t:Int)):=by omega
 have hwr:IntKind.i64.wrap ((p.length:Int)+(bn:Int))=(p.length:Int)+(bn:Int):=by rw[IntKind.wrap_i64];omega
 have HA0:=hide hA0;by_cases hml:p.length≤t
 ·have hge:(p.length:Int)≤(t:Int):=by omega
  obtain⟨k,hk⟩:∃ k,k=t - p.length:=⟨_,rfl⟩
  have hsub:IntKind.i64.wrap ((t:Int) - (p.length:Int))=(k:Int):=by rw[IntKind.wrap_i64];omega
  obtain⟨row,hrow⟩:=get_of_lt (xs:=s.bf) (k:=k) (by omega);have HR:Hid ((bfNext p split s t).isSome=decide (0 < row.length)):=hide (by rw[next_flush p split s hml,← hk,List.getD_eq_getElem?_getD,hrow];rfl);obtain⟨b2,o2,qa,qc,hbe,hbl2,q0,-⟩:=(show Rep2 IntE w (.slice ba bn bk) (s.bf.map flatE) from hx.bf).row (flat_row hrow);subst hbe;rw[flatE_len]at q0;have q1:=(HB.out.cell (p:=⟨b2,o2+k,none⟩) hbl2).trans q0;have q1l:=lt_of_cell q1;have hkn:(k:Int) < (bn:Int):=by omega
  generalize (bfNext p split s t).isSome=R at *;obtain⟨n2,hn2e⟩:∃ n2,n2=2 * row.length:=⟨_,rfl⟩
  rw[← hn2e]at q0 q1;have hdec:R=decide (0 < n2):=by rw[HR.out,hn2e];by_cases h:0 < row.length <;> simp[h]
  clear hA0 hx hp hok hn1 hn2 hn1' hrow hk hn2e HXW0 hiv HEM0 hm;generalize p.length=n at *;go_enter Try.func47,Try.ntmps47;go_wp2_with fail;go_ret;rw[← HA0.out];exact⟨rfl,HB.out⟩
 ·have htp:t < p.length:=by omega
  have hge:¬ ((p.length:Int)≤(t:Int)):=by omega
  have HEM:=HEM0 htp;obtain⟨r,hr⟩:=get_of_lt (xs:=p) (k:=t) htp;obtain⟨kz,hkz⟩:=get_of_lt (xs:=s.q.pc) (k:=t) (by rw[hok.q.lp];exact htp);obtain⟨hk0,hkr⟩:=hok.q.pc t kz r hkz hr;obtain⟨kn,rfl⟩:∃ kn:Nat,kz=kn:=⟨kz.toNat,by omega⟩
  obtain⟨b,o,rfl,hbl,i0⟩:=(show Rep IntE w (.slice pa pn pk) s.q.pc from hx.pc).int hkz;obtain⟨b2,o2,qa,qc,rfl,hbl2,q0,q1⟩:=hp.row hr;have i0':=(HB.out.cell (p:=⟨b,o+t,none⟩) hbl).trans i0;have il:=lt_of_cell i0';have q0':=(HB.out.cell (p:=⟨b2,o2+t,none⟩) hbl2).trans q0;have ql:=lt_of_cell q0';have a0:A0.cell? ⟨w.heap.size,0,none⟩=some (.slice (some ⟨b,o,none⟩) pn pk):=cellH HXW0.out (k:=0) rfl;have al:=lt_of_cell a0;have htn:(t:Int) < (p.length:Int):=by omega
  have htn2:(t:Int) < (pn:Int):=by omega
  by_cases heq:kn=r.length
  ·have heq':((kn:Int)==(r.length:Int))=true:=by simp[heq]
   have HR:Hid ((bfNext p split s t).isSome=false):=hide (by
    rw[bfNext_can htp];unfold bfCan sqIns;rw[hr,hkz];simp[heq])
   generalize (bfNext p split s t).isSome=R at *;generalize r.length=rl at *;clear hA0 hx hp hok hn1 hn2 hn1' hr hkz q0 q1 i0 HXW0 hiv HEM0 hm hk0 hkr heq wl0;generalize p.length=n at *;go_enter Try.func47,Try.ntmps47;go_wp2_with fail;rw[← HA0.out];go_wp2_with fail;refine wp_region_bw (by kernel_rfl) (by kernel_rfl) ?_
   repeat (go_big_quiet_step (fail))
   refine wpQuiet_nil ?_;intro w5 hw5;go_wp2_with fail;go_ret;rw[HR.out];exact⟨rfl,HB.out.trans (hw5.mono HB.out.size)⟩
  ·have heq':((kn:Int)==(r.length:Int))=false:=by simp;omega
   obtain⟨i,hi⟩:=get_of_lt (xs:=r) (k:=kn) (by omega);obtain⟨⟨l0,l2⟩,⟨g0,g2⟩,-,-⟩:=ins_rangesR (hiv r (List.mem_of_getElem? hr) i (List.mem_of_getElem? hi));obtain⟨op,lz,rz,val⟩:=i;simp only at l0 l2 g0 g2;obtain⟨lc,rfl⟩:∃ lc:Nat,lz=lc:=⟨lz.toNat,by omega⟩
   obtain⟨rc,rfl⟩:∃ rc:Nat,rz=rc:=⟨rz.toNat,by omega⟩
   obtain⟨b3,o3,rfl,hbl3,r0,r1,r2,r3⟩:=q1.ins hi;have hkn2:(kn:Int) < (r.length:Int):=by omega
   have EOP:Hid (((op != 4)=true∧(op != 5)=true∧(bfNext p split s t).isSome=true)∨((op != 4)=false∧(bfNext p split s t).isSome=bfEmpty s t split)∨((op != 4)=true∧(op != 5)=false∧(bfNext p split s t).isSome=bfEmpty s t split)):=hide (by
    have hN:(bfNext p split s t).isSome=if op=4∨op=5 then bfEmpty s t split else true:=by
     rw[bfNext_can htp];unfold bfCan sqIns;rw[hr,hkz];simp[hi]
    rw[hN];by_cases e4:op=4
    ·exact .inr (.inl ⟨by simp[e4],by simp[e4]⟩)
    ·by_cases e5:op=5
     ·exact .inr (.inr ⟨by simp[e5],by simp[e5],by simp[e5]⟩)
     ·exact .inl ⟨by simp[e4],by simp[e5],by simp[e4,e5]⟩)
   generalize (bfNext p split s t).isSome=R at *;generalize bfEmpty s t split=EM at *;have Q0:=hide q0;have R0:=hide r0;have R1:=hide r1;have R2:=hide r2;have R3:=hide r3;have I0:=hide i0
   generalize hrl:r.length=rl at *;clear hA0 hx hp hok hn1 hn2 hn1' hr hkz q0 q1 i0 hiv HEM0 hm hk0 hkr heq r0 r1 r2 r3 hi hrl wl0;generalize p.length=n at *;go_enter Try.func47,Try.ntmps47;go_wp2_with fail;rw[← HA0.out];go_wp2_with fail;refine wp_region_bw (by kernel_rfl) (by kernel_rfl) ?_
   repeat (go_big_quiet_step (fail))
   refine wpQuiet_nil ?_;intro V0 hw5;have HXW:Hid (V0.heap[w.heap.size]? = some (.cells #[.slice (some ⟨b,o,none⟩) pn pk,.slice ra rn rk,.slice ma mn mk,.slice ba bn bk] 64 (0,0))):=hide ((hw5.block w.heap.size al).trans HXW0.out);have wl:=(Array.getElem?_eq_some_iff.1 HXW.out).1;have HB':=hide (HB.out.trans (hw5.mono HB.out.size));clear hw5 i0' il q0' ql a0 al a3 HB HXW0 HA0;have HB:=HB';clear HB';go_wp2_with fail;have hd1:decide (n≤t)=false:=decide_eq_false (by omega);have hd2:decide (n+bn≤t)=false:=decide_eq_false (by omega)
   try simp only[hd1,hd2]
   clear hd1 hd2
   -- reg can7
   refine wp_region_inv3 (n:=12) (by kernel_rfl) rfl (by kernel_rfl) (by kernel_rfl) (fun A ls a' W => ∃ (I:Nat) (x47 x48 x49 x50 x51 x52 x53 x54 x55 x56 x57 x9:Value),a'=putAll A [(47,x47),(48,x48),(49,x49),(50,x50),(51,x51),(52,x52),(53,x53),(54,x54),(55,x55),(56,x56),(57,x57),(9,x9)]∧Vd ls 0 [] x47 (.slice (some ⟨b2,o2,none⟩) n vc)∧Vd ls 1 [] x48 (.int .i64 (t:Int))∧Vd ls 2 [] x49 (.pointer (some ⟨b2,o2+t,none⟩))∧Vd ls 3 [] x50 (.slice (some ⟨b3,o3,none⟩) rl qc)∧Vd ls 4 [] x51 (.pointer (some ⟨w.heap.size,0,none⟩))∧Vd ls 5 [] x52 (.slice (some ⟨b,o,none⟩) pn pk)∧Vd ls 6 [] x53 (.int .i64 (t:Int))∧Vd ls 7 [] x54 (.pointer (some ⟨b,o+t,none⟩))∧Vd ls 8 [] x55 (.int .i64 (kn:Int))∧Vd ls 9 [] x56 (.pointer (some ⟨b3,o3+kn * 4,none⟩))∧Vd ls 10 [] x57 (.agg #[.int .i64 op,.int .i64 (lc:Int),.int .i64 (rc:Int),.int .i64 val])∧Vd ls 11 [] x9 (.pointer (some ⟨I,0,none⟩))∧JDo V0 (fl ls 11) I W) ?r0 ?rs ?re
   case r0 =>
    exact⟨0,undef,undef,undef,undef,undef,undef,undef,undef,undef,undef,undef,undef,by simp only[putAll,Act.put,List.setIfInBounds_toArray,List.set_cons_succ,List.set_cons_zero],Vd.start,Vd.start,Vd.start,Vd.start,Vd.start,Vd.start,Vd.start,Vd.start,Vd.start,Vd.start,Vd.start,Vd.start,by simp only[fl_start];exact⟨(Below.refl _ _).drew,fun h=>(nomatch h)⟩⟩
   case rs =>
    rintro ls a' W hs hnl ⟨I,x47,x48,x49,x50,x51,x52,x53,x54,x55,x56,x57,x9,ha,cv0,cv1,cv2,cv3,cv4,cv5,cv6,cv7,cv8,cv9,cv10,cv11,hJ⟩ k o hkn mc K hK;simp only[putAll,Act.put,List.setIfInBounds_toArray,List.set_cons_succ,List.set_cons_zero]at ha;subst ha;have hkc:k=0∨k=1∨k=2∨k=3∨k=4∨k=5∨k=6∨k=7∨k=8∨k=9∨k=10∨k=11:=by omega
    have hop:=mc.op;have haf:=mc.after;rcases hkc with rfl | rfl | rfl | rfl | rfl | rfl | rfl | rfl | rfl | rfl | rfl | rfl
    ·simp at hop;subst hop;simp[Region.binds]at haf
     go_simp;exact hK _ _ ⟨I,_,_,_,_,_,_,_,_,_,_,_,_,by simp only[putAll,Act.put,List.setIfInBounds_toArray,List.set_cons_succ,List.set_cons_zero],Vd.same (by simp),cv1.set (by decide),cv2.set (by decide),cv3.set (by decide),cv4.set (by decide),cv5.set (by decide),cv6.set (by decide),cv7.set (by decide),cv8.set (by decide),cv9.set (by decide),cv10.set (by decide),cv11.set (by decide),by rw[fl_set (show 0≠11 by decide)];exact hJ⟩
    ·simp at hop;subst hop;simp[Region.binds]at haf
     go_simp;exact hK _ _ ⟨I,_,_,_,_,_,_,_,_,_,_,_,_,by simp only[putAll,Act.put,List.setIfInBounds_toArray,List.set_cons_succ,List.set_cons_zero],cv0.set (by decide),Vd.same (by simp),cv2.set (by decide),cv3.set (by decide),cv4.set (by decide),cv5.set (by decide),cv6.set (by decide),cv7.set (by decide),cv8.set (by decide),cv9.set (by decide),cv10.set (by decide),cv11.set (by decide),by rw[fl_set (show 1≠11 by decide)];exact hJ⟩
    ·simp at hop;subst hop;simp[Region.binds]at haf
     obtain rfl:=(cv0.get (by simp[haf])).symm;obtain rfl:=(cv1.get (by simp[haf])).symm;go_simp;exact hK _ _ ⟨I,_,_,_,_,_,_,_,_,_,_,_,_,by simp only[putAll,Act.put,List.setIfInBounds_toArray,List.set_cons_succ,List.set_cons_zero],cv0.set (by decide),cv1.set (by decide),Vd.same (by simp),cv3.set (by decide),cv4.set (by decide),cv5.set (by decide),cv6.set (by decide),cv7.set (by decide),cv8.set (by decide),cv9.set (by decide),cv10.set (by decide),cv11.set (by decide),by rw[fl_set (show 2≠11 by decide)];exact hJ⟩
    ·simp at hop;subst hop;simp[Region.binds]at haf
     obtain rfl:=(cv2.get (by simp[haf])).symm;have hbw:=HB.out.trans (hJ.out.mono HB.out.size);have q2:=(hbw.cell (p:=⟨b2,o2+t,none⟩) hbl2).trans Q0.out;have ql:=lt_of_cell q2;go_simp;exact hK _ _ ⟨I,_,_,_,_,_,_,_,_,_,_,_,_,by simp only[putAll,Act.put,List.setIfInBounds_toArray,List.set_cons_succ,List.set_cons_zero],cv0.set (by decide),cv1.set (by decide),cv2.set (by decide),Vd.same (by simp),cv4.set (by decide),cv5.set (by decide),cv6.set (by decide),cv7.set (by decide),cv8.set (by decide),cv9.set (by decide),cv10.set (by decide),cv11.set (by decide),by rw[fl_set (show 3≠11 by decide)];exact hJ⟩
    ·simp at hop;subst hop;simp[Region.binds]at haf
     go_simp;exact hK _ _ ⟨I,_,_,_,_,_,_,_,_,_,_,_,_,by simp only[putAll,Act.put,List.setIfInBounds_toArray,List.set_cons_succ,List.set_cons_zero],cv0.set (by decide),cv1.set (by decide),cv2.set (by decide),cv3.set (by decide),Vd.same (by simp),cv5.set (by decide),cv6.set (by decide),cv7.set (by decide),cv8.set (by decide),cv9.set (by decide),cv10.set (by decide),cv11.set (by decide),by rw[fl_set (show 4≠11 by decide)];exact hJ⟩
    ·simp at hop;subst hop;simp[Region.binds]at haf
     obtain rfl:=(cv4.get (by simp[haf])).symm;have d0:W.cell? ⟨w.heap.size,0,none⟩=some (.slice (some ⟨b,o,none⟩) pn pk):=cellH ((hJ.out.block w.heap.size wl).trans HXW.out) (k:=0) rfl;have dl:=lt_of_cell d0;go_simp;exact hK _ _ ⟨I,_,_,_,_,_,_,_,_,_,_,_,_,by simp only[putAll,Act.put,List.setIfInBounds_toArray,List.set_cons_succ,List.set_cons_zero],cv0.set (by decide),cv1.set (by decide),cv2.set (by decide),cv3.set (by decide),cv4.set (by decide),Vd.same (by simp),cv6.set (by decide),cv7.set (by decide),cv8.set (by decide),cv9.set (by decide),cv10.set (by decide),cv11.set (by decide),by rw[fl_set (show 5≠11 by decide)];exact hJ⟩
    ·simp at hop;subst hop;simp[Region.binds]at haf
     go_simp;exact hK _ _ ⟨I,_,_,_,_,_,_,_,_,_,_,_,_,by simp only[putAll,Act.put,List.setIfInBounds_toArray,List.set_cons_succ,List.set_cons_zero],cv0.set (by decide),cv1.set (by decide),cv2.set (by decide),cv3.set (by decide),cv4.set (by decide),cv5.set (by decide),Vd.same (by simp),cv7.set (by decide),cv8.set (by decide),cv9.set (by decide),cv10.set (by decide),cv11.set (by decide),by rw[fl_set (show 6≠11 by decide)];exact hJ⟩
    ·simp at hop;subst hop;simp[Region.binds]at haf
     obtain rfl:=(cv5.get (by simp[haf])).symm;obtain rfl:=(cv6.get (by simp[haf])).symm;go_simp;exact hK _ _ ⟨I,_,_,_,_,_,_,_,_,_,_,_,_,by simp only[putAll,Act.put,List.setIfInBounds_toArray,List.set_cons_succ,List.set_cons_zero],cv0.set (by decide),cv1.set (by decide),cv2.set (by decide),cv3.set (by decide),cv4.set (by decide),cv5.set (by decide),cv6.set (by decide),Vd.same (by simp),cv8.set (by decide),cv9.set (by decide),cv10.set (by decide),cv11.set (by decide),by rw[fl_set (show 7≠11 by decide)];exact hJ⟩
    ·simp at hop;subst hop;simp[Region.binds]at haf
     obtain rfl:=(cv7.get (by simp[haf])).symm;have hbw:=HB.out.trans (hJ.out.mono HB.out.size);have q2:=(hbw.cell (p:=⟨b,o+t,none⟩) hbl).trans I0.out;have ql:=lt_of_cell q2;go_simp;exact hK _ _ ⟨I,_,_,_,_,_,_,_,_,_,_,_,_,by simp only[putAll,Act.put,List.setIfInBounds_toArray,List.set_cons_succ,List.set_cons_zero],cv0.set (by decide),cv1.set (by decide),cv2.set (by decide),cv3.set (by decide),cv4.set (by decide),cv5.set (by decide),cv6.set (by decide),cv7.set (by decide),Vd.same (by simp),cv9.set (by decide),cv10.set (by decide),cv11.set (by decide),by rw[fl_set (show 8≠11 by decide)];exact hJ⟩
    ·simp at hop;subst hop;simp[Region.binds]at haf
     obtain rfl:=(cv3.get (by simp[haf])).symm;obtain rfl:=(cv8.get (by simp[haf])).symm;go_simp;exact hK _ _ ⟨I,_,_,_,_,_,_,_,_,_,_,_,_,by simp only[putAll,Act.put,List.setIfInBounds_toArray,List.set_cons_succ,List.set_cons_zero],cv0.set (by decide),cv1.set (by decide),cv2.set (by decide),cv3.set (by decide),cv4.set (by decide),cv5.set (by decide),cv6.set (by decide),cv7.set (by decide),cv8.set (by decide),Vd.same (by simp),cv10.set (by decide),cv11.set (by decide),by rw[fl_set (show 9≠11 by decide)];exact hJ⟩
    ·simp at hop;subst hop;simp[Region.binds]at haf
     obtain rfl:=(cv9.get (by simp[haf])).symm;have hbw:=HB.out.trans (hJ.out.mono HB.out.size);have e0:=(hbw.cell (p:=⟨b3,o3+kn * 4,none⟩) hbl3).trans R0.out;have e1:=(hbw.cell (p:=⟨b3,o3+kn * 4+1,none⟩) hbl3).trans R1.out;have e2:=(hbw.cell (p:=⟨b3,o3+kn * 4+2,none⟩) hbl3).trans R2.out;have e3:=(hbw.cell (p:=⟨b3,o3+kn * 4+3,none⟩) hbl3).trans R3.out;have ql:=lt_of_cell e0;go_simp;exact hK _ _ ⟨I,_,_,_,_,_,_,_,_,_,_,_,_,by simp only[putAll,Act.put,List.setIfInBounds_toArray,List.set_cons_succ,List.set_cons_zero],cv0.set (by decide),cv1.set (by decide),cv2.set (by decide),cv3.set (by decide),cv4.set (by decide),cv5.set (by decide),cv6.set (by decide),cv7.set (by decide),cv8.set (by decide),cv9.set (by decide),Vd.same (by simp),cv11.set (by decide),by rw[fl_set (show 10≠11 by decide)];exact hJ⟩
    ·simp at hop;subst hop;simp[Region.binds]at haf
     have f11:=fl_no mc.new;rw[f11]at hJ;go_simp;exact hK _ _ ⟨W.heap.size,_,_,_,_,_,_,_,_,_,_,_,_,by simp only[putAll,Act.put,List.setIfInBounds_toArray,List.set_cons_succ,List.set_cons_zero],cv0.set (by decide),cv1.set (by decide),cv2.set (by decide),cv3.set (by decide),cv4.set (by decide),cv5.set (by decide),cv6.set (by decide),cv7.set (by decide),cv8.set (by decide),cv9.set (by decide),cv10.set (by decide),Vd.same (by simp),by rw[fl_got hs (by decide)];exact⟨hJ.out.alloc hJ.out.size _,fun _=>⟨heap_alloc_new W _,hJ.out.size⟩⟩⟩
   case re =>
    rintro ls a' W hall ⟨I,x47,x48,x49,x50,x51,x52,x53,x54,x55,x56,x57,x9,ha,cv0,cv1,cv2,cv3,cv4,cv5,cv6,cv7,cv8,cv9,cv10,cv11,hJ⟩ o hop;simp only[putAll,Act.put,List.setIfInBounds_toArray,List.set_cons_succ,List.set_cons_zero]at ha;subst ha;simp at hop;subst hop;obtain rfl:=(cv0.get (hall 0 (by decide))).symm;obtain rfl:=(cv1.get (hall 1 (by decide))).symm;obtain rfl:=(cv2.get (hall 2 (by decide))).symm;obtain rfl:=(cv3.get (hall 3 (by decide))).symm;obtain rfl:=(cv4.get (hall 4 (by decide))).symm;obtain rfl:=(cv5.get (hall 5 (by decide))).symm;obtain rfl:=(cv6.get (hall 6 (by decide))).symm;obtain rfl:=(cv7.get (hall 7 (by decide))).symm;obtain rfl:=(cv8.get (hall 8 (by decide))).symm;obtain rfl:=(cv9.get (hall 9 (by decide))).symm;obtain rfl:=(cv10.get (hall 10 (by decide))).symm;obtain rfl:=(cv11.get (hall 11 (by decide))).symm;rw[fl_yes (hall 11 (by decide))]at hJ;obtain⟨hbi,hIV⟩:=hJ.ob rfl;have c0:W.cell? ⟨I,0,none⟩=some (.int .i64 0):=cellH hbi (k:=0) rfl;have c1:W.cell? ⟨I,1,none⟩=some (.int .i64 0):=cellH hbi (k:=1) rfl;have c2:W.cell? ⟨I,2,none⟩=some (.int .i64 0):=cellH hbi (k:=2) rfl;have c3:W.cell? ⟨I,3,none⟩=some (.int .i64 0):=cellH hbi (k:=3) rfl;have cfz:=frozH hbi
    have cl:=lt_of_cell c0;go_simp;have hb0:=heap_setCell_same W I 0 _ _ (.int .i64 op) hbi;have hb1:=heap_setCell_same (W.setCell ⟨I,0,none⟩ (.int .i64 op)) I 1 _ _ (.int .i64 (lc:Int)) hb0;have hb2:=heap_setCell_same ((W.setCell ⟨I,0,none⟩ (.int .i64 op)).setCell ⟨I,1,none⟩ (.int .i64 (lc:Int))) I 2 _ _ (.int .i64 (rc:Int)) hb1;have hb3:=heap_setCell_same (((W.setCell ⟨I,0,none⟩ (.int .i64 op)).setCell ⟨I,1,none⟩ (.int .i64 (lc:Int))).setCell ⟨I,2,none⟩ (.int .i64 (rc:Int))) I 3 _ _ (.int .i64 val) hb2;have hO:=(((hJ.out.setCell (p:=⟨I,0,none⟩) hIV (.int .i64 op)).setCell (p:=⟨I,1,none⟩) hIV (.int .i64 (lc:Int))).setCell (p:=⟨I,2,none⟩) hIV (.int .i64 (rc:Int))).setCell (p:=⟨I,3,none⟩) hIV (.int .i64 val);obtain⟨V1,hV1⟩:∃ V1,V1=(((W.setCell ⟨I,0,none⟩ (.int .i64 op)).setCell ⟨I,1,none⟩ (.int .i64 (lc:Int))).setCell ⟨I,2,none⟩ (.int .i64 (rc:Int))).setCell ⟨I,3,none⟩ (.int .i64 val):=⟨_,rfl⟩
    rw[← hV1]at hO hb3;simp only[← hV1];have HO:=hide hO;have x0:V1.cell? ⟨w.heap.size,0,none⟩=some (.slice (some ⟨b,o,none⟩) pn pk):=cellH ((hO.block w.heap.size wl).trans HXW.out) (k:=0) rfl;have x1:V1.cell? ⟨w.heap.size,1,none⟩=some (.slice ra rn rk):=cellH ((hO.block w.heap.size wl).trans HXW.out) (k:=1) rfl;have x2:V1.cell? ⟨w.heap.size,2,none⟩=some (.slice ma mn mk):=cellH ((hO.block w.heap.size wl).trans HXW.out) (k:=2) rfl;have x3:V1.cell? ⟨w.heap.size,3,none⟩=some (.slice ba bn bk):=cellH ((hO.block w.heap.size wl).trans HXW.out) (k:=3) rfl;have xl:=lt_of_cell x0;have j0:V1.cell? ⟨I,0,none⟩=some (.int .i64 op):=cellH hb3 (k:=0) rfl;have jl:=lt_of_cell j0;have HBF:=hide (HB.out.trans (hO.mono HB.out.size));clear hb0 hb1 hb2 hb3 hO hJ hbi c0 c1 c2 c3 cfz cl hV1 hIV;rcases EOP.out with⟨n4,n5,hE⟩ | ⟨n4,hE⟩ | ⟨n4,n5,hE⟩
    ·go_wp2_with fail
     go_ret;rw[hE];exact⟨rfl,HBF.out⟩
    all_goals
     go_wp2_with (go_at_call 67;(with_reducible refine(HEM.out V1 (HX.out.below HBF.out)).mono ?_);rintro e w9 ⟨rfl,hb9⟩);go_ret;rw[hE];exact⟨rfl,HBF.out.trans (hb9.mono HBF.out.size)⟩
   -- end can7
end Go.Proofs.Ytnkfphndfijcoaa
namespace Go.Proofs.Ytnkfphndfijcoaa
open Go.RowKit
theorem wrapP {k j:Nat}(h:k=j+1) (hk:k≤1000000):wrap64 ((k:Int) - 1)=(j:Int)∧IntKind.i64.wrap ((k:Int) - 1)=(j:Int):=by
 have h1:wrap64 ((k:Int) - 1)=(j:Int):=by unfold wrap64;omega
 exact⟨h1,by rw[IntKind.wrap_i64];omega⟩
theorem vwNext_some {p:List (List Ins)}{s:Vw}{t k kn:Nat}{r:List Ins}{x:Ins}(ht:t < 3) (hr:p[t]? = some r) (hpc:s.pc[t]? = some (kn:Int)) (hx:r[kn]? = some x) :
 (vwNext p s (k * 3+t)).isSome=(vwDo s t kn k x).isSome:=by
 unfold vwNext;rw[show (k * 3+t) % 3=t by omega,show (k * 3+t) / 3=k by omega,hr,hpc];simp[hx]
theorem vwNext_end {p:List (List Ins)}{s:Vw}{t k kn:Nat}{r:List Ins}(ht:t < 3) (hr:p[t]? = some r) (hpc:s.pc[t]? = some (kn:Int)) (hx:r[kn]? = none) :
 (vwNext p s (k * 3+t)).isSome=false:=by
 unfold vwNext;rw[show (k * 3+t) % 3=t by omega,hr,hpc];simp[hx]
theorem vwNext_out {p:List (List Ins)}{s:Vw}{t k:Nat}(ht:t < 3) (hr:p[t]? = none):(vwNext p s (k * 3+t)).isSome=false:=by
 unfold vwNext;rw[show (k * 3+t) % 3=t by omega,hr];rfl
theorem l5Can_any (vp:Value) (p:List (List Ins)) (x:SV) (s:Vw) (t k:Nat) (w:World) (hp:RepP w vp p) (hx:RepVw w x s) (hok:VwOk p s) (hiv:∀ r∈p,∀ i∈r,insValid i=true) (ht:t < 3) (hk:k≤1000) (hll:∀ l∈s.ls,l.length≤1000) :
 Calls Try.prog 71 #[vp,.agg #[.slice x.p.a x.p.n x.p.cap,.slice x.r.a x.r.n x.r.cap,.slice x.m.a x.m.n x.m.cap,.slice x.b.a x.b.n x.b.cap],.int .i64 (t:Int),.int .i64 (k:Int)] w
  fun e w'=>e = .returned (.bool (vwNext p s (k * 3+t)).isSome)∧Below w.heap.size w w':=by
 obtain⟨⟨pa,pn,pk⟩,⟨ra,rn,rk⟩,⟨ma,mn,mk⟩,⟨ba,bn,bk⟩⟩:=x;obtain⟨va,vc,rfl,hc1,hc2,hc3,hp⟩:=hp.open;obtain⟨_,_,hv1,-,-,-,-⟩:=hx.pc.open;obtain⟨_,_,hv3,-,-,-,-⟩:=hx.vw.open;obtain⟨_,_,hv4,-,-⟩:=hx.ls.open;simp only[Slc.v,Value.slice.injEq]at hv1 hv3 hv4;obtain⟨rfl,hn1,rfl⟩:=hv1;obtain⟨rfl,hn3,rfl⟩:=hv3;obtain⟨rfl,hn4,rfl⟩:=hv4;have hn1':pn=p.length:=by have:=hok.lp;omega
 have hn3':mn=p.length:=by have:=hok.lv;omega
 have hn4':bn=3:=by have:=hok.ll;omega
 subst hn4';obtain⟨A0,hA0⟩:∃ A0,A0=w.alloc (.cells #[.slice pa pn pk,.slice ra rn rk,.slice ma mn mk,.slice ba 3 bk] 79):=⟨_,rfl⟩
 have HB:Hid (Below w.heap.size w A0):=hide (by rw[hA0];exact belowAlloc _ _);have wl0:w.heap.size < A0.heap.size:=by rw[hA0];simp
 have HXW0:Hid (A0.heap[w.heap.size]? = some (.cells #[.slice pa pn pk,.slice ra rn rk,.slice ma mn mk,.slice ba 3 bk] 79 (0,0))):=hide (by rw[hA0];exact heap_alloc_new w _);have hlo:decide ((t:Int) < 0)=false:=decide_eq_false (by omega);have hko:decide ((k:Int) < 0)=false:=decide_eq_false (by omega);have HA0:=hide hA0;by_cases htp:t < p.length
 ·have hge:decide (p.length≤t)=false:=decide_eq_false (by omega)
  obtain⟨r,hr⟩:=get_of_lt (xs:=p) (k:=t) htp;obtain⟨kz,hkz⟩:=get_of_lt (xs:=s.pc) (k:=t) (by rw[hok.lp];exact htp);obtain⟨hk0,hkr⟩:=hok.pc t kz r hkz hr;obtain⟨kn,rfl⟩:∃ kn:Nat,kz=kn:=⟨kz.toNat,by omega⟩
  obtain⟨b,o,rfl,hbl,i0⟩:=(show Rep IntE w (.slice pa pn pk) s.pc from hx.pc).int hkz;obtain⟨b2,o2,qa,qc,rfl,hbl2,q0,q1⟩:=hp.row hr;have i0':=(HB.out.cell (p:=⟨b,o+t,none⟩) hbl).trans i0;have il:=lt_of_cell i0';have q0':=(HB.out.cell (p:=⟨b2,o2+t,none⟩) hbl2).trans q0;have ql:=lt_of_cell q0';have a0:A0.cell? ⟨w.heap.size,0,none⟩=some (.slice (some ⟨b,o,none⟩) pn pk):=cellH HXW0.out (k:=0) rfl;have al:=lt_of_cell a0;have htn:(t:Int) < (p.length:Int):=by omega
  have htn2:(t:Int) < (pn:Int):=by omega
  have htn3:(t:Int) < (mn:Int):=by omega
  by_cases heq:kn=r.length
  ·have heq':((kn:Int)==(r.length:Int))=true:=by simp[heq]
   have heq2:decide (kn=r.length)=true:=decide_eq_true heq;have heq3:(kn==r.length)=true:=by simp[heq]
   have HR:Hid ((vwNext p s (k * 3+t)).isSome=false):=hide (vwNext_end ht hr hkz (by rw[heq];simp));generalize (vwNext p s (k * 3+t)).isSome=R at *;generalize r.length=rl at *;clear hA0 hx hp hok hn1 hn3 hn4 hn1' hn3' hr hkz q0 q1 i0 HXW0 hiv hk0 hkr heq wl0 hll;generalize p.length=n at *;go_enter Try.func71,Try.ntmps71;go_wp2_with fail;rw[← HA0.out];refine wp_region_bw (by kernel_rfl) (by kernel_rfl) ?_
   repeat (go_big_quiet_step (fail))
   refine wpQuiet_nil ?_;intro w5 hw5;go_wp2_with fail;go_ret;rw[HR.out];exact⟨rfl,HB.out.trans (hw5.mono HB.out.size)⟩
  ·have heq2:decide (kn=r.length)=false:=decide_eq_false heq
   have heq3:(kn==r.length)=false:=by simp[heq]
   have heq4:((kn:Int)==(r.length:Int))=false:=by simp;omega
   obtain⟨ins,hi⟩:=get_of_lt (xs:=r) (k:=kn) (by omega);obtain⟨⟨l0,l2⟩,⟨g0,g2⟩,-,-⟩:=ins_rangesR (hiv r (List.mem_of_getElem? hr) ins (List.mem_of_getElem? hi));have HN:=vwNext_some (k:=k) ht hr hkz hi;obtain⟨op,lz,rz,val⟩:=ins;simp only at l0 l2 g0 g2;obtain⟨lc,rfl⟩:∃ lc:Nat,lz=lc:=⟨lz.toNat,by omega⟩
   obtain⟨b3,o3,rfl,hbl3,r0,r1,r2,r3⟩:=q1.ins hi
   -- the view and the list
   obtain⟨vr,hvr⟩:=get_of_lt (xs:=s.vw) (k:=t) (by rw[hok.lv];exact htp);obtain⟨l,hl⟩:=get_of_lt (xs:=s.ls) (k:=lc) (by rw[hok.ll];omega);have hvo:=hok.vw vr (List.mem_of_getElem? hvr);obtain⟨vz,hvz⟩:=get_of_lt (xs:=vr) (k:=lc) (by rw[hvo.1];omega);obtain⟨hv0,hv1⟩:=hvo.2 lc vz l hvz hl;obtain⟨vn,rfl⟩:∃ vn:Nat,vz=vn:=⟨vz.toNat,by omega⟩
   obtain⟨b4,o4,ta,tc,rfl,hbl4,v0,v1⟩:=(show Rep2 IntE w (.slice ma mn mk) s.vw from hx.vw).row hvr;obtain⟨b5,o5,rfl,hbl5,v2⟩:=v1.int hvz;obtain⟨b6,o6,la,lcp,rfl,hbl6,m0,m1,-⟩:=(show RepLs w (.slice ba 3 bk) s.ls from hx.ls).row hl;have hln:=hll l (List.mem_of_getElem? hl);rw[hvo.1]at v0;have hD1:s.ls.getD lc []=l:=by rw[List.getD_eq_getElem?_getD,hl];rfl
   have hD2:(s.vw.getD t []).getD lc 0=(vn:Int):=by rw[List.getD_eq_getElem?_getD,List.getD_eq_getElem?_getD,hvr];simp[hvz]
   have VD:Hid ((vwNext p s (k * 3+t)).isSome=if op=4 then decide (k=0) else if op=1 then decide (vn≤k∧k < l.length) else if op=5 then decide (vn≤k∧∃ m,l[k]? = some m∧m.lock=false) else decide (vn < k∧k≤l.length∧∃ m,l[k - 1]? = some m∧m.lock=false)):=hide (by
    rw[HN];unfold vwDo;simp only[Int.toNat_natCast,hD1,hD2];by_cases e4:op=4
    ·rw[if_pos e4,if_pos e4]
     by_cases h:k=0 <;> simp[h]
    ·rw[if_neg e4,if_neg e4]
     by_cases e1:op=1
     ·rw[if_pos e1,if_pos e1]
      cases hm:l[k]? with
      | none=>have:=List.getElem?_eq_none_iff.1 hm;simp;omega
      | some m =>
       have:=(List.getElem?_eq_some_iff.1 hm).1;by_cases h:vn≤k
       ·simp[h,this]
       ·simp[h]
     ·rw[if_neg e1,if_neg e1]
      by_cases e5:op=5
      ·rw[if_pos e5,if_pos e5]
       cases hm:l[k]? with
       | none=>simp
       | some m =>
        by_cases h:vn≤k
        ·cases hlk:m.lock <;> simp[h,hlk]
        ·simp[h]
      ·rw[if_neg e5,if_neg e5]
       cases hm:l[k - 1]? with
       | none=>simp
       | some m =>
        by_cases h:vn < k
        ·by_cases h2:k≤l.length
         ·cases hlk:m.lock <;> simp[h,h2,hlk]
         ·simp[h2]
        ·simp[h])
   have V0:=hide v0;have V2:=hide v2;have M0:=hide m0;have M1:=hide m1;have I0:=hide i0;have Q0:=hide q0
   have R0:=hide r0;have R1:=hide r1;have R2:=hide r2;have R3:=hide r3
   generalize (vwNext p s (k * 3+t)).isSome=R at *;generalize hll2:l.length=ln at *;have HLN:=hide hll2;have hrn:(kn:Int) < (r.length:Int):=by omega
   clear hA0 hx hp hok hn1 hn3 hn4 hn1' hn3' hr hkz q0 q1 i0 hiv hk0 hkr heq wl0 hll v0 v1 v2 m0 m1 r0 r1 r2 r3 hi hl hvr hvz hvo hD1 hD2 HN hll2 hv1 hv0;generalize r.length=rl at *;generalize p.length=n at *;go_enter Try.func71,Try.ntmps71;go_wp2_with fail;rw[← HA0.out];refine wp_region_bw (by kernel_rfl) (by kernel_rfl) ?_
   repeat (go_big_quiet_step (fail))
   refine wpQuiet_nil ?_;intro W hw5;have HXW:Hid (W.heap[w.heap.size]? = some (.cells #[.slice (some ⟨b,o,none⟩) pn pk,.slice ra rn rk,.slice (some ⟨b4,o4,none⟩) mn mk,.slice (some ⟨b6,o6,none⟩) 3 bk] 79 (0,0))):=hide ((hw5.block w.heap.size al).trans HXW0.out);have HBW:=hide (HB.out.trans (hw5.mono HB.out.size));clear hw5 i0' il q0' ql a0 al HB HXW0 HA0;have c0:=cellH HXW.out (k:=0) rfl;have c2:=cellH HXW.out (k:=2) rfl;have c3:=cellH HXW.out (k:=3) rfl
   have cl:=lt_of_cell c0;have q0:=(HBW.out.cell (p:=⟨b2,o2+t,none⟩) hbl2).trans Q0.out;have ql:=lt_of_cell q0;have i0:=(HBW.out.cell (p:=⟨b,o+t,none⟩) hbl).trans I0.out;have il:=lt_of_cell i0;have r0:=(HBW.out.cell (p:=⟨b3,o3+kn * 4,none⟩) hbl3).trans R0.out;have r1:=(HBW.out.cell (p:=⟨b3,o3+kn * 4+1,none⟩) hbl3).trans R1.out;have r2:=(HBW.out.cell (p:=⟨b3,o3+kn * 4+2,none⟩) hbl3).trans R2.out;have r3:=(HBW.out.cell (p:=⟨b3,o3+kn * 4+3,none⟩) hbl3).trans R3.out;have rl3:=lt_of_cell r0;have v0:=(HBW.out.cell (p:=⟨b4,o4+t,none⟩) hbl4).trans V0.out;have vl:=lt_of_cell v0;have v2:=(HBW.out.cell (p:=⟨b5,o5+lc,none⟩) hbl5).trans V2.out;have vl2:=lt_of_cell v2;have m0:=(HBW.out.cell (p:=⟨b6,o6+lc,none⟩) hbl6).trans M0.out;have ml:=lt_of_cell m0;go_wp2_with fail
   go_region_held3 (fun V=>V.cell? ⟨w.heap.size,0,none⟩=some (.slice (some ⟨b,o,none⟩) pn pk)∧V.cell? ⟨b2,o2+t,none⟩=some (.slice (some ⟨b3,o3,none⟩) rl qc)∧V.cell? ⟨b,o+t,none⟩=some (.int .i64 (kn:Int)) ∧
    V.cell? ⟨b3,o3+kn * 4,none⟩=some (.int .i64 op)∧V.cell? ⟨b3,o3+kn * 4+1,none⟩=some (.int .i64 (lc:Int))∧V.cell? ⟨b3,o3+kn * 4+2,none⟩=some (.int .i64 rz)∧V.cell? ⟨b3,o3+kn * 4+3,none⟩=some (.int .i64 val)) ((simp[go_sem, *])) (fail)
   have BA:Hid (Below w.heap.size w (W.alloc (.cells #[.int .i64 op,.int .i64 (lc:Int),.int .i64 rz,.int .i64 val] 56)).drew):=hide (HBW.out.alloc HBW.out.size _).drew;by_cases e4:op=4
   ·rw[if_pos e4]at VD
    have g4:(op==4)=true:=by simp[e4]
    go_wp2_with fail;go_ret;refine⟨?_,by rw[← e4];exact BA.out⟩;rw[VD.out];by_cases h:k=0 <;> simp[h]
   ·rw[if_neg e4]at VD
    have g4:(op==4)=false:=by simp[e4]
    by_cases e1:op=1
    ·rw[if_pos e1]at VD
     have g1:(op==1)=true:=by simp[e1]
     rw[e1]at BA;by_cases h1:vn≤k
     ·have d1:decide (vn≤k)=true:=decide_eq_true h1
      go_wp2_with fail;refine wp_region_bw (by kernel_rfl) (by kernel_rfl) ?_
      repeat (go_big_quiet_step (fail))
      refine wpQuiet_nil ?_;intro w9 hw9;go_wp2_with fail;go_ret;refine⟨?_,BA.out.trans (hw9.mono BA.out.size)⟩;rw[VD.out];simp[h1]
     ·have d1:decide (vn≤k)=false:=decide_eq_false h1
      go_wp2_with fail;refine wp_region_bw (by kernel_rfl) (by kernel_rfl) ?_
      repeat (go_big_quiet_step (fail))
      refine wpQuiet_nil ?_;intro w9 hw9;go_wp2_with fail;go_ret;refine⟨?_,BA.out.trans (hw9.mono BA.out.size)⟩;rw[VD.out];simp[h1]
    ·rw[if_neg e1]at VD
     have g1:(op==1)=false:=by simp[e1]
     by_cases e5:op=5
     ·rw[if_pos e5]at VD
      have g5:(op==5)=true:=by simp[e5]
      rw[e5]at BA;by_cases h1:vn≤k
      ·have d1:decide (vn≤k)=true:=decide_eq_true h1
       by_cases h2:k < ln
       ·have d2:decide (k < ln)=true:=decide_eq_true h2
        have d2':(k:Int) < (ln:Int):=Int.ofNat_lt.2 h2;obtain⟨m,hm⟩:=get_of_lt (xs:=l) (k:=k) (by rw[HLN.out];exact h2);obtain⟨b7,o7,va7,vc7,hae,hbl7,-,y1,-,-⟩:=M1.out.msg hm;subst hae;have y1':=(HBW.out.cell (p:=⟨b7,o7+k * 3+1,none⟩) hbl7).trans y1;have yl:=lt_of_cell y1';clear y1;go_wp2_with fail;refine wp_region_bw (by kernel_rfl) (by kernel_rfl) ?_
        repeat (go_big_quiet_step (fail))
        refine wpQuiet_nil ?_;intro w9 hw9;go_wp2_with fail;go_ret;refine⟨?_,BA.out.trans (hw9.mono BA.out.size)⟩;rw[VD.out];cases hlk:m.lock <;> simp[h1,hm,hlk]
       ·have d2:decide (k < ln)=false:=decide_eq_false h2
        have hm:l[k]? = none:=List.getElem?_eq_none (by rw[HLN.out];omega);go_wp2_with fail;refine wp_region_bw (by kernel_rfl) (by kernel_rfl) ?_
        repeat (go_big_quiet_step (fail))
        refine wpQuiet_nil ?_;intro w9 hw9;go_wp2_with fail;go_ret;refine⟨?_,BA.out.trans (hw9.mono BA.out.size)⟩;rw[VD.out];simp[hm]
      ·have d1:decide (vn≤k)=false:=decide_eq_false h1
       go_wp2_with fail;refine wp_region_bw (by kernel_rfl) (by kernel_rfl) ?_
       repeat (go_big_quiet_step (fail))
       refine wpQuiet_nil ?_;intro w9 hw9;go_wp2_with fail;go_ret;refine⟨?_,BA.out.trans (hw9.mono BA.out.size)⟩;rw[VD.out];simp[h1]
     ·rw[if_neg e5]at VD
      have g5:(op==5)=false:=by simp[e5]
      by_cases h1:vn < k
      ·have d1:decide (vn < k)=true:=decide_eq_true h1
       by_cases h2:k≤ln
       ·have d2:decide (k≤ln)=true:=decide_eq_true h2
        obtain⟨j,hj⟩:∃ j,k=j+1:=⟨k - 1,(Nat.succ_pred_eq_of_pos (Nat.lt_of_le_of_lt (Nat.zero_le _) h1)).symm⟩
        have hjl:j < ln:=Nat.lt_of_lt_of_le (hj ▸ Nat.lt_succ_self j) h2;have d3:(j:Int) < (ln:Int):=Int.ofNat_lt.2 hjl;have d4:(0:Int)≤(j:Int):=Int.natCast_nonneg _;obtain⟨wj,wj2⟩:=wrapP hj (Nat.le_trans hk (by decide));obtain⟨m,hm⟩:=get_of_lt (xs:=l) (k:=j) (HLN.out ▸ hjl);have hm2:l[k - 1]? = some m:=by rw[hj];exact hm
        have HJ:=hide hj;clear hj;obtain⟨b7,o7,va7,vc7,hae,hbl7,-,y1,-,-⟩:=M1.out.msg hm;subst hae;have y1':=(HBW.out.cell (p:=⟨b7,o7+j * 3+1,none⟩) hbl7).trans y1;have yl:=lt_of_cell y1';clear y1;go_wp2_with fail;refine wp_region_bw (by kernel_rfl) (by kernel_rfl) ?_
        repeat (go_big_quiet_step (fail))
        refine wpQuiet_nil ?_;intro w9 hw9;go_wp2_with fail;go_ret;refine⟨?_,BA.out.trans (hw9.mono BA.out.size)⟩;rw[VD.out];cases hlk:m.lock <;> simp[h1,h2,hm2,hlk]
       ·have d2:decide (k≤ln)=false:=decide_eq_false h2
        go_wp2_with fail;refine wp_region_bw (by kernel_rfl) (by kernel_rfl) ?_
        repeat (go_big_quiet_step (fail))
        refine wpQuiet_nil ?_;intro w9 hw9;go_wp2_with fail;go_ret;refine⟨?_,BA.out.trans (hw9.mono BA.out.size)⟩;rw[VD.out];simp[h2]
      ·have d1:decide (vn < k)=false:=decide_eq_false h1
       go_wp2_with fail;refine wp_region_bw (by kernel_rfl) (by kernel_rfl) ?_
       repeat (go_big_quiet_step (fail))
       refine wpQuiet_nil ?_;intro w9 hw9;go_wp2_with fail;go_ret;refine⟨?_,BA.out.trans (hw9.mono BA.out.size)⟩;rw[VD.out];simp[h1]
 ·have HR:Hid ((vwNext p s (k * 3+t)).isSome=false):=hide (vwNext_out ht (List.getElem?_eq_none (by omega)))
  have hge:decide (p.length≤t)=true:=decide_eq_true (by omega);generalize (vwNext p s (k * 3+t)).isSome=R at *;clear hA0 hx hp hok hn1 hn3 hn4 hn1' hn3' HXW0 hiv wl0 hll;generalize p.length=n at *;go_enter Try.func71,Try.ntmps71;go_wp2_with fail;rw[← HA0.out];refine wp_region_bw (by kernel_rfl) (by kernel_rfl) ?_
  repeat (go_big_quiet_step (fail))
  refine wpQuiet_nil ?_;intro w5 hw5;go_wp2_with fail;go_ret;rw[HR.out];exact⟨rfl,HB.out.trans (hw5.mono HB.out.size)⟩
end Go.Proofs.Ytnkfphndfijcoaa
namespace Go.Proofs.Ytnkfphndfijcoaa
open Go.RowKit
def chTo (p:List (List Ins)) (s:Vw) (m:Nat):List Int:=((List.range m).filter fun c=>(vwNext p s c).isSome).map Int.ofNat
def vwCh (p:List (List Ins)) (s:Vw):List Int:=chTo p s (3 * mostL s.ls)
theorem chTo_succ (p:List (List Ins)) (s:Vw) (m:Nat):chTo p s (m+1)=chTo p s m++if (vwNext p s m).isSome=true then [(m:Int)] else []:=by
 unfold chTo;rw[List.range_succ,List.filter_append,List.map_append]
 congr 1
 by_cases h:(vwNext p s m).isSome=true <;> simp[h]
theorem chTo_len (p:List (List Ins)) (s:Vw) (m:Nat):(chTo p s m).length≤m:=by
 unfold chTo;rw[List.length_map];exact Nat.le_trans (List.length_filter_le _ _) (by simp)
theorem mod3 (k:Nat):Int.tmod (k:Int) 3=((k % 3:Nat):Int):=by rw[Int.tmod_eq_emod_of_nonneg (by omega)];omega
theorem div3 (k:Nat):Int.tdiv (k:Int) 3=((k / 3:Nat):Int):=by rw[Int.tdiv_eq_ediv_of_nonneg (by omega)];omega
theorem l5Choices_any (vp:Value) (p:List (List Ins)) (x:SV) (s:Vw) (w:World) (hp:RepP w vp p) (hx:RepVw w x s) (hok:VwOk p s) (hiv:∀ r∈p,∀ i∈r,insValid i=true) (hll:∀ l∈s.ls,l.length≤1000) :
 Calls Try.prog 53 #[vp,.agg #[.slice x.p.a x.p.n x.p.cap,.slice x.r.a x.r.n x.r.cap,.slice x.m.a x.m.n x.m.cap,.slice x.b.a x.b.n x.b.cap]] w (RetOwn IntE 3 w (vwCh p s)):=by
 have HM:=hide (fun W (h:RepVw W x s)=>l5Most_any x s W h (by rw[hok.ll];decide) hll);have HC:=hide (fun W c (h1:RepP W vp p) (h2:RepVw W x s) (hc:c < 3 * mostL s.ls)=>l5Can_any vp p x s (c % 3) (c / 3) W h1 h2 hok hiv (Nat.mod_lt _ (by decide)) (by
  have:=mostL_le (B:=1000) s.ls 1 (by omega) hll;unfold mostL at hc;omega) hll)
 have HML:mostL s.ls≤1001:=mostL_le (B:=1000) s.ls 1 (by omega) hll;have HP:=hide hp;have HX:=hide hx
 have HV:Hid (vwCh p s=chTo p s (3 * mostL s.ls)):=hide rfl;have HCS:=hide (chTo_succ p s);have HCN:=hide (chTo_len p s);obtain⟨⟨pa,pn,pk⟩,⟨ra,rn,rk⟩,⟨ma,mn,mk⟩,⟨ba,bn,bk⟩⟩:=x;obtain⟨A0,hA0⟩:∃ A0,A0=w.alloc (.cells #[.slice pa pn pk,.slice ra rn rk,.slice ma mn mk,.slice ba bn bk] 79):=⟨_,rfl⟩
 have HB:Hid (Below w.heap.size w A0):=hide (by rw[hA0];exact belowAlloc _ _);have hz:A0.heap.size=w.heap.size+1:=by rw[hA0];simp
 have HX2:Hid (A0.heap[w.heap.size]? = some (.cells #[.slice pa pn pk,.slice ra rn rk,.slice ma mn mk,.slice ba bn bk] 79 (0,0))):=hide (by rw[hA0];exact heap_alloc_new w _);have HA0:=hide hA0;have OE:=hide (Own.empty (E:=IntE) 3 A0 (Nat.le_refl _));have OB:=hide (belowAlloc A0 (.cells #[] 3));clear hA0 hp hx hok hiv hll;generalize mostL s.ls=M at *;go_enter Try.func53,Try.ntmps53;go_wp2_with fail;rw[← HA0.out]
 go_loopw [5,6] (fun v i wr => ∃ k:Nat,k≤3 * M∧i = .int .i64 k∧Own IntE 3 wr A0.heap.size v (chTo p s k)∧Below A0.heap.size A0 wr) (fun _ i _=>3 * M - (intOf i).toNat)
 case atStart=>exact⟨0,Nat.zero_le _,rfl,by rw[← hz];exact OE.out,OB.out⟩
 case round =>
  obtain⟨k,hk,rfl,ho,hb⟩:=hrel;have hbw:=HB.out.trans (hb.mono HB.out.size);have hbx:=(hb.block w.heap.size (by omega)).trans HX2.out;have d0:=cellH hbx (k:=0) rfl;have d1:=cellH hbx (k:=1) rfl;have d2:=cellH hbx (k:=2) rfl;have d3:=cellH hbx (k:=3) rfl
  have dl:=lt_of_cell d0;have HO:=hide ho;have HBR:=hide hb;have HBW:=hide hbw
  clear ho hb hbw hbx;go_wp2_with fail
  (with_reducible refine(HM.out _ (HX.out.below HBW.out)).mono ?_);rintro e w1 ⟨rfl,hb1⟩
  have hbx1:=(hb1.block w.heap.size dl).trans ((HBR.out.block w.heap.size (by omega)).trans HX2.out);have e0:=cellH hbx1 (k:=0) rfl;have e1:=cellH hbx1 (k:=1) rfl;have e2:=cellH hbx1 (k:=2) rfl;have e3:=cellH hbx1 (k:=3) rfl
  have el:=lt_of_cell e0;have HO1:=hide (HO.out.below hb1);have HBR1:=hide (HBR.out.trans (hb1.mono HBR.out.size));have HBW1:=hide (HBW.out.trans (hb1.mono HBW.out.size))
  have hw3:IntKind.i64.wrap (3 * (M:Int))=((3 * M:Nat):Int):=by rw[IntKind.wrap_i64];omega
  clear hb1 hbx1 d0 d1 d2 d3;by_cases hlt:k < 3 * M
  ·have hlt':decide ((k:Int) < ((3 * M:Nat):Int))=true:=decide_eq_true (Int.ofNat_lt.2 hlt)
   obtain⟨a,ha⟩:∃ a,k % 3=a:=⟨_,rfl⟩
   obtain⟨q,hq⟩:∃ q,k / 3=q:=⟨_,rfl⟩
   have hm3:Int.tmod (k:Int) 3=(a:Int):=by rw[mod3,ha]
   have hd3:Int.tdiv (k:Int) 3=(q:Int):=by rw[div3,hq]
   have ha3:a < 3:=ha ▸ Nat.mod_lt k (by decide);have hq3:q≤3003:=hq ▸ Nat.le_trans (Nat.div_le_self k 3) (Nat.le_trans hk (Nat.mul_le_mul_left 3 HML));obtain⟨wm1,wm2⟩:=wrapN (j:=a) (Nat.le_trans (Nat.le_of_lt ha3) (by decide));obtain⟨wd1,wd2⟩:=wrapN (j:=q) (Nat.le_trans hq3 (by decide));have hcall:=HC.out w1 k (HP.out.below HBW1.out) (HX.out.below HBW1.out) hlt;rw[Nat.div_add_mod' k 3,ha,hq]at hcall;clear ha hq;have RS:=HCS.out k;have hlen:=HCN.out k;have hcl:(chTo p s k).length≤68719476736:=Nat.le_trans hlen (Nat.le_trans hk (Nat.le_trans (Nat.mul_le_mul_left 3 HML) (by decide)));generalize (vwNext p s k).isSome=R at *;have HCALL:=hide hcall;have HRS:=hide RS
   clear hcall RS hlen;generalize chTo p s k=PP at *;go_wp2_with fail
   (with_reducible refine HCALL.out.mono ?_);rintro e w2 ⟨rfl,hb2⟩
   have HO2:=hide (HO1.out.below hb2);have HBR2:=hide (HBR1.out.trans (hb2.mono HBR1.out.size))
   have hbs2:=HBR2.out.size;clear hb2 HO HO1 HBR HBR1 HBW HBW1 e0 e1 e2 e3 el;cases R
   ·have RS:Hid (chTo p s (k+1)=PP):=hide (by rw[HRS.out];simp)
    go_wp2_with fail;go_roundw
    case rel=>exact⟨k+1,hlt,by go_num,by rw[RS.out];exact HO2.out,HBR2.out⟩
    case measure=>simp[intOf];omega
   ·have RS:Hid (chTo p s (k+1)=PP++[(k:Int)]):=hide (by rw[HRS.out];simp)
    go_wp2_with (at_builtin;refine wpList_app IntE 3 Try.infoInt rfl Try.underlying34 A0.heap.size _ PP (k:Int) (HO2.out.alloc _) (by decide) hcl (by simp;omega) rfl _ _ rfl rfl _ 0 1 rfl news_alloc ?_;intro v6 w6 hown6 hgr6;have O6:=hide hown6;have B6:=hide (below_app HBR2.out HO2.out hgr6);clear hown6 hgr6);go_roundw
    case rel=>exact⟨k+1,hlt,by go_num,by rw[RS.out];exact O6.out,B6.out⟩
    case measure=>simp[intOf];omega
  ·have hlt':decide ((k:Int) < ((3 * M:Nat):Int))=false:=decide_eq_false (fun h=>hlt (Int.ofNat_lt.1 h))
   have E:Hid (chTo p s k=vwCh p s):=hide (by rw[HV.out,Nat.le_antisymm hk (Nat.le_of_not_lt hlt)]);go_wp2_with fail;go_ret;rw[← E.out];exact⟨_,rfl,HO1.out.mono HB.out.size,HBW1.out⟩
end Go.Proofs.Ytnkfphndfijcoaa
namespace Go.Proofs.Ytnkfphndfijcoaa
open Go.RowKit
abbrev Ix:=Nat × Nat × Nat
structure Fam (w:World) (base:Nat) (f:Ix→Option (Slc × List Int)):Prop where
 own:∀ i u r,f i=some (u,r)→Own IntE 3 w base u.v r
 far:∀ i j u r v q,f i=some (u,r)→f j=some (v,q)→i≠j→∀ g,u.v.ownBlock=some g→v.v.ownBlock≠some g
theorem Fam.below {w w':World}{base:Nat}{f:Ix→Option (Slc × List Int)}(h:Fam w base f) (hb:Below w.heap.size w w'):Fam w' base f:=
 ⟨fun i u r hi=>(h.own i u r hi).below hb,h.far⟩
theorem Own.setFarV {α:Type}{E:El α}{T:TypeId}{w:World}{base g:Nat}{v:Value}{xs:List α}(h:Own E T w base v xs) (hg:v.ownBlock≠some g) (j:Nat) (u:Value):Own E T (w.setCell ⟨g,j,none⟩ u) base v xs:=
 h.sameT fun q hq=>heap_setCell_other w ⟨g,j,none⟩ q u (show q≠g from fun e=>hg (by rw[hq,e]))
theorem Fam.set {w:World}{base:Nat}{f f':Ix→Option (Slc × List Int)}(h:Fam w base f) {ix:Ix}{g n c:Nat}{r:List Int}(hi:f ix=some (⟨some ⟨g,0,none⟩,n,c⟩,r)) {k:Nat}(hk:k < r.length) (z:Int)
 (hf:f' ix=some (⟨some ⟨g,0,none⟩,n,c⟩,r.set k z)) (hf2:∀ j,j≠ix→f' j=f j):Fam (w.setCell ⟨g,k,none⟩ (.int .i64 z)) base f':=by
 refine⟨fun i u q hq => ?_,fun i j u q v q' h1 h2 hij => ?_⟩
 ·by_cases e:i=ix
  ·subst e
   rw[hf]at hq;cases hq;obtain⟨y,hy⟩:=get_of_lt hk;exact Own.setInt (h.own _ _ _ hi) hy z
  ·rw[hf2 i e]at hq
   exact(h.own i u q hq).setFarV (h.far ix i _ _ _ _ hi hq (Ne.symm e) g rfl) _ _
 ·have key:∀ (i:Ix) (u:Slc) (q:List Int),f' i=some (u,q)→∃ q0,f i=some (u,q0):=fun i u q hq=>by
   by_cases e:i=ix
   ·subst e
    rw[hf]at hq;cases hq;exact⟨_,hi⟩
   ·rw[hf2 i e]at hq
    exact⟨_,hq⟩
  obtain⟨q0,g1⟩:=key i u q h1;obtain⟨q1,g2⟩:=key j v q' h2;exact h.far i j u q0 v q1 g1 g2 hij
def famOf (x:SV) (us:List Slc) (ms:List (List MV)) (s:Vw):Ix→Option (Slc × List Int)
 | (0,0,0)=>some (x.p,s.pc)
 | (1,0,0)=>some (x.r,s.rg)
 | (2,i,0)=>(us[i]?).bind fun u=>(s.vw[i]?).map fun v=>(u,v)
 | (3,i,k)=>((ms[i]?).bind fun mr=>mr[k]?).bind fun m=>((s.ls[i]?).bind fun l=>l[k]?).map fun g=>(m.s,g.view)
 | _=>none
structure OwnVw (w:World) (base:Nat) (x:SV) (s:Vw) (us lu:List Slc) (ms:List (List MV)):Prop where
 fam:Fam w base (famOf x us ms s)
 hv:Own SlcE 34 w base x.m.v us
 hl:Own SlcE 102 w base x.b.v lu
 lv:us.length=s.vw.length
 ll:lu.length=s.ls.length
 lm:ms.length=s.ls.length
 hm:∀ (i:Nat) (u:Slc) (mr:List MV),lu[i]? = some u→ms[i]? = some mr→Own MgE 101 w base u.v mr
 mv:∀ (i:Nat) (mr:List MV) (l:List Mg),ms[i]? = some mr→s.ls[i]? = some l→mr.length=l.length∧∀ (k:Nat) (m:MV) (g:Mg),mr[k]? = some m→l[k]? = some g→m.val=g.val∧m.lock=g.lock
 mf:∀ (i j:Nat) (u v:Slc),lu[i]? = some u→lu[j]? = some v→i≠j→∀ g,u.v.ownBlock=some g→v.v.ownBlock≠some g
theorem OwnVw.below {w w':World}{base:Nat}{x:SV}{s:Vw}{us lu:List Slc}{ms:List (List MV)}(h:OwnVw w base x s us lu ms) (hb:Below w.heap.size w w'):OwnVw w' base x s us lu ms:=
 ⟨h.fam.below hb,h.hv.below hb,h.hl.below hb,h.lv,h.ll,h.lm,fun i u mr h1 h2=>(h.hm i u mr h1 h2).below hb,h.mv,h.mf⟩
theorem OwnVw.rep {w:World}{base:Nat}{x:SV}{s:Vw}{us lu:List Slc}{ms:List (List MV)}(h:OwnVw w base x s us lu ms):RepVw w x s:=by
 refine⟨(h.fam.own (0,0,0) _ _ rfl).rep,(h.fam.own (1,0,0) _ _ rfl).rep,⟨us,h.lv,h.hv.rep,fun i u r hu hr => ?_⟩,⟨lu,h.ll,h.hl.rep,fun i u l hu hl => ?_⟩⟩
 ·exact(h.fam.own (2,i,0) u r (by simp[famOf,hu,hr])).rep
 ·obtain⟨mr,hmr⟩:=get_of_lt (xs:=ms) (k:=i) (by rw[h.lm];exact(List.getElem?_eq_some_iff.1 hl).1)
  obtain⟨e1,e2⟩:=h.mv i mr l hmr hl;refine⟨mr,e1,(h.hm i u mr hu hmr).rep,fun k m g hm hg=>⟨(e2 k m g hm hg).1,(e2 k m g hm hg).2,?_⟩⟩;exact(h.fam.own (3,i,k) m.s g.view (by simp[famOf,hmr,hm,hl,hg])).rep
theorem OwnVw.setRow {w:World}{base:Nat}{x:SV}{s s':Vw}{us lu:List Slc}{ms:List (List MV)}(h:OwnVw w base x s us lu ms) {ix:Ix}{g n c:Nat}{r:List Int}(hi:famOf x us ms s ix=some (⟨some ⟨g,0,none⟩,n,c⟩,r)) {k:Nat}(hk:k < r.length) (z:Int)
 (hf:famOf x us ms s' ix=some (⟨some ⟨g,0,none⟩,n,c⟩,r.set k z)) (hf2:∀ j,j≠ix→famOf x us ms s' j=famOf x us ms s j) (lv:s'.vw.length=s.vw.length) (ll:s'.ls.length=s.ls.length)
 (hms:∀ (i:Nat) (l':List Mg),s'.ls[i]? = some l'→∃ l,s.ls[i]? = some l∧l'.length=l.length∧∀ (k:Nat) (g':Mg),l'[k]? = some g'→∃ g,l[k]? = some g∧g.val=g'.val∧g.lock=g'.lock) :
 OwnVw (w.setCell ⟨g,k,none⟩ (.int .i64 z)) base x s' us lu ms:=by
 obtain⟨a,ha⟩:=(h.fam.own _ _ _ hi).typeT (g:=g) rfl;refine⟨h.fam.set hi hk z hf hf2,h.hv.setOther (by decide) ha,h.hl.setOther (by decide) ha,by rw[lv];exact h.lv,by rw[ll];exact h.ll,by rw[ll];exact h.lm,fun i u mr h1 h2=>(h.hm i u mr h1 h2).setOther (by decide) ha,fun i mr l' h1 h2 => ?_,h.mf⟩;obtain⟨l,g1,g2,g3⟩:=hms i l' h2;obtain⟨e1,e2⟩:=h.mv i mr l h1 g1;refine⟨by rw[e1,g2],fun k m g' hm hg' => ?_⟩;obtain⟨g,k1,k2,k3⟩:=g3 k g' hg';obtain⟨q1,q2⟩:=e2 k m g hm k1;exact⟨q1.trans k2,q2.trans k3⟩
end Go.Proofs.Ytnkfphndfijcoaa
namespace Go.Proofs.Ytnkfphndfijcoaa
open Go.RowKit
theorem l4Do_s (vp:Value) (p:List (List Ins)) (x:SV) (s:St) (t kn lc rc:Nat) (op val:Int) (r:List Ins) (w:World) (hp:RepP w vp p) (hx:RepSt w x s) (hpc:s.pc[t]? = some (kn:Int)) (hrow:p[t]? = some r) (hins:r[kn]? = some ⟨op,lc,rc,val⟩)
 (split:Bool) (hop:op=5∨op=4) (s2:St) (hdo:∀ W,RepP W vp p→RepSt W x s→Calls Try.prog 43 #[vp,.agg #[.slice x.p.a x.p.n x.p.cap,.slice x.r.a x.r.n x.r.cap,.slice x.m.a x.m.n x.m.cap,.slice x.b.a x.b.n x.b.cap],.int .i64 (t:Int)] W (RetSt W s2)) (ht:t≤2) (hlc:lc≤2) (hrc:rc≤2) (h1:s.pc.length≤1000) (h2:s.rg.length=s.pc.length * 3) (h3:s.mm.length=3) (h4:s.bf.length≤100) (h5:∀ o∈s.bf,o.length≤1000) (hrl:r.length≤1000) :
 Calls Try.prog 48 #[vp,.agg #[.slice x.p.a x.p.n x.p.cap,.slice x.r.a x.r.n x.r.cap,.slice x.m.a x.m.n x.m.cap,.slice x.b.a x.b.n x.b.cap],.bool split,.int .i64 (t:Int)] w
  (RetSt w s2):=by
 obtain⟨⟨pa,pn,pk⟩,⟨ra,rn,rk⟩,⟨ma,mn,mk⟩,⟨ba,bn,bk⟩⟩:=x;obtain⟨va,vc,rfl,hc1,hc2,hc3,hp⟩:=hp.open;obtain⟨b2,o2,qa,qc,rfl,hbl2,q0,q1⟩:=hp.row hrow;obtain⟨b3,o3,rfl,hbl3,r0,r1,r2,r3⟩:=q1.ins hins;have hpt:=(List.getElem?_eq_some_iff.1 hrow).1;have hkr:=(List.getElem?_eq_some_iff.1 hins).1;obtain⟨_,_,hv1,-,-,-,-⟩:=hx.pc.open;obtain⟨_,_,hv3,-,-,-,-⟩:=hx.mm.open;simp only[Slc.v,Value.slice.injEq]at hv1 hv3;obtain⟨rfl,hn1,rfl⟩:=hv1;obtain⟨rfl,hn3,rfl⟩:=hv3;obtain⟨b,o,rfl,hbl,i0⟩:=(show Rep IntE w (.slice pa pn pk) s.pc from hx.pc).int hpc;obtain⟨mv,hmv⟩:=get_of_lt (xs:=s.mm) (k:=lc) (by omega);obtain⟨bm,om,rfl,hblm,m0⟩:=(show Rep IntE w (.slice ma mn mk) s.mm from hx.mm).int hmv;have htl:=(List.getElem?_eq_some_iff.1 hpc).1;obtain⟨qr,hqr⟩:∃ qr:Nat,qr=t * 3+rc:=⟨_,rfl⟩
 have HX:=hide hx;have HDO:=hide hdo;have HP:=hide hp
 have htn:¬ ((p.length:Int)≤(t:Int)):=by omega
 have e5:Hid ((op==5)=true∨((op==5)=false∧(op==4)=true)):=hide (by rcases hop with rfl | rfl <;> decide);clear hdo hop;have HREG:=hide (fun w'=>(l3Reg_M t rc w' ht hrc).mono fun e w'' ⟨h1,h2⟩=>(⟨by rw[hqr];exact h1,h2 ▸ Below.refl _ _⟩:e=Ending.returned (.int .i64 (qr:Int))∧Below w'.heap.size w' w''));have MV:Hid (s.mm.getD lc 0=mv):=hide (by rw[List.getD_eq_getElem?_getD,hmv];rfl);have hpn:(t:Int) < (pn:Int):=by omega
 have hpn2:(t:Int) < (p.length:Int):=by omega
 have hkn2:(kn:Int) < (r.length:Int):=by omega
 have hmn:(lc:Int) < (mn:Int):=by omega
 have hrg:qr < s.rg.length:=by omega
 have H1:=hide h1;have H2:=hide h2;have H3:=hide h3;have HPC:=hide htl;have HRG:=hide hrg;have HMM:=hide (show lc < s.mm.length by omega)
 have HRL:=hide hrl;have HVAL:=hide (fun w' (h:RepSt w' ⟨⟨some ⟨b,o,none⟩,pn,pk⟩,⟨ra,rn,rk⟩,⟨some ⟨bm,om,none⟩,mn,mk⟩,⟨ba,bn,bk⟩⟩ s)=>l3Value_any _ s t rc op lc val w' h ht hrc (by omega));have hknb:(kn:Int) < 1000:=by omega
 have hkw:IntKind.i64.wrap ((kn:Int)+1)=(kn:Int)+1:=wrapM (by omega) (by omega);have HCP:=hide (fun w' (h:RepSt w' ⟨⟨some ⟨b,o,none⟩,pn,pk⟩,⟨ra,rn,rk⟩,⟨some ⟨bm,om,none⟩,mn,mk⟩,⟨ba,bn,bk⟩⟩ s)=>l3Copy_any _ s w' h (by omega) (by omega) (by omega) (by omega) (fun o ho=>by have:=h5 o ho;omega));obtain⟨A0,hA0⟩:∃ A0,A0=(w.alloc (.cells #[.slice (some ⟨b,o,none⟩) pn pk,.slice ra rn rk,.slice (some ⟨bm,om,none⟩) mn mk,.slice ba bn bk] 64)).alloc (.cells #[.slice none 0 0,.slice none 0 0,.slice none 0 0,.slice none 0 0] 64):=⟨_,rfl⟩
 have hz:A0.heap.size=w.heap.size+2:=by rw[hA0];simp
 have HX2:Hid (A0.heap[w.heap.size]? = some (.cells #[.slice (some ⟨b,o,none⟩) pn pk,.slice ra rn rk,.slice (some ⟨bm,om,none⟩) mn mk,.slice ba bn bk] 64 (0,0))):=hide (by
  rw[hA0,heap_alloc_old _ _ (by simp)];exact heap_alloc_new w _)
 have HR2:Hid (A0.heap[w.heap.size+1]? = some (.cells #[.slice none 0 0,.slice none 0 0,.slice none 0 0,.slice none 0 0] 64 (0,0))):=hide (by
  have h:=heap_alloc_new (w.alloc (.cells #[.slice (some ⟨b,o,none⟩) pn pk,.slice ra rn rk,.slice (some ⟨bm,om,none⟩) mn mk,.slice ba bn bk] 64)) (.cells #[.slice none 0 0,.slice none 0 0,.slice none 0 0,.slice none 0 0] 64);rw[hA0];simpa using h)
 have HB:Hid (Below w.heap.size w A0):=hide (by rw[hA0];exact(belowAlloc w _).alloc (by simp) _);have a0:A0.cell? ⟨w.heap.size,0,none⟩=some (.slice (some ⟨b,o,none⟩) pn pk):=cellH HX2.out (k:=0) rfl;have a1:A0.cell? ⟨w.heap.size,1,none⟩=some (.slice ra rn rk):=cellH HX2.out (k:=1) rfl;have a2:A0.cell? ⟨w.heap.size,2,none⟩=some (.slice (some ⟨bm,om,none⟩) mn mk):=cellH HX2.out (k:=2) rfl;have a3:A0.cell? ⟨w.heap.size,3,none⟩=some (.slice ba bn bk):=cellH HX2.out (k:=3) rfl;have al:=lt_of_cell a0;have HA0:=hide hA0;have HT:=hide ht;have HLC:=hide hlc;have HRC:=hide hrc
 have Q0:=hide q0;have R0:=hide r0;have R1:=hide r1;have R2:=hide r2;have R3:=hide r3;have I0:=hide i0;have M0:=hide m0
 clear hqr hn1 hn3 hx hp q1 hA0 hpc hrow hins hmv h1 h2 h3 h4 h5 hrl htl hrg q0 r0 r1 r2 r3 i0 m0;go_enter Try.func48,Try.ntmps48;go_wp2_with fail;rw[← HA0.out];go_wp2_with (go_at_call 63;(with_reducible refine(HCP.out _ (HX.out.below HB.out)).mono ?_);rintro e w1 ⟨y,m,rfl,hs1,hb1⟩;have S1:=hide hs1;have B1:=hide hb1;have hsz1:=hb1.size;clear hs1 hb1);obtain⟨V,hV⟩:∃ V,V=w1.alloc (.cells #[.slice y.p.a y.p.n y.p.cap,.slice y.r.a y.r.n y.r.cap,.slice y.m.a y.m.n y.m.cap,.slice y.b.a y.b.n y.b.cap] 64):=⟨_,rfl⟩
 have BV:Hid (Below A0.heap.size A0 V):=hide (by rw[hV];exact B1.out.alloc B1.out.size _);have BO:Hid (V.heap[w1.heap.size]? = some (.cells #[.slice y.p.a y.p.n y.p.cap,.slice y.r.a y.r.n y.r.cap,.slice y.m.a y.m.n y.m.cap,.slice y.b.a y.b.n y.b.cap] 64 (0,0))):=hide (by rw[hV];exact heap_alloc_new w1 _);have S2:Hid (OwnSt V (w.heap.size+2) m y s):=hide (by have h:=S1.out.below (belowAlloc w1 (.cells #[.slice y.p.a y.p.n y.p.cap,.slice y.r.a y.r.n y.r.cap,.slice y.m.a y.m.n y.m.cap,.slice y.b.a y.b.n y.b.cap] 64));rw[hz]at h;rw[hV];exact h);have hzV:V.heap.size=w1.heap.size+1:=by rw[hV];simp
 have hmO:Hid (m≤w1.heap.size):=hide S1.out.lh;have HV:=hide hV;rw[← hV];clear hV S1 B1;have hnt2:decide (p.length≤t)=false:=decide_eq_false (by omega)
 try simp only[hnt2]
 clear hnt2
 -- reg r7s
 refine wp_region_inv3 (n:=12) (by kernel_rfl) rfl (by kernel_rfl) (by kernel_rfl) (fun A ls a' W => ∃ (I:Nat) (x48 x49 x50 x51 x52 x53 x54 x55 x56 x57 x58 x11:Value),a'=putAll A [(48,x48),(49,x49),(50,x50),(51,x51),(52,x52),(53,x53),(54,x54),(55,x55),(56,x56),(57,x57),(58,x58),(11,x11)]∧Vd ls 0 [] x48 (.slice (some ⟨b2,o2,none⟩) p.length vc)∧Vd ls 1 [] x49 (.int .i64 (t:Int))∧Vd ls 2 [] x50 (.pointer (some ⟨b2,o2+t,none⟩))∧Vd ls 3 [] x51 (.slice (some ⟨b3,o3,none⟩) r.length qc)∧Vd ls 4 [] x52 (.pointer (some ⟨w.heap.size,0,none⟩))∧Vd ls 5 [] x53 (.slice (some ⟨b,o,none⟩) pn pk)∧Vd ls 6 [] x54 (.int .i64 (t:Int))∧Vd ls 7 [] x55 (.pointer (some ⟨b,o+t,none⟩))∧Vd ls 8 [] x56 (.int .i64 (kn:Int))∧Vd ls 9 [] x57 (.pointer (some ⟨b3,o3+kn * 4,none⟩))∧Vd ls 10 [] x58 (.agg #[.int .i64 op,.int .i64 (lc:Int),.int .i64 (rc:Int),.int .i64 val])∧Vd ls 11 [] x11 (.pointer (some ⟨I,0,none⟩))∧JDo V (fl ls 11) I W) ?r0 ?rs ?re
 case r0 =>
  exact⟨0,undef,undef,undef,undef,undef,undef,undef,undef,undef,undef,undef,undef,by simp only[putAll,Act.put,List.setIfInBounds_toArray,List.set_cons_succ,List.set_cons_zero],Vd.start,Vd.start,Vd.start,Vd.start,Vd.start,Vd.start,Vd.start,Vd.start,Vd.start,Vd.start,Vd.start,Vd.start,by simp only[fl_start];exact⟨(Below.refl _ _).drew,fun h=>(nomatch h)⟩⟩
 case rs =>
  rintro ls a' W hs hnl ⟨I,x48,x49,x50,x51,x52,x53,x54,x55,x56,x57,x58,x11,ha,cv0,cv1,cv2,cv3,cv4,cv5,cv6,cv7,cv8,cv9,cv10,cv11,hJ⟩ k o hkn mc K hK;simp only[putAll,Act.put,List.setIfInBounds_toArray,List.set_cons_succ,List.set_cons_zero]at ha;subst ha;have hkc:k=0∨k=1∨k=2∨k=3∨k=4∨k=5∨k=6∨k=7∨k=8∨k=9∨k=10∨k=11:=by omega
  have hop:=mc.op;have haf:=mc.after;rcases hkc with rfl | rfl | rfl | rfl | rfl | rfl | rfl | rfl | rfl | rfl | rfl | rfl
  ·simp at hop;subst hop;simp[Region.binds]at haf
   go_simp;exact hK _ _ ⟨I,_,_,_,_,_,_,_,_,_,_,_,_,by simp only[putAll,Act.put,List.setIfInBounds_toArray,List.set_cons_succ,List.set_cons_zero],Vd.same (by simp),cv1.set (by decide),cv2.set (by decide),cv3.set (by decide),cv4.set (by decide),cv5.set (by decide),cv6.set (by decide),cv7.set (by decide),cv8.set (by decide),cv9.set (by decide),cv10.set (by decide),cv11.set (by decide),by rw[fl_set (show 0≠11 by decide)];exact hJ⟩
  ·simp at hop;subst hop;simp[Region.binds]at haf
   go_simp;exact hK _ _ ⟨I,_,_,_,_,_,_,_,_,_,_,_,_,by simp only[putAll,Act.put,List.setIfInBounds_toArray,List.set_cons_succ,List.set_cons_zero],cv0.set (by decide),Vd.same (by simp),cv2.set (by decide),cv3.set (by decide),cv4.set (by decide),cv5.set (by decide),cv6.set (by decide),cv7.set (by decide),cv8.set (by decide),cv9.set (by decide),cv10.set (by decide),cv11.set (by decide),by rw[fl_set (show 1≠11 by decide)];exact hJ⟩
  ·simp at hop;subst hop;simp[Region.binds]at haf
   obtain rfl:=(cv0.get (by simp[haf])).symm;obtain rfl:=(cv1.get (by simp[haf])).symm;go_simp;exact hK _ _ ⟨I,_,_,_,_,_,_,_,_,_,_,_,_,by simp only[putAll,Act.put,List.setIfInBounds_toArray,List.set_cons_succ,List.set_cons_zero],cv0.set (by decide),cv1.set (by decide),Vd.same (by simp),cv3.set (by decide),cv4.set (by decide),cv5.set (by decide),cv6.set (by decide),cv7.set (by decide),cv8.set (by decide),cv9.set (by decide),cv10.set (by decide),cv11.set (by decide),by rw[fl_set (show 2≠11 by decide)];exact hJ⟩
  ·simp at hop;subst hop;simp[Region.binds]at haf
   obtain rfl:=(cv2.get (by simp[haf])).symm;have hbw:=HB.out.trans ((BV.out.trans (hJ.out.mono BV.out.size)).mono HB.out.size);have q2:=(hbw.cell (p:=⟨b2,o2+t,none⟩) hbl2).trans Q0.out;have ql:=lt_of_cell q2;go_simp;exact hK _ _ ⟨I,_,_,_,_,_,_,_,_,_,_,_,_,by simp only[putAll,Act.put,List.setIfInBounds_toArray,List.set_cons_succ,List.set_cons_zero],cv0.set (by decide),cv1.set (by decide),cv2.set (by decide),Vd.same (by simp),cv4.set (by decide),cv5.set (by decide),cv6.set (by decide),cv7.set (by decide),cv8.set (by decide),cv9.set (by decide),cv10.set (by decide),cv11.set (by decide),by rw[fl_set (show 3≠11 by decide)];exact hJ⟩
  ·simp at hop;subst hop;simp[Region.binds]at haf
   go_simp;exact hK _ _ ⟨I,_,_,_,_,_,_,_,_,_,_,_,_,by simp only[putAll,Act.put,List.setIfInBounds_toArray,List.set_cons_succ,List.set_cons_zero],cv0.set (by decide),cv1.set (by decide),cv2.set (by decide),cv3.set (by decide),Vd.same (by simp),cv5.set (by decide),cv6.set (by decide),cv7.set (by decide),cv8.set (by decide),cv9.set (by decide),cv10.set (by decide),cv11.set (by decide),by rw[fl_set (show 4≠11 by decide)];exact hJ⟩
  ·simp at hop;subst hop;simp[Region.binds]at haf
   obtain rfl:=(cv4.get (by simp[haf])).symm;have d0:W.cell? ⟨w.heap.size,0,none⟩=some (.slice (some ⟨b,o,none⟩) pn pk):=cellH ((hJ.out.block w.heap.size (by omega)).trans ((BV.out.block w.heap.size (by omega)).trans HX2.out)) (k:=0) rfl;have dl:=lt_of_cell d0;go_simp;exact hK _ _ ⟨I,_,_,_,_,_,_,_,_,_,_,_,_,by simp only[putAll,Act.put,List.setIfInBounds_toArray,List.set_cons_succ,List.set_cons_zero],cv0.set (by decide),cv1.set (by decide),cv2.set (by decide),cv3.set (by decide),cv4.set (by decide),Vd.same (by simp),cv6.set (by decide),cv7.set (by decide),cv8.set (by decide),cv9.set (by decide),cv10.set (by decide),cv11.set (by decide),by rw[fl_set (show 5≠11 by decide)];exact hJ⟩
  ·simp at hop;subst hop;simp[Region.binds]at haf
   go_simp;exact hK _ _ ⟨I,_,_,_,_,_,_,_,_,_,_,_,_,by simp only[putAll,Act.put,List.setIfInBounds_toArray,List.set_cons_succ,List.set_cons_zero],cv0.set (by decide),cv1.set (by decide),cv2.set (by decide),cv3.set (by decide),cv4.set (by decide),cv5.set (by decide),Vd.same (by simp),cv7.set (by decide),cv8.set (by decide),cv9.set (by decide),cv10.set (by decide),cv11.set (by decide),by rw[fl_set (show 6≠11 by decide)];exact hJ⟩
  ·simp at hop;subst hop;simp[Region.binds]at haf
   obtain rfl:=(cv5.get (by simp[haf])).symm;obtain rfl:=(cv6.get (by simp[haf])).symm;go_simp;exact hK _ _ ⟨I,_,_,_,_,_,_,_,_,_,_,_,_,by simp only[putAll,Act.put,List.setIfInBounds_toArray,List.set_cons_succ,List.set_cons_zero],cv0.set (by decide),cv1.set (by decide),cv2.set (by decide),cv3.set (by decide),cv4.set (by decide),cv5.set (by decide),cv6.set (by decide),Vd.same (by simp),cv8.set (by decide),cv9.set (by decide),cv10.set (by decide),cv11.set (by decide),by rw[fl_set (show 7≠11 by decide)];exact hJ⟩
  ·simp at hop;subst hop;simp[Region.binds]at haf
   obtain rfl:=(cv7.get (by simp[haf])).symm;have hbw:=HB.out.trans ((BV.out.trans (hJ.out.mono BV.out.size)).mono HB.out.size);have q2:=(hbw.cell (p:=⟨b,o+t,none⟩) hbl).trans I0.out;have ql:=lt_of_cell q2;go_simp;exact hK _ _ ⟨I,_,_,_,_,_,_,_,_,_,_,_,_,by simp only[putAll,Act.put,List.setIfInBounds_toArray,List.set_cons_succ,List.set_cons_zero],cv0.set (by decide),cv1.set (by decide),cv2.set (by decide),cv3.set (by decide),cv4.set (by decide),cv5.set (by decide),cv6.set (by decide),cv7.set (by decide),Vd.same (by simp),cv9.set (by decide),cv10.set (by decide),cv11.set (by decide),by rw[fl_set (show 8≠11 by decide)];exact hJ⟩
  ·simp at hop;subst hop;simp[Region.binds]at haf
   obtain rfl:=(cv3.get (by simp[haf])).symm;obtain rfl:=(cv8.get (by simp[haf])).symm;go_simp;exact hK _ _ ⟨I,_,_,_,_,_,_,_,_,_,_,_,_,by simp only[putAll,Act.put,List.setIfInBounds_toArray,List.set_cons_succ,List.set_cons_zero],cv0.set (by decide),cv1.set (by decide),cv2.set (by decide),cv3.set (by decide),cv4.set (by decide),cv5.set (by decide),cv6.set (by decide),cv7.set (by decide),cv8.set (by decide),Vd.same (by simp),cv10.set (by decide),cv11.set (by decide),by rw[fl_set (show 9≠11 by decide)];exact hJ⟩
  ·simp at hop;subst hop;simp[Region.binds]at haf
   obtain rfl:=(cv9.get (by simp[haf])).symm;have hbw:=HB.out.trans ((BV.out.trans (hJ.out.mono BV.out.size)).mono HB.out.size);have e0:=(hbw.cell (p:=⟨b3,o3+kn * 4,none⟩) hbl3).trans R0.out;have e1:=(hbw.cell (p:=⟨b3,o3+kn * 4+1,none⟩) hbl3).trans R1.out;have e2:=(hbw.cell (p:=⟨b3,o3+kn * 4+2,none⟩) hbl3).trans R2.out;have e3:=(hbw.cell (p:=⟨b3,o3+kn * 4+3,none⟩) hbl3).trans R3.out;have ql:=lt_of_cell e0;go_simp;exact hK _ _ ⟨I,_,_,_,_,_,_,_,_,_,_,_,_,by simp only[putAll,Act.put,List.setIfInBounds_toArray,List.set_cons_succ,List.set_cons_zero],cv0.set (by decide),cv1.set (by decide),cv2.set (by decide),cv3.set (by decide),cv4.set (by decide),cv5.set (by decide),cv6.set (by decide),cv7.set (by decide),cv8.set (by decide),cv9.set (by decide),Vd.same (by simp),cv11.set (by decide),by rw[fl_set (show 10≠11 by decide)];exact hJ⟩
  ·simp at hop;subst hop;simp[Region.binds]at haf
   have f11:=fl_no mc.new;rw[f11]at hJ;go_simp;exact hK _ _ ⟨W.heap.size,_,_,_,_,_,_,_,_,_,_,_,_,by simp only[putAll,Act.put,List.setIfInBounds_toArray,List.set_cons_succ,List.set_cons_zero],cv0.set (by decide),cv1.set (by decide),cv2.set (by decide),cv3.set (by decide),cv4.set (by decide),cv5.set (by decide),cv6.set (by decide),cv7.set (by decide),cv8.set (by decide),cv9.set (by decide),cv10.set (by decide),Vd.same (by simp),by rw[fl_got hs (by decide)];exact⟨hJ.out.alloc hJ.out.size _,fun _=>⟨heap_alloc_new W _,hJ.out.size⟩⟩⟩
 case re =>
  rintro ls a' W hall ⟨I,x48,x49,x50,x51,x52,x53,x54,x55,x56,x57,x58,x11,ha,cv0,cv1,cv2,cv3,cv4,cv5,cv6,cv7,cv8,cv9,cv10,cv11,hJ⟩ o hop;simp only[putAll,Act.put,List.setIfInBounds_toArray,List.set_cons_succ,List.set_cons_zero]at ha;subst ha;simp at hop;subst hop;obtain rfl:=(cv0.get (hall 0 (by decide))).symm;obtain rfl:=(cv1.get (hall 1 (by decide))).symm;obtain rfl:=(cv2.get (hall 2 (by decide))).symm;obtain rfl:=(cv3.get (hall 3 (by decide))).symm;obtain rfl:=(cv4.get (hall 4 (by decide))).symm;obtain rfl:=(cv5.get (hall 5 (by decide))).symm;obtain rfl:=(cv6.get (hall 6 (by decide))).symm;obtain rfl:=(cv7.get (hall 7 (by decide))).symm;obtain rfl:=(cv8.get (hall 8 (by decide))).symm;obtain rfl:=(cv9.get (hall 9 (by decide))).symm;obtain rfl:=(cv10.get (hall 10 (by decide))).symm;obtain rfl:=(cv11.get (hall 11 (by decide))).symm;rw[fl_yes (hall 11 (by decide))]at hJ;obtain⟨hbi,hIV⟩:=hJ.ob rfl;have c0:W.cell? ⟨I,0,none⟩=some (.int .i64 0):=cellH hbi (k:=0) rfl;have c1:W.cell? ⟨I,1,none⟩=some (.int .i64 0):=cellH hbi (k:=1) rfl;have c2:W.cell? ⟨I,2,none⟩=some (.int .i64 0):=cellH hbi (k:=2) rfl;have c3:W.cell? ⟨I,3,none⟩=some (.int .i64 0):=cellH hbi (k:=3) rfl;have cfz:=frozH hbi
  have cl:=lt_of_cell c0;go_simp;have hb0:=heap_setCell_same W I 0 _ _ (.int .i64 op) hbi;have hb1:=heap_setCell_same (W.setCell ⟨I,0,none⟩ (.int .i64 op)) I 1 _ _ (.int .i64 (lc:Int)) hb0;have hb2:=heap_setCell_same ((W.setCell ⟨I,0,none⟩ (.int .i64 op)).setCell ⟨I,1,none⟩ (.int .i64 (lc:Int))) I 2 _ _ (.int .i64 (rc:Int)) hb1;have hb3:=heap_setCell_same (((W.setCell ⟨I,0,none⟩ (.int .i64 op)).setCell ⟨I,1,none⟩ (.int .i64 (lc:Int))).setCell ⟨I,2,none⟩ (.int .i64 (rc:Int))) I 3 _ _ (.int .i64 val) hb2;have hO:=(((hJ.out.setCell (p:=⟨I,0,none⟩) hIV (.int .i64 op)).setCell (p:=⟨I,1,none⟩) hIV (.int .i64 (lc:Int))).setCell (p:=⟨I,2,none⟩) hIV (.int .i64 (rc:Int))).setCell (p:=⟨I,3,none⟩) hIV (.int .i64 val)
  have HD1:=hide (DoS.mk (w:=w) (O:=w1.heap.size) (I:=I) (m:=m) (xs:=[.slice (some ⟨b,o,none⟩) pn pk,.slice ra rn rk,.slice (some ⟨bm,om,none⟩) mn mk,.slice ba bn bk]) (y:=y) (i:=[.int .i64 op,.int .i64 (lc:Int),.int .i64 (rc:Int),.int .i64 val]) (s:=s) ((hO.block w.heap.size (by omega)).trans ((BV.out.block w.heap.size (by omega)).trans HX2.out)) ((hO.block (w.heap.size+1) (by omega)).trans ((BV.out.block (w.heap.size+1) (by omega)).trans HR2.out)) ((hO.block w1.heap.size (by omega)).trans BO.out) hb3 (S2.out.below hO) (HB.out.trans ((BV.out.trans (hO.mono BV.out.size)).mono HB.out.size)) (by omega) (by omega) hmO.out);obtain⟨V1,hV1⟩:∃ V1,V1=(((W.setCell ⟨I,0,none⟩ (.int .i64 op)).setCell ⟨I,1,none⟩ (.int .i64 (lc:Int))).setCell ⟨I,2,none⟩ (.int .i64 (rc:Int))).setCell ⟨I,3,none⟩ (.int .i64 val):=⟨_,rfl⟩
  rw[← hV1]at HD1;simp only[← hV1];clear hb0 hb1 hb2 hb3 hO hJ hbi c0 c1 c2 c3 cfz cl hV1 a0 a1 a2 a3 al hIV;have j0:V1.cell? ⟨I,0,none⟩=some (.int .i64 op):=cellH HD1.out.bi (k:=0) rfl;have j1:V1.cell? ⟨I,1,none⟩=some (.int .i64 (lc:Int)):=cellH HD1.out.bi (k:=1) rfl;have j2:V1.cell? ⟨I,2,none⟩=some (.int .i64 (rc:Int)):=cellH HD1.out.bi (k:=2) rfl;have j3:V1.cell? ⟨I,3,none⟩=some (.int .i64 val):=cellH HD1.out.bi (k:=3) rfl;have jl:=lt_of_cell j0;have x0:V1.cell? ⟨w.heap.size,0,none⟩=some (.slice (some ⟨b,o,none⟩) pn pk):=cellH HD1.out.bx (k:=0) rfl;have x1:V1.cell? ⟨w.heap.size,1,none⟩=some (.slice ra rn rk):=cellH HD1.out.bx (k:=1) rfl;have x2:V1.cell? ⟨w.heap.size,2,none⟩=some (.slice (some ⟨bm,om,none⟩) mn mk):=cellH HD1.out.bx (k:=2) rfl;have x3:V1.cell? ⟨w.heap.size,3,none⟩=some (.slice ba bn bk):=cellH HD1.out.bx (k:=3) rfl;have xl:=lt_of_cell x0;have HR:=hide HD1.out.br;have TR:Hid (∀ W,Below V1.heap.size V1 W→TyB 64 W (w.heap.size+1)):=hide fun W hW=>⟨_,(hW.block _ (Array.getElem?_eq_some_iff.1 HD1.out.br).1).trans HD1.out.br⟩
  have HDD:=hide (HDO.out V1 (HP.out.below HD1.out.bl) (HX.out.below HD1.out.bl));have hz1:w.heap.size≤V1.heap.size:=HD1.out.bl.size;have hrl:=(Array.getElem?_eq_some_iff.1 HD1.out.br).1;have HBL1:=hide HD1.out.bl;rcases e5.out with e5a | ⟨e5a,e4a⟩
  all_goals
   clear e5;go_wp2_with fail
   (with_reducible refine HDD.out.mono ?_);rintro e w5 ⟨x5,m5,rfl,hs5,hb5⟩
   have S5:=hide hs5;have B5:=hide hb5
   have hbr:=(hb5.block (w.heap.size+1) hrl).trans HR.out;have r0:w5.cell? ⟨w.heap.size+1,0,none⟩=some (.slice none 0 0):=cellH hbr (k:=0) rfl;have r1:w5.cell? ⟨w.heap.size+1,1,none⟩=some (.slice none 0 0):=cellH hbr (k:=1) rfl;have r2:w5.cell? ⟨w.heap.size+1,2,none⟩=some (.slice none 0 0):=cellH hbr (k:=2) rfl;have r3:w5.cell? ⟨w.heap.size+1,3,none⟩=some (.slice none 0 0):=cellH hbr (k:=3) rfl;have rfz:=frozH hbr;have rl5:=lt_of_cell r0;clear hs5 hb5 hbr;go_wp2_with fail;have hS:=S5.out.mono hz1;have t0:=TR.out w5 B5.out;refine bodyPost_ret (v:=.agg #[.slice x5.p.a x5.p.n x5.p.cap,.slice x5.r.a x5.r.n x5.r.cap,.slice x5.m.a x5.m.n x5.m.cap,.slice x5.b.a x5.b.n x5.b.cap]) (by simp[results,Try.results48,go_sem, *]) rfl ⟨x5,m5,rfl,?_,?_⟩
   ·exact(((hS.setT (by decide) (by decide) t0).setT (by decide) (by decide) (t0.set _ _ _)).setT (by decide) (by decide) ((t0.set _ _ _).set _ _ _)).setT (by decide) (by decide) (((t0.set _ _ _).set _ _ _).set _ _ _)
   ·exact((((HBL1.out.trans (B5.out.mono HBL1.out.size)).setCell (p:=⟨w.heap.size+1,0,none⟩) (show w.heap.size≤w.heap.size+1 by omega) _).setCell (p:=⟨w.heap.size+1,1,none⟩) (show w.heap.size≤w.heap.size+1 by omega) _).setCell (p:=⟨w.heap.size+1,2,none⟩) (show w.heap.size≤w.heap.size+1 by omega) _).setCell (p:=⟨w.heap.size+1,3,none⟩) (show w.heap.size≤w.heap.size+1 by omega) _
 -- end r7s
end Go.Proofs.Ytnkfphndfijcoaa
namespace Go.Proofs.Ytnkfphndfijcoaa
open Go.RowKit
def Vw.sv (s:Vw) (t:Nat) (r:List Int):Vw:=⟨s.pc,s.rg,s.vw.set t r,s.ls⟩
theorem famOf_sv {x:SV}{us:List Slc}{ms:List (List MV)}{s:Vw}{t:Nat}{u:Slc}{r r':List Int}(hu:us[t]? = some u) (hr:s.vw[t]? = some r) :
 famOf x us ms s (2,t,0)=some (u,r)∧famOf x us ms (s.sv t r') (2,t,0)=some (u,r')∧∀ j,j≠(2,t,0)→famOf x us ms (s.sv t r') j=famOf x us ms s j:=by
 have hl:=(List.getElem?_eq_some_iff.1 hr).1;refine⟨by simp[famOf,hu,hr],by simp[famOf,hu,Vw.sv,hl],fun j hj => ?_⟩;unfold famOf;split <;> try rfl
 rename_i i;have:t≠i:=fun e=>hj (by rw[e]);simp[Vw.sv,this]
theorem OwnVw.view {w:World}{base:Nat}{x:SV}{s:Vw}{us lu:List Slc}{ms:List (List MV)}(h:OwnVw w base x s us lu ms) {t:Nat}{r:List Int}(hr:s.vw[t]? = some r) (hn:0 < r.length) :
 ∃ gm cm g c,x.m=⟨some ⟨gm,0,none⟩,s.vw.length,cm⟩∧us[t]? = some ⟨some ⟨g,0,none⟩,r.length,c⟩∧w.cell? ⟨gm,t,none⟩=some (.slice (some ⟨g,0,none⟩) r.length c)∧base≤g ∧
  ∀ (k:Nat) (z:Int),r[k]? = some z→w.cell? ⟨g,k,none⟩=some (.int .i64 z)∧w.frozen? ⟨g,k,none⟩=false∧∀ z',OwnVw (w.setCell ⟨g,k,none⟩ (.int .i64 z')) base x (s.sv t (r.set k z')) us lu ms:=by
 obtain⟨u,hu⟩:=get_of_lt (xs:=us) (k:=t) (by rw[h.lv];exact(List.getElem?_eq_some_iff.1 hr).1);have ho:=h.fam.own (2,t,0) u r (famOf_sv (ms:=ms) (x:=x) (r':=r) hu hr).1;rcases ho.shape with⟨-,h0⟩ | ⟨g,c,hv,hb,hlt,-,-⟩
 ·rw[h0]at hn;simp at hn
 have hue:u=⟨some ⟨g,0,none⟩,r.length,c⟩:=by
  obtain⟨a,n,c'⟩:=u;simp only[Slc.v,Value.slice.injEq]at hv;obtain⟨rfl,rfl,rfl⟩:=hv;rfl
 subst hue;rcases h.hv.shape with⟨-,h0⟩ | ⟨gm,cm,hvm,-,-,-,-⟩
 ·rw[h0]at hu;simp at hu
 have hme:x.m=⟨some ⟨gm,0,none⟩,us.length,cm⟩:=by
  obtain⟨xp,xr,⟨a,n,c'⟩,xb⟩:=x;simp only[Slc.v,Value.slice.injEq]at hvm;obtain⟨rfl,rfl,rfl⟩:=hvm;rfl
 have hhv:=h.hv;rw[hme]at hhv;have hc:=hhv.cell (j:=0) hu rfl;simp only[SlcE,Nat.mul_one,Nat.add_zero]at hc;refine⟨gm,cm,g,c,by rw[hme,h.lv],hu,hc,hb,fun k z hk => ?_⟩;have hkl:=(List.getElem?_eq_some_iff.1 hk).1;have hck:=Own.cell (g:=g) (n:=r.length) (cap:=c) ho hk (j:=0) rfl;simp only[IntE,Nat.mul_one,Nat.add_zero]at hck;refine⟨hck,Own.frozen (g:=g) (n:=r.length) (cap:=c) ho k,fun z' => ?_⟩;obtain⟨f1,f2,f3⟩:=famOf_sv (ms:=ms) (x:=x) (r':=r.set k z') hu hr;exact h.setRow f1 hkl z' f2 f3 (by simp[Vw.sv]) rfl (fun i l' hl'=>⟨l',hl',rfl,fun k g' hg'=>⟨g',hg',rfl,rfl⟩⟩)
def mixL (A v:List Int) (i:Nat):List Int:=A.take i++v.drop i
theorem mixL_zero (A v:List Int):mixL A v 0=v:=by simp[mixL]
theorem mixL_all {A v:List Int}{i:Nat}(h:A.length≤i) (h2:v.length≤i):mixL A v i=A:=by
 unfold mixL;rw[List.take_of_length_le h,List.drop_eq_nil_of_le h2,List.append_nil]
theorem mixL_len {A v:List Int}(hl:A.length=v.length) (i:Nat):(mixL A v i).length=v.length:=by
 unfold mixL;rw[List.length_append,List.length_take,List.length_drop];omega
theorem mixL_get {A v:List Int}(hl:A.length=v.length) {i:Nat}(hi:i < v.length):(mixL A v i)[i]? = v[i]?:=by
 unfold mixL;rw[List.getElem?_append_right (by rw[List.length_take];omega),List.length_take,List.getElem?_drop]
 congr 1
 omega
theorem mixL_set {A v:List Int}(hl:A.length=v.length) {i:Nat}{a:Int}(ha:A[i]? = some a):(mixL A v i).set i a=mixL A v (i+1):=by
 have hi:=(List.getElem?_eq_some_iff.1 ha).1;apply List.ext_getElem?;intro j;rw[List.getElem?_set];by_cases e:i=j
 ·subst e
  rw[if_pos rfl,if_pos (by rw[mixL_len hl];omega)];unfold mixL;rw[List.getElem?_append_left (by rw[List.length_take];omega),List.getElem?_take,if_pos (by omega),ha]
 ·rw[if_neg e]
  unfold mixL;by_cases hj:j < i
  ·rw[List.getElem?_append_left (by rw[List.length_take];omega),List.getElem?_append_left (by rw[List.length_take];omega),List.getElem?_take,List.getElem?_take,if_pos hj,if_pos (by omega)]
  ·rw[List.getElem?_append_right (by rw[List.length_take];omega),List.getElem?_append_right (by rw[List.length_take];omega),List.length_take,List.length_take,List.getElem?_drop,List.getElem?_drop]
   congr 1
   omega
theorem mixL_same {A v:List Int}(hl:A.length=v.length) {i:Nat}{a:Int}(ha:A[i]? = some a) (hv:v[i]? = some a):mixL A v (i+1)=mixL A v i:=by
 rw[← mixL_set hl ha];apply List.ext_getElem?;intro j;rw[List.getElem?_set];by_cases e:i=j
 ·subst e
  have hi:=(List.getElem?_eq_some_iff.1 hv).1;rw[if_pos rfl,if_pos (by rw[mixL_len hl];exact hi),mixL_get hl hi,hv]
 ·rw[if_neg e]
theorem Vw.sv_sv (s:Vw) (t:Nat) (r r':List Int):(s.sv t r).sv t r'=s.sv t r':=by simp[Vw.sv]
theorem Vw.sv_get {s:Vw}{t:Nat}{r r':List Int}(h:s.vw[t]? = some r'):(s.sv t r).vw[t]? = some r:=by
 have:=(List.getElem?_eq_some_iff.1 h).1;simp[Vw.sv,this]
theorem Vw.sv_self {s:Vw}{t:Nat}{r:List Int}(h:s.vw[t]? = some r):s.sv t r=s:=by
 obtain⟨a,b,c,d⟩:=s;simp only[Vw.sv,Vw.mk.injEq,true_and,and_true];obtain⟨hl,he⟩:=List.getElem?_eq_some_iff.1 h;rw[← he];exact List.set_getElem_self hl
theorem vwJoin_get {v u:List Int}{i:Nat}{a b:Int}(ha:v[i]? = some a) (hb:u[i]? = some b):(vwJoin v u)[i]? = some (if a < b then b else a):=by
 unfold vwJoin;rw[List.getElem?_zipWith,ha,hb]
end Go.Proofs.Ytnkfphndfijcoaa
namespace Go.Proofs.Ytnkfphndfijcoaa
open Go.RowKit
def Vw.sm (s:Vw) (i k:Nat) (m:Mg):Vw:=⟨s.pc,s.rg,s.vw,s.ls.set i ((s.ls.getD i []).set k m)⟩
theorem getD_ls {s:Vw}{i:Nat}{l:List Mg}(h:s.ls[i]? = some l):s.ls.getD i []=l:=by rw[List.getD_eq_getElem?_getD,h];rfl
theorem Vw.sm_ls {s:Vw}{i k:Nat}{l:List Mg}{m:Mg}(hl:s.ls[i]? = some l):(s.sm i k m).ls[i]? = some (l.set k m):=by
 have:=(List.getElem?_eq_some_iff.1 hl).1;show (s.ls.set i ((s.ls.getD i []).set k m))[i]? = _;rw[getD_ls hl,List.getElem?_set,if_pos rfl,if_pos this]
theorem Vw.sm_other {s:Vw}{i k j:Nat}{m:Mg}(h:i≠j):(s.sm i k m).ls[j]? = s.ls[j]?:=by simp[Vw.sm,h]
theorem famOf_sm {x:SV}{us:List Slc}{ms:List (List MV)}{s:Vw}{i k:Nat}{mr:List MV}{m:MV}{l:List Mg}{g g':Mg}(hr:ms[i]? = some mr) (hm:mr[k]? = some m) (hl:s.ls[i]? = some l) (hg:l[k]? = some g) :
 famOf x us ms s (3,i,k)=some (m.s,g.view)∧famOf x us ms (s.sm i k g') (3,i,k)=some (m.s,g'.view)∧∀ j,j≠(3,i,k)→famOf x us ms (s.sm i k g') j=famOf x us ms s j:=by
 have hkl:=(List.getElem?_eq_some_iff.1 hg).1;refine⟨by simp[famOf,hr,hm,hl,hg],by simp[famOf,hr,hm,Vw.sm_ls hl,hkl],fun j hj => ?_⟩;unfold famOf;split <;> try rfl
 rename_i i' k';by_cases e:i=i'
 ·subst e
  have hk:k≠k':=fun e=>hj (by rw[e]);rw[Vw.sm_ls hl,hl];simp[hk]
 ·rw[Vw.sm_other e]
theorem OwnVw.msg {w:World}{base:Nat}{x:SV}{s:Vw}{us lu:List Slc}{ms:List (List MV)}(h:OwnVw w base x s us lu ms) {i k:Nat}{l:List Mg}{m:Mg}(hl:s.ls[i]? = some l) (hm:l[k]? = some m) (hn:0 < m.view.length) :
 ∃ gl cl gr cr g c,x.b=⟨some ⟨gl,0,none⟩,s.ls.length,cl⟩∧lu[i]? = some ⟨some ⟨gr,0,none⟩,l.length,cr⟩∧famOf x us ms s (3,i,k)=some (⟨some ⟨g,0,none⟩,m.view.length,c⟩,m.view) ∧
  w.cell? ⟨gl,i,none⟩=some (.slice (some ⟨gr,0,none⟩) l.length cr)∧w.cell? ⟨gr,k * 3,none⟩=some (.int .i64 m.val)∧w.cell? ⟨gr,k * 3+1,none⟩=some (.bool m.lock)∧w.cell? ⟨gr,k * 3+2,none⟩=some (.slice (some ⟨g,0,none⟩) m.view.length c)∧base≤g∧base≤gr∧base≤gl ∧
  ∀ (j:Nat) (z:Int),m.view[j]? = some z→w.cell? ⟨g,j,none⟩=some (.int .i64 z)∧w.frozen? ⟨g,j,none⟩=false∧∀ z',OwnVw (w.setCell ⟨g,j,none⟩ (.int .i64 z')) base x (s.sm i k ⟨m.val,m.lock,m.view.set j z'⟩) us lu ms:=by
 have hil:=(List.getElem?_eq_some_iff.1 hl).1;obtain⟨u,hu⟩:=get_of_lt (xs:=lu) (k:=i) (by rw[h.ll];exact hil);obtain⟨mr,hmr⟩:=get_of_lt (xs:=ms) (k:=i) (by rw[h.lm];exact hil);obtain⟨e1,e2⟩:=h.mv i mr l hmr hl;obtain⟨mv,hmv⟩:=get_of_lt (xs:=mr) (k:=k) (by rw[e1];exact(List.getElem?_eq_some_iff.1 hm).1);obtain⟨q1,q2⟩:=e2 k mv m hmv hm;have hf:=(famOf_sm (x:=x) (us:=us) (g':=m) hmr hmv hl hm).1;have hov:=h.fam.own _ _ _ hf;have hor:=h.hm i u mr hu hmr;rcases hov.shape with⟨-,h0⟩ | ⟨g,c,hv,hb,hlt,-,-⟩
 ·rw[h0]at hn;simp at hn
 have hse:mv.s=⟨some ⟨g,0,none⟩,m.view.length,c⟩:=by
  obtain⟨_,_,⟨a,n,c'⟩⟩:=mv;simp only[Slc.v,Value.slice.injEq]at hv;obtain⟨rfl,rfl,rfl⟩:=hv;rfl
 rcases hor.shape with⟨-,h0⟩ | ⟨gr,cr,hvr,hbr,-,-,-⟩
 ·rw[h0]at hmv;simp at hmv
 have hue:u=⟨some ⟨gr,0,none⟩,mr.length,cr⟩:=by
  obtain⟨a,n,c'⟩:=u;simp only[Slc.v,Value.slice.injEq]at hvr;obtain⟨rfl,rfl,rfl⟩:=hvr;rfl
 subst hue;rcases h.hl.shape with⟨-,h0⟩ | ⟨gl,cl,hvl,hbl,-,-,-⟩
 ·rw[h0]at hu;simp at hu
 have hbe:x.b=⟨some ⟨gl,0,none⟩,lu.length,cl⟩:=by
  obtain⟨xp,xr,xm,⟨a,n,c'⟩⟩:=x;simp only[Slc.v,Value.slice.injEq]at hvl;obtain⟨rfl,rfl,rfl⟩:=hvl;rfl
 have hhl:=h.hl;rw[hbe]at hhl;have c1:=hhl.cell (j:=0) hu rfl;simp only[SlcE,Nat.mul_one,Nat.add_zero]at c1;have r0:=Own.cell (g:=gr) (n:=mr.length) (cap:=cr) hor hmv (j:=0) rfl;have r1:=Own.cell (g:=gr) (n:=mr.length) (cap:=cr) hor hmv (j:=1) rfl;have r2:=Own.cell (g:=gr) (n:=mr.length) (cap:=cr) hor hmv (j:=2) rfl;simp only[MgE,Nat.add_zero]at r0 r1 r2;rw[hse]at hf hov;refine⟨gl,cl,gr,cr,g,c,by rw[hbe,h.ll],by rw[hu,e1],hf,by rw[← e1];exact c1,by rw[← q1];exact r0,by rw[← q2];exact r1,by rw[r2,hse],hb,hbr,hbl,fun j z hj => ?_⟩;have hkl:=(List.getElem?_eq_some_iff.1 hj).1;have hck:=Own.cell (g:=g) (n:=m.view.length) (cap:=c) hov hj (j:=0) rfl;simp only[IntE,Nat.mul_one,Nat.add_zero]at hck;refine⟨hck,Own.frozen (g:=g) (n:=m.view.length) (cap:=c) hov j,fun z' => ?_⟩;obtain⟨f1,f2,f3⟩:=famOf_sm (x:=x) (us:=us) (g':=⟨m.val,m.lock,m.view.set j z'⟩) hmr hmv hl hm;rw[hse]at f1 f2;refine h.setRow f1 hkl z' f2 f3 rfl (by simp[Vw.sm]) (fun i' l' hl' => ?_);by_cases e:i=i'
 ·subst e
  rw[Vw.sm_ls hl]at hl';cases hl';refine⟨l,hl,by simp,fun k' g' hg' => ?_⟩;rw[List.getElem?_set]at hg';by_cases ek:k=k'
  ·subst ek
   rw[if_pos rfl]at hg';split at hg'
   ·cases hg'
    exact⟨m,hm,rfl,rfl⟩
   ·cases hg'
  ·rw[if_neg ek]at hg'
   exact⟨g',hg',rfl,rfl⟩
 ·rw[Vw.sm_other e]at hl'
  exact⟨l',hl',rfl,fun k' g' hg'=>⟨g',hg',rfl,rfl⟩⟩
end Go.Proofs.Ytnkfphndfijcoaa
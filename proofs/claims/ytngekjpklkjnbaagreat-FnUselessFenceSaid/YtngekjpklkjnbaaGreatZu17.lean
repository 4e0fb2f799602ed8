/-
  The reference's outcome of a state. Condition: bounds on lengths.
-/
import Derived.Test.YtngekjpklkjnbaaGreatZu14
set_option maxHeartbeats 6400000
set_option maxRecDepth 100000
namespace Go.Proofs.YtngekjpklkjnbaaGreat
open Go.RowKit
structure Fv (A0:World) (rg mm:List Int) (a f1 f2:Bool) (A:Nat) (f g:Zt) (W:World):Prop where
 out:Below A0.heap.size A0 W
 o1:a=true→f1=false→Own Zo 3 W A0.heap.size (.slice (some ⟨A,0,none⟩) 0 0) []
 o2:f1=true→f2=false→Own Zo 3 W A0.heap.size f.v rg
 o3:f2=true→Own Zo 3 W A0.heap.size g.v (rg++mm)
 i1:f1=true→a=true
 i2:f2=true→f1=true
section
variable {A0 W w' : World} {rg mm : List Int} {a f1 f2 : Bool} {A : Nat} {f g s' : Zt}
theorem Fv.lit (hJ:Fv A0 rg mm false f1 f2 A f g W):Fv A0 rg mm true f1 f2 W.heap.size f g (W.alloc (.cells #[] 3)):=by
 cases h1:f1 with
 | true=>exact(nomatch hJ.i1 h1)
 | false =>
  subst h1;cases h2:f2 with
  | true=>exact(nomatch hJ.i2 h2)
  | false =>
   subst h2;exact⟨hJ.out.alloc hJ.out.size _,fun _ _=>Own.empty _ _ hJ.out.size,fun e=>(nomatch e),fun e=>(nomatch e),fun e=>(nomatch e),fun e=>(nomatch e)⟩
theorem Fv.H9 (hJ:Fv A0 rg mm a false f2 A f g W) (ha:a=true) (ho:Own Zo 3 w' A0.heap.size s'.v ([]++rg)) (hg:W.grownBy w' (Zt.v ⟨some ⟨A,0,none⟩,0,0⟩).ownBlock):Fv A0 rg mm a true f2 A s' g w':=by
 cases h2:f2 with
 | true=>exact(nomatch hJ.i2 h2)
 | false =>
  subst h2;exact⟨hJ.out.grown hg hJ.out.size fun q hq=>(World.ownsRow.lt (hJ.o1 ha rfl) q hq).1,fun _ e=>(nomatch e),fun _ _=>ho,fun e=>(nomatch e),fun _=>ha,fun e=>(nomatch e)⟩
theorem Fv.Bl (hJ:Fv A0 rg mm a f1 false A f g W) (h1:f1=true) (ho:Own Zo 3 w' A0.heap.size s'.v (rg++mm)) (hg:W.grownBy w' f.v.ownBlock):Fv A0 rg mm a f1 true A f s' w':=
 ⟨hJ.out.grown hg hJ.out.size fun q hq=>(World.ownsRow.lt (hJ.o2 h1 rfl) q hq).1,fun _ e=>(by rw[h1]at e;exact(nomatch e)),fun _ e=>(nomatch e),fun _=>ho,hJ.i1,fun _=>h1⟩
end
theorem UH (x:SV) (s:St) (w:World) (hx:ZB w x s) (h2:s.rg.length≤1048576) (h3:s.mm.length≤1048576) :
 Calls Tryz.prog 114 #[.agg #[.slice x.p.a x.p.n x.p.cap,.slice x.r.a x.r.n x.r.cap,.slice x.m.a x.m.n x.m.cap,.slice x.b.a x.b.n x.b.cap]] w (Xm Zo 3 w (Kd s.q)):=by
 obtain⟨⟨pa,pn,pk⟩,⟨ra,rn,rk⟩,⟨ma,mn,mk⟩,⟨ba,bn,bk⟩⟩:=x;have HX:=Za hx;clear hx;obtain⟨A0,hA0⟩:∃ A0,A0=w.alloc (.cells #[.slice pa pn pk,.slice ra rn rk,.slice ma mn mk,.slice ba bn bk] 141):=⟨_,rfl⟩
 have HB:Hid (Below w.heap.size w A0):=Za (by rw[hA0];exact Ze _ _);have hz:A0.heap.size=w.heap.size+1:=by rw[hA0];simp
 have HX2:Hid (A0.heap[w.heap.size]? = some (.cells #[.slice pa pn pk,.slice ra rn rk,.slice ma mn mk,.slice ba bn bk] 141 (0,0))):=Za (by rw[hA0];exact heap_alloc_new w _);have HA0:=Za hA0;clear hA0;go_enter Tryz.func114,Tryz.ntmps114;go_wp2_with fail;rw[← HA0.out]
 -- ZQ outc
 refine Zl (n:=7) Kr rfl Kr Kr (fun A ls a' W => ∃ (ga:Nat) (f:Zt) (g:Zt) (x3 x4 x5 x6 x7 x8 x9:Value),a'=Zk A [(3,x3),(4,x4),(5,x5),(6,x6),(7,x7),(8,x8),(9,x9)]∧Vd ls 0 [] x3 (.slice (some ⟨ga,0,none⟩) 0 0)∧Vd ls 1 [] x4 (.pointer (some ⟨w.heap.size,1,none⟩))∧Vd ls 2 [] x5 (.slice ra rn rk)∧Vd ls 3 [0] x6 (.slice f.a f.n f.cap)∧Vd ls 4 [] x7 (.pointer (some ⟨w.heap.size,2,none⟩))∧Vd ls 5 [] x8 (.slice ma mn mk)∧Vd ls 6 [0,3] x9 (.slice g.a g.n g.cap)∧Fv A0 s.rg s.mm (fl ls 0) (fl ls 3) (fl ls 6) ga f g W) ?r0 ?rs ?re
 case r0 =>
  exact⟨0,⟨none,0,0⟩,⟨none,0,0⟩,undef,undef,undef,undef,undef,undef,undef,pA,Vs,Vs,Vs,Vs,Vs,Vs,Vs,by simp only[Ye];exact⟨(Below.refl _ _).drew,fun h=>(nomatch h),fun h=>(nomatch h),fun h=>(nomatch h),fun h=>(nomatch h),fun h=>(nomatch h)⟩⟩
 case rs =>
  rintro ls a' W hs hnl ⟨ga,f,g,x3,x4,x5,x6,x7,x8,x9,ha,cv0,cv1,cv2,cv3,cv4,cv5,cv6,hJ⟩ k o hkn mc K hK;simp only[Zk,Act.put,List.setIfInBounds_toArray,List.set_cons_succ,List.set_cons_zero]at ha;subst ha;have hkc:k=0∨k=1∨k=2∨k=3∨k=4∨k=5∨k=6:=Om;have hop:=mc.op;have haf:=mc.after;rcases hkc with rfl | rfl | rfl | rfl | rfl | rfl | rfl
  ·simp at hop;subst hop;simp[Region.binds]at haf
   have f0:=ZV mc.new;rw[f0]at hJ;go_simp;exact hK _ _ ⟨W.heap.size,f,g,_,_,_,_,_,_,_,pA,Ve,cv1.s,cv2.s,cv3.void Dc Dc mc.new,cv4.s,cv5.s,cv6.void Dc Dc mc.new,by rw[ZD hs Dc,fs 0 3,fs 0 6];exact hJ.lit⟩
  ·simp at hop;subst hop;simp[Region.binds]at haf
   go_simp;exact hK _ _ ⟨ga,f,g,_,_,_,_,_,_,_,pA,cv0.s,Ve,cv2.s,cv3.s,cv4.s,cv5.s,cv6.s,by rw[fs 1 0,fs 1 3,fs 1 6];exact hJ⟩
  ·simp at hop;subst hop;simp[Region.binds]at haf
   obtain rfl:=(cv1.get (by simp[haf])).symm;have hbk:=(hJ.out.block w.heap.size Om).trans HX2.out;have d1:W.cell? ⟨w.heap.size,1,none⟩=some (.slice ra rn rk):=Zc hbk (k:=1) rfl;have dl:=Zb d1;go_simp;exact hK _ _ ⟨ga,f,g,_,_,_,_,_,_,_,pA,cv0.s,cv1.s,Ve,cv3.s,cv4.s,cv5.s,cv6.s,by rw[fs 2 0,fs 2 3,fs 2 6];exact hJ⟩
  ·simp at hop;subst hop;simp[Region.binds]at haf
   obtain rfl:=(cv0.get (by simp[haf])).symm;obtain rfl:=(cv2.get (by simp[haf])).symm;have f3:=ZV mc.new;rw[f3]at hJ;have f0:=Zz (show ls[0]? = some true by simp[haf]);rw[f0]at hJ;refine ZT Zo 3 Tryz.Yb rfl Tryz.underlying66 A0.heap.size ⟨some ⟨ga,0,none⟩,0,0⟩ [] s.rg _ (hJ.o1 rfl rfl) ((HX.out.rg.below HB.out).below hJ.out) Dc So hJ.out.size Rf _ _ Rf Rf Rf ?_;intro s6 w6 hown6 hgr6 hat6;exact hK _ _ ⟨ga,s6,g,_,_,_,_,_,_,_,pA,cv0.s,cv1.s,cv2.s,Vd.same (by simp[haf]),cv4.s,cv5.s,cv6.void Dc Dc mc.new,by rw[fs 3 0,ZD hs Dc,fs 3 6,f0];exact hJ.H9 rfl hown6 hgr6⟩
  ·simp at hop;subst hop;simp[Region.binds]at haf
   go_simp;exact hK _ _ ⟨ga,f,g,_,_,_,_,_,_,_,pA,cv0.s,cv1.s,cv2.s,cv3.s,Ve,cv5.s,cv6.s,by rw[fs 4 0,fs 4 3,fs 4 6];exact hJ⟩
  ·simp at hop;subst hop;simp[Region.binds]at haf
   obtain rfl:=(cv4.get (by simp[haf])).symm;have hbk:=(hJ.out.block w.heap.size Om).trans HX2.out;have d2:W.cell? ⟨w.heap.size,2,none⟩=some (.slice ma mn mk):=Zc hbk (k:=2) rfl;have dl:=Zb d2;go_simp;exact hK _ _ ⟨ga,f,g,_,_,_,_,_,_,_,pA,cv0.s,cv1.s,cv2.s,cv3.s,cv4.s,Ve,cv6.s,by rw[fs 5 0,fs 5 3,fs 5 6];exact hJ⟩
  ·simp at hop;subst hop;simp[Region.binds]at haf
   have q3:=(cv3 (by simp[haf])).1;simp at q3;obtain rfl:=(cv3.get (by simp[haf])).symm;obtain rfl:=(cv5.get (by simp[haf])).symm;have f6:=ZV mc.new;rw[f6]at hJ;have f3:=Zz (show ls[3]? = some true by simp[haf]);rw[f3]at hJ;refine ZT Zo 3 Tryz.Yb rfl Tryz.underlying66 A0.heap.size f s.rg s.mm _ (hJ.o2 rfl rfl) ((HX.out.mm.below HB.out).below hJ.out) Dc Om hJ.out.size Rf _ _ Rf Rf Rf ?_;intro s6 w6 hown6 hgr6 hat6;exact hK _ _ ⟨ga,f,s6,_,_,_,_,_,_,_,pA,cv0.s,cv1.s,cv2.s,cv3.s,cv4.s,cv5.s,Vd.same (by simp[haf,q3]),by rw[fs 6 0,fs 6 3,ZD hs Dc,f3];exact hJ.Bl rfl hown6 hgr6⟩
 case re =>
  rintro ls a' W hall ⟨ga,f,g,x3,x4,x5,x6,x7,x8,x9,ha,cv0,cv1,cv2,cv3,cv4,cv5,cv6,hJ⟩ o hop;simp only[Zk,Act.put,List.setIfInBounds_toArray,List.set_cons_succ,List.set_cons_zero]at ha;subst ha;simp at hop;subst hop;obtain rfl:=cv0.ga hall;obtain rfl:=cv1.ga hall;obtain rfl:=cv2.ga hall;obtain rfl:=cv3.ga hall;obtain rfl:=cv4.ga hall;obtain rfl:=cv5.ga hall;obtain rfl:=cv6.ga hall;rw[Zz (hall 0 Dc)]at hJ;rw[Zz (hall 3 Dc)]at hJ;rw[Zz (hall 6 Dc)]at hJ;go_simp;go_wp2_with fail;go_ret;exact⟨_,rfl,(hJ.o3 rfl).mono HB.out.size,HB.out.trans (hJ.out.mono HB.out.size)⟩
 -- end outc
end Go.Proofs.YtngekjpklkjnbaaGreat
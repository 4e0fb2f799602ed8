/-
  The reference's outcome of a state. Condition: bounds on lengths.
-/
import Derived.Test.YtlddmagfbcomgaaGreatZq50
set_option maxHeartbeats 6400000
set_option maxRecDepth 100000
namespace Go.Proofs.YtlddmagfbcomgaaGreat
open Go.RowKit
structure JOc (A0:World) (rg mm:List Int) (a f1 f2:Bool) (A:Nat) (f g:Slc) (W:World):Prop where
 out:Below A0.heap.size A0 W
 o1:a=true→f1=false→Own IntE 3 W A0.heap.size (.slice (some ⟨A,0,none⟩) 0 0) []
 o2:f1=true→f2=false→Own IntE 3 W A0.heap.size f.v rg
 o3:f2=true→Own IntE 3 W A0.heap.size g.v (rg++mm)
 i1:f1=true→a=true
 i2:f2=true→f1=true
section
variable {A0 W w' : World} {rg mm : List Int} {a f1 f2 : Bool} {A : Nat} {f g s' : Slc}
theorem JOc.lit (hJ:JOc A0 rg mm false f1 f2 A f g W):JOc A0 rg mm true f1 f2 W.heap.size f g (W.alloc (.cells #[] 3)):=by
 cases h1:f1 with
 | true=>exact (nomatch hJ.i1 h1)
 | false =>
  subst h1
  cases h2:f2 with
  | true=>exact (nomatch hJ.i2 h2)
  | false =>
   subst h2
   exact ⟨hJ.out.alloc hJ.out.size _,fun _ _=>Own.empty _ _ hJ.out.size,fun e=>(nomatch e),fun e=>(nomatch e),fun e=>(nomatch e),fun e=>(nomatch e)⟩
theorem JOc.app1 (hJ:JOc A0 rg mm a false f2 A f g W) (ha:a=true) (ho:Own IntE 3 w' A0.heap.size s'.v ([]++rg)) (hg:W.grownBy w' (Slc.v ⟨some ⟨A,0,none⟩,0,0⟩).ownBlock):JOc A0 rg mm a true f2 A s' g w':=by
 cases h2:f2 with
 | true=>exact (nomatch hJ.i2 h2)
 | false =>
  subst h2
  exact ⟨hJ.out.grown hg hJ.out.size fun q hq=>(World.ownsRow.lt (hJ.o1 ha rfl) q hq).1,fun _ e=>(nomatch e),fun _ _=>ho,fun e=>(nomatch e),fun _=>ha,fun e=>(nomatch e)⟩
theorem JOc.app2 (hJ:JOc A0 rg mm a f1 false A f g W) (h1:f1=true) (ho:Own IntE 3 w' A0.heap.size s'.v (rg++mm)) (hg:W.grownBy w' f.v.ownBlock):JOc A0 rg mm a f1 true A f s' w':=
 ⟨hJ.out.grown hg hJ.out.size fun q hq=>(World.ownsRow.lt (hJ.o2 h1 rfl) q hq).1,fun _ e=>(by rw [h1] at e;exact (nomatch e)),fun _ e=>(nomatch e),fun _=>ho,hJ.i1,fun _=>h1⟩
end
theorem l3Outcome_any (x:SV) (s:St) (w:World) (hx:RepSt w x s) (h2:s.rg.length≤1048576) (h3:s.mm.length≤1048576) :
 Calls Tryz.prog 197 #[.agg #[.slice x.p.a x.p.n x.p.cap, .slice x.r.a x.r.n x.r.cap, .slice x.m.a x.m.n x.m.cap, .slice x.b.a x.b.n x.b.cap]] w (RetOwn IntE 3 w (sqOut s.q)):=by
 obtain ⟨⟨pa,pn,pk⟩,⟨ra,rn,rk⟩,⟨ma,mn,mk⟩,⟨ba,bn,bk⟩⟩:=x
 have HX:=hide hx
 clear hx
 obtain ⟨A0,hA0⟩:∃ A0,A0=w.alloc (.cells #[.slice pa pn pk, .slice ra rn rk, .slice ma mn mk, .slice ba bn bk] 195):=⟨_,rfl⟩
 have HB:Hid (Below w.heap.size w A0):=hide (by rw [hA0];exact belowAlloc _ _)
 have hz:A0.heap.size=w.heap.size+1:=by rw [hA0];simp
 have HX2:Hid (A0.heap[w.heap.size]? = some (.cells #[.slice pa pn pk, .slice ra rn rk, .slice ma mn mk, .slice ba bn bk] 195 (0,0))):=hide (by rw [hA0];exact heap_alloc_new w _)
 have HA0:=hide hA0
 clear hA0
 go_enter Tryz.func197,Tryz.ntmps197
 go_wp2_with fail
 rw [← HA0.out]
 -- reg outc
 refine wp_region_inv3 (n:=7) (by kernel_rfl) rfl (by kernel_rfl) (by kernel_rfl) (fun A ls a' W => ∃ (ga:Nat) (f:Slc) (g:Slc) (x3 x4 x5 x6 x7 x8 x9:Value),a'=putAll A [(3,x3),(4,x4),(5,x5),(6,x6),(7,x7),(8,x8),(9,x9)]∧Vd ls 0 [] x3 (.slice (some ⟨ga,0,none⟩) 0 0)∧Vd ls 1 [] x4 (.pointer (some ⟨w.heap.size,1,none⟩))∧Vd ls 2 [] x5 (.slice ra rn rk)∧Vd ls 3 [0] x6 (.slice f.a f.n f.cap)∧Vd ls 4 [] x7 (.pointer (some ⟨w.heap.size,2,none⟩))∧Vd ls 5 [] x8 (.slice ma mn mk)∧Vd ls 6 [0,3] x9 (.slice g.a g.n g.cap)∧JOc A0 s.rg s.mm (fl ls 0) (fl ls 3) (fl ls 6) ga f g W) ?r0 ?rs ?re
 case r0 =>
  exact ⟨0,⟨none,0,0⟩,⟨none,0,0⟩,undef,undef,undef,undef,undef,undef,undef,by simp only [putAll,Act.put,List.setIfInBounds_toArray,List.set_cons_succ,List.set_cons_zero],Vd.start,Vd.start,Vd.start,Vd.start,Vd.start,Vd.start,Vd.start,by simp only [fl_start];exact ⟨(Below.refl _ _).drew,fun h=>(nomatch h),fun h=>(nomatch h),fun h=>(nomatch h),fun h=>(nomatch h),fun h=>(nomatch h)⟩⟩
 case rs =>
  rintro ls a' W hs hnl ⟨ga,f,g,x3,x4,x5,x6,x7,x8,x9,ha,cv0,cv1,cv2,cv3,cv4,cv5,cv6,hJ⟩ k o hkn mc K hK
  simp only [putAll,Act.put,List.setIfInBounds_toArray,List.set_cons_succ,List.set_cons_zero] at ha
  subst ha
  have hkc:k=0∨k=1∨k=2∨k=3∨k=4∨k=5∨k=6:=by omega
  have hop:=mc.op
  have haf:=mc.after
  rcases hkc with rfl | rfl | rfl | rfl | rfl | rfl | rfl
  ·simp at hop;subst hop;simp [Region.binds] at haf
   have f0:=fl_no mc.new;rw [f0] at hJ
   go_simp
   exact hK _ _ ⟨W.heap.size,f,g,_,_,_,_,_,_,_,by simp only [putAll,Act.put,List.setIfInBounds_toArray,List.set_cons_succ,List.set_cons_zero],Vd.same (by simp),cv1.set (by decide),cv2.set (by decide),cv3.void (by decide) (by decide) mc.new,cv4.set (by decide),cv5.set (by decide),cv6.void (by decide) (by decide) mc.new,by rw [fl_got hs (by decide),fl_set (show 0≠3 by decide),fl_set (show 0≠6 by decide)];exact hJ.lit⟩
  ·simp at hop;subst hop;simp [Region.binds] at haf
   go_simp
   exact hK _ _ ⟨ga,f,g,_,_,_,_,_,_,_,by simp only [putAll,Act.put,List.setIfInBounds_toArray,List.set_cons_succ,List.set_cons_zero],cv0.set (by decide),Vd.same (by simp),cv2.set (by decide),cv3.set (by decide),cv4.set (by decide),cv5.set (by decide),cv6.set (by decide),by rw [fl_set (show 1≠0 by decide),fl_set (show 1≠3 by decide),fl_set (show 1≠6 by decide)];exact hJ⟩
  ·simp at hop;subst hop;simp [Region.binds] at haf
   obtain rfl:=(cv1.get (by simp [haf])).symm
   have hbk:=(hJ.out.block w.heap.size (by omega)).trans HX2.out
   have d1:W.cell? ⟨w.heap.size,1,none⟩=some (.slice ra rn rk):=cellH hbk (k:=1) rfl
   have dl:=lt_of_cell d1
   go_simp
   exact hK _ _ ⟨ga,f,g,_,_,_,_,_,_,_,by simp only [putAll,Act.put,List.setIfInBounds_toArray,List.set_cons_succ,List.set_cons_zero],cv0.set (by decide),cv1.set (by decide),Vd.same (by simp),cv3.set (by decide),cv4.set (by decide),cv5.set (by decide),cv6.set (by decide),by rw [fl_set (show 2≠0 by decide),fl_set (show 2≠3 by decide),fl_set (show 2≠6 by decide)];exact hJ⟩
  ·simp at hop;subst hop;simp [Region.binds] at haf
   obtain rfl:=(cv0.get (by simp [haf])).symm
   obtain rfl:=(cv2.get (by simp [haf])).symm
   have f3:=fl_no mc.new;rw [f3] at hJ
   have f0:=fl_yes (show ls[0]? = some true by simp [haf]);rw [f0] at hJ
   refine step_appSAtM IntE 3 Tryz.infoInt rfl Tryz.underlying40 A0.heap.size ⟨some ⟨ga,0,none⟩,0,0⟩ [] s.rg _ (hJ.o1 rfl rfl) ((HX.out.rg.below HB.out).below hJ.out) (by decide) (by simp;omega) hJ.out.size (by rfl) _ _ (by rfl) (by rfl) (by rfl) ?_;intro s6 w6 hown6 hgr6 hat6
   exact hK _ _ ⟨ga,s6,g,_,_,_,_,_,_,_,by simp only [putAll,Act.put,List.setIfInBounds_toArray,List.set_cons_succ,List.set_cons_zero],cv0.set (by decide),cv1.set (by decide),cv2.set (by decide),Vd.same (by simp [haf]),cv4.set (by decide),cv5.set (by decide),cv6.void (by decide) (by decide) mc.new,by rw [fl_set (show 3≠0 by decide),fl_got hs (by decide),fl_set (show 3≠6 by decide),f0];exact hJ.app1 rfl hown6 hgr6⟩
  ·simp at hop;subst hop;simp [Region.binds] at haf
   go_simp
   exact hK _ _ ⟨ga,f,g,_,_,_,_,_,_,_,by simp only [putAll,Act.put,List.setIfInBounds_toArray,List.set_cons_succ,List.set_cons_zero],cv0.set (by decide),cv1.set (by decide),cv2.set (by decide),cv3.set (by decide),Vd.same (by simp),cv5.set (by decide),cv6.set (by decide),by rw [fl_set (show 4≠0 by decide),fl_set (show 4≠3 by decide),fl_set (show 4≠6 by decide)];exact hJ⟩
  ·simp at hop;subst hop;simp [Region.binds] at haf
   obtain rfl:=(cv4.get (by simp [haf])).symm
   have hbk:=(hJ.out.block w.heap.size (by omega)).trans HX2.out
   have d2:W.cell? ⟨w.heap.size,2,none⟩=some (.slice ma mn mk):=cellH hbk (k:=2) rfl
   have dl:=lt_of_cell d2
   go_simp
   exact hK _ _ ⟨ga,f,g,_,_,_,_,_,_,_,by simp only [putAll,Act.put,List.setIfInBounds_toArray,List.set_cons_succ,List.set_cons_zero],cv0.set (by decide),cv1.set (by decide),cv2.set (by decide),cv3.set (by decide),cv4.set (by decide),Vd.same (by simp),cv6.set (by decide),by rw [fl_set (show 5≠0 by decide),fl_set (show 5≠3 by decide),fl_set (show 5≠6 by decide)];exact hJ⟩
  ·simp at hop;subst hop;simp [Region.binds] at haf
   have q3:=(cv3 (by simp [haf])).1;simp at q3
   obtain rfl:=(cv3.get (by simp [haf])).symm
   obtain rfl:=(cv5.get (by simp [haf])).symm
   have f6:=fl_no mc.new;rw [f6] at hJ
   have f3:=fl_yes (show ls[3]? = some true by simp [haf]);rw [f3] at hJ
   refine step_appSAtM IntE 3 Tryz.infoInt rfl Tryz.underlying40 A0.heap.size f s.rg s.mm _ (hJ.o2 rfl rfl) ((HX.out.mm.below HB.out).below hJ.out) (by decide) (by omega) hJ.out.size (by rfl) _ _ (by rfl) (by rfl) (by rfl) ?_;intro s6 w6 hown6 hgr6 hat6
   exact hK _ _ ⟨ga,f,s6,_,_,_,_,_,_,_,by simp only [putAll,Act.put,List.setIfInBounds_toArray,List.set_cons_succ,List.set_cons_zero],cv0.set (by decide),cv1.set (by decide),cv2.set (by decide),cv3.set (by decide),cv4.set (by decide),cv5.set (by decide),Vd.same (by simp [haf,q3]),by rw [fl_set (show 6≠0 by decide),fl_set (show 6≠3 by decide),fl_got hs (by decide),f3];exact hJ.app2 rfl hown6 hgr6⟩
 case re =>
  rintro ls a' W hall ⟨ga,f,g,x3,x4,x5,x6,x7,x8,x9,ha,cv0,cv1,cv2,cv3,cv4,cv5,cv6,hJ⟩ o hop
  simp only [putAll,Act.put,List.setIfInBounds_toArray,List.set_cons_succ,List.set_cons_zero] at ha
  subst ha
  simp at hop;subst hop
  obtain rfl:=(cv0.get (hall 0 (by decide))).symm
  obtain rfl:=(cv1.get (hall 1 (by decide))).symm
  obtain rfl:=(cv2.get (hall 2 (by decide))).symm
  obtain rfl:=(cv3.get (hall 3 (by decide))).symm
  obtain rfl:=(cv4.get (hall 4 (by decide))).symm
  obtain rfl:=(cv5.get (hall 5 (by decide))).symm
  obtain rfl:=(cv6.get (hall 6 (by decide))).symm
  rw [fl_yes (hall 0 (by decide))] at hJ
  rw [fl_yes (hall 3 (by decide))] at hJ
  rw [fl_yes (hall 6 (by decide))] at hJ
  go_simp
  go_wp2_with fail
  go_ret
  exact ⟨_,rfl,(hJ.o3 rfl).mono HB.out.size,HB.out.trans (hJ.out.mono HB.out.size)⟩
 -- end outc
end Go.Proofs.YtlddmagfbcomgaaGreat
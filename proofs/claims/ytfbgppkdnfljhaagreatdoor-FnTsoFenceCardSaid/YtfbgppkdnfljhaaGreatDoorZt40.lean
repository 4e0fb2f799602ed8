/-
  The draws of a program and a model. No condition.
-/
import Derived.Test.YtfbgppkdnfljhaaGreatDoorZt37
import Derived.Test.YtfbgppkdnfljhaaGreatDoorZt18
import Derived.Test.YtfbgppkdnfljhaaGreatDoorZt38
import Derived.Test.YtfbgppkdnfljhaaGreatDoorZt26
set_option maxHeartbeats 6400000
set_option maxRecDepth 100000
namespace Go.Proofs.YtfbgppkdnfljhaaGreatDoor
open Go.RowKit
def QMe (S:Nat→Prop) (lo:Nat) (K:Int) (v:Value) (w:World):Prop:=∃ (o:Int) (nm:ByteArray) (s:Slc) (ks:List Re) (S':Nat→Prop),v = .agg #[.int .i64 o, .string nm, .slice s.a s.n s.cap]∧OwnR 52 w S' s ks∧(∀ q,S' q→(S q∨lo≤q)∧q < w.heap.size)∧(nm.size:Int)+wtR ks≤K
theorem len_le_wtR (ks:List Re):ks.length≤wtR ks:=by
 unfold wtR
 induction ks with
 | nil=>exact Nat.le_refl _
 | cons k ks ih=>simp only [List.map_cons,List.sum_cons,List.length_cons];omega
theorem BoxR.outside {w w':World} {g b:Nat} {o:Int} {p:ByteArray} {s:Slc} (h:BoxR w g o p s) (ho:Outside b (b+1) w w') (hb:g≠b):BoxR w' g o p s:=by
 have e:=ho.block g h.lt (by omega)
 obtain ⟨h1,h2,h3,h4,h5⟩:=h
 exact ⟨Nat.lt_of_lt_of_le h1 ho.size,(cell_of_block e _).trans h2,(cell_of_block e _).trans h3,(cell_of_block e _).trans h4,fun k=>by
  have h6:=h5 k
  unfold World.frozen? at h6 ⊢
  rw [e];exact h6⟩
theorem l7Mutate_any (b:Nat) (a:Option Addr) (c:Nat) (xs:List Int) (p o:Int) (nm:ByteArray) (s:Slc) (ks:List Re) (S:Nat→Prop) (w:World) (hr:Rd w b a c xs p) (hp:p≤800000000)
 (hown:OwnR 52 w S s ks) (hS:∀ q,S q→q≠b∧q < w.heap.size) (hk:wtR ks≤1000000) (hnm:nm.size≤1000000) :
 Calls Tryz.prog 110 #[.pointer (some ⟨b,0,none⟩), .agg #[.int .i64 o, .string nm, .slice s.a s.n s.cap]] w (RetRd w b a c xs p 30 (QMe S w.heap.size (nm.size+wtR ks+200))):=by
 obtain ⟨us,C,hul,hrep,hC1,hC2,hC3,hC4⟩:=hown.open
 have hlen:=len_le_wtR ks
 have HB0:=hide ((belowAlloc w (.cells #[.int .i64 o, .string nm, .slice s.a s.n s.cap] 52)).trans ((belowAlloc (w.alloc (.cells #[.int .i64 o, .string nm, .slice s.a s.n s.cap] 52)) (.cells #[.int .i64 0, .string ⟨#[]⟩, .slice none 0 0] 52)).mono (by simp)))
 have XP:=hide ((BoxR.new w o nm s 52).below (belowAlloc (w.alloc (.cells #[.int .i64 o, .string nm, .slice s.a s.n s.cap] 52)) (.cells #[.int .i64 0, .string ⟨#[]⟩, .slice none 0 0] 52)))
 have hxr:=BoxR.new (w.alloc (.cells #[.int .i64 o, .string nm, .slice s.a s.n s.cap] 52)) 0 ⟨#[]⟩ ⟨none,0,0⟩ 52
 rw [show (w.alloc (.cells #[.int .i64 o, .string nm, .slice s.a s.n s.cap] 52)).heap.size=w.heap.size+1 by simp] at hxr
 have hzB:((w.alloc (.cells #[.int .i64 o, .string nm, .slice s.a s.n s.cap] 52)).alloc (.cells #[.int .i64 0, .string ⟨#[]⟩, .slice none 0 0] 52)).heap.size=w.heap.size+2:=by simp
 have XR:=hide hxr
 have HREP:=hide (hrep.below HB0.out)
 have HKS:=hide hC4
 have HS:=hide hS
 have HC:=hide (And.intro hC1 (And.intro hC2 hC3))
 have HUL:=hide hul
 have HR:=hide (hr.keep HB0.out hr.lt)
 have hlt:=hr.lt
 have hul2:us.length≤1000000:=by omega
 have HP:=hide (fun (p:Int) n w' h hp (hn:n≤100) (hn0:0≤n)=>pick_any b a c xs p n w' h hp (by omega) (by omega))
 clear hxr hrep hC4 hS hC1 hC2 hC3 hul hr hown
 go_enter Tryz.func110,Tryz.ntmps110
 go_wp2_with fail
 generalize (w.alloc (.cells #[.int .i64 o, .string nm, .slice s.a s.n s.cap] 52)).alloc (.cells #[.int .i64 0, .string ⟨#[]⟩, .slice none 0 0] 52)=WB at *
 -- reg copy
 refine wp_region_inv3 (n:=10) (by kernel_rfl) rfl (by kernel_rfl) (by kernel_rfl) (fun A ls a' W => ∃ (e0:Nat) (v:Slc) (b5:Nat) (x7 x8 x9 x10 x11 x12 x13 x14 x15 x5:Value),a'=putAll A [(7,x7),(8,x8),(9,x9),(10,x10),(11,x11),(12,x12),(13,x13),(14,x14),(15,x15),(5,x5)]∧Vd ls 0 [] x7 (.pointer (some ⟨w.heap.size,0,none⟩))∧Vd ls 1 [] x8 (.int .i64 o)∧Vd ls 2 [] x9 (.pointer (some ⟨w.heap.size,1,none⟩))∧Vd ls 3 [] x10 (.string nm)∧Vd ls 4 [] x11 (.slice (some ⟨e0,0,none⟩) 0 0)∧Vd ls 5 [] x12 (.pointer (some ⟨w.heap.size,2,none⟩))∧Vd ls 6 [] x13 (.slice s.a s.n s.cap)∧Vd ls 7 [4] x14 (.slice v.a v.n v.cap)∧Vd ls 8 [4,7] x15 (.agg #[.int .i64 o, .string nm, .slice v.a v.n v.cap])∧Vd ls 9 [] x5 (.pointer (some ⟨b5,0,none⟩))∧JM1 WB us (fl ls 4) (fl ls 7) (fl ls 9) e0 v b5 W) ?r0 ?rs ?re
 case r0 =>
  exact ⟨0,⟨none,0,0⟩,0,undef,undef,undef,undef,undef,undef,undef,undef,undef,undef,by simp only [putAll,Act.put,List.setIfInBounds_toArray,List.set_cons_succ,List.set_cons_zero],Vd.start,Vd.start,Vd.start,Vd.start,Vd.start,Vd.start,Vd.start,Vd.start,Vd.start,Vd.start,by simp only [fl_start];exact JM1.start (Below.refl _ _).drew⟩
 case rs =>
  rintro ls a' W hs hnl ⟨e0,v,b5,x7,x8,x9,x10,x11,x12,x13,x14,x15,x5,ha,cv0,cv1,cv2,cv3,cv4,cv5,cv6,cv7,cv8,cv9,hJ⟩ k o hkn mc K hK
  simp only [putAll,Act.put,List.setIfInBounds_toArray,List.set_cons_succ,List.set_cons_zero] at ha
  subst ha
  have hkc:k=0∨k=1∨k=2∨k=3∨k=4∨k=5∨k=6∨k=7∨k=8∨k=9:=by omega
  have hop:=mc.op
  have haf:=mc.after
  rcases hkc with rfl | rfl | rfl | rfl | rfl | rfl | rfl | rfl | rfl | rfl
  ·simp at hop;subst hop;simp [Region.binds] at haf
   obtain ⟨xl,x0,x1,x2, -⟩:=XP.out.below hJ.out
   go_simp
   exact hK _ _ ⟨e0,v,b5,_,_,_,_,_,_,_,_,_,_,by simp only [putAll,Act.put,List.setIfInBounds_toArray,List.set_cons_succ,List.set_cons_zero],Vd.same (by simp),cv1.set (by decide),cv2.set (by decide),cv3.set (by decide),cv4.set (by decide),cv5.set (by decide),cv6.set (by decide),cv7.set (by decide),cv8.set (by decide),cv9.set (by decide),by rw [fl_set (show 0≠4 by decide),fl_set (show 0≠7 by decide),fl_set (show 0≠9 by decide)];exact hJ⟩
  ·simp at hop;subst hop;simp [Region.binds] at haf
   obtain rfl:=(cv0.get (by simp [haf])).symm
   obtain ⟨xl,x0,x1,x2, -⟩:=XP.out.below hJ.out
   go_simp
   exact hK _ _ ⟨e0,v,b5,_,_,_,_,_,_,_,_,_,_,by simp only [putAll,Act.put,List.setIfInBounds_toArray,List.set_cons_succ,List.set_cons_zero],cv0.set (by decide),Vd.same (by simp),cv2.set (by decide),cv3.set (by decide),cv4.set (by decide),cv5.set (by decide),cv6.set (by decide),cv7.set (by decide),cv8.set (by decide),cv9.set (by decide),by rw [fl_set (show 1≠4 by decide),fl_set (show 1≠7 by decide),fl_set (show 1≠9 by decide)];exact hJ⟩
  ·simp at hop;subst hop;simp [Region.binds] at haf
   obtain ⟨xl,x0,x1,x2, -⟩:=XP.out.below hJ.out
   go_simp
   exact hK _ _ ⟨e0,v,b5,_,_,_,_,_,_,_,_,_,_,by simp only [putAll,Act.put,List.setIfInBounds_toArray,List.set_cons_succ,List.set_cons_zero],cv0.set (by decide),cv1.set (by decide),Vd.same (by simp),cv3.set (by decide),cv4.set (by decide),cv5.set (by decide),cv6.set (by decide),cv7.set (by decide),cv8.set (by decide),cv9.set (by decide),by rw [fl_set (show 2≠4 by decide),fl_set (show 2≠7 by decide),fl_set (show 2≠9 by decide)];exact hJ⟩
  ·simp at hop;subst hop;simp [Region.binds] at haf
   obtain rfl:=(cv2.get (by simp [haf])).symm
   obtain ⟨xl,x0,x1,x2, -⟩:=XP.out.below hJ.out
   go_simp
   exact hK _ _ ⟨e0,v,b5,_,_,_,_,_,_,_,_,_,_,by simp only [putAll,Act.put,List.setIfInBounds_toArray,List.set_cons_succ,List.set_cons_zero],cv0.set (by decide),cv1.set (by decide),cv2.set (by decide),Vd.same (by simp),cv4.set (by decide),cv5.set (by decide),cv6.set (by decide),cv7.set (by decide),cv8.set (by decide),cv9.set (by decide),by rw [fl_set (show 3≠4 by decide),fl_set (show 3≠7 by decide),fl_set (show 3≠9 by decide)];exact hJ⟩
  ·simp at hop;subst hop;simp [Region.binds] at haf
   have f4:=fl_no mc.new;rw [f4] at hJ
   go_simp
   exact hK _ _ ⟨W.heap.size,v,b5,_,_,_,_,_,_,_,_,_,_,by simp only [putAll,Act.put,List.setIfInBounds_toArray,List.set_cons_succ,List.set_cons_zero],cv0.set (by decide),cv1.set (by decide),cv2.set (by decide),cv3.set (by decide),Vd.same (by simp),cv5.set (by decide),cv6.set (by decide),cv7.void (by decide) (by decide) mc.new,cv8.void (by decide) (by decide) mc.new,cv9.set (by decide),by rw [fl_got hs (by decide),fl_set (show 4≠7 by decide),fl_set (show 4≠9 by decide)];exact hJ.lit⟩
  ·simp at hop;subst hop;simp [Region.binds] at haf
   obtain ⟨xl,x0,x1,x2, -⟩:=XP.out.below hJ.out
   go_simp
   exact hK _ _ ⟨e0,v,b5,_,_,_,_,_,_,_,_,_,_,by simp only [putAll,Act.put,List.setIfInBounds_toArray,List.set_cons_succ,List.set_cons_zero],cv0.set (by decide),cv1.set (by decide),cv2.set (by decide),cv3.set (by decide),cv4.set (by decide),Vd.same (by simp),cv6.set (by decide),cv7.set (by decide),cv8.set (by decide),cv9.set (by decide),by rw [fl_set (show 5≠4 by decide),fl_set (show 5≠7 by decide),fl_set (show 5≠9 by decide)];exact hJ⟩
  ·simp at hop;subst hop;simp [Region.binds] at haf
   obtain rfl:=(cv5.get (by simp [haf])).symm
   obtain ⟨xl,x0,x1,x2, -⟩:=XP.out.below hJ.out
   go_simp
   exact hK _ _ ⟨e0,v,b5,_,_,_,_,_,_,_,_,_,_,by simp only [putAll,Act.put,List.setIfInBounds_toArray,List.set_cons_succ,List.set_cons_zero],cv0.set (by decide),cv1.set (by decide),cv2.set (by decide),cv3.set (by decide),cv4.set (by decide),cv5.set (by decide),Vd.same (by simp),cv7.set (by decide),cv8.set (by decide),cv9.set (by decide),by rw [fl_set (show 6≠4 by decide),fl_set (show 6≠7 by decide),fl_set (show 6≠9 by decide)];exact hJ⟩
  ·simp at hop;subst hop;simp [Region.binds] at haf
   obtain rfl:=(cv4.get (by simp [haf])).symm
   obtain rfl:=(cv6.get (by simp [haf])).symm
   have f7:=fl_no mc.new;rw [f7] at hJ
   have f4:=fl_yes (show ls[4]? = some true by simp [haf]);rw [f4] at hJ
   refine step_appSAt RsE 52 Tryz.infoRel rfl Tryz.underlying50 WB.heap.size (.slice (some ⟨e0,0,none⟩) 0 0) [] us (.slice s.a s.n s.cap) (hJ.e rfl rfl) (HREP.out.below hJ.out) (by decide) (by simp;omega) hJ.out.size (by rfl) _ _ (by rfl) (by rfl) (by rfl) ?_;intro v' w6 ho6 hg6 hat6
   obtain ⟨⟨g1,g2,g3⟩,rfl, -⟩:=ho6.toSlc
   exact hK _ _ ⟨e0,⟨g1,g2,g3⟩,b5,_,_,_,_,_,_,_,_,_,_,by simp only [putAll,Act.put,List.setIfInBounds_toArray,List.set_cons_succ,List.set_cons_zero],cv0.set (by decide),cv1.set (by decide),cv2.set (by decide),cv3.set (by decide),cv4.set (by decide),cv5.set (by decide),cv6.set (by decide),Vd.same (by simp [haf]),cv8.void (by decide) (by decide) mc.new,cv9.set (by decide),by rw [fl_set (show 7≠4 by decide),fl_got hs (by decide),fl_set (show 7≠9 by decide),f4];exact hJ.app (by simpa using ho6) hg6 hat6⟩
  ·simp at hop;subst hop;simp [Region.binds] at haf
   have q7:=(cv7 (by simp [haf])).1;simp at q7
   obtain rfl:=(cv1.get (by simp [haf])).symm
   obtain rfl:=(cv3.get (by simp [haf])).symm
   obtain rfl:=(cv7.get (by simp [haf])).symm
   go_simp
   exact hK _ _ ⟨e0,v,b5,_,_,_,_,_,_,_,_,_,_,by simp only [putAll,Act.put,List.setIfInBounds_toArray,List.set_cons_succ,List.set_cons_zero],cv0.set (by decide),cv1.set (by decide),cv2.set (by decide),cv3.set (by decide),cv4.set (by decide),cv5.set (by decide),cv6.set (by decide),cv7.set (by decide),Vd.same (by simp [haf,q7]),cv9.set (by decide),by rw [fl_set (show 8≠4 by decide),fl_set (show 8≠7 by decide),fl_set (show 8≠9 by decide)];exact hJ⟩
  ·simp at hop;subst hop;simp [Region.binds] at haf
   have f9:=fl_no mc.new;rw [f9] at hJ
   go_simp
   exact hK _ _ ⟨e0,v,W.heap.size,_,_,_,_,_,_,_,_,_,_,by simp only [putAll,Act.put,List.setIfInBounds_toArray,List.set_cons_succ,List.set_cons_zero],cv0.set (by decide),cv1.set (by decide),cv2.set (by decide),cv3.set (by decide),cv4.set (by decide),cv5.set (by decide),cv6.set (by decide),cv7.set (by decide),cv8.set (by decide),Vd.same (by simp),by rw [fl_set (show 9≠4 by decide),fl_set (show 9≠7 by decide),fl_got hs (by decide)];exact hJ.box⟩
 case re =>
  rintro ls a' W hall ⟨e0,v,b5,x7,x8,x9,x10,x11,x12,x13,x14,x15,x5,ha,cv0,cv1,cv2,cv3,cv4,cv5,cv6,cv7,cv8,cv9,hJ⟩ o hop
  simp only [putAll,Act.put,List.setIfInBounds_toArray,List.set_cons_succ,List.set_cons_zero] at ha
  subst ha
  simp at hop;subst hop
  obtain rfl:=(cv0.get (hall 0 (by decide))).symm
  obtain rfl:=(cv1.get (hall 1 (by decide))).symm
  obtain rfl:=(cv2.get (hall 2 (by decide))).symm
  obtain rfl:=(cv3.get (hall 3 (by decide))).symm
  obtain rfl:=(cv4.get (hall 4 (by decide))).symm
  obtain rfl:=(cv5.get (hall 5 (by decide))).symm
  obtain rfl:=(cv6.get (hall 6 (by decide))).symm
  obtain rfl:=(cv7.get (hall 7 (by decide))).symm
  obtain rfl:=(cv8.get (hall 8 (by decide))).symm
  obtain rfl:=(cv9.get (hall 9 (by decide))).symm
  rw [fl_yes (hall 4 (by decide))] at hJ
  rw [fl_yes (hall 7 (by decide))] at hJ
  rw [fl_yes (hall 9 (by decide))] at hJ
  obtain ⟨hbx,hb5⟩:=hJ.b rfl
  have how:=hJ.o rfl
  have hnv:=hJ.nv rfl rfl
  have hout:=hJ.out
  clear hJ
  obtain ⟨xl,x0,x1,x2,xf⟩:=id hbx
  go_simp
  go_wp2_with fail
  have HX5:=hide (hbx.put o nm v)
  have HOV:=hide (((how.setFarR hnv 0 (.int .i64 o)).setFarR hnv 1 (.string nm)).setFarR hnv 2 (.slice v.a v.n v.cap))
  have HW1:=hide (((hout.setCell (p:=⟨b5,0,none⟩) hb5 (.int .i64 o)).setCell (p:=⟨b5,1,none⟩) hb5 (.string nm)).setCell (p:=⟨b5,2,none⟩) hb5 (.slice v.a v.n v.cap))
  generalize ((W.setCell ⟨b5,0,none⟩ (.int .i64 o)).setCell ⟨b5,1,none⟩ (.string nm)).setCell ⟨b5,2,none⟩ (.slice v.a v.n v.cap)=W1 at *
  have HB1:=hide (HB0.out.trans (HW1.out.mono HB0.out.size))
  have XR1:=hide (XR.out.below HW1.out)
  have hsB:=HW1.out.size
  have S1B:∀ q,(Value.slice v.a v.n v.cap).ownBlock=some q→WB.heap.size≤q∧q < W1.heap.size:=fun q hq=>World.ownsRow.lt HOV.out q hq
  have HOW1:=hide (OwnR.build (S:=fun q=>S q∨(Value.slice v.a v.n v.cap).ownBlock=some q) C HUL.out HOV.out (fun g hg => .inr hg) (fun i q hq => .inl (HC.out.1 i q hq)) (fun g hg i hi=>by have:=(S1B g hg).1;have:=(HS.out g (HC.out.1 i g hi)).2;omega) HC.out.2.1 HC.out.2.2 (fun i u k hu hk=>(HKS.out i u k hu hk).bel HB1.out))
  have S1D:∀ q,(S q∨(Value.slice v.a v.n v.cap).ownBlock=some q)→q≠b∧q < W1.heap.size∧q≠b5∧q≠w.heap.size+1∧(S q∨w.heap.size≤q):=fun q hq=>by
   rcases hq with hq | hq
   ·have:=HS.out q hq;exact ⟨this.1,by omega,by omega,by omega, .inl hq⟩
   ·have:=S1B q hq;exact ⟨by omega,by omega,(fun e=>hnv (by rw [← e];exact hq)),by omega, .inr (by omega)⟩
  have R1:=hide (HR.out.keep HW1.out (by omega))
  have hb5b:b5≠b:=by omega
  clear hbx how hout
  go_wp2_with fail
  (with_reducible refine (HP.out p 24 _ R1.out (by omega) (by omega) (by omega)).mono ?_);rintro e w2 ⟨v2,p2,rfl,⟨q,rfl,hq0,hqn⟩,hp2,hr2,ho2⟩
  clear hqn
  have hs2:=ho2.size
  have XR2:=hide (XR1.out.outside ho2 (show w.heap.size+1≠b by omega))
  have X52:=hide (HX5.out.outside ho2 hb5b)
  have OW2:=hide (HOW1.out.keep fun q hq hl=>ho2.block q hl (by have:=(S1D q hq).1;omega))
  have R2:=hide hr2
  have O2:=hide ((Outside.of_below (lo:=b) (hi:=b+1) HB1.out).trans ho2)
  have OV2:=hide (ho2.ownHi HOV.out (show b < WB.heap.size by omega))
  have OZ:=hide ho2
  clear hr2 ho2 XR1 HX5
  by_cases hq0:q=0
  ·subst hq0
   have HN:=hide (fun (p:Int) (w':World) (hb:b < w'.heap.size) h hp=>num_any b a c xs p (Value.slice (some (Addr.mk w'.heap.size 0 none)) 5 5) [0,8,1,2,6] (w'.alloc (.cells #[.int .i64 0, .int .i64 8, .int .i64 1, .int .i64 2, .int .i64 6] 3)) h hp (rep_lit w' [0,8,1,2,6] 3 (by decide)) (by decide) (by decide) (by intro g o e;simp at e;omega))
   go_wp2_with fail
   (with_reducible refine (HN.out p2 w2 (by omega) (R2.out.allocNew _) (by omega)).mono ?_);rintro e w3 ⟨v3,p3,rfl,⟨yo,hyo,rfl⟩,hp3,hr3,hoN⟩
   have ho3:=(Outside.of_below (lo:=b) (hi:=b+1) (belowAlloc w2 (.cells #[.int .i64 0, .int .i64 8, .int .i64 1, .int .i64 2, .int .i64 6] 3))).trans hoN
   clear hoN
   have hs3:=ho3.size
   have XR3:=hide (XR2.out.outside ho3 (show w.heap.size+1≠b by omega))
   have X53:=hide (X52.out.outside ho3 hb5b)
   have OW3:=hide (OW2.out.keep fun q hq hl=>ho3.block q hl (by have:=(S1D q hq).1;omega))
   have R3:=hide hr3
   have O3:=hide (O2.out.trans ho3)
   clear hr3 ho3 XR2 X52
   obtain ⟨z4l,z40,z41,z42,z4f⟩:=XR3.out
   obtain ⟨z5l,z50,z51,z52,z5f⟩:=X53.out
   have hn4:¬ (fun q=>S q∨(Value.slice v.a v.n v.cap).ownBlock=some q) (w.heap.size+1):=by intro h;exact (S1D _ h).2.2.2.1 rfl
   have hn5:¬ (fun q=>S q∨(Value.slice v.a v.n v.cap).ownBlock=some q) b5:=by intro h;exact (S1D _ h).2.2.1 rfl
   have hn45:w.heap.size+1≠b5:=by omega
   have OWN4:=hide ((((OW3.out.set hn5 0 (.int .i64 yo)).set hn4 0 (.int .i64 yo)).set hn4 1 (.string nm)).set hn4 2 (.slice v.a v.n v.cap))
   go_wp2_with fail
   refine bodyPost_ret (v:=.agg #[.int .i64 yo, .string nm, .slice v.a v.n v.cap]) (by simp [results,Tryz.results110,go_sem, *]) rfl ⟨_,p3,rfl,⟨yo,nm,v,ks,(fun q=>S q∨(Value.slice v.a v.n v.cap).ownBlock=some q),rfl,OWN4.out,fun q hq => ?_,by omega⟩,by omega,((((R3.out.setNew (g:=b5) (by omega) _ _).setNew (g:=w.heap.size+1) (by omega) _ _).setNew (by omega) _ _).setNew (by omega) _ _),((((O3.out.setNew (g:=b5) (by omega) _ _).setNew (g:=w.heap.size+1) (by omega) _ _).setNew (by omega) _ _).setNew (by omega) _ _)⟩
   have:=S1D q hq;exact ⟨this.2.2.2.2,by simp;omega⟩
  ·have hq0':(q==0)=false:=by simp [hq0]
   by_cases hq1:q=1
   ·subst hq1
    have HOF:=hide (fun (hr:Rd (w2.alloc (.cells #[.string ⟨#[]⟩, .string ⟨#[102,111,111]⟩, .string ⟨#[112,111]⟩] 9)) b a c xs p2)=>of_any b a c xs p2 _ [⟨#[]⟩,⟨#[102,111,111]⟩,⟨#[112,111]⟩] _ w2.heap.size hr (by omega) (Own.lit (E:=StrE) (w:=w2) (T:=9) (Nat.le_refl _) [⟨#[]⟩,⟨#[102,111,111]⟩,⟨#[112,111]⟩] #[.string ⟨#[]⟩, .string ⟨#[102,111,111]⟩, .string ⟨#[112,111]⟩] 3 rfl rfl (by decide)) (by decide) (by decide) (by omega))
    go_wp2_with fail
    (with_reducible refine (HOF.out (R2.out.allocNew _)).mono ?_);rintro e w3 ⟨v3,p3,rfl,⟨y,hy,rfl⟩,hp3,hr3,hoN⟩
    have hys:y.size≤3:=by
     simp only [List.mem_cons,List.not_mem_nil,or_false] at hy
     rcases hy with rfl | rfl | rfl <;> decide
    have ho3:=(Outside.of_below (lo:=b) (hi:=b+1) (belowAlloc w2 (.cells #[.string ⟨#[]⟩, .string ⟨#[102,111,111]⟩, .string ⟨#[112,111]⟩] 9))).trans hoN
    clear hoN hy
    have hs3:=ho3.size
    have XR3:=hide (XR2.out.outside ho3 (show w.heap.size+1≠b by omega))
    have X53:=hide (X52.out.outside ho3 hb5b)
    have OW3:=hide (OW2.out.keep fun q hq hl=>ho3.block q hl (by have:=(S1D q hq).1;omega))
    have R3:=hide hr3
    have O3:=hide (O2.out.trans ho3)
    clear hr3 ho3 XR2 X52
    obtain ⟨z4l,z40,z41,z42,z4f⟩:=XR3.out
    obtain ⟨z5l,z50,z51,z52,z5f⟩:=X53.out
    have hn4:¬ (fun q=>S q∨(Value.slice v.a v.n v.cap).ownBlock=some q) (w.heap.size+1):=by intro h;exact (S1D _ h).2.2.2.1 rfl
    have hn5:¬ (fun q=>S q∨(Value.slice v.a v.n v.cap).ownBlock=some q) b5:=by intro h;exact (S1D _ h).2.2.1 rfl
    have hn45:w.heap.size+1≠b5:=by omega
    have OWN4:=hide ((((OW3.out.set hn5 1 (.string y)).set hn4 0 (.int .i64 o)).set hn4 1 (.string y)).set hn4 2 (.slice v.a v.n v.cap))
    go_wp2_with fail
    refine bodyPost_ret (v:=.agg #[.int .i64 o, .string y, .slice v.a v.n v.cap]) (by simp [results,Tryz.results110,go_sem, *]) rfl ⟨_,p3,rfl,⟨o,y,v,ks,(fun q=>S q∨(Value.slice v.a v.n v.cap).ownBlock=some q),rfl,OWN4.out,fun q hq => ?_,by omega⟩,by omega,((((R3.out.setNew (g:=b5) (by omega) _ _).setNew (g:=w.heap.size+1) (by omega) _ _).setNew (by omega) _ _).setNew (by omega) _ _),((((O3.out.setNew (g:=b5) (by omega) _ _).setNew (g:=w.heap.size+1) (by omega) _ _).setNew (by omega) _ _).setNew (by omega) _ _)⟩
    have:=S1D q hq;exact ⟨this.2.2.2.2,by simp;omega⟩
   ·have hq1':(q==1)=false:=by simp [hq1]
    by_cases hq2:q=2
    ·subst hq2
     have HDR:Hid (∀ (p:Int) (W:World),Rd W b a c xs p→p≤850000000→Calls Tryz.prog 113 #[.pointer (some ⟨b,0,none⟩), .int .i64 1] W (RetRd W b a c xs p 15 (QE W.heap.size 54))):=hide (fun p W h hp=>l7Draw_any b a c xs 1 (by omega) p W h (by simp;omega))
     have HK2:=hide (fun i u k hu hk=>((HKS.out i u k hu hk).bel HB1.out).keep fun q hq hl=>OZ.out.block q hl (by have:=(HS.out q (HC.out.1 i q hq)).1;omega))
     go_wp2_with fail
     -- reg app
     refine wp_region_inv3 (n:=7) (by kernel_rfl) rfl (by kernel_rfl) (by kernel_rfl) (fun A ls a' W => ∃ (pp:Int) (o1:Int) (n1:ByteArray) (s1:Slc) (k1:List Re) (Sg:Nat→Prop) (G:Nat) (vv:Slc) (x32 x33 x34 x35 x36 x37 x38:Value),a'=putAll A [(32,x32),(33,x33),(34,x34),(35,x35),(36,x36),(37,x37),(38,x38)]∧Vd ls 0 [] x32 (.pointer (some ⟨b5,2,none⟩))∧Vd ls 1 [] x33 (.slice v.a v.n v.cap)∧Vd ls 2 [] x34 (.pointer (some ⟨b,0,none⟩))∧Vd ls 3 [] x35 (.agg #[.int .i64 o1, .string n1, .slice s1.a s1.n s1.cap])∧Vd ls 4 [3] x36 (.slice (some ⟨G,0,none⟩) 1 1)∧Vd ls 5 [3,4] x37 (.slice vv.a vv.n vv.cap)∧Vd ls 6 [] x38 (.pointer (some ⟨b5,2,none⟩))∧JM2 w WB w2 b a c xs p2 b5 o nm v us ks C (fl ls 3) (fl ls 4) (fl ls 5) pp o1 n1 s1 k1 Sg G vv W) ?r0 ?rs ?re
     case r0 =>
      exact ⟨p2,0,⟨#[]⟩,⟨none,0,0⟩,[],(fun _=>False),0,⟨none,0,0⟩,undef,undef,undef,undef,undef,undef,undef,by simp only [putAll,Act.put,List.setIfInBounds_toArray,List.set_cons_succ,List.set_cons_zero],Vd.start,Vd.start,Vd.start,Vd.start,Vd.start,Vd.start,Vd.start,by simp only [fl_start];exact ⟨R2.out.keep (Below.refl _ _).drew R2.out.lt,by simp,O2.out.trans (Outside.of_below (Below.refl _ _).drew),by simp,X52.out.below (Below.refl _ _).drew,XR2.out.below (Below.refl _ _).drew,fun i u k hu hk=>(HK2.out i u k hu hk).bel (Below.refl _ _).drew,fun h=>(nomatch h),fun h=>(nomatch h),fun _=>OV2.out.below (Below.refl _ _).drew,fun h=>(nomatch h),fun h=>(nomatch h),fun h=>(nomatch h)⟩⟩
     case rs =>
      rintro ls a' W hs hnl ⟨pp,o1,n1,s1,k1,Sg,G,vv,x32,x33,x34,x35,x36,x37,x38,ha,cv0,cv1,cv2,cv3,cv4,cv5,cv6,hJ⟩ k o hkn mc K hK
      simp only [putAll,Act.put,List.setIfInBounds_toArray,List.set_cons_succ,List.set_cons_zero] at ha
      subst ha
      have hkc:k=0∨k=1∨k=2∨k=3∨k=4∨k=5∨k=6:=by omega
      have hop:=mc.op
      have haf:=mc.after
      rcases hkc with rfl | rfl | rfl | rfl | rfl | rfl | rfl
      ·simp at hop;subst hop;simp [Region.binds] at haf
       obtain ⟨z5l,z50,z51,z52, -⟩:=hJ.x5
       go_simp
       exact hK _ _ ⟨pp,o1,n1,s1,k1,Sg,G,vv,_,_,_,_,_,_,_,by simp only [putAll,Act.put,List.setIfInBounds_toArray,List.set_cons_succ,List.set_cons_zero],Vd.same (by simp),cv1.set (by decide),cv2.set (by decide),cv3.set (by decide),cv4.set (by decide),cv5.set (by decide),cv6.set (by decide),by rw [fl_set (show 0≠3 by decide),fl_set (show 0≠4 by decide),fl_set (show 0≠5 by decide)];exact hJ⟩
      ·simp at hop;subst hop;simp [Region.binds] at haf
       obtain rfl:=(cv0.get (by simp [haf])).symm
       obtain ⟨z5l,z50,z51,z52, -⟩:=hJ.x5
       go_simp
       exact hK _ _ ⟨pp,o1,n1,s1,k1,Sg,G,vv,_,_,_,_,_,_,_,by simp only [putAll,Act.put,List.setIfInBounds_toArray,List.set_cons_succ,List.set_cons_zero],cv0.set (by decide),Vd.same (by simp),cv2.set (by decide),cv3.set (by decide),cv4.set (by decide),cv5.set (by decide),cv6.set (by decide),by rw [fl_set (show 1≠3 by decide),fl_set (show 1≠4 by decide),fl_set (show 1≠5 by decide)];exact hJ⟩
      ·simp at hop;subst hop;simp [Region.binds] at haf
       go_simp
       exact hK _ _ ⟨pp,o1,n1,s1,k1,Sg,G,vv,_,_,_,_,_,_,_,by simp only [putAll,Act.put,List.setIfInBounds_toArray,List.set_cons_succ,List.set_cons_zero],cv0.set (by decide),cv1.set (by decide),Vd.same (by simp),cv3.set (by decide),cv4.set (by decide),cv5.set (by decide),cv6.set (by decide),by rw [fl_set (show 2≠3 by decide),fl_set (show 2≠4 by decide),fl_set (show 2≠5 by decide)];exact hJ⟩
      ·simp at hop;subst hop;simp [Region.binds] at haf
       obtain rfl:=(cv2.get (by simp [haf])).symm
       have f3:=fl_no mc.new;rw [f3] at hJ
       go_simp
       go_at_call 113
       (with_reducible refine (HDR.out pp W hJ.rd (by have:=hJ.le;simp at this;omega)).mono ?_);rintro e u ⟨v',pp',rfl,⟨o',n',s',k',S',rfl,hk',hS',hn',hd'⟩,hpp,hru,hou⟩
       exact hK _ _ ⟨pp',o',n',s',k',S',G,vv,_,_,_,_,_,_,_,by simp only [putAll,Act.put,List.setIfInBounds_toArray,List.set_cons_succ,List.set_cons_zero],cv0.set (by decide),cv1.set (by decide),cv2.set (by decide),Vd.same (by simp),cv4.void (by decide) (by decide) mc.new,cv5.void (by decide) (by decide) mc.new,cv6.set (by decide),by rw [fl_got hs (by decide),fl_set (show 3≠4 by decide),fl_set (show 3≠5 by decide)];exact hJ.draw hru hpp hou hk' hS' hn' hd' hb5b (by omega) (by omega) (fun i q hq=>(HS.out q (HC.out.1 i q hq)).1)⟩
      ·simp at hop;subst hop;simp [Region.binds] at haf
       obtain rfl:=(cv3.get (by simp [haf])).symm
       have f4:=fl_no mc.new;rw [f4] at hJ
       have f3:=fl_yes (show ls[3]? = some true by simp [haf]);rw [f3] at hJ
       go_simp
       exact hK _ _ ⟨pp,o1,n1,s1,k1,Sg,W.heap.size,vv,_,_,_,_,_,_,_,by simp only [putAll,Act.put,List.setIfInBounds_toArray,List.set_cons_succ,List.set_cons_zero],cv0.set (by decide),cv1.set (by decide),cv2.set (by decide),cv3.set (by decide),Vd.same (by simp [haf]),cv5.void (by decide) (by decide) mc.new,cv6.set (by decide),by rw [fl_set (show 4≠3 by decide),fl_got hs (by decide),fl_set (show 4≠5 by decide),f3];exact hJ.lit⟩
      ·simp at hop;subst hop;simp [Region.binds] at haf
       have q4:=(cv4 (by simp [haf])).1;simp at q4
       obtain rfl:=(cv1.get (by simp [haf])).symm
       obtain rfl:=(cv4.get (by simp [haf])).symm
       have f5:=fl_no mc.new;rw [f5] at hJ
       have f4:=fl_yes (show ls[4]? = some true by simp [haf]);rw [f4] at hJ
       refine step_appAt RsE 52 Tryz.infoRel rfl Tryz.underlying50 WB.heap.size (.slice v.a v.n v.cap) us ⟨o1,n1,s1⟩ (hJ.ov rfl) (by decide) (by omega) (Nat.le_trans (show WB.heap.size≤w2.heap.size by omega) hJ.sz) (by rfl) _ _ (by rfl) (by rfl) G 0 1 (by rfl) (hJ.ce rfl rfl) ?_;intro s' w6 ho6 hg6 hat6
       exact hK _ _ ⟨pp,o1,n1,s1,k1,Sg,G,s',_,_,_,_,_,_,_,by simp only [putAll,Act.put,List.setIfInBounds_toArray,List.set_cons_succ,List.set_cons_zero],cv0.set (by decide),cv1.set (by decide),cv2.set (by decide),cv3.set (by decide),cv4.set (by decide),Vd.same (by simp [haf]),cv6.set (by decide),by rw [fl_set (show 5≠3 by decide),fl_set (show 5≠4 by decide),fl_got hs (by decide),f4];exact hJ.app ho6 hg6 hat6 hnv hzB (by omega) hlt (fun g e=>by have:=S1B g e;omega) (fun i q hq=>(HS.out q (HC.out.1 i q hq)).2)⟩
      ·simp at hop;subst hop;simp [Region.binds] at haf
       obtain ⟨z5l,z50,z51,z52, -⟩:=hJ.x5
       go_simp
       exact hK _ _ ⟨pp,o1,n1,s1,k1,Sg,G,vv,_,_,_,_,_,_,_,by simp only [putAll,Act.put,List.setIfInBounds_toArray,List.set_cons_succ,List.set_cons_zero],cv0.set (by decide),cv1.set (by decide),cv2.set (by decide),cv3.set (by decide),cv4.set (by decide),cv5.set (by decide),Vd.same (by simp),by rw [fl_set (show 6≠3 by decide),fl_set (show 6≠4 by decide),fl_set (show 6≠5 by decide)];exact hJ⟩
     case re =>
      rintro ls a' W hall ⟨pp,o1,n1,s1,k1,Sg,G,vv,x32,x33,x34,x35,x36,x37,x38,ha,cv0,cv1,cv2,cv3,cv4,cv5,cv6,hJ⟩ o hop
      simp only [putAll,Act.put,List.setIfInBounds_toArray,List.set_cons_succ,List.set_cons_zero] at ha
      subst ha
      simp at hop;subst hop
      obtain rfl:=(cv0.get (hall 0 (by decide))).symm
      obtain rfl:=(cv1.get (hall 1 (by decide))).symm
      obtain rfl:=(cv2.get (hall 2 (by decide))).symm
      obtain rfl:=(cv3.get (hall 3 (by decide))).symm
      obtain rfl:=(cv4.get (hall 4 (by decide))).symm
      obtain rfl:=(cv5.get (hall 5 (by decide))).symm
      obtain rfl:=(cv6.get (hall 6 (by decide))).symm
      rw [fl_yes (hall 3 (by decide))] at hJ
      rw [fl_yes (hall 4 (by decide))] at hJ
      rw [fl_yes (hall 5 (by decide))] at hJ
      obtain ⟨hov3,hgv⟩:=hJ.fin rfl
      obtain ⟨d1,d2,d3,d4⟩:=hJ.dr rfl
      have hvb:=fun g (e:(Value.slice vv.a vv.n vv.cap).ownBlock=some g)=>World.ownsRow.lt hov3 g e
      have S3D:∀ q,(S q∨Sg q∨(Value.slice vv.a vv.n vv.cap).ownBlock=some q)→q≠b5∧q≠w.heap.size+1∧(S q∨w.heap.size≤q)∧q < W.heap.size:=fun q hq=>by
       have hsz:=hJ.sz
       rcases hq with hq | hq | hq
       ·have:=HS.out q hq;exact ⟨by omega,by omega, .inl hq,by omega⟩
       ·have:=d2 q hq;have:=X52.out.lt;exact ⟨by omega,by omega, .inr (by omega),by omega⟩
       ·have:=hvb q hq;exact ⟨(hgv q hq).1,by omega, .inr (by omega),by omega⟩
      have OW3:=hide (OwnR.snoc (S:=S) (S':=fun q=>S q∨Sg q∨(Value.slice vv.a vv.n vv.cap).ownBlock=some q) (k1:=.mk o1 n1 k1) HUL.out hov3 (fun g e=>⟨.inr (.inr e),fun h=>by have:=hvb g e;have:=HS.out g h;omega,(hgv g e).2⟩) HC.out.1 HC.out.2.1 HC.out.2.2 hJ.kk ⟨rfl,rfl⟩ d1 (fun q h1 h2=>by have:=d2 q h2;have:=HS.out q h1;omega) (fun q h => .inl h) (fun q h => .inr (.inl h)))
      have hp3:=hJ.le
      simp only [if_true] at hp3
      have R3:=hide hJ.rd
      have O3:=hide hJ.oo
      have X53:=hide hJ.x5
      have XR3:=hide hJ.x4
      obtain ⟨p3,hp3e⟩:∃ p3,p3=pp:=⟨_,rfl⟩
      rw [← hp3e] at R3 hp3
      clear hJ hov3
      obtain ⟨z4l,z40,z41,z42,z4f⟩:=XR3.out
      obtain ⟨z5l,z50,z51,z52,z5f⟩:=X53.out
      go_simp
      obtain ⟨z4l,z40,z41,z42,z4f⟩:=XR3.out
      obtain ⟨z5l,z50,z51,z52,z5f⟩:=X53.out
      have hn4:¬ (fun q=>S q∨Sg q∨(Value.slice vv.a vv.n vv.cap).ownBlock=some q) (w.heap.size+1):=by intro h;exact (S3D _ h).2.1 rfl
      have hn5:¬ (fun q=>S q∨Sg q∨(Value.slice vv.a vv.n vv.cap).ownBlock=some q) b5:=by intro h;exact (S3D _ h).1 rfl
      have hn45:w.heap.size+1≠b5:=by omega
      have OWN4:=hide ((((OW3.out.set hn5 2 (.slice vv.a vv.n vv.cap)).set hn4 0 (.int .i64 o)).set hn4 1 (.string nm)).set hn4 2 (.slice vv.a vv.n vv.cap))
      go_wp2_with fail
      refine bodyPost_ret (v:=.agg #[.int .i64 o, .string nm, .slice vv.a vv.n vv.cap]) (by simp [results,Tryz.results110,go_sem, *]) rfl ⟨_,p3,rfl,⟨o,nm,vv,(ks++[.mk o1 n1 k1]),(fun q=>S q∨Sg q∨(Value.slice vv.a vv.n vv.cap).ownBlock=some q),rfl,OWN4.out,fun q hq => ?_,by rw [wtR_append,wtR_one];omega⟩,by omega,((((R3.out.setNew (g:=b5) (by omega) _ _).setNew (g:=w.heap.size+1) (by omega) _ _).setNew (by omega) _ _).setNew (by omega) _ _),((((O3.out.setNew (g:=b5) (by omega) _ _).setNew (g:=w.heap.size+1) (by omega) _ _).setNew (by omega) _ _).setNew (by omega) _ _)⟩
      have:=S3D q hq;exact ⟨this.2.2.1,by simp;omega⟩
     -- end app
    ·have hq2':(q==2)=false:=by simp [hq2]
     by_cases hq3:q=3
     ·subst hq3
      have hk0:0≤wtR ks:=Nat.zero_le _
      go_wp2_with fail
      go_loopw [6] (fun i wr => ∃ (j:Nat) (o3:Int) (n3:ByteArray) (s3:Slc) (k3:List Re) (S3:Nat→Prop),i = .int .i64 j∧j≤12∧BoxR wr b5 o3 n3 s3∧BoxR wr (w.heap.size+1) 0 ⟨#[]⟩ ⟨none,0,0⟩∧OwnR 52 wr S3 s3 k3∧(∀ q,S3 q→q≠b5∧q≠w.heap.size+1∧(S q∨w.heap.size≤q)∧q < wr.heap.size)∧n3.size+wtR k3≤nm.size+wtR ks+j∧Rd wr b a c xs p2∧Outside b (b+1) w wr) (fun i _=>12 - (intOf i).toNat)
      case atStart=>exact ⟨0,o,nm,v,ks,(fun q=>S q∨(Value.slice v.a v.n v.cap).ownBlock=some q),rfl,by omega,X52.out,XR2.out,OW2.out,fun q hq=>⟨(S1D q hq).2.2.1,(S1D q hq).2.2.2.1,(S1D q hq).2.2.2.2,by have:=(S1D q hq).2.1;omega⟩,by omega,R2.out,O2.out⟩
      case round =>
       obtain ⟨j,o3,n3,s3,k3,S3,rfl,hj,hx5,hx4,hw3,hS3,hwt,hr3,ho3⟩:=hrel
       have hs3:=ho3.size
       have X53:=hide hx5;have XR3:=hide hx4;have OW3:=hide hw3;have R3:=hide hr3;have O3:=hide ho3;have HS3:=hide hS3
       clear hx5 hx4 hw3 hS3 hr3 ho3
       by_cases hlt3:j < 12
       ·have hlt3':(j:Int) < 12:=by omega
        obtain ⟨z5l,z50,z51,z52,z5f⟩:=X53.out
        have hn5:¬ S3 b5:=fun h=>(HS3.out _ h).1 rfl
        have hA:=((OW3.out.set hn5 0 (.int .i64 6)).set hn5 1 (.string ⟨#[]⟩)).set hn5 2 (.slice (some ⟨wr.heap.size,0,none⟩) 1 1)
        have hB:=OwnR.one (S':=fun q=>S3 q∨q=wr.heap.size) hA (fun q hq=>by have:=(HS3.out q hq).2.2.2;simpa using this) (fun q hq => .inl hq) (.inr (by simp)) o3 n3
        have hX:=(BoxR.put (BoxR.mk z5l z50 z51 z52 z5f) 6 ⟨#[]⟩ ⟨some ⟨wr.heap.size,0,none⟩,1,1⟩).below (belowAlloc _ (.cells #[.int .i64 o3, .string n3, .slice s3.a s3.n s3.cap] 52))
        have h45:w.heap.size+1≠b5:=by omega
        have hY:=(((XR3.out.other h45 (j:=0) (u:=.int .i64 6)).other h45 (j:=1) (u:=.string ⟨#[]⟩)).other h45 (j:=2) (u:=.slice (some ⟨wr.heap.size,0,none⟩) 1 1)).below (belowAlloc _ (.cells #[.int .i64 o3, .string n3, .slice s3.a s3.n s3.cap] 52))
        have HA:=hide hB;have HX:=hide hX;have HY:=hide hY
        clear hA hB hX hY
        go_wp2_with fail
        go_roundw
        case rel=>exact ⟨j+1,6,⟨#[]⟩,⟨some ⟨wr.heap.size,0,none⟩,1,1⟩,[.mk o3 n3 k3],(fun q=>S3 q∨q=wr.heap.size),by go_num,by omega,by simpa using HX.out,by simpa using HY.out,by simpa using HA.out,fun q hq=>(by
         rcases hq with hq | rfl
         ·have:=HS3.out q hq;exact ⟨this.1,this.2.1,this.2.2.1,by simp;omega⟩
         ·exact ⟨by omega,by omega, .inr (by omega),by simp⟩),by rw [wtR_one];have:(⟨#[]⟩:ByteArray).size=0:=rfl;omega,(((R3.out.setNew (g:=b5) (by omega) _ _).setNew (by omega) _ _).setNew (by omega) _ _).allocNew _,(((O3.out.setNew (g:=b5) (by omega) _ _).setNew (by omega) _ _).setNew (by omega) _ _).allocNew _⟩
        case measure=>simp [intOf];omega
       ·have hlt3':¬ (j:Int) < 12:=by omega
        have hp3:p2=p2:=rfl
        obtain ⟨p3,hp3e⟩:∃ p3,p3=p2:=⟨_,rfl⟩
        rw [← hp3e] at R3
        obtain ⟨z4l,z40,z41,z42,z4f⟩:=XR3.out
        obtain ⟨z5l,z50,z51,z52,z5f⟩:=X53.out
        have hn4:¬ S3 (w.heap.size+1):=by intro h;exact (HS3.out _ h).2.1 rfl
        have hn5:¬ S3 b5:=by intro h;exact (HS3.out _ h).1 rfl
        have hn45:w.heap.size+1≠b5:=by omega
        have OWN4:=hide (((OW3.out.set hn4 0 (.int .i64 o3)).set hn4 1 (.string n3)).set hn4 2 (.slice s3.a s3.n s3.cap))
        go_wp2_with fail
        refine bodyPost_ret (v:=.agg #[.int .i64 o3, .string n3, .slice s3.a s3.n s3.cap]) (by simp [results,Tryz.results110,go_sem, *]) rfl ⟨_,p3,rfl,⟨o3,n3,s3,k3,S3,rfl,OWN4.out,fun q hq => ?_,by omega⟩,by omega,(((R3.out.setNew (g:=w.heap.size+1) (by omega) _ _).setNew (by omega) _ _).setNew (by omega) _ _),(((O3.out.setNew (g:=w.heap.size+1) (by omega) _ _).setNew (by omega) _ _).setNew (by omega) _ _)⟩
        have:=HS3.out q hq;exact ⟨this.2.2.1,by simp;omega⟩
     ·have hq3':(q==3)=false:=by simp [hq3]
      clear hq0 hq1 hq2 hq3
      obtain ⟨z4l,z40,z41,z42,z4f⟩:=XR2.out
      obtain ⟨z5l,z50,z51,z52,z5f⟩:=X52.out
      have hn4:¬ (fun q=>S q∨(Value.slice v.a v.n v.cap).ownBlock=some q) (w.heap.size+1):=by intro h;exact (S1D _ h).2.2.2.1 rfl
      have hn5:¬ (fun q=>S q∨(Value.slice v.a v.n v.cap).ownBlock=some q) b5:=by intro h;exact (S1D _ h).2.2.1 rfl
      have hn45:w.heap.size+1≠b5:=by omega
      have OWN4:=hide (((OW2.out.set hn4 0 (.int .i64 o)).set hn4 1 (.string nm)).set hn4 2 (.slice v.a v.n v.cap))
      go_wp2_with fail
      refine bodyPost_ret (v:=.agg #[.int .i64 o, .string nm, .slice v.a v.n v.cap]) (by simp [results,Tryz.results110,go_sem, *]) rfl ⟨_,p2,rfl,⟨o,nm,v,ks,(fun q=>S q∨(Value.slice v.a v.n v.cap).ownBlock=some q),rfl,OWN4.out,fun q hq => ?_,by omega⟩,by omega,(((R2.out.setNew (g:=w.heap.size+1) (by omega) _ _).setNew (by omega) _ _).setNew (by omega) _ _),(((O2.out.setNew (g:=w.heap.size+1) (by omega) _ _).setNew (by omega) _ _).setNew (by omega) _ _)⟩
      have:=S1D q hq;exact ⟨this.2.2.2.2,by simp;omega⟩
 -- end copy
end Go.Proofs.YtfbgppkdnfljhaaGreatDoor
namespace Go.Proofs.YtfbgppkdnfljhaaGreatDoor
open Go.RowKit
theorem OwnFU.outside {α β:Type} {E:El α} {T:TypeId} {R:Dd→Dd→Prop} {φ:Dd→World→α→β→Prop} {us:List α} {ds:List Dd} {w w':World} {base b:Nat} {v:Value} {xs:List β} (h:OwnFU E T R φ us ds w base v xs) (ho:Outside b (b+1) w w') (hb:b < base):OwnFU E T R φ us ds w' base v xs:=
 ⟨h.lu,h.ld,h.pw,ho.ownHi h.own hb,fun i u d x h1 h2 h3=>by
  obtain ⟨r1,r2⟩:=h.rows i u d x h1 h2 h3
  exact ⟨r1,r2.step ho.size fun k ob hk1 hk2 hk3 _=>(ho.block k (Array.getElem?_eq_some_iff.1 hk3).1 (by omega)).trans hk3⟩⟩
theorem OwnM.outs {w w':World} {base b:Nat} {v:Value} {m:List Ru} (h:OwnM w base v m) (ho:Outside b (b+1) w w') (hb:b < base):OwnM w' base v m:=by
 obtain ⟨us,ds,h⟩:=h
 exact ⟨us,ds,h.outside ho hb⟩
theorem wtM_append (m m':List Ru):wtM (m++m')=wtM m+wtM m':=by simp [wtM]
theorem wtM_one (r:Ru):wtM [r]=r.e.nm.size+wtR r.e.kids+1:=by simp [wtM]
theorem l7Models_any (w:World):Calls Tryz.prog 111 #[] w (RetOwn StrE 9 w textsM):=by
 go_enter Tryz.func111,Tryz.ntmps111
 go_wp2
 go_ret
 exact ⟨_,rfl,Own.lit (E:=StrE) (Nat.le_refl _) textsM _ 7 rfl rfl (by decide),(Below.refl _ _).alloc (Nat.le_refl _) _⟩
def QR (lo:Nat) (v:Value) (w:World):Prop:=∃ m,OwnM w lo v m∧1≤m.length∧m.length≤5∧wtM m≤100000
theorem l7Rules_any (b:Nat) (a:Option Addr) (c:Nat) (xs:List Int) (p:Int) (w:World) (hr:Rd w b a c xs p) (hp:p≤800000000) :
 Calls Tryz.prog 55 #[.pointer (some ⟨b,0,none⟩)] w (RetRd w b a c xs p 300 (QR w.heap.size)):=by
 have HP:=hide (fun (p:Int) n w' h hp (hn:n≤100) (hn0:0≤n)=>pick_any b a c xs p n w' h hp (by omega) (by omega))
 have HDR:Hid (∀ (p:Int) (W:World),Rd W b a c xs p→p≤850000000→Calls Tryz.prog 113 #[.pointer (some ⟨b,0,none⟩), .int .i64 3] W (RetRd W b a c xs p 75 (QE W.heap.size 258))):=hide (fun p W h hp=>l7Draw_any b a c xs 3 (by omega) p W h (by simp;omega))
 have HL:=hide l7Models_any
 have HPM:=hide (fun (x:ByteArray) (m:List Ru) (hg:GoodM x m) (W:World)=>sParseModel_ok x m hg W)
 have HR:=hide hr
 have hlt:=hr.lt
 clear hr
 go_enter Tryz.func55,Tryz.ntmps55
 go_wp2_with fail
 (with_reducible refine (HL.out _).mono ?_);rintro e w1 ⟨v1,rfl,ho1,hb1⟩
 rcases ho1.shape with ⟨-,h0⟩ | ⟨g1,c1,rfl,hg1,hgl1,hc1, -⟩
 ·simp [textsM] at h0
 simp only [show textsM.length=7 from rfl] at ho1 hc1 ⊢
 have HO1:=hide ho1
 have R1:=hide (HR.out.keep hb1 hlt)
 have O1:=hide (Outside.of_below (lo:=b) (hi:=b+1) hb1)
 have hs1:=hb1.size
 clear ho1 hb1
 go_wp2_with fail
 (with_reducible refine (HP.out p 3 _ R1.out (by omega) (by omega) (by omega)).mono ?_);rintro e w2 ⟨v2,p2,rfl,⟨q,rfl,hq0,hqn⟩,hp2,hr2,ho2⟩
 have hs2:=ho2.size
 have R2:=hide hr2
 have O2:=hide (O1.out.trans ho2)
 have HO2:=hide (ho2.ownHi HO1.out (show b < w.heap.size from hlt))
 clear hr2 ho2 hqn
 by_cases hq:0 < q
 ·have hq':decide (0 < q)=true:=decide_eq_true hq
  go_wp2_with fail
  (with_reducible refine (HP.out p2 7 _ R2.out (by omega) (by omega) (by omega)).mono ?_);rintro e w3 ⟨v3,p3,rfl,⟨y,rfl,hy0,hyn⟩,hp3,hr3,ho3⟩
  have hyn:=hyn (by omega)
  obtain ⟨y,rfl⟩:∃ y':Nat,y=(y':Int):=⟨y.toNat,by omega⟩
  obtain ⟨x,hx⟩:=get_of_lt (xs:=textsM) (k:=y) (show y < 7 by omega)
  have cx:=(ho3.ownHi HO2.out (show b < w.heap.size from hlt)).cell (j:=0) (u:=.string x) hx rfl
  simp only [StrE,Nat.mul_one,Nat.add_zero] at cx
  have cl:=lt_of_cell cx
  obtain ⟨m,hg⟩:=textsM_good x (List.mem_of_getElem? hx)
  have hmo:=hg.ok
  have hmw:=hg.wt
  have HPX:=hide (HPM.out x m hg)
  have hs3:=ho3.size
  have R3:=hide hr3
  have O3:=hide (O2.out.trans ho3)
  clear hr3 ho3 hx hg
  go_wp2_with fail
  (with_reducible refine (HPX.out _).mono ?_);rintro e w4 ⟨v4,rfl,ho4,hb4⟩
  have HO4:=hide (OwnF.mono ho4 (show w.heap.size≤w3.heap.size by omega))
  have R4:=hide (R3.out.keep hb4 (by omega))
  have O4:=hide (O3.out.trans (Outside.of_below hb4))
  clear ho4 hb4 cx cl
  go_wp2_with fail
  unfold modelOk at hmo
  simp only [Bool.and_eq_true,decide_eq_true_eq] at hmo
  refine bodyPost_ret (v:=v4) (by simp [results,Tryz.results55,go_sem, *]) rfl ⟨_,p3,rfl,⟨m,HO4.out,hmo.1,hmo.2.1,hmw⟩,by omega,R4.out,O4.out⟩
 ·have hq':decide (0 < q)=false:=decide_eq_false hq
  obtain rfl:q=0:=by omega
  have R2a:=hide (R2.out.allocNew (.cells #[] 54))
  have O2a:=hide (O2.out.allocNew (.cells #[] 54))
  have HOa:=hide (OwnF.empty (E:=UsE) (R:=Rany) (φ:=PhiM) 54 w2 (show w.heap.size≤w2.heap.size by omega))
  go_wp2_with fail
  (with_reducible refine (HP.out p2 2 _ R2a.out (by omega) (by omega) (by omega)).mono ?_);rintro e w3 ⟨v3,p3,rfl,⟨y,rfl,hy0,hyn⟩,hp3,hr3,ho3⟩
  have hyn:=hyn (by omega)
  have R3:=hide hr3
  have O3:=hide (O2a.out.trans ho3)
  have HO3:=hide (OwnM.outs HOa.out ho3 hlt)
  clear hr3 ho3
  go_wp2_with fail
  go_loopw [6,7] (fun v i wr => ∃ (j:Nat) (pp:Int) (s6:Slc) (m:List Ru),i = .int .i64 j∧j≤2∧v = .slice s6.a s6.n s6.cap∧OwnM wr w.heap.size (.slice s6.a s6.n s6.cap) m∧1≤m.length+j∧m.length+j≤2∧wtM m≤300 * m.length∧Rd wr b a c xs pp∧pp≤p+3+76 * m.length∧Outside b (b+1) w wr) (fun _ i _=>(intOf i).toNat)
  case atStart=>exact ⟨(1+y).toNat,p3,⟨some ⟨w2.heap.size,0,none⟩,0,0⟩,[],by go_num,by omega,rfl,HO3.out,by simp;omega,by simp;omega,by simp [wtM],R3.out,by simp;omega,O3.out⟩
  case round =>
   obtain ⟨j,pp,s6,m,rfl,hj,rfl,hom,hm1,hm2,hwt,hrr,hpp,hoo⟩:=hrel
   have HOM:=hide hom;have RR:=hide hrr;have OO:=hide hoo
   have hso:=hoo.size
   clear hom hrr hoo
   by_cases hlj:0 < j
   ·have hlj':decide (0 < j)=true:=decide_eq_true hlj
    go_wp2_with fail
    (with_reducible refine (HP.out pp 3 _ RR.out (by omega) (by omega) (by omega)).mono ?_);rintro e w5 ⟨v5,p5,rfl,⟨k,rfl,hk0,hkn⟩,hp5,hr5,ho5⟩
    have hkn:=hkn (by omega)
    have R5:=hide hr5
    have O5:=hide (OO.out.trans ho5)
    have HO5:=hide (OwnM.outs HOM.out ho5 hlt)
    have hs5:=ho5.size
    clear hr5 ho5
    go_wp2_with fail
    (with_reducible refine (HDR.out p5 _ R5.out (by omega)).mono ?_);rintro e w6 ⟨v6,p6,rfl,⟨o1,n1,s1,k1,S1,rfl,hk1,hS1,hn1,hd1⟩,hp6,hr6,ho6⟩
    have hs6:=ho6.size
    have R6:=hide hr6
    have O6:=hide (O5.out.trans ho6)
    obtain ⟨us,ds,hU⟩:=OwnM.outs HO5.out ho6 hlt
    have hlu:us.length≤68719476736:=by have:=hU.lu;omega
    have HU:=hide hU
    have HU2:=hide (hU.below (belowAlloc w6 (.cells #[.int .i64 (1+k), .int .i64 o1, .string n1, .slice s1.a s1.n s1.cap] 54)))
    have HN:=hide (OwnR.locM (lo:=w5.heap.size) (hi:=w6.heap.size) (r:=⟨1+k, .mk o1 n1 k1⟩) ((hk1.wide hS1).bel (belowAlloc w6 (.cells #[.int .i64 (1+k), .int .i64 o1, .string n1, .slice s1.a s1.n s1.cap] 54))) (by simp))
    clear hk1 hS1 hr6 ho6 hU
    go_wp2_with (at_builtin;refine wpList_app UsE 54 Tryz.infoRule rfl Tryz.underlying30 w.heap.size _ us ⟨1+k,o1,n1,s1⟩ HU2.out.own (by decide) hlu (by simp;omega) rfl _ _ rfl rfl w6.heap.size 0 1 rfl news_alloc ?_;intro v' w8 ho8 hgr8)
    have hm8:=OwnM.app (r:=⟨1+k, .mk o1 n1 k1⟩) (s:=s1) HU2.out HN.out (by omega) ho8 hgr8
    have hbs:=fun q e=>(World.ownsRow.lt HU.out.own q e).1
    obtain ⟨s8,rfl, -⟩:=hm8.toSlc
    go_roundw
    case rel=>exact ⟨j - 1,p6,s8,m++[⟨1+k, .mk o1 n1 k1⟩],by go_num,by omega,rfl,hm8,by simp;omega,by simp;omega,by rw [wtM_append,wtM_one];simp [Re.nm,Re.kids];omega,R6.out.keep (B:=w.heap.size) (((Below.refl w.heap.size w6).alloc (by omega) _).grown hgr8 (by simp;omega) hbs) hlt,by simp;omega,(O6.out.allocNew _).grownNew hgr8 hbs⟩
    case measure=>simp [intOf];omega
   ·have hlj':decide (0 < j)=false:=decide_eq_false hlj
    obtain rfl:j=0:=by omega
    go_wp2_with fail
    refine bodyPost_ret (v:=.slice s6.a s6.n s6.cap) (by simp [results,Tryz.results55,go_sem, *]) rfl ⟨_,pp,rfl,⟨m,HOM.out,by omega,by omega,by omega⟩,by omega,RR.out,OO.out⟩
end Go.Proofs.YtfbgppkdnfljhaaGreatDoor
namespace Go.Proofs.YtfbgppkdnfljhaaGreatDoor
open Go.RowKit
theorem LocR.setOwn {α:Type} {E:El α} {T:TypeId} {lo hi base:Nat} {w:World} {v:Value} {xs:List α} {φ:World→Prop} (h:LocR T lo hi w φ) (ho:Own E T w base v xs) {g:Nat} (hg:v.ownBlock=some g) (j:Nat) (u:Value):LocR T lo hi (w.setCell ⟨g,j,none⟩ u) φ:=
 h.step (by simp) fun k ob _ _ h5 h6=>(heap_setCell_other w ⟨g,j,none⟩ k u (fun e=>by
  obtain ⟨a,ha⟩:=ho.typed hg
  have e2:k=g:=e
  rw [e2,ha] at h5
  exact h6 a _ (Option.some.inj h5).symm)).trans h5
theorem OwnR.setOwn {α:Type} {E:El α} {U T:TypeId} (hT:U≠T) {w:World} {base:Nat} {v:Value} {xs:List α} {S:Nat→Prop} {s:Slc} {ks:List Re} (h:OwnR U w S s ks) (ho:Own E T w base v xs) {g:Nat} (hg:v.ownBlock=some g) (j:Nat) (u:Value):OwnR U (w.setCell ⟨g,j,none⟩ u) S s ks:=
 h.keepT fun q a _ hq=>(heap_setCell_other w ⟨g,j,none⟩ q u (fun e=>by
  obtain ⟨a',ha⟩:=ho.typed hg
  have e2:q=g:=e
  rw [e2,ha] at hq
  simp at hq;exact hT hq.2.symm)).trans hq
theorem Own.raise {α:Type} {E:El α} {T:TypeId} {w:World} {base base' g n cap:Nat} {xs:List α} (h:Own E T w base (.slice (some ⟨g,0,none⟩) n cap) xs) (hb:base'≤g):Own E T w base' (.slice (some ⟨g,0,none⟩) n cap) xs:=by
 refine ⟨h.1, ?_⟩
 rcases h.2 with ⟨hn,_⟩ | ⟨g',cap',cur,hv,hb1,rest⟩
 ·simp at hn
 ·have e:g=g':=by simp at hv;exact hv.1
  exact .inr ⟨g',cap',cur,hv,by omega,rest⟩
theorem OwnFU.set0 {w w':World} {base:Nat} {v:Value} {u0 u':Us} {ut:List Us} {d0 d':Dd} {dt:List Dd} {r0 r':Ru} {mt:List Ru} (h:OwnFU UsE 54 Rany PhiM (u0 :: ut) (d0 :: dt) w base v (r0 :: mt))
 (ho:Own UsE 54 w' base v (u' :: ut)) (hb:base≤d'.lo) (hn:LocR 54 d'.lo d'.hi w' (fun W=>PhiM d' W u' r')) (hk:∀ (lo hi:Nat) (φ:World→Prop),LocR 54 lo hi w φ→LocR 54 lo hi w' φ):OwnFU UsE 54 Rany PhiM (u' :: ut) (d' :: dt) w' base v (r' :: mt):=by
 refine ⟨h.lu,h.ld,List.pairwise_cons.2 ⟨fun _ _=>trivial,(List.pairwise_cons.1 h.pw).2⟩,ho,fun i u d x h1 h2 h3 => ?_⟩
 cases i with
 | zero=>simp at h1 h2 h3;subst h1;subst h2;subst h3;exact ⟨hb,hn⟩
 | succ i =>
  obtain ⟨q1,q2⟩:=h.rows (i+1) u d x (by simpa using h1) (by simpa using h2) (by simpa using h3)
  exact ⟨q1,hk _ _ _ q2⟩
theorem wtM_cons (r:Ru) (m:List Ru):wtM (r :: m)=r.e.nm.size+wtR r.e.kids+1+wtM m:=by simp [wtM]
def QA (lo:Nat) (v:Value) (w:World):Prop:=∃ m,OwnM w lo v m∧m.length≤6∧wtM m≤900000
theorem l7MutateAll_any (b:Nat) (a:Option Addr) (c:Nat) (xs:List Int) (p:Int) (v1:Slc) (m:List Ru) (lo:Nat) (w:World) (hr:Rd w b a c xs p) (hp:p≤700000000)
 (hm:OwnM w lo (.slice v1.a v1.n v1.cap) m) (hlo:b < lo) (hlo2:lo≤w.heap.size) (hl1:1≤m.length) (hl5:m.length≤5) (hw:wtM m≤100000) :
 Calls Tryz.prog 54 #[.pointer (some ⟨b,0,none⟩), .slice v1.a v1.n v1.cap] w (RetRd w b a c xs p 40 (QA lo)):=by
 obtain ⟨us,ds,hU⟩:=hm
 cases m with
 | nil=>simp at hl1
 | cons r0 mt =>
 cases us with
 | nil=>have:=hU.lu;simp at this
 | cons u0 ut =>
 cases ds with
 | nil=>have:=hU.ld;simp at this
 | cons d0 dt =>
 have HREP:=hide (hU.own.rep.below (belowAlloc w (.cells #[] 54)))
 have HU:=hide (hU.below (belowAlloc w (.cells #[] 54)))
 have hlu:=hU.lu
 have HR:=hide (hr.allocNew (.cells #[] 54))
 have HP:=hide (fun (p:Int) n w' h hp (hn:n≤100) (hn0:0≤n)=>pick_any b a c xs p n w' h hp (by omega) (by omega))
 have hlt:b < w.heap.size:=by omega
 obtain ⟨n,hn⟩:∃ n,mt.length+1=n:=⟨_,rfl⟩
 simp only [List.length_cons] at hlu hl5
 clear hU hr hl1
 go_enter Tryz.func54,Tryz.ntmps54
 go_wp2_with (at_builtin;refine wpList_appS UsE 54 Tryz.infoRule rfl Tryz.underlying30 w.heap.size _ [] (u0 :: ut) _ (Own.empty _ w (Nat.le_refl _)) HREP.out (by decide) (by simp;omega) (by simp) rfl _ _ rfl rfl rfl ?_;intro v' w1 ho1 hgr1)
 rcases ho1.shape with ⟨-,h0⟩ | ⟨g,cap,rfl,hg,hgl,hcap,hcap2⟩
 ·simp at h0
 simp only [List.nil_append,List.length_cons] at ho1 hcap ⊢
 rw [show ut.length+1=n by omega] at ho1 hcap ⊢
 have hbs:∀ q,(Value.slice (some ⟨w.heap.size,0,none⟩) 0 0).ownBlock=some q→w.heap.size≤q:=fun q e=>by
  have:w.heap.size=q:=by simpa [Value.ownBlock] using e
  omega
 have hB1:=((Below.refl w.heap.size w).alloc (Nat.le_refl _) (.cells #[] 54)).grown hgr1 (by simp) hbs
 have hs1:=hB1.size
 have HU1:Hid (OwnFU UsE 54 Rany PhiM (u0 :: ut) (d0 :: dt) w1 lo (.slice (some ⟨g,0,none⟩) n cap) (r0 :: mt)):=hide ⟨HU.out.lu,HU.out.ld,HU.out.pw,ho1.mono hlo2,fun i u d x h1 h2 h3=>⟨(HU.out.rows i u d x h1 h2 h3).1,(HU.out.rows i u d x h1 h2 h3).2.grown (Own.empty (E:=UsE) 54 w (Nat.le_refl _)) hgr1⟩⟩
 have R1:=hide (HR.out.keep (B:=w.heap.size) ((Below.refl w.heap.size (w.alloc (.cells #[] 54))).grown hgr1 (by simp) hbs) hlt)
 have O1:=hide (Outside.of_below (lo:=b) (hi:=b+1) hB1)
 clear ho1 hgr1 hB1 hbs
 (with_reducible refine (HP.out p 24 _ R1.out (by omega) (by omega) (by omega)).mono ?_);rintro e w2 ⟨v2,p2,rfl,⟨q,rfl,hq0,hqn⟩,hp2,hr2,ho2⟩
 have hs2:=ho2.size
 have R2:=hide hr2
 have O2:=hide (O1.out.trans ho2)
 have HU2:=hide (HU1.out.outside ho2 hlo)
 clear hr2 ho2 hqn
 have hgb:b < g:=by omega
 have hn1:1≤n:=by omega
 have hn0:0 < n:=by omega
 have hni:(0:Int) < (n:Int):=by omega
 rw [wtM_cons] at hw
 obtain ⟨hd0,hL0⟩:=HU2.out.rows 0 u0 d0 r0 rfl rfl rfl
 obtain ⟨e0,e1,e2,hO0⟩:=hL0.now
 have E0:=hide e0
 have hnmz:u0.nm.size=r0.e.nm.size:=by rw [e2]
 clear e0 e1 e2
 by_cases hq0:q=0
 ·subst hq0
  have HN:=hide (fun (p:Int) (w':World) (hb:b < w'.heap.size) h hp=>num_any b a c xs p (Value.slice (some (Addr.mk w'.heap.size 0 none)) 3 3) [0,4,2] (w'.alloc (.cells #[.int .i64 0, .int .i64 4, .int .i64 2] 3)) h hp (rep_lit w' [0,4,2] 3 (by decide)) (by decide) (by decide) (by intro g o e;simp at e;omega))
  go_wp2_with fail
  (with_reducible refine (HN.out p2 w2 (by omega) (R2.out.allocNew _) (by omega)).mono ?_);rintro e w3 ⟨v3,p3,rfl,⟨yo,hyo,rfl⟩,hp3,hr3,hoN⟩
  have ho3:=(Outside.of_below (lo:=b) (hi:=b+1) (belowAlloc w2 (.cells #[.int .i64 0, .int .i64 4, .int .i64 2] 3))).trans hoN
  have hU3:=HU2.out.outside ho3 hlo
  obtain ⟨gl,g0,g1,g2,g3,gf⟩:=hU3.own.usr (k:=0) (x:=u0) rfl
  simp only [Nat.zero_mul,Nat.zero_add] at g0 g1 g2 g3
  have ho4:=hU3.own.set (i:=0) (j:=0) (x:=u0) ⟨yo,u0.op,u0.nm,u0.s⟩ (u:=.int .i64 yo) (by decide) rfl rfl
  simp only [Nat.zero_mul,Nat.add_zero,List.set_cons_zero] at ho4
  have hU4:=hU3.set0 (d':=d0) (r':=⟨yo,r0.e⟩) ho4 hd0 (((hU3.rows 0 u0 d0 r0 rfl rfl rfl).2.setOwn hU3.own rfl 0 (.int .i64 yo)).map fun W h=>⟨rfl,h.2.1,h.2.2.1,h.2.2.2⟩) (fun lo hi φ h=>h.setOwn hU3.own rfl 0 _)
  have HU4:=hide hU4
  have R3:=hide hr3
  have O3:=hide (O2.out.trans ho3)
  clear hoN ho3 hr3 hU3 hU4 ho4 hL0 hO0
  go_wp2_with fail
  refine bodyPost_ret (v:=.slice (some ⟨g,0,none⟩) n cap) (by simp [results,Tryz.results54,go_sem, *]) rfl ⟨_,p3,rfl,⟨_,⟨_,_,HU4.out⟩,by simp;omega,by rw [wtM_cons];simp only;omega⟩,by omega,R3.out.setNew hgb _ _,O3.out.setNew hg _ _⟩
 ·have hq0':(q==0)=false:=by simp [hq0]
  by_cases hq1:q=1
  ·subst hq1
   have hS0:∀ q,(d0.lo≤q∧q < d0.hi)→q≠b∧q < w2.heap.size:=fun q hq=>⟨by omega,by have:=hL0.le;omega⟩
   have HM:=hide (l7Mutate_any b a c xs p2 u0.op u0.nm u0.s r0.e.kids _ w2 R2.out (by omega) hO0 hS0 (by omega) (by omega))
   obtain ⟨gl,g0,g1,g2,g3,gf⟩:=HU2.out.own.usr (k:=0) (x:=u0) rfl
   simp only [Nat.zero_mul,Nat.zero_add] at g0 g1 g2 g3
   go_wp2_with fail
   (with_reducible refine HM.out.mono ?_);rintro e w3 ⟨v3,p3,rfl,⟨o5,n5,s5,k5,S5,rfl,hk5,hS5,hw5⟩,hp3,hr3,ho3⟩
   have hU3:=HU2.out.outside ho3 hlo
   obtain ⟨gl,g0,g1,g2,g3,gf⟩:=hU3.own.usr (k:=0) (x:=u0) rfl
   simp only [Nat.zero_mul,Nat.zero_add] at g0 g1 g2 g3
   have hs3:=ho3.size
   have ho4:=hU3.own.set (i:=0) (j:=1) (x:=u0) ⟨u0.kind,o5,u0.nm,u0.s⟩ (u:=.int .i64 o5) (by decide) rfl rfl
   simp only [Nat.zero_mul,Nat.zero_add,List.set_cons_zero] at ho4
   have ho5:=ho4.set (i:=0) (j:=2) ⟨u0.kind,o5,n5,u0.s⟩ (u:=.string n5) (by decide) rfl rfl
   simp only [Nat.zero_mul,Nat.zero_add,List.set_cons_zero] at ho5
   have ho6:=ho5.set (i:=0) (j:=3) ⟨u0.kind,o5,n5,s5⟩ (u:=.slice s5.a s5.n s5.cap) (by decide) rfl rfl
   simp only [Nat.zero_mul,Nat.zero_add,List.set_cons_zero] at ho6
   have hw6:=((((hk5.wide (S':=fun q=>lo≤q∧q < w3.heap.size) fun q hq=>by have:=hS5 q hq;omega).setOwn (T:=54) (by decide) hU3.own rfl 1 (.int .i64 o5)).setOwn (T:=54) (by decide) ho4 rfl 2 (.string n5)).setOwn (T:=54) (by decide) ho5 rfl 3 (.slice s5.a s5.n s5.cap))
   have hU4:=hU3.set0 (d':=⟨lo,w3.heap.size,[]⟩) (r':=⟨r0.kind, .mk o5 n5 k5⟩) ho6 (Nat.le_refl _) ((hw6.loc (T:=54) (by decide) (by simp)).map fun W h=>⟨E0.out,rfl,rfl,h⟩) (fun lo hi φ h=>((h.setOwn hU3.own rfl 1 _).setOwn ho4 rfl 2 _).setOwn ho5 rfl 3 _)
   have HU4:=hide hU4
   have R3:=hide hr3
   have O3:=hide (O2.out.trans ho3)
   have hw7:(n5.size:Int)+wtR k5≤200200:=by omega
   clear ho3 hr3 hU3 hU4 ho4 ho5 ho6 hw6 hk5 hS5 hw5 hL0 hO0
   go_wp2_with fail
   refine bodyPost_ret (v:=.slice (some ⟨g,0,none⟩) n cap) (by simp [results,Tryz.results54,go_sem, *]) rfl ⟨_,p3,rfl,⟨_,⟨_,_,HU4.out⟩,by simp;omega,by rw [wtM_cons];simp only [Re.nm,Re.kids];omega⟩,by omega,((R3.out.setNew hgb _ _).setNew hgb _ _).setNew hgb _ _,((O3.out.setNew hg _ _).setNew hg _ _).setNew hg _ _⟩
  ·have hq1':(q==1)=false:=by simp [hq1]
   by_cases hq2:q=2
   ·subst hq2
    have HE:=hide (OwnF.empty (E:=UsE) (R:=Rany) (φ:=PhiM) 54 w2 (show lo≤w2.heap.size by omega))
    clear hL0 hO0
    go_wp2_with fail
    refine bodyPost_ret (v:=.slice (some ⟨w2.heap.size,0,none⟩) 0 0) (by simp [results,Tryz.results54,go_sem, *]) rfl ⟨_,p2,rfl,⟨[],HE.out,by simp,by simp [wtM]⟩,by omega,R2.out.allocNew _,O2.out.allocNew _⟩
   ·have hq2':(q==2)=false:=by simp [hq2]
    by_cases hq3:q=3
    ·subst hq3
     clear hL0 hO0
     go_wp2_with fail
     go_loopw [5] (fun v wr => ∃ (g' n' cap':Nat) (ut':List Us) (dt':List Dd) (mt':List Ru),v = .slice (some ⟨g',0,none⟩) n' cap'∧mt'.length+1=n'∧OwnFU UsE 54 Rany PhiM (u0 :: ut') (d0 :: dt') wr lo (.slice (some ⟨g',0,none⟩) n' cap') (r0 :: mt')∧w.heap.size≤g'∧n'≤6∧wtM (r0 :: mt')≤100000 * n'∧Rd wr b a c xs p2∧Outside b (b+1) w wr) (fun v _=>6 - (match v with | .slice _ n _=>n | _=>0))
     case atStart=>exact ⟨g,n,cap,ut,dt,mt,rfl,hn,HU2.out,hg,by omega,by rw [wtM_cons];omega,R2.out,O2.out⟩
     case round =>
      obtain ⟨g',n',cap',ut',dt',mt',rfl,hn',hU,hg',hn6,hwt,hrr,hoo⟩:=hrel
      have hsr:=hoo.size
      by_cases hlt6:n'≤5
      ·have hlt6':(n':Int)≤5:=by omega
       have hni':(0:Int) < (n':Int):=by omega
       obtain ⟨gl,g0,g1,g2,g3,gf⟩:=hU.own.usr (k:=0) (x:=u0) rfl
       simp only [Nat.zero_mul,Nat.zero_add] at g0 g1 g2 g3
       have hll:(u0 :: ut').length≤68719476736:=by have:=hU.lu;simp only [List.length_cons] at this ⊢;omega
       have HUa:=hide (hU.below (belowAlloc wr (.cells #[.int .i64 u0.kind, .int .i64 u0.op, .string u0.nm, .slice u0.s.a u0.s.n u0.s.cap] 54)))
       have RR:=hide hrr;have OO:=hide hoo
       have hbs:∀ q,(Value.slice (some ⟨g',0,none⟩) n' cap').ownBlock=some q→w.heap.size≤q:=fun q e=>by simp [Value.ownBlock] at e;omega
       clear hU hrr hoo
       go_wp2_with (at_builtin;refine wpList_app UsE 54 Tryz.infoRule rfl Tryz.underlying30 w.heap.size _ (u0 :: ut') ⟨u0.kind,u0.op,u0.nm,u0.s⟩ (HUa.out.own.raise hg') (by decide) hll (by simp;omega) rfl _ _ rfl rfl wr.heap.size 0 1 rfl news_alloc ?_;intro v' w8 ho8 hgr8)
       have hq8:=(HUa.out.rows 0 u0 d0 r0 rfl rfl rfl)
       have hU8:=OwnFU.app (d:=d0) (x:=r0) HUa.out (ho8.mono hlo2) hgr8 hq8.1 hq8.2 (fun _ _=>trivial)
       rcases ho8.shape with ⟨-,h0⟩ | ⟨g8,cap8,rfl,hg8,hgl8,hcap8,hcap82⟩
       ·simp at h0
       have hul:=hU8.lu
       simp only [List.length_append,List.length_cons,List.length_nil,List.cons_append] at hU8 hul ⊢
       go_roundw
       case rel=>exact ⟨g8,_,cap8,ut'++[⟨u0.kind,u0.op,u0.nm,u0.s⟩],dt'++[d0],mt'++[r0],rfl,by simp;omega,hU8,hg8,by omega,by rw [show r0 :: (mt'++[r0])=(r0 :: mt')++[r0] from rfl,wtM_append,wtM_one];omega,RR.out.keep (B:=w.heap.size) (((Below.refl w.heap.size wr).alloc (by omega) _).grown hgr8 (by simp;omega) hbs) hlt,(OO.out.allocNew _).grownNew hgr8 hbs⟩
       case measure=>simp;omega
      ·have hlt6':¬ (n':Int)≤5:=by omega
       have HUf:=hide hU;have RR:=hide hrr;have OO:=hide hoo
       clear hU hrr hoo
       go_wp2_with fail
       refine bodyPost_ret (v:=.slice (some ⟨g',0,none⟩) n' cap') (by simp [results,Tryz.results54,go_sem, *]) rfl ⟨_,p2,rfl,⟨_,⟨_,_,HUf.out⟩,by simp;omega,by omega⟩,by omega,RR.out,OO.out⟩
    ·have hq3':(q==3)=false:=by simp [hq3]
     clear hL0 hO0
     go_wp2_with fail
     refine bodyPost_ret (v:=.slice (some ⟨g,0,none⟩) n cap) (by simp [results,Tryz.results54,go_sem, *]) rfl ⟨_,p2,rfl,⟨_,⟨_,_,HU2.out⟩,by simp;omega,by rw [wtM_cons];omega⟩,by omega,R2.out,O2.out⟩
end Go.Proofs.YtfbgppkdnfljhaaGreatDoor
namespace Go.Proofs.YtfbgppkdnfljhaaGreatDoor
open Go.RowKit
def RetPMo (w:World) (e:Ending) (w':World):Prop:=∃ (vp:Value) (s:Slc) (P:List (List Ins)) (m:List Ru),e = .returned (.tuple #[vp, .slice s.a s.n s.cap])∧RepP w' vp P∧P.length≤5∧(∀ r∈P,r.length≤9) ∧
 OwnM w' w.heap.size (.slice s.a s.n s.cap) m∧m.length≤6∧wtM m≤900000∧Below w.heap.size w w'
theorem DrawAllowedExecs_any (v:Value) (xs0:List Int) (w:World) (hx:Rep ByteE w v xs0) (hb:∀ x∈xs0,0≤x∧x≤255) :
 Calls Tryz.prog 20 #[v] w (RetPMo w):=by
 have HO:=hide (l17Open_any v xs0 w hx hb)
 clear hx hb
 go_enter Tryz.func20,Tryz.ntmps20
 go_wp2_with fail
 (with_reducible refine HO.out.mono ?_);rintro e w1 ⟨b,a,c,xs,rfl,hr1,hbs,hb1⟩
 have R1:=hide hr1;have HB1:=hide hb1
 have hlt:=hr1.lt
 have hs1:=hb1.size
 have HSM:=hide (l8Small_any b a c xs 0 w1 hr1 (by omega))
 clear hr1 hb1 HO
 go_wp2_with fail
 (with_reducible refine HSM.out.mono ?_);rintro e w2 ⟨v2,p2,rfl,⟨P,hP,hPl,hPr⟩,hp2,hr2,ho2⟩
 have R2:=hide hr2;have HB2:=hide (HB1.out.trans (below_of_outside ho2 hbs HB1.out.size))
 have hs2:=ho2.size
 have HMU:=hide (l1Mutate_any b a c xs p2 v2 P w2 hr2 (by omega) hP.rep hPl hPr)
 clear hr2 ho2 R1 HB1 HSM hP hPl hPr
 go_wp2_with fail
 (with_reducible refine HMU.out.mono ?_);rintro e w3 ⟨v3,p3,rfl,hQ3,hp3,hr3,ho3⟩
 have R3:=hide hr3;have HB3:=hide (HB2.out.trans (below_of_outside ho3 hbs HB2.out.size))
 have hs3:=ho3.size
 have HQ3:=hide hQ3
 have HRU:=hide (l7Rules_any b a c xs p3 w3 hr3 (by omega))
 clear hr3 ho3 R2 HB2 HMU hQ3
 go_wp2_with fail
 (with_reducible refine HRU.out.mono ?_);rintro e w4 ⟨v4,p4,rfl,⟨m,hm,hm1,hm5,hmw⟩,hp4,hr4,ho4⟩
 have HB4:=hide (HB3.out.trans (below_of_outside ho4 hbs HB3.out.size))
 have hs4:=ho4.size
 obtain ⟨s4,rfl, -⟩:=hm.toSlc
 have HMA:=hide (l7MutateAll_any b a c xs p4 s4 m w3.heap.size w4 hr4 (by omega) hm (by omega) (by omega) hm1 hm5 hmw)
 have HP4:=hide (HQ3.out.outside ho4 (show b < w2.heap.size by omega))
 clear hr4 ho4 R3 HB3 HRU hm HQ3
 go_wp2_with fail
 (with_reducible refine HMA.out.mono ?_);rintro e w5 ⟨v5,p5,rfl,⟨m',hm',hml',hmw'⟩,hp5,hr5,ho5⟩
 have HB5:=hide (HB4.out.trans (below_of_outside ho5 hbs HB4.out.size))
 obtain ⟨P',hP',hPl',hPr'⟩:=(HP4.out.outside ho5 (show b < w2.heap.size by omega)).open
 have HP5:=hide hP'
 obtain ⟨s5,rfl, -⟩:=hm'.toSlc
 have HM5:=hide (OwnF.mono hm' (show w.heap.size≤w3.heap.size by omega))
 clear hr5 ho5 HB4 HMA hm' HP4 hP'
 go_wp2_with fail
 refine bodyPost_ret (v:=.tuple #[v3, .slice s5.a s5.n s5.cap]) (by simp [results,Tryz.results20,go_sem, *]) rfl ⟨v3,s5,P',m',rfl,HP5.out,hPl',hPr',HM5.out,hml',hmw',HB5.out⟩
end Go.Proofs.YtfbgppkdnfljhaaGreatDoor
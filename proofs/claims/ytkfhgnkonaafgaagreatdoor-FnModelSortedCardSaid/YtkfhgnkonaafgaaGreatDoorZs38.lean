/-
  Expressions that are changed. Condition: not too many numbers were taken.
-/
import Derived.Test.YtkfhgnkonaafgaaGreatDoorZs36
import Derived.Test.YtkfhgnkonaafgaaGreatDoorZs18
set_option maxHeartbeats 6400000
set_option maxRecDepth 100000
namespace Go.Proofs.YtkfhgnkonaafgaaGreatDoor
open Go.RowKit
def QMe (S:Nat→Prop) (lo:Nat) (K:Int) (v:Value) (w:World):Prop:=∃ (o:Int) (nm:ByteArray) (s:Slc) (ks:List Re) (S':Nat→Prop),v = .agg #[.int .i64 o, .string nm, .slice s.a s.n s.cap]∧OwnR 75 w S' s ks∧(∀ q,S' q→(S q∨lo≤q)∧q < w.heap.size)∧(nm.size:Int)+wtR ks≤K
theorem len_le_wtR (ks:List Re):ks.length≤wtR ks:=by
 unfold wtR
 induction ks with
 | nil=>exact Nat.le_refl _
 | cons k ks ih=>simp only [List.map_cons,List.sum_cons,List.length_cons];omega
theorem BoxR.outside {w w':World} {g b:Nat} {o:Int} {p:ByteArray} {s:Slc} (h:BoxR w g o p s) (ho:Outside b (b+1) w w') (hb:g≠b):BoxR w' g o p s:=by
 have e:=ho.block g h.lt (by omega)
 obtain ⟨h1,h2,h3,h4,h5⟩:=h
 exact ⟨Nat.lt_of_lt_of_le h1 ho.size,(cell_of_block e _).trans h2,(cell_of_block e _).trans h3,(cell_of_block e _).trans h4,fun k=>by
  have h6:=h5 k
  unfold World.frozen? at h6 ⊢
  rw [e];exact h6⟩
theorem l7Mutate_any (b:Nat) (a:Option Addr) (c:Nat) (xs:List Int) (p o:Int) (nm:ByteArray) (s:Slc) (ks:List Re) (S:Nat→Prop) (w:World) (hr:Rd w b a c xs p) (hp:p≤800000000)
 (hown:OwnR 75 w S s ks) (hS:∀ q,S q→q≠b∧q < w.heap.size) (hk:wtR ks≤1000000) (hnm:nm.size≤1000000) :
 Calls Tryz.prog 133 #[.pointer (some ⟨b,0,none⟩), .agg #[.int .i64 o, .string nm, .slice s.a s.n s.cap]] w (RetRd w b a c xs p 30 (QMe S w.heap.size (nm.size+wtR ks+200))):=by
 obtain ⟨us,C,hul,hrep,hC1,hC2,hC3,hC4⟩:=hown.open
 have hlen:=len_le_wtR ks
 have HB0:=hide ((belowAlloc w (.cells #[.int .i64 o, .string nm, .slice s.a s.n s.cap] 75)).trans ((belowAlloc (w.alloc (.cells #[.int .i64 o, .string nm, .slice s.a s.n s.cap] 75)) (.cells #[.int .i64 0, .string ⟨#[]⟩, .slice none 0 0] 75)).mono (by simp)))
 have XP:=hide ((BoxR.new w o nm s 75).below (belowAlloc (w.alloc (.cells #[.int .i64 o, .string nm, .slice s.a s.n s.cap] 75)) (.cells #[.int .i64 0, .string ⟨#[]⟩, .slice none 0 0] 75)))
 have hxr:=BoxR.new (w.alloc (.cells #[.int .i64 o, .string nm, .slice s.a s.n s.cap] 75)) 0 ⟨#[]⟩ ⟨none,0,0⟩ 75
 rw [show (w.alloc (.cells #[.int .i64 o, .string nm, .slice s.a s.n s.cap] 75)).heap.size=w.heap.size+1 by simp] at hxr
 have hzB:((w.alloc (.cells #[.int .i64 o, .string nm, .slice s.a s.n s.cap] 75)).alloc (.cells #[.int .i64 0, .string ⟨#[]⟩, .slice none 0 0] 75)).heap.size=w.heap.size+2:=by simp
 have XR:=hide hxr
 have HREP:=hide (hrep.below HB0.out)
 have HKS:=hide hC4
 have HS:=hide hS
 have HC:=hide (And.intro hC1 (And.intro hC2 hC3))
 have HUL:=hide hul
 have HR:=hide (hr.keep HB0.out hr.lt)
 have hlt:=hr.lt
 have hul2:us.length≤1000000:=by omega
 have HP:=hide (fun (p:Int) n w' h hp (hn:n≤100) (hn0:0≤n)=>pick_any b a c xs p n w' h hp (by omega) (by omega))
 clear hxr hrep hC4 hS hC1 hC2 hC3 hul hr hown
 go_enter Tryz.func133,Tryz.ntmps133
 go_wp2_with fail
 generalize (w.alloc (.cells #[.int .i64 o, .string nm, .slice s.a s.n s.cap] 75)).alloc (.cells #[.int .i64 0, .string ⟨#[]⟩, .slice none 0 0] 75)=WB at *
 -- reg copy
 refine wp_region_inv3 (n:=10) (by kernel_rfl) rfl (by kernel_rfl) (by kernel_rfl) (fun A ls a' W => ∃ (e0:Nat) (v:Slc) (b5:Nat) (x7 x8 x9 x10 x11 x12 x13 x14 x15 x5:Value),a'=putAll A [(7,x7),(8,x8),(9,x9),(10,x10),(11,x11),(12,x12),(13,x13),(14,x14),(15,x15),(5,x5)]∧Vd ls 0 [] x7 (.pointer (some ⟨w.heap.size,0,none⟩))∧Vd ls 1 [] x8 (.int .i64 o)∧Vd ls 2 [] x9 (.pointer (some ⟨w.heap.size,1,none⟩))∧Vd ls 3 [] x10 (.string nm)∧Vd ls 4 [] x11 (.slice (some ⟨e0,0,none⟩) 0 0)∧Vd ls 5 [] x12 (.pointer (some ⟨w.heap.size,2,none⟩))∧Vd ls 6 [] x13 (.slice s.a s.n s.cap)∧Vd ls 7 [4] x14 (.slice v.a v.n v.cap)∧Vd ls 8 [4,7] x15 (.agg #[.int .i64 o, .string nm, .slice v.a v.n v.cap])∧Vd ls 9 [] x5 (.pointer (some ⟨b5,0,none⟩))∧JM1 WB us (fl ls 4) (fl ls 7) (fl ls 9) e0 v b5 W) ?r0 ?rs ?re
 case r0 =>
  exact ⟨0,⟨none,0,0⟩,0,undef,undef,undef,undef,undef,undef,undef,undef,undef,undef,by simp only [putAll,Act.put,List.setIfInBounds_toArray,List.set_cons_succ,List.set_cons_zero],Vd.start,Vd.start,Vd.start,Vd.start,Vd.start,Vd.start,Vd.start,Vd.start,Vd.start,Vd.start,by simp only [fl_start];exact JM1.start (Below.refl _ _).drew⟩
 case rs =>
  rintro ls a' W hs hnl ⟨e0,v,b5,x7,x8,x9,x10,x11,x12,x13,x14,x15,x5,ha,cv0,cv1,cv2,cv3,cv4,cv5,cv6,cv7,cv8,cv9,hJ⟩ k o hkn mc K hK
  simp only [putAll,Act.put,List.setIfInBounds_toArray,List.set_cons_succ,List.set_cons_zero] at ha
  subst ha
  have hkc:k=0∨k=1∨k=2∨k=3∨k=4∨k=5∨k=6∨k=7∨k=8∨k=9:=by omega
  have hop:=mc.op
  have haf:=mc.after
  rcases hkc with rfl | rfl | rfl | rfl | rfl | rfl | rfl | rfl | rfl | rfl
  ·simp at hop;subst hop;simp [Region.binds] at haf
   obtain ⟨xl,x0,x1,x2, -⟩:=XP.out.below hJ.out
   go_simp
   exact hK _ _ ⟨e0,v,b5,_,_,_,_,_,_,_,_,_,_,by simp only [putAll,Act.put,List.setIfInBounds_toArray,List.set_cons_succ,List.set_cons_zero],Vd.same (by simp),cv1.set (by decide),cv2.set (by decide),cv3.set (by decide),cv4.set (by decide),cv5.set (by decide),cv6.set (by decide),cv7.set (by decide),cv8.set (by decide),cv9.set (by decide),by rw [fl_set (show 0≠4 by decide),fl_set (show 0≠7 by decide),fl_set (show 0≠9 by decide)];exact hJ⟩
  ·simp at hop;subst hop;simp [Region.binds] at haf
   obtain rfl:=(cv0.get (by simp [haf])).symm
   obtain ⟨xl,x0,x1,x2, -⟩:=XP.out.below hJ.out
   go_simp
   exact hK _ _ ⟨e0,v,b5,_,_,_,_,_,_,_,_,_,_,by simp only [putAll,Act.put,List.setIfInBounds_toArray,List.set_cons_succ,List.set_cons_zero],cv0.set (by decide),Vd.same (by simp),cv2.set (by decide),cv3.set (by decide),cv4.set (by decide),cv5.set (by decide),cv6.set (by decide),cv7.set (by decide),cv8.set (by decide),cv9.set (by decide),by rw [fl_set (show 1≠4 by decide),fl_set (show 1≠7 by decide),fl_set (show 1≠9 by decide)];exact hJ⟩
  ·simp at hop;subst hop;simp [Region.binds] at haf
   obtain ⟨xl,x0,x1,x2, -⟩:=XP.out.below hJ.out
   go_simp
   exact hK _ _ ⟨e0,v,b5,_,_,_,_,_,_,_,_,_,_,by simp only [putAll,Act.put,List.setIfInBounds_toArray,List.set_cons_succ,List.set_cons_zero],cv0.set (by decide),cv1.set (by decide),Vd.same (by simp),cv3.set (by decide),cv4.set (by decide),cv5.set (by decide),cv6.set (by decide),cv7.set (by decide),cv8.set (by decide),cv9.set (by decide),by rw [fl_set (show 2≠4 by decide),fl_set (show 2≠7 by decide),fl_set (show 2≠9 by decide)];exact hJ⟩
  ·simp at hop;subst hop;simp [Region.binds] at haf
   obtain rfl:=(cv2.get (by simp [haf])).symm
   obtain ⟨xl,x0,x1,x2, -⟩:=XP.out.below hJ.out
   go_simp
   exact hK _ _ ⟨e0,v,b5,_,_,_,_,_,_,_,_,_,_,by simp only [putAll,Act.put,List.setIfInBounds_toArray,List.set_cons_succ,List.set_cons_zero],cv0.set (by decide),cv1.set (by decide),cv2.set (by decide),Vd.same (by simp),cv4.set (by decide),cv5.set (by decide),cv6.set (by decide),cv7.set (by decide),cv8.set (by decide),cv9.set (by decide),by rw [fl_set (show 3≠4 by decide),fl_set (show 3≠7 by decide),fl_set (show 3≠9 by decide)];exact hJ⟩
  ·simp at hop;subst hop;simp [Region.binds] at haf
   have f4:=fl_no mc.new;rw [f4] at hJ
   go_simp
   exact hK _ _ ⟨W.heap.size,v,b5,_,_,_,_,_,_,_,_,_,_,by simp only [putAll,Act.put,List.setIfInBounds_toArray,List.set_cons_succ,List.set_cons_zero],cv0.set (by decide),cv1.set (by decide),cv2.set (by decide),cv3.set (by decide),Vd.same (by simp),cv5.set (by decide),cv6.set (by decide),cv7.void (by decide) (by decide) mc.new,cv8.void (by decide) (by decide) mc.new,cv9.set (by decide),by rw [fl_got hs (by decide),fl_set (show 4≠7 by decide),fl_set (show 4≠9 by decide)];exact hJ.lit⟩
  ·simp at hop;subst hop;simp [Region.binds] at haf
   obtain ⟨xl,x0,x1,x2, -⟩:=XP.out.below hJ.out
   go_simp
   exact hK _ _ ⟨e0,v,b5,_,_,_,_,_,_,_,_,_,_,by simp only [putAll,Act.put,List.setIfInBounds_toArray,List.set_cons_succ,List.set_cons_zero],cv0.set (by decide),cv1.set (by decide),cv2.set (by decide),cv3.set (by decide),cv4.set (by decide),Vd.same (by simp),cv6.set (by decide),cv7.set (by decide),cv8.set (by decide),cv9.set (by decide),by rw [fl_set (show 5≠4 by decide),fl_set (show 5≠7 by decide),fl_set (show 5≠9 by decide)];exact hJ⟩
  ·simp at hop;subst hop;simp [Region.binds] at haf
   obtain rfl:=(cv5.get (by simp [haf])).symm
   obtain ⟨xl,x0,x1,x2, -⟩:=XP.out.below hJ.out
   go_simp
   exact hK _ _ ⟨e0,v,b5,_,_,_,_,_,_,_,_,_,_,by simp only [putAll,Act.put,List.setIfInBounds_toArray,List.set_cons_succ,List.set_cons_zero],cv0.set (by decide),cv1.set (by decide),cv2.set (by decide),cv3.set (by decide),cv4.set (by decide),cv5.set (by decide),Vd.same (by simp),cv7.set (by decide),cv8.set (by decide),cv9.set (by decide),by rw [fl_set (show 6≠4 by decide),fl_set (show 6≠7 by decide),fl_set (show 6≠9 by decide)];exact hJ⟩
  ·simp at hop;subst hop;simp [Region.binds] at haf
   obtain rfl:=(cv4.get (by simp [haf])).symm
   obtain rfl:=(cv6.get (by simp [haf])).symm
   have f7:=fl_no mc.new;rw [f7] at hJ
   have f4:=fl_yes (show ls[4]? = some true by simp [haf]);rw [f4] at hJ
   refine step_appSAt RsE 75 Tryz.infoRel rfl Tryz.underlying73 WB.heap.size (.slice (some ⟨e0,0,none⟩) 0 0) [] us (.slice s.a s.n s.cap) (hJ.e rfl rfl) (HREP.out.below hJ.out) (by decide) (by simp;omega) hJ.out.size (by rfl) _ _ (by rfl) (by rfl) (by rfl) ?_;intro v' w6 ho6 hg6 hat6
   obtain ⟨⟨g1,g2,g3⟩,rfl, -⟩:=ho6.toSlc
   exact hK _ _ ⟨e0,⟨g1,g2,g3⟩,b5,_,_,_,_,_,_,_,_,_,_,by simp only [putAll,Act.put,List.setIfInBounds_toArray,List.set_cons_succ,List.set_cons_zero],cv0.set (by decide),cv1.set (by decide),cv2.set (by decide),cv3.set (by decide),cv4.set (by decide),cv5.set (by decide),cv6.set (by decide),Vd.same (by simp [haf]),cv8.void (by decide) (by decide) mc.new,cv9.set (by decide),by rw [fl_set (show 7≠4 by decide),fl_got hs (by decide),fl_set (show 7≠9 by decide),f4];exact hJ.app (by simpa using ho6) hg6 hat6⟩
  ·simp at hop;subst hop;simp [Region.binds] at haf
   have q7:=(cv7 (by simp [haf])).1;simp at q7
   obtain rfl:=(cv1.get (by simp [haf])).symm
   obtain rfl:=(cv3.get (by simp [haf])).symm
   obtain rfl:=(cv7.get (by simp [haf])).symm
   go_simp
   exact hK _ _ ⟨e0,v,b5,_,_,_,_,_,_,_,_,_,_,by simp only [putAll,Act.put,List.setIfInBounds_toArray,List.set_cons_succ,List.set_cons_zero],cv0.set (by decide),cv1.set (by decide),cv2.set (by decide),cv3.set (by decide),cv4.set (by decide),cv5.set (by decide),cv6.set (by decide),cv7.set (by decide),Vd.same (by simp [haf,q7]),cv9.set (by decide),by rw [fl_set (show 8≠4 by decide),fl_set (show 8≠7 by decide),fl_set (show 8≠9 by decide)];exact hJ⟩
  ·simp at hop;subst hop;simp [Region.binds] at haf
   have f9:=fl_no mc.new;rw [f9] at hJ
   go_simp
   exact hK _ _ ⟨e0,v,W.heap.size,_,_,_,_,_,_,_,_,_,_,by simp only [putAll,Act.put,List.setIfInBounds_toArray,List.set_cons_succ,List.set_cons_zero],cv0.set (by decide),cv1.set (by decide),cv2.set (by decide),cv3.set (by decide),cv4.set (by decide),cv5.set (by decide),cv6.set (by decide),cv7.set (by decide),cv8.set (by decide),Vd.same (by simp),by rw [fl_set (show 9≠4 by decide),fl_set (show 9≠7 by decide),fl_got hs (by decide)];exact hJ.box⟩
 case re =>
  rintro ls a' W hall ⟨e0,v,b5,x7,x8,x9,x10,x11,x12,x13,x14,x15,x5,ha,cv0,cv1,cv2,cv3,cv4,cv5,cv6,cv7,cv8,cv9,hJ⟩ o hop
  simp only [putAll,Act.put,List.setIfInBounds_toArray,List.set_cons_succ,List.set_cons_zero] at ha
  subst ha
  simp at hop;subst hop
  obtain rfl:=(cv0.get (hall 0 (by decide))).symm
  obtain rfl:=(cv1.get (hall 1 (by decide))).symm
  obtain rfl:=(cv2.get (hall 2 (by decide))).symm
  obtain rfl:=(cv3.get (hall 3 (by decide))).symm
  obtain rfl:=(cv4.get (hall 4 (by decide))).symm
  obtain rfl:=(cv5.get (hall 5 (by decide))).symm
  obtain rfl:=(cv6.get (hall 6 (by decide))).symm
  obtain rfl:=(cv7.get (hall 7 (by decide))).symm
  obtain rfl:=(cv8.get (hall 8 (by decide))).symm
  obtain rfl:=(cv9.get (hall 9 (by decide))).symm
  rw [fl_yes (hall 4 (by decide))] at hJ
  rw [fl_yes (hall 7 (by decide))] at hJ
  rw [fl_yes (hall 9 (by decide))] at hJ
  obtain ⟨hbx,hb5⟩:=hJ.b rfl
  have how:=hJ.o rfl
  have hnv:=hJ.nv rfl rfl
  have hout:=hJ.out
  clear hJ
  obtain ⟨xl,x0,x1,x2,xf⟩:=id hbx
  go_simp
  go_wp2_with fail
  have HX5:=hide (hbx.put o nm v)
  have HOV:=hide (((how.setFarR hnv 0 (.int .i64 o)).setFarR hnv 1 (.string nm)).setFarR hnv 2 (.slice v.a v.n v.cap))
  have HW1:=hide (((hout.setCell (p:=⟨b5,0,none⟩) hb5 (.int .i64 o)).setCell (p:=⟨b5,1,none⟩) hb5 (.string nm)).setCell (p:=⟨b5,2,none⟩) hb5 (.slice v.a v.n v.cap))
  generalize ((W.setCell ⟨b5,0,none⟩ (.int .i64 o)).setCell ⟨b5,1,none⟩ (.string nm)).setCell ⟨b5,2,none⟩ (.slice v.a v.n v.cap)=W1 at *
  have HB1:=hide (HB0.out.trans (HW1.out.mono HB0.out.size))
  have XR1:=hide (XR.out.below HW1.out)
  have hsB:=HW1.out.size
  have S1B:∀ q,(Value.slice v.a v.n v.cap).ownBlock=some q→WB.heap.size≤q∧q < W1.heap.size:=fun q hq=>World.ownsRow.lt HOV.out q hq
  have HOW1:=hide (OwnR.build (S:=fun q=>S q∨(Value.slice v.a v.n v.cap).ownBlock=some q) C HUL.out HOV.out (fun g hg => .inr hg) (fun i q hq => .inl (HC.out.1 i q hq)) (fun g hg i hi=>by have:=(S1B g hg).1;have:=(HS.out g (HC.out.1 i g hi)).2;omega) HC.out.2.1 HC.out.2.2 (fun i u k hu hk=>(HKS.out i u k hu hk).bel HB1.out))
  have S1D:∀ q,(S q∨(Value.slice v.a v.n v.cap).ownBlock=some q)→q≠b∧q < W1.heap.size∧q≠b5∧q≠w.heap.size+1∧(S q∨w.heap.size≤q):=fun q hq=>by
   rcases hq with hq | hq
   ·have:=HS.out q hq;exact ⟨this.1,by omega,by omega,by omega, .inl hq⟩
   ·have:=S1B q hq;exact ⟨by omega,by omega,(fun e=>hnv (by rw [← e];exact hq)),by omega, .inr (by omega)⟩
  have R1:=hide (HR.out.keep HW1.out (by omega))
  have hb5b:b5≠b:=by omega
  clear hbx how hout
  go_wp2_with fail
  (with_reducible refine (HP.out p 24 _ R1.out (by omega) (by omega) (by omega)).mono ?_);rintro e w2 ⟨v2,p2,rfl,⟨q,rfl,hq0,hqn⟩,hp2,hr2,ho2⟩
  clear hqn
  have hs2:=ho2.size
  have XR2:=hide (XR1.out.outside ho2 (show w.heap.size+1≠b by omega))
  have X52:=hide (HX5.out.outside ho2 hb5b)
  have OW2:=hide (HOW1.out.keep fun q hq hl=>ho2.block q hl (by have:=(S1D q hq).1;omega))
  have R2:=hide hr2
  have O2:=hide ((Outside.of_below (lo:=b) (hi:=b+1) HB1.out).trans ho2)
  have OV2:=hide (ho2.ownHi HOV.out (show b < WB.heap.size by omega))
  have OZ:=hide ho2
  clear hr2 ho2 XR1 HX5
  by_cases hq0:q=0
  ·subst hq0
   have HN:=hide (fun (p:Int) (w':World) (hb:b < w'.heap.size) h hp=>num_any b a c xs p (Value.slice (some (Addr.mk w'.heap.size 0 none)) 5 5) [0,8,1,2,6] (w'.alloc (.cells #[.int .i64 0, .int .i64 8, .int .i64 1, .int .i64 2, .int .i64 6] 3)) h hp (rep_lit w' [0,8,1,2,6] 3 (by decide)) (by decide) (by decide) (by intro g o e;simp at e;omega))
   go_wp2_with fail
   (with_reducible refine (HN.out p2 w2 (by omega) (R2.out.allocNew _) (by omega)).mono ?_);rintro e w3 ⟨v3,p3,rfl,⟨yo,hyo,rfl⟩,hp3,hr3,hoN⟩
   have ho3:=(Outside.of_below (lo:=b) (hi:=b+1) (belowAlloc w2 (.cells #[.int .i64 0, .int .i64 8, .int .i64 1, .int .i64 2, .int .i64 6] 3))).trans hoN
   clear hoN
   have hs3:=ho3.size
   have XR3:=hide (XR2.out.outside ho3 (show w.heap.size+1≠b by omega))
   have X53:=hide (X52.out.outside ho3 hb5b)
   have OW3:=hide (OW2.out.keep fun q hq hl=>ho3.block q hl (by have:=(S1D q hq).1;omega))
   have R3:=hide hr3
   have O3:=hide (O2.out.trans ho3)
   clear hr3 ho3 XR2 X52
   obtain ⟨z4l,z40,z41,z42,z4f⟩:=XR3.out
   obtain ⟨z5l,z50,z51,z52,z5f⟩:=X53.out
   have hn4:¬ (fun q=>S q∨(Value.slice v.a v.n v.cap).ownBlock=some q) (w.heap.size+1):=by intro h;exact (S1D _ h).2.2.2.1 rfl
   have hn5:¬ (fun q=>S q∨(Value.slice v.a v.n v.cap).ownBlock=some q) b5:=by intro h;exact (S1D _ h).2.2.1 rfl
   have hn45:w.heap.size+1≠b5:=by omega
   have OWN4:=hide ((((OW3.out.set hn5 0 (.int .i64 yo)).set hn4 0 (.int .i64 yo)).set hn4 1 (.string nm)).set hn4 2 (.slice v.a v.n v.cap))
   go_wp2_with fail
   refine bodyPost_ret (v:=.agg #[.int .i64 yo, .string nm, .slice v.a v.n v.cap]) (by simp [results,Tryz.results133,go_sem, *]) rfl ⟨_,p3,rfl,⟨yo,nm,v,ks,(fun q=>S q∨(Value.slice v.a v.n v.cap).ownBlock=some q),rfl,OWN4.out,fun q hq => ?_,by omega⟩,by omega,((((R3.out.setNew (g:=b5) (by omega) _ _).setNew (g:=w.heap.size+1) (by omega) _ _).setNew (by omega) _ _).setNew (by omega) _ _),((((O3.out.setNew (g:=b5) (by omega) _ _).setNew (g:=w.heap.size+1) (by omega) _ _).setNew (by omega) _ _).setNew (by omega) _ _)⟩
   have:=S1D q hq;exact ⟨this.2.2.2.2,by simp;omega⟩
  ·have hq0':(q==0)=false:=by simp [hq0]
   by_cases hq1:q=1
   ·subst hq1
    have HOF:=hide (fun (hr:Rd (w2.alloc (.cells #[.string ⟨#[]⟩, .string ⟨#[102,111,111]⟩, .string ⟨#[112,111]⟩] 9)) b a c xs p2)=>of_any b a c xs p2 _ [⟨#[]⟩,⟨#[102,111,111]⟩,⟨#[112,111]⟩] _ w2.heap.size hr (by omega) (Own.lit (E:=StrE) (w:=w2) (T:=9) (Nat.le_refl _) [⟨#[]⟩,⟨#[102,111,111]⟩,⟨#[112,111]⟩] #[.string ⟨#[]⟩, .string ⟨#[102,111,111]⟩, .string ⟨#[112,111]⟩] 3 rfl rfl (by decide)) (by decide) (by decide) (by omega))
    go_wp2_with fail
    (with_reducible refine (HOF.out (R2.out.allocNew _)).mono ?_);rintro e w3 ⟨v3,p3,rfl,⟨y,hy,rfl⟩,hp3,hr3,hoN⟩
    have hys:y.size≤3:=by
     simp only [List.mem_cons,List.not_mem_nil,or_false] at hy
     rcases hy with rfl | rfl | rfl <;> decide
    have ho3:=(Outside.of_below (lo:=b) (hi:=b+1) (belowAlloc w2 (.cells #[.string ⟨#[]⟩, .string ⟨#[102,111,111]⟩, .string ⟨#[112,111]⟩] 9))).trans hoN
    clear hoN hy
    have hs3:=ho3.size
    have XR3:=hide (XR2.out.outside ho3 (show w.heap.size+1≠b by omega))
    have X53:=hide (X52.out.outside ho3 hb5b)
    have OW3:=hide (OW2.out.keep fun q hq hl=>ho3.block q hl (by have:=(S1D q hq).1;omega))
    have R3:=hide hr3
    have O3:=hide (O2.out.trans ho3)
    clear hr3 ho3 XR2 X52
    obtain ⟨z4l,z40,z41,z42,z4f⟩:=XR3.out
    obtain ⟨z5l,z50,z51,z52,z5f⟩:=X53.out
    have hn4:¬ (fun q=>S q∨(Value.slice v.a v.n v.cap).ownBlock=some q) (w.heap.size+1):=by intro h;exact (S1D _ h).2.2.2.1 rfl
    have hn5:¬ (fun q=>S q∨(Value.slice v.a v.n v.cap).ownBlock=some q) b5:=by intro h;exact (S1D _ h).2.2.1 rfl
    have hn45:w.heap.size+1≠b5:=by omega
    have OWN4:=hide ((((OW3.out.set hn5 1 (.string y)).set hn4 0 (.int .i64 o)).set hn4 1 (.string y)).set hn4 2 (.slice v.a v.n v.cap))
    go_wp2_with fail
    refine bodyPost_ret (v:=.agg #[.int .i64 o, .string y, .slice v.a v.n v.cap]) (by simp [results,Tryz.results133,go_sem, *]) rfl ⟨_,p3,rfl,⟨o,y,v,ks,(fun q=>S q∨(Value.slice v.a v.n v.cap).ownBlock=some q),rfl,OWN4.out,fun q hq => ?_,by omega⟩,by omega,((((R3.out.setNew (g:=b5) (by omega) _ _).setNew (g:=w.heap.size+1) (by omega) _ _).setNew (by omega) _ _).setNew (by omega) _ _),((((O3.out.setNew (g:=b5) (by omega) _ _).setNew (g:=w.heap.size+1) (by omega) _ _).setNew (by omega) _ _).setNew (by omega) _ _)⟩
    have:=S1D q hq;exact ⟨this.2.2.2.2,by simp;omega⟩
   ·have hq1':(q==1)=false:=by simp [hq1]
    by_cases hq2:q=2
    ·subst hq2
     have HDR:Hid (∀ (p:Int) (W:World),Rd W b a c xs p→p≤850000000→Calls Tryz.prog 136 #[.pointer (some ⟨b,0,none⟩), .int .i64 1] W (RetRd W b a c xs p 15 (QE W.heap.size 54))):=hide (fun p W h hp=>l7Draw_any b a c xs 1 (by omega) p W h (by simp;omega))
     have HK2:=hide (fun i u k hu hk=>((HKS.out i u k hu hk).bel HB1.out).keep fun q hq hl=>OZ.out.block q hl (by have:=(HS.out q (HC.out.1 i q hq)).1;omega))
     go_wp2_with fail
     -- reg app
     refine wp_region_inv3 (n:=7) (by kernel_rfl) rfl (by kernel_rfl) (by kernel_rfl) (fun A ls a' W => ∃ (pp:Int) (o1:Int) (n1:ByteArray) (s1:Slc) (k1:List Re) (Sg:Nat→Prop) (G:Nat) (vv:Slc) (x32 x33 x34 x35 x36 x37 x38:Value),a'=putAll A [(32,x32),(33,x33),(34,x34),(35,x35),(36,x36),(37,x37),(38,x38)]∧Vd ls 0 [] x32 (.pointer (some ⟨b5,2,none⟩))∧Vd ls 1 [] x33 (.slice v.a v.n v.cap)∧Vd ls 2 [] x34 (.pointer (some ⟨b,0,none⟩))∧Vd ls 3 [] x35 (.agg #[.int .i64 o1, .string n1, .slice s1.a s1.n s1.cap])∧Vd ls 4 [3] x36 (.slice (some ⟨G,0,none⟩) 1 1)∧Vd ls 5 [3,4] x37 (.slice vv.a vv.n vv.cap)∧Vd ls 6 [] x38 (.pointer (some ⟨b5,2,none⟩))∧JM2 w WB w2 b a c xs p2 b5 o nm v us ks C (fl ls 3) (fl ls 4) (fl ls 5) pp o1 n1 s1 k1 Sg G vv W) ?r0 ?rs ?re
     case r0 =>
      exact ⟨p2,0,⟨#[]⟩,⟨none,0,0⟩,[],(fun _=>False),0,⟨none,0,0⟩,undef,undef,undef,undef,undef,undef,undef,by simp only [putAll,Act.put,List.setIfInBounds_toArray,List.set_cons_succ,List.set_cons_zero],Vd.start,Vd.start,Vd.start,Vd.start,Vd.start,Vd.start,Vd.start,by simp only [fl_start];exact ⟨R2.out.keep (Below.refl _ _).drew R2.out.lt,by simp,O2.out.trans (Outside.of_below (Below.refl _ _).drew),by simp,X52.out.below (Below.refl _ _).drew,XR2.out.below (Below.refl _ _).drew,fun i u k hu hk=>(HK2.out i u k hu hk).bel (Below.refl _ _).drew,fun h=>(nomatch h),fun h=>(nomatch h),fun _=>OV2.out.below (Below.refl _ _).drew,fun h=>(nomatch h),fun h=>(nomatch h),fun h=>(nomatch h)⟩⟩
     case rs =>
      rintro ls a' W hs hnl ⟨pp,o1,n1,s1,k1,Sg,G,vv,x32,x33,x34,x35,x36,x37,x38,ha,cv0,cv1,cv2,cv3,cv4,cv5,cv6,hJ⟩ k o hkn mc K hK
      simp only [putAll,Act.put,List.setIfInBounds_toArray,List.set_cons_succ,List.set_cons_zero] at ha
      subst ha
      have hkc:k=0∨k=1∨k=2∨k=3∨k=4∨k=5∨k=6:=by omega
      have hop:=mc.op
      have haf:=mc.after
      rcases hkc with rfl | rfl | rfl | rfl | rfl | rfl | rfl
      ·simp at hop;subst hop;simp [Region.binds] at haf
       obtain ⟨z5l,z50,z51,z52, -⟩:=hJ.x5
       go_simp
       exact hK _ _ ⟨pp,o1,n1,s1,k1,Sg,G,vv,_,_,_,_,_,_,_,by simp only [putAll,Act.put,List.setIfInBounds_toArray,List.set_cons_succ,List.set_cons_zero],Vd.same (by simp),cv1.set (by decide),cv2.set (by decide),cv3.set (by decide),cv4.set (by decide),cv5.set (by decide),cv6.set (by decide),by rw [fl_set (show 0≠3 by decide),fl_set (show 0≠4 by decide),fl_set (show 0≠5 by decide)];exact hJ⟩
      ·simp at hop;subst hop;simp [Region.binds] at haf
       obtain rfl:=(cv0.get (by simp [haf])).symm
       obtain ⟨z5l,z50,z51,z52, -⟩:=hJ.x5
       go_simp
       exact hK _ _ ⟨pp,o1,n1,s1,k1,Sg,G,vv,_,_,_,_,_,_,_,by simp only [putAll,Act.put,List.setIfInBounds_toArray,List.set_cons_succ,List.set_cons_zero],cv0.set (by decide),Vd.same (by simp),cv2.set (by decide),cv3.set (by decide),cv4.set (by decide),cv5.set (by decide),cv6.set (by decide),by rw [fl_set (show 1≠3 by decide),fl_set (show 1≠4 by decide),fl_set (show 1≠5 by decide)];exact hJ⟩
      ·simp at hop;subst hop;simp [Region.binds] at haf
       go_simp
       exact hK _ _ ⟨pp,o1,n1,s1,k1,Sg,G,vv,_,_,_,_,_,_,_,by simp only [putAll,Act.put,List.setIfInBounds_toArray,List.set_cons_succ,List.set_cons_zero],cv0.set (by decide),cv1.set (by decide),Vd.same (by simp),cv3.set (by decide),cv4.set (by decide),cv5.set (by decide),cv6.set (by decide),by rw [fl_set (show 2≠3 by decide),fl_set (show 2≠4 by decide),fl_set (show 2≠5 by decide)];exact hJ⟩
      ·simp at hop;subst hop;simp [Region.binds] at haf
       obtain rfl:=(cv2.get (by simp [haf])).symm
       have f3:=fl_no mc.new;rw [f3] at hJ
       go_simp
       go_at_call 136
       (with_reducible refine (HDR.out pp W hJ.rd (by have:=hJ.le;simp at this;omega)).mono ?_);rintro e u ⟨v',pp',rfl,⟨o',n',s',k',S',rfl,hk',hS',hn',hd'⟩,hpp,hru,hou⟩
       exact hK _ _ ⟨pp',o',n',s',k',S',G,vv,_,_,_,_,_,_,_,by simp only [putAll,Act.put,List.setIfInBounds_toArray,List.set_cons_succ,List.set_cons_zero],cv0.set (by decide),cv1.set (by decide),cv2.set (by decide),Vd.same (by simp),cv4.void (by decide) (by decide) mc.new,cv5.void (by decide) (by decide) mc.new,cv6.set (by decide),by rw [fl_got hs (by decide),fl_set (show 3≠4 by decide),fl_set (show 3≠5 by decide)];exact hJ.draw hru hpp hou hk' hS' hn' hd' hb5b (by omega) (by omega) (fun i q hq=>(HS.out q (HC.out.1 i q hq)).1)⟩
      ·simp at hop;subst hop;simp [Region.binds] at haf
       obtain rfl:=(cv3.get (by simp [haf])).symm
       have f4:=fl_no mc.new;rw [f4] at hJ
       have f3:=fl_yes (show ls[3]? = some true by simp [haf]);rw [f3] at hJ
       go_simp
       exact hK _ _ ⟨pp,o1,n1,s1,k1,Sg,W.heap.size,vv,_,_,_,_,_,_,_,by simp only [putAll,Act.put,List.setIfInBounds_toArray,List.set_cons_succ,List.set_cons_zero],cv0.set (by decide),cv1.set (by decide),cv2.set (by decide),cv3.set (by decide),Vd.same (by simp [haf]),cv5.void (by decide) (by decide) mc.new,cv6.set (by decide),by rw [fl_set (show 4≠3 by decide),fl_got hs (by decide),fl_set (show 4≠5 by decide),f3];exact hJ.lit⟩
      ·simp at hop;subst hop;simp [Region.binds] at haf
       have q4:=(cv4 (by simp [haf])).1;simp at q4
       obtain rfl:=(cv1.get (by simp [haf])).symm
       obtain rfl:=(cv4.get (by simp [haf])).symm
       have f5:=fl_no mc.new;rw [f5] at hJ
       have f4:=fl_yes (show ls[4]? = some true by simp [haf]);rw [f4] at hJ
       refine step_appAt RsE 75 Tryz.infoRel rfl Tryz.underlying73 WB.heap.size (.slice v.a v.n v.cap) us ⟨o1,n1,s1⟩ (hJ.ov rfl) (by decide) (by omega) (Nat.le_trans (show WB.heap.size≤w2.heap.size by omega) hJ.sz) (by rfl) _ _ (by rfl) (by rfl) G 0 1 (by rfl) (hJ.ce rfl rfl) ?_;intro s' w6 ho6 hg6 hat6
       exact hK _ _ ⟨pp,o1,n1,s1,k1,Sg,G,s',_,_,_,_,_,_,_,by simp only [putAll,Act.put,List.setIfInBounds_toArray,List.set_cons_succ,List.set_cons_zero],cv0.set (by decide),cv1.set (by decide),cv2.set (by decide),cv3.set (by decide),cv4.set (by decide),Vd.same (by simp [haf]),cv6.set (by decide),by rw [fl_set (show 5≠3 by decide),fl_set (show 5≠4 by decide),fl_got hs (by decide),f4];exact hJ.app ho6 hg6 hat6 hnv hzB (by omega) hlt (fun g e=>by have:=S1B g e;omega) (fun i q hq=>(HS.out q (HC.out.1 i q hq)).2)⟩
      ·simp at hop;subst hop;simp [Region.binds] at haf
       obtain ⟨z5l,z50,z51,z52, -⟩:=hJ.x5
       go_simp
       exact hK _ _ ⟨pp,o1,n1,s1,k1,Sg,G,vv,_,_,_,_,_,_,_,by simp only [putAll,Act.put,List.setIfInBounds_toArray,List.set_cons_succ,List.set_cons_zero],cv0.set (by decide),cv1.set (by decide),cv2.set (by decide),cv3.set (by decide),cv4.set (by decide),cv5.set (by decide),Vd.same (by simp),by rw [fl_set (show 6≠3 by decide),fl_set (show 6≠4 by decide),fl_set (show 6≠5 by decide)];exact hJ⟩
     case re =>
      rintro ls a' W hall ⟨pp,o1,n1,s1,k1,Sg,G,vv,x32,x33,x34,x35,x36,x37,x38,ha,cv0,cv1,cv2,cv3,cv4,cv5,cv6,hJ⟩ o hop
      simp only [putAll,Act.put,List.setIfInBounds_toArray,List.set_cons_succ,List.set_cons_zero] at ha
      subst ha
      simp at hop;subst hop
      obtain rfl:=(cv0.get (hall 0 (by decide))).symm
      obtain rfl:=(cv1.get (hall 1 (by decide))).symm
      obtain rfl:=(cv2.get (hall 2 (by decide))).symm
      obtain rfl:=(cv3.get (hall 3 (by decide))).symm
      obtain rfl:=(cv4.get (hall 4 (by decide))).symm
      obtain rfl:=(cv5.get (hall 5 (by decide))).symm
      obtain rfl:=(cv6.get (hall 6 (by decide))).symm
      rw [fl_yes (hall 3 (by decide))] at hJ
      rw [fl_yes (hall 4 (by decide))] at hJ
      rw [fl_yes (hall 5 (by decide))] at hJ
      obtain ⟨hov3,hgv⟩:=hJ.fin rfl
      obtain ⟨d1,d2,d3,d4⟩:=hJ.dr rfl
      have hvb:=fun g (e:(Value.slice vv.a vv.n vv.cap).ownBlock=some g)=>World.ownsRow.lt hov3 g e
      have S3D:∀ q,(S q∨Sg q∨(Value.slice vv.a vv.n vv.cap).ownBlock=some q)→q≠b5∧q≠w.heap.size+1∧(S q∨w.heap.size≤q)∧q < W.heap.size:=fun q hq=>by
       have hsz:=hJ.sz
       rcases hq with hq | hq | hq
       ·have:=HS.out q hq;exact ⟨by omega,by omega, .inl hq,by omega⟩
       ·have:=d2 q hq;have:=X52.out.lt;exact ⟨by omega,by omega, .inr (by omega),by omega⟩
       ·have:=hvb q hq;exact ⟨(hgv q hq).1,by omega, .inr (by omega),by omega⟩
      have OW3:=hide (OwnR.snoc (S:=S) (S':=fun q=>S q∨Sg q∨(Value.slice vv.a vv.n vv.cap).ownBlock=some q) (k1:=.mk o1 n1 k1) HUL.out hov3 (fun g e=>⟨.inr (.inr e),fun h=>by have:=hvb g e;have:=HS.out g h;omega,(hgv g e).2⟩) HC.out.1 HC.out.2.1 HC.out.2.2 hJ.kk ⟨rfl,rfl⟩ d1 (fun q h1 h2=>by have:=d2 q h2;have:=HS.out q h1;omega) (fun q h => .inl h) (fun q h => .inr (.inl h)))
      have hp3:=hJ.le
      simp only [if_true] at hp3
      have R3:=hide hJ.rd
      have O3:=hide hJ.oo
      have X53:=hide hJ.x5
      have XR3:=hide hJ.x4
      obtain ⟨p3,hp3e⟩:∃ p3,p3=pp:=⟨_,rfl⟩
      rw [← hp3e] at R3 hp3
      clear hJ hov3
      obtain ⟨z4l,z40,z41,z42,z4f⟩:=XR3.out
      obtain ⟨z5l,z50,z51,z52,z5f⟩:=X53.out
      go_simp
      obtain ⟨z4l,z40,z41,z42,z4f⟩:=XR3.out
      obtain ⟨z5l,z50,z51,z52,z5f⟩:=X53.out
      have hn4:¬ (fun q=>S q∨Sg q∨(Value.slice vv.a vv.n vv.cap).ownBlock=some q) (w.heap.size+1):=by intro h;exact (S3D _ h).2.1 rfl
      have hn5:¬ (fun q=>S q∨Sg q∨(Value.slice vv.a vv.n vv.cap).ownBlock=some q) b5:=by intro h;exact (S3D _ h).1 rfl
      have hn45:w.heap.size+1≠b5:=by omega
      have OWN4:=hide ((((OW3.out.set hn5 2 (.slice vv.a vv.n vv.cap)).set hn4 0 (.int .i64 o)).set hn4 1 (.string nm)).set hn4 2 (.slice vv.a vv.n vv.cap))
      go_wp2_with fail
      refine bodyPost_ret (v:=.agg #[.int .i64 o, .string nm, .slice vv.a vv.n vv.cap]) (by simp [results,Tryz.results133,go_sem, *]) rfl ⟨_,p3,rfl,⟨o,nm,vv,(ks++[.mk o1 n1 k1]),(fun q=>S q∨Sg q∨(Value.slice vv.a vv.n vv.cap).ownBlock=some q),rfl,OWN4.out,fun q hq => ?_,by rw [wtR_append,wtR_one];omega⟩,by omega,((((R3.out.setNew (g:=b5) (by omega) _ _).setNew (g:=w.heap.size+1) (by omega) _ _).setNew (by omega) _ _).setNew (by omega) _ _),((((O3.out.setNew (g:=b5) (by omega) _ _).setNew (g:=w.heap.size+1) (by omega) _ _).setNew (by omega) _ _).setNew (by omega) _ _)⟩
      have:=S3D q hq;exact ⟨this.2.2.1,by simp;omega⟩
     -- end app
    ·have hq2':(q==2)=false:=by simp [hq2]
     by_cases hq3:q=3
     ·subst hq3
      have hk0:0≤wtR ks:=Nat.zero_le _
      go_wp2_with fail
      go_loopw [6] (fun i wr => ∃ (j:Nat) (o3:Int) (n3:ByteArray) (s3:Slc) (k3:List Re) (S3:Nat→Prop),i = .int .i64 j∧j≤12∧BoxR wr b5 o3 n3 s3∧BoxR wr (w.heap.size+1) 0 ⟨#[]⟩ ⟨none,0,0⟩∧OwnR 75 wr S3 s3 k3∧(∀ q,S3 q→q≠b5∧q≠w.heap.size+1∧(S q∨w.heap.size≤q)∧q < wr.heap.size)∧n3.size+wtR k3≤nm.size+wtR ks+j∧Rd wr b a c xs p2∧Outside b (b+1) w wr) (fun i _=>12 - (intOf i).toNat)
      case atStart=>exact ⟨0,o,nm,v,ks,(fun q=>S q∨(Value.slice v.a v.n v.cap).ownBlock=some q),rfl,by omega,X52.out,XR2.out,OW2.out,fun q hq=>⟨(S1D q hq).2.2.1,(S1D q hq).2.2.2.1,(S1D q hq).2.2.2.2,by have:=(S1D q hq).2.1;omega⟩,by omega,R2.out,O2.out⟩
      case round =>
       obtain ⟨j,o3,n3,s3,k3,S3,rfl,hj,hx5,hx4,hw3,hS3,hwt,hr3,ho3⟩:=hrel
       have hs3:=ho3.size
       have X53:=hide hx5;have XR3:=hide hx4;have OW3:=hide hw3;have R3:=hide hr3;have O3:=hide ho3;have HS3:=hide hS3
       clear hx5 hx4 hw3 hS3 hr3 ho3
       by_cases hlt3:j < 12
       ·have hlt3':(j:Int) < 12:=by omega
        obtain ⟨z5l,z50,z51,z52,z5f⟩:=X53.out
        have hn5:¬ S3 b5:=fun h=>(HS3.out _ h).1 rfl
        have hA:=((OW3.out.set hn5 0 (.int .i64 6)).set hn5 1 (.string ⟨#[]⟩)).set hn5 2 (.slice (some ⟨wr.heap.size,0,none⟩) 1 1)
        have hB:=OwnR.one (S':=fun q=>S3 q∨q=wr.heap.size) hA (fun q hq=>by have:=(HS3.out q hq).2.2.2;simpa using this) (fun q hq => .inl hq) (.inr (by simp)) o3 n3
        have hX:=(BoxR.put (BoxR.mk z5l z50 z51 z52 z5f) 6 ⟨#[]⟩ ⟨some ⟨wr.heap.size,0,none⟩,1,1⟩).below (belowAlloc _ (.cells #[.int .i64 o3, .string n3, .slice s3.a s3.n s3.cap] 75))
        have h45:w.heap.size+1≠b5:=by omega
        have hY:=(((XR3.out.other h45 (j:=0) (u:=.int .i64 6)).other h45 (j:=1) (u:=.string ⟨#[]⟩)).other h45 (j:=2) (u:=.slice (some ⟨wr.heap.size,0,none⟩) 1 1)).below (belowAlloc _ (.cells #[.int .i64 o3, .string n3, .slice s3.a s3.n s3.cap] 75))
        have HA:=hide hB;have HX:=hide hX;have HY:=hide hY
        clear hA hB hX hY
        go_wp2_with fail
        go_roundw
        case rel=>exact ⟨j+1,6,⟨#[]⟩,⟨some ⟨wr.heap.size,0,none⟩,1,1⟩,[.mk o3 n3 k3],(fun q=>S3 q∨q=wr.heap.size),by go_num,by omega,by simpa using HX.out,by simpa using HY.out,by simpa using HA.out,fun q hq=>(by
         rcases hq with hq | rfl
         ·have:=HS3.out q hq;exact ⟨this.1,this.2.1,this.2.2.1,by simp;omega⟩
         ·exact ⟨by omega,by omega, .inr (by omega),by simp⟩),by rw [wtR_one];have:(⟨#[]⟩:ByteArray).size=0:=rfl;omega,(((R3.out.setNew (g:=b5) (by omega) _ _).setNew (by omega) _ _).setNew (by omega) _ _).allocNew _,(((O3.out.setNew (g:=b5) (by omega) _ _).setNew (by omega) _ _).setNew (by omega) _ _).allocNew _⟩
        case measure=>simp [intOf];omega
       ·have hlt3':¬ (j:Int) < 12:=by omega
        have hp3:p2=p2:=rfl
        obtain ⟨p3,hp3e⟩:∃ p3,p3=p2:=⟨_,rfl⟩
        rw [← hp3e] at R3
        obtain ⟨z4l,z40,z41,z42,z4f⟩:=XR3.out
        obtain ⟨z5l,z50,z51,z52,z5f⟩:=X53.out
        have hn4:¬ S3 (w.heap.size+1):=by intro h;exact (HS3.out _ h).2.1 rfl
        have hn5:¬ S3 b5:=by intro h;exact (HS3.out _ h).1 rfl
        have hn45:w.heap.size+1≠b5:=by omega
        have OWN4:=hide (((OW3.out.set hn4 0 (.int .i64 o3)).set hn4 1 (.string n3)).set hn4 2 (.slice s3.a s3.n s3.cap))
        go_wp2_with fail
        refine bodyPost_ret (v:=.agg #[.int .i64 o3, .string n3, .slice s3.a s3.n s3.cap]) (by simp [results,Tryz.results133,go_sem, *]) rfl ⟨_,p3,rfl,⟨o3,n3,s3,k3,S3,rfl,OWN4.out,fun q hq => ?_,by omega⟩,by omega,(((R3.out.setNew (g:=w.heap.size+1) (by omega) _ _).setNew (by omega) _ _).setNew (by omega) _ _),(((O3.out.setNew (g:=w.heap.size+1) (by omega) _ _).setNew (by omega) _ _).setNew (by omega) _ _)⟩
        have:=HS3.out q hq;exact ⟨this.2.2.1,by simp;omega⟩
     ·have hq3':(q==3)=false:=by simp [hq3]
      clear hq0 hq1 hq2 hq3
      obtain ⟨z4l,z40,z41,z42,z4f⟩:=XR2.out
      obtain ⟨z5l,z50,z51,z52,z5f⟩:=X52.out
      have hn4:¬ (fun q=>S q∨(Value.slice v.a v.n v.cap).ownBlock=some q) (w.heap.size+1):=by intro h;exact (S1D _ h).2.2.2.1 rfl
      have hn5:¬ (fun q=>S q∨(Value.slice v.a v.n v.cap).ownBlock=some q) b5:=by intro h;exact (S1D _ h).2.2.1 rfl
      have hn45:w.heap.size+1≠b5:=by omega
      have OWN4:=hide (((OW2.out.set hn4 0 (.int .i64 o)).set hn4 1 (.string nm)).set hn4 2 (.slice v.a v.n v.cap))
      go_wp2_with fail
      refine bodyPost_ret (v:=.agg #[.int .i64 o, .string nm, .slice v.a v.n v.cap]) (by simp [results,Tryz.results133,go_sem, *]) rfl ⟨_,p2,rfl,⟨o,nm,v,ks,(fun q=>S q∨(Value.slice v.a v.n v.cap).ownBlock=some q),rfl,OWN4.out,fun q hq => ?_,by omega⟩,by omega,(((R2.out.setNew (g:=w.heap.size+1) (by omega) _ _).setNew (by omega) _ _).setNew (by omega) _ _),(((O2.out.setNew (g:=w.heap.size+1) (by omega) _ _).setNew (by omega) _ _).setNew (by omega) _ _)⟩
      have:=S1D q hq;exact ⟨this.2.2.2.2,by simp;omega⟩
 -- end copy
end Go.Proofs.YtkfhgnkonaafgaaGreatDoor
/-
  The reference's outcome of a state. Condition: bounds on lengths.
-/
import Derived.Test.YtnkfphndfijcoaaZo09
import Derived.Test.YtnkfphndfijcoaaZo02
set_option maxHeartbeats 6400000
set_option maxRecDepth 100000
namespace Go.Proofs.Ytnkfphndfijcoaa
open Go.RowKit
section
variable {A0 W w' : World} {pc rg mm : List Int} {a1 f1 a2 f2 a3 f3 fo : Bool} {A B C O n : Nat} {f g h : Slc}
theorem JCp.mk1 (hJ:JCp A0 pc rg mm false false a2 f2 a3 f3 fo A B C f g h O W) (ho:Own IntE 3 w' W.heap.size (.slice (some ⟨W.heap.size,0,none⟩) n n) pc) (hg:W.grownBy w' none):JCp A0 pc rg mm true true a2 f2 a3 f3 fo A B C ⟨some ⟨W.heap.size,0,none⟩,n,n⟩ g h O w':=
 ⟨hJ.out.grown hg hJ.out.size (fun q hq=>nomatch hq),hJ.ln.put1 (c1':=⟨some ⟨W.heap.size,0,none⟩,n,n⟩) (ho.mono hJ.out.size) hg (.inr fun q hq=>by simp[Value.ownBlock]at hq;omega),fun _=>rfl,hJ.i2,hJ.i3,hJ.obB ((Below.refl _ _).grown hg (Nat.le_refl _) (fun q hq=>nomatch hq))⟩
theorem JCp.mk2 (hJ:JCp A0 pc rg mm a1 f1 false false a3 f3 fo A B C f g h O W) (ho:Own IntE 3 w' W.heap.size (.slice (some ⟨W.heap.size,0,none⟩) n n) rg) (hg:W.grownBy w' none):JCp A0 pc rg mm a1 f1 true true a3 f3 fo A B C f ⟨some ⟨W.heap.size,0,none⟩,n,n⟩ h O w':=
 ⟨hJ.out.grown hg hJ.out.size (fun q hq=>nomatch hq),hJ.ln.put2 (c2':=⟨some ⟨W.heap.size,0,none⟩,n,n⟩) (ho.mono hJ.out.size) hg (.inr fun q hq=>by simp[Value.ownBlock]at hq;omega),hJ.i1,fun _=>rfl,hJ.i3,hJ.obB ((Below.refl _ _).grown hg (Nat.le_refl _) (fun q hq=>nomatch hq))⟩
theorem JCp.mk3 (hJ:JCp A0 pc rg mm a1 f1 a2 f2 false false fo A B C f g h O W) (ho:Own IntE 3 w' W.heap.size (.slice (some ⟨W.heap.size,0,none⟩) n n) mm) (hg:W.grownBy w' none):JCp A0 pc rg mm a1 f1 a2 f2 true true fo A B C f g ⟨some ⟨W.heap.size,0,none⟩,n,n⟩ O w':=
 ⟨hJ.out.grown hg hJ.out.size (fun q hq=>nomatch hq),hJ.ln.put3 (c3':=⟨some ⟨W.heap.size,0,none⟩,n,n⟩) (ho.mono hJ.out.size) hg (.inr fun q hq=>by simp[Value.ownBlock]at hq;omega),hJ.i1,hJ.i2,fun _=>rfl,hJ.obB ((Below.refl _ _).grown hg (Nat.le_refl _) (fun q hq=>nomatch hq))⟩
end
theorem l3Start_any (pa:Option Addr) (pk n nb:Nat) (w:World) (hn:n≤1048576) (hnb:nb≤1048576) :
 Calls Try.prog 37 #[.slice pa n pk,.int .i64 (nb:Int)] w (RetSt w ⟨List.replicate n 0,List.replicate (n * 3) 0,List.replicate 3 0,List.replicate nb []⟩):=by
 obtain⟨A0,hA0⟩:∃ A0,A0=w.alloc (.cells #[.slice none 0 0,.slice none 0 0,.slice none 0 0,.slice none 0 0] 64):=⟨_,rfl⟩
 have HB:Hid (Below w.heap.size w A0):=hide (by rw[hA0];exact belowAlloc _ _);have hz:A0.heap.size=w.heap.size+1:=by rw[hA0];simp
 have HR2:Hid (A0.heap[w.heap.size]? = some (.cells #[.slice none 0 0,.slice none 0 0,.slice none 0 0,.slice none 0 0] 64 (0,0))):=hide (by rw[hA0];exact heap_alloc_new w _);have HA0:=hide hA0;clear hA0;go_enter Try.func37,Try.ntmps37;go_wp2_with fail;rw[← HA0.out]
 -- reg start
 refine wp_region_inv3 (n:=10) (by kernel_rfl) rfl (by kernel_rfl) (by kernel_rfl) (fun A ls a' W => ∃ (f:Slc) (g:Slc) (h:Slc) (O:Nat) (x6 x7 x8 x9 x10 x11 x12 x13 x14 x5:Value),a'=putAll A [(6,x6),(7,x7),(8,x8),(9,x9),(10,x10),(11,x11),(12,x12),(13,x13),(14,x14),(5,x5)]∧Vd ls 0 [] x6 (.slice pa n pk)∧Vd ls 1 [] x7 (.int .i64 (n:Int))∧Vd ls 2 [] x8 (.slice f.a f.n f.cap)∧Vd ls 3 [] x9 (.slice pa n pk)∧Vd ls 4 [] x10 (.int .i64 (n:Int))∧Vd ls 5 [] x11 (.int .i64 ((n:Int) * 3))∧Vd ls 6 [] x12 (.slice g.a g.n g.cap)∧Vd ls 7 [] x13 (.slice h.a h.n h.cap)∧Vd ls 8 [2,6,7] x14 (.agg #[.slice f.a f.n f.cap,.slice g.a g.n g.cap,.slice h.a h.n h.cap,.slice none 0 0])∧Vd ls 9 [] x5 (.pointer (some ⟨O,0,none⟩))∧JCp A0 (List.replicate n 0) (List.replicate (n * 3) 0) (List.replicate 3 0) (fl ls 2) (fl ls 2) (fl ls 6) (fl ls 6) (fl ls 7) (fl ls 7) (fl ls 9) 0 0 0 f g h O W) ?r0 ?rs ?re
 case r0 =>
  exact⟨⟨none,0,0⟩,⟨none,0,0⟩,⟨none,0,0⟩,0,undef,undef,undef,undef,undef,undef,undef,undef,undef,undef,by simp only[putAll,Act.put,List.setIfInBounds_toArray,List.set_cons_succ,List.set_cons_zero],Vd.start,Vd.start,Vd.start,Vd.start,Vd.start,Vd.start,Vd.start,Vd.start,Vd.start,Vd.start,by simp only[fl_start];exact JCp.start (hz ▸ (Below.refl _ _).drew)⟩
 case rs =>
  rintro ls a' W hs hnl ⟨f,g,h,O,x6,x7,x8,x9,x10,x11,x12,x13,x14,x5,ha,cv0,cv1,cv2,cv3,cv4,cv5,cv6,cv7,cv8,cv9,hJ⟩ k o hkn mc K hK;simp only[putAll,Act.put,List.setIfInBounds_toArray,List.set_cons_succ,List.set_cons_zero]at ha;subst ha;have hkc:k=0∨k=1∨k=2∨k=3∨k=4∨k=5∨k=6∨k=7∨k=8∨k=9:=by omega
  have hop:=mc.op;have haf:=mc.after;rcases hkc with rfl | rfl | rfl | rfl | rfl | rfl | rfl | rfl | rfl | rfl
  ·simp at hop;subst hop;simp[Region.binds]at haf
   go_simp;exact hK _ _ ⟨f,g,h,O,_,_,_,_,_,_,_,_,_,_,by simp only[putAll,Act.put,List.setIfInBounds_toArray,List.set_cons_succ,List.set_cons_zero],Vd.same (by simp),cv1.set (by decide),cv2.set (by decide),cv3.set (by decide),cv4.set (by decide),cv5.set (by decide),cv6.set (by decide),cv7.set (by decide),cv8.set (by decide),cv9.set (by decide),by rw[fl_set (show 0≠2 by decide),fl_set (show 0≠6 by decide),fl_set (show 0≠7 by decide),fl_set (show 0≠9 by decide)];exact hJ⟩
  ·simp at hop;subst hop;simp[Region.binds]at haf
   obtain rfl:=(cv0.get (by simp[haf])).symm;go_simp;exact hK _ _ ⟨f,g,h,O,_,_,_,_,_,_,_,_,_,_,by simp only[putAll,Act.put,List.setIfInBounds_toArray,List.set_cons_succ,List.set_cons_zero],cv0.set (by decide),Vd.same (by simp),cv2.set (by decide),cv3.set (by decide),cv4.set (by decide),cv5.set (by decide),cv6.set (by decide),cv7.set (by decide),cv8.set (by decide),cv9.set (by decide),by rw[fl_set (show 1≠2 by decide),fl_set (show 1≠6 by decide),fl_set (show 1≠7 by decide),fl_set (show 1≠9 by decide)];exact hJ⟩
  ·simp at hop;subst hop;simp[Region.binds]at haf
   obtain rfl:=(cv1.get (by simp[haf])).symm;have f2:=fl_no mc.new;rw[f2]at hJ;have hsz:=hJ.out.size;refine step_mk IntE 3 0 Try.infoInt rfl Try.underlying34 (n) (by decide) (by omega) (by rfl) _ _ (by rfl) (by rfl) (by rfl) ?_;intro w6 ho6 hg6;exact hK _ _ ⟨⟨some ⟨W.heap.size,0,none⟩,n,n⟩,g,h,O,_,_,_,_,_,_,_,_,_,_,by simp only[putAll,Act.put,List.setIfInBounds_toArray,List.set_cons_succ,List.set_cons_zero],cv0.set (by decide),cv1.set (by decide),Vd.same (by simp),cv3.set (by decide),cv4.set (by decide),cv5.set (by decide),cv6.set (by decide),cv7.set (by decide),cv8.void (by decide) (by decide) mc.new,cv9.set (by decide),by rw[fl_got hs (by decide),fl_set (show 2≠6 by decide),fl_set (show 2≠7 by decide),fl_set (show 2≠9 by decide)];exact hJ.mk1 ho6 hg6⟩
  ·simp at hop;subst hop;simp[Region.binds]at haf
   go_simp;exact hK _ _ ⟨f,g,h,O,_,_,_,_,_,_,_,_,_,_,by simp only[putAll,Act.put,List.setIfInBounds_toArray,List.set_cons_succ,List.set_cons_zero],cv0.set (by decide),cv1.set (by decide),cv2.set (by decide),Vd.same (by simp),cv4.set (by decide),cv5.set (by decide),cv6.set (by decide),cv7.set (by decide),cv8.set (by decide),cv9.set (by decide),by rw[fl_set (show 3≠2 by decide),fl_set (show 3≠6 by decide),fl_set (show 3≠7 by decide),fl_set (show 3≠9 by decide)];exact hJ⟩
  ·simp at hop;subst hop;simp[Region.binds]at haf
   obtain rfl:=(cv3.get (by simp[haf])).symm;go_simp;exact hK _ _ ⟨f,g,h,O,_,_,_,_,_,_,_,_,_,_,by simp only[putAll,Act.put,List.setIfInBounds_toArray,List.set_cons_succ,List.set_cons_zero],cv0.set (by decide),cv1.set (by decide),cv2.set (by decide),cv3.set (by decide),Vd.same (by simp),cv5.set (by decide),cv6.set (by decide),cv7.set (by decide),cv8.set (by decide),cv9.set (by decide),by rw[fl_set (show 4≠2 by decide),fl_set (show 4≠6 by decide),fl_set (show 4≠7 by decide),fl_set (show 4≠9 by decide)];exact hJ⟩
  ·simp at hop;subst hop;simp[Region.binds]at haf
   obtain rfl:=(cv4.get (by simp[haf])).symm;have hw5:IntKind.i64.wrap ((n:Int) * 3)=(n:Int) * 3:=wrapM (by omega) (by omega);go_simp;exact hK _ _ ⟨f,g,h,O,_,_,_,_,_,_,_,_,_,_,by simp only[putAll,Act.put,List.setIfInBounds_toArray,List.set_cons_succ,List.set_cons_zero],cv0.set (by decide),cv1.set (by decide),cv2.set (by decide),cv3.set (by decide),cv4.set (by decide),Vd.same (by simp),cv6.set (by decide),cv7.set (by decide),cv8.set (by decide),cv9.set (by decide),by rw[fl_set (show 5≠2 by decide),fl_set (show 5≠6 by decide),fl_set (show 5≠7 by decide),fl_set (show 5≠9 by decide)];exact hJ⟩
  ·simp at hop;subst hop;simp[Region.binds]at haf
   obtain rfl:=(cv5.get (by simp[haf])).symm;have f6:=fl_no mc.new;rw[f6]at hJ;have hsz:=hJ.out.size;refine step_mk IntE 3 0 Try.infoInt rfl Try.underlying34 (n * 3) (by decide) (by omega) (by rfl) _ _ (by rfl) (by show Value.int .i64 ((n:Int) * 3)=_;congr 1) (by show Value.int .i64 ((n:Int) * 3)=_;congr 1) ?_;intro w6 ho6 hg6;exact hK _ _ ⟨f,⟨some ⟨W.heap.size,0,none⟩,n * 3,n * 3⟩,h,O,_,_,_,_,_,_,_,_,_,_,by simp only[putAll,Act.put,List.setIfInBounds_toArray,List.set_cons_succ,List.set_cons_zero],cv0.set (by decide),cv1.set (by decide),cv2.set (by decide),cv3.set (by decide),cv4.set (by decide),cv5.set (by decide),Vd.same (by simp),cv7.set (by decide),cv8.void (by decide) (by decide) mc.new,cv9.set (by decide),by rw[fl_set (show 6≠2 by decide),fl_got hs (by decide),fl_set (show 6≠7 by decide),fl_set (show 6≠9 by decide)];exact hJ.mk2 ho6 hg6⟩
  ·simp at hop;subst hop;simp[Region.binds]at haf
   have f7:=fl_no mc.new;rw[f7]at hJ;have hsz:=hJ.out.size;refine step_mk IntE 3 0 Try.infoInt rfl Try.underlying34 (3) (by decide) (by omega) (by rfl) _ _ (by rfl) (by rfl) (by rfl) ?_;intro w6 ho6 hg6;exact hK _ _ ⟨f,g,⟨some ⟨W.heap.size,0,none⟩,3,3⟩,O,_,_,_,_,_,_,_,_,_,_,by simp only[putAll,Act.put,List.setIfInBounds_toArray,List.set_cons_succ,List.set_cons_zero],cv0.set (by decide),cv1.set (by decide),cv2.set (by decide),cv3.set (by decide),cv4.set (by decide),cv5.set (by decide),cv6.set (by decide),Vd.same (by simp),cv8.void (by decide) (by decide) mc.new,cv9.set (by decide),by rw[fl_set (show 7≠2 by decide),fl_set (show 7≠6 by decide),fl_got hs (by decide),fl_set (show 7≠9 by decide)];exact hJ.mk3 ho6 hg6⟩
  ·simp at hop;subst hop;simp[Region.binds]at haf
   obtain rfl:=(cv2.get (by simp[haf])).symm;obtain rfl:=(cv6.get (by simp[haf])).symm;obtain rfl:=(cv7.get (by simp[haf])).symm;go_simp;exact hK _ _ ⟨f,g,h,O,_,_,_,_,_,_,_,_,_,_,by simp only[putAll,Act.put,List.setIfInBounds_toArray,List.set_cons_succ,List.set_cons_zero],cv0.set (by decide),cv1.set (by decide),cv2.set (by decide),cv3.set (by decide),cv4.set (by decide),cv5.set (by decide),cv6.set (by decide),cv7.set (by decide),Vd.same (by simp[haf]),cv9.set (by decide),by rw[fl_set (show 8≠2 by decide),fl_set (show 8≠6 by decide),fl_set (show 8≠7 by decide),fl_set (show 8≠9 by decide)];exact hJ⟩
  ·simp at hop;subst hop;simp[Region.binds]at haf
   have f9:=fl_no mc.new;rw[f9]at hJ;go_simp;exact hK _ _ ⟨f,g,h,W.heap.size,_,_,_,_,_,_,_,_,_,_,by simp only[putAll,Act.put,List.setIfInBounds_toArray,List.set_cons_succ,List.set_cons_zero],cv0.set (by decide),cv1.set (by decide),cv2.set (by decide),cv3.set (by decide),cv4.set (by decide),cv5.set (by decide),cv6.set (by decide),cv7.set (by decide),cv8.set (by decide),Vd.same (by simp),by rw[fl_set (show 9≠2 by decide),fl_set (show 9≠6 by decide),fl_set (show 9≠7 by decide),fl_got hs (by decide)];exact hJ.obj⟩
 case re =>
  rintro ls a' W hall ⟨f,g,h,O,x6,x7,x8,x9,x10,x11,x12,x13,x14,x5,ha,cv0,cv1,cv2,cv3,cv4,cv5,cv6,cv7,cv8,cv9,hJ⟩ o hop;simp only[putAll,Act.put,List.setIfInBounds_toArray,List.set_cons_succ,List.set_cons_zero]at ha;subst ha;simp at hop;subst hop;obtain rfl:=(cv0.get (hall 0 (by decide))).symm;obtain rfl:=(cv1.get (hall 1 (by decide))).symm;obtain rfl:=(cv2.get (hall 2 (by decide))).symm;obtain rfl:=(cv3.get (hall 3 (by decide))).symm;obtain rfl:=(cv4.get (hall 4 (by decide))).symm;obtain rfl:=(cv5.get (hall 5 (by decide))).symm;obtain rfl:=(cv6.get (hall 6 (by decide))).symm;obtain rfl:=(cv7.get (hall 7 (by decide))).symm;obtain rfl:=(cv8.get (hall 8 (by decide))).symm;obtain rfl:=(cv9.get (hall 9 (by decide))).symm;rw[fl_yes (hall 2 (by decide))]at hJ;rw[fl_yes (hall 6 (by decide))]at hJ;rw[fl_yes (hall 7 (by decide))]at hJ;rw[fl_yes (hall 9 (by decide))]at hJ;obtain⟨hbo,hbB⟩:=hJ.ob rfl;have hln:=hJ.ln;simp only[laneA,laneL,if_true]at hln;have hbr:=(hJ.out.block w.heap.size (by omega)).trans HR2.out;have c0:W.cell? ⟨O,0,none⟩=some (.slice none 0 0):=cellH hbo (k:=0) rfl;have c1:W.cell? ⟨O,1,none⟩=some (.slice none 0 0):=cellH hbo (k:=1) rfl
  have c2:W.cell? ⟨O,2,none⟩=some (.slice none 0 0):=cellH hbo (k:=2) rfl;have c3:W.cell? ⟨O,3,none⟩=some (.slice none 0 0):=cellH hbo (k:=3) rfl;have cfz:=frozH hbo;have cl:=lt_of_cell c0;go_simp;have hb0:=heap_setCell_same W O 0 _ _ (.slice f.a f.n f.cap) hbo;have hb1:=heap_setCell_same (W.setCell ⟨O,0,none⟩ (.slice f.a f.n f.cap)) O 1 _ _ (.slice g.a g.n g.cap) hb0;have hb2:=heap_setCell_same ((W.setCell ⟨O,0,none⟩ (.slice f.a f.n f.cap)).setCell ⟨O,1,none⟩ (.slice g.a g.n g.cap)) O 2 _ _ (.slice h.a h.n h.cap) hb1;have hb3:=heap_setCell_same (((W.setCell ⟨O,0,none⟩ (.slice f.a f.n f.cap)).setCell ⟨O,1,none⟩ (.slice g.a g.n g.cap)).setCell ⟨O,2,none⟩ (.slice h.a h.n h.cap)) O 3 _ _ (.slice none 0 0) hb2;have hl3:=(((hln.setOther (j:=0) (u:=.slice f.a f.n f.cap) (by decide) hbo).setOther (j:=1) (u:=.slice g.a g.n g.cap) (by decide) hb0).setOther (j:=2) (u:=.slice h.a h.n h.cap) (by decide) hb1).setOther (j:=3) (u:=.slice none 0 0) (by decide) hb2;have hO:=(((hJ.out.setCell (p:=⟨O,0,none⟩) hbB (.slice f.a f.n f.cap)).setCell (p:=⟨O,1,none⟩) hbB (.slice g.a g.n g.cap)).setCell (p:=⟨O,2,none⟩) hbB (.slice h.a h.n h.cap)).setCell (p:=⟨O,3,none⟩) hbB (.slice none 0 0)
  have HO:=hide hO;have HL3:=hide hl3;have HB3:=hide hb3;have HBO:=hide hbB
  have P1:=hide (fun q hq=>(World.ownsRow.lt hln.o1 q hq).2);have P2:=hide (fun q hq=>(World.ownsRow.lt hln.o2 q hq).2);have P3:=hide (fun q hq=>(World.ownsRow.lt hln.o3 q hq).2)
  obtain⟨WB,hWB⟩:∃ WB,WB=(((W.setCell ⟨O,0,none⟩ (.slice f.a f.n f.cap)).setCell ⟨O,1,none⟩ (.slice g.a g.n g.cap)).setCell ⟨O,2,none⟩ (.slice h.a h.n h.cap)).setCell ⟨O,3,none⟩ (.slice none 0 0):=⟨_,rfl⟩
  have hWs:WB.heap.size=W.heap.size:=by rw[hWB];simp
  rw[← hWB]at HO HL3 HB3;simp at HB3;rw[← hWB];have hOW:O < W.heap.size:=(Array.getElem?_eq_some_iff.1 hbo).1;clear hb0 hb1 hb2 hb3 hl3 hO hJ hln hbr c0 c1 c2 c3 cfz cl hbo hWB;have e3:WB.cell? ⟨O,3,none⟩=some (.slice none 0 0):=cellH HB3.out (k:=3) rfl;have efz:=frozH HB3.out;have el:=lt_of_cell e3
  go_wp2_with (at_make;refine wpList_make SlcE 34 ⟨none,0,0⟩ Try.infoIntSM rfl Try.underlying23 nb (by decide) (by omega) rfl _ _ rfl rfl rfl ?_;intro w5 hown5 hgr5;have hbo5:=(hgr5.block O el (by simp)).trans HB3.out;have g0:w5.cell? ⟨O,0,none⟩=some (.slice f.a f.n f.cap):=cellH hbo5 (k:=0) rfl;have g1:w5.cell? ⟨O,1,none⟩=some (.slice g.a g.n g.cap):=cellH hbo5 (k:=1) rfl;have g2:w5.cell? ⟨O,2,none⟩=some (.slice h.a h.n h.cap):=cellH hbo5 (k:=2) rfl;have g3:w5.cell? ⟨O,3,none⟩=some (.slice none 0 0):=cellH hbo5 (k:=3) rfl;have gfz:=frozH hbo5;have gl:=lt_of_cell g0;have hbr5:=(hgr5.block w.heap.size (by omega) (by simp)).trans ((HO.out.block w.heap.size (by omega)).trans HR2.out);have r0:w5.cell? ⟨w.heap.size,0,none⟩=some (.slice none 0 0):=cellH hbr5 (k:=0) rfl;have r1:w5.cell? ⟨w.heap.size,1,none⟩=some (.slice none 0 0):=cellH hbr5 (k:=1) rfl;have r2:w5.cell? ⟨w.heap.size,2,none⟩=some (.slice none 0 0):=cellH hbr5 (k:=2) rfl;have r3:w5.cell? ⟨w.heap.size,3,none⟩=some (.slice none 0 0):=cellH hbr5 (k:=3) rfl;have rfz:=frozH hbr5;have rl:=lt_of_cell r0;have O5:=hide hown5;have G5:=hide hgr5;have HBO5:=hide hbo5;have HBR5:=hide hbr5;have hne5:O≠w.heap.size:=(by omega);clear hown5 hgr5 hbo5 hbr5)
  have B5:=(Below.refl WB.heap.size WB).grown G5.out (Nat.le_refl _) (fun q hq=>nomatch hq);have hS:OwnSt w5 A0.heap.size WB.heap.size ⟨f,g,h,⟨some ⟨WB.heap.size,0,none⟩,nb,nb⟩⟩ ⟨List.replicate n 0,List.replicate (n * 3) 0,List.replicate 3 0,List.replicate nb []⟩:=
   ⟨HL3.out.below B5,Own2.made O5.out,fun q hq=>by have:=P1.out q hq;omega,fun q hq=>by have:=P2.out q hq;omega,fun q hq=>by have:=P3.out q hq;omega,by have:=HO.out.size;omega,B5.size⟩
  have t0:TyB 64 w5 O:=⟨_,HBO5.out⟩
  have t1:TyB 64 w5 w.heap.size:=⟨_,HBR5.out⟩
  refine bodyPost_ret (v:=.agg #[.slice f.a f.n f.cap,.slice g.a g.n g.cap,.slice h.a h.n h.cap,.slice (some ⟨WB.heap.size,0,none⟩) nb nb]) (by simp[results,Try.results37,go_sem, *]) rfl ⟨⟨f,g,h,⟨some ⟨WB.heap.size,0,none⟩,nb,nb⟩⟩,WB.heap.size,rfl,?_,?_⟩
  ·exact((((((hS.setT (j:=3) (by decide) (by decide) t0).setT (by decide) (by decide) (t1.set _ _ _)).setT (by decide) (by decide) ((t1.set _ _ _).set _ _ _)).setT (by decide) (by decide) (((t1.set _ _ _).set _ _ _).set _ _ _)).setT (by decide) (by decide) ((((t1.set _ _ _).set _ _ _).set _ _ _).set _ _ _))).mono (by omega)
  ·have hb9:=(HB.out.trans (HO.out.mono HB.out.size)).trans (B5.mono (by omega))
   exact((((hb9.setCell (p:=⟨O,3,none⟩) (show w.heap.size≤O by omega) _).setCell (p:=⟨w.heap.size,0,none⟩) (Nat.le_refl _) _).setCell (p:=⟨w.heap.size,1,none⟩) (Nat.le_refl _) _).setCell (p:=⟨w.heap.size,2,none⟩) (Nat.le_refl _) _).setCell (p:=⟨w.heap.size,3,none⟩) (Nat.le_refl _) _
 -- end start
end Go.Proofs.Ytnkfphndfijcoaa
namespace Go.Proofs.Ytnkfphndfijcoaa
open Go.RowKit
abbrev St.q (s:St):Sq:=⟨s.pc,s.rg,s.mm⟩
theorem l3Reg_M (t r:Nat) (w:World) (h0:t≤2) (h1:r≤2):Calls Try.prog 64 #[.int .i64 (t:Int),.int .i64 (r:Int)] w fun e w'=>e = .returned (.int .i64 ((t * 3+r:Nat):Int))∧w=w':=by
 go_enter Try.func64,Try.ntmps64;go_wp2_with fail;go_ret;refine⟨congrArg Ending.returned (congrArg (Value.int .i64) ?_),rfl⟩;omega
theorem sqVal_yes {s:Sq}{t:Nat}{i:Ins}(h:i.op=3):sqVal s t i=s.rg.getD (t * 3+i.reg.toNat) 0:=by unfold sqVal;rw[if_pos h]
theorem sqVal_no {s:Sq}{t:Nat}{i:Ins}(h:i.op≠3):sqVal s t i=i.val:=by unfold sqVal;rw[if_neg h]
theorem l3Value_any (x:SV) (s:St) (t r:Nat) (op loc val:Int) (w:World) (hx:RepSt w x s) (ht:t≤2) (h1:r≤2) (hl:t * 3+r < s.rg.length) :
 Calls Try.prog 65 #[.agg #[.slice x.p.a x.p.n x.p.cap,.slice x.r.a x.r.n x.r.cap,.slice x.m.a x.m.n x.m.cap,.slice x.b.a x.b.n x.b.cap],.int .i64 (t:Int),.agg #[.int .i64 op,.int .i64 loc,.int .i64 (r:Int),.int .i64 val]] w
  fun e w'=>e = .returned (.int .i64 (sqVal s.q t ⟨op,loc,r,val⟩))∧Below w.heap.size w w':=by
 obtain⟨⟨pa,pn,pk⟩,⟨ra,rn,rk⟩,⟨ma,mn,mk⟩,⟨ba,bn,bk⟩⟩:=x;obtain⟨y,hy⟩:=get_of_lt (xs:=s.rg) (k:=t * 3+r) hl;obtain⟨_,_,hv2,-,-,-,-⟩:=hx.rg.open;simp only[Slc.v,Value.slice.injEq]at hv2;obtain⟨rfl,hn2,rfl⟩:=hv2;obtain⟨b,o,rfl,hbl,i0⟩:=(show Rep IntE w (.slice ra rn rk) s.rg from hx.rg).int hy;have HREG:=hide (fun w'=>l3Reg_M t r w' ht h1);have hlt:((t * 3+r:Nat):Int) < (rn:Int):=by omega
 have hb0:=(belowAlloc w (.cells #[.slice pa pn pk,.slice (some ⟨b,o,none⟩) rn rk,.slice ma mn mk,.slice ba bn bk] 64)).alloc (by simp) (.cells #[.int .i64 op,.int .i64 loc,.int .i64 (r:Int),.int .i64 val] 56);have HB0:=hide hb0;obtain⟨A0,hA0⟩:∃ A0,A0=(w.alloc (.cells #[.slice pa pn pk,.slice (some ⟨b,o,none⟩) rn rk,.slice ma mn mk,.slice ba bn bk] 64)).alloc (.cells #[.int .i64 op,.int .i64 loc,.int .i64 (r:Int),.int .i64 val] 56):=⟨_,rfl⟩
 rw[← hA0]at HB0;have hbl1:b < A0.heap.size:=Nat.lt_of_lt_of_le hbl HB0.out.size;have i1:=(HB0.out.cell (p:=⟨b,o+(t * 3+r),none⟩) hbl).trans i0;have hX1:A0.heap[w.heap.size]? = some (.cells #[.slice pa pn pk,.slice (some ⟨b,o,none⟩) rn rk,.slice ma mn mk,.slice ba bn bk] 64 (0,0)):=by
  rw[hA0,heap_alloc_old _ _ (by simp)];exact heap_alloc_new w _
 have hX2:A0.heap[w.heap.size+1]? = some (.cells #[.int .i64 op,.int .i64 loc,.int .i64 (r:Int),.int .i64 val] 56 (0,0)):=by
  have h:=heap_alloc_new (w.alloc (.cells #[.slice pa pn pk,.slice (some ⟨b,o,none⟩) rn rk,.slice ma mn mk,.slice ba bn bk] 64)) (.cells #[.int .i64 op,.int .i64 loc,.int .i64 (r:Int),.int .i64 val] 56);rw[hA0];simpa using h
 have a1:A0.cell? ⟨w.heap.size,1,none⟩=some (.slice (some ⟨b,o,none⟩) rn rk):=cellH hX1 (k:=1) rfl;have a2:A0.cell? ⟨w.heap.size+1,2,none⟩=some (.int .i64 (r:Int)):=cellH hX2 (k:=2) rfl;have a3:A0.cell? ⟨w.heap.size+1,0,none⟩=some (.int .i64 op):=cellH hX2 (k:=0) rfl;have a4:A0.cell? ⟨w.heap.size+1,3,none⟩=some (.int .i64 val):=cellH hX2 (k:=3) rfl;have al:=lt_of_cell a1;have al2:=lt_of_cell a2;have HA0:=hide hA0;clear hX1 hX2 hA0;have E1:Hid (op=3→sqVal s.q t ⟨op,loc,r,val⟩=y):=hide fun h=>by rw[sqVal_yes h];simp only[Int.toNat_natCast,List.getD_eq_getElem?_getD,hy,Option.getD_some]
 have E2:Hid (op≠3→sqVal s.q t ⟨op,loc,r,val⟩=val):=hide fun h=>sqVal_no h;generalize sqVal s.q t ⟨op,loc,r,val⟩=R at *;generalize t * 3+r=q at *;clear hx hy hl hb0 hn2 i0 hbl;by_cases h3:op=3
 ·obtain rfl:=E1.out h3
  subst h3;clear E1 E2;go_enter Try.func65,Try.ntmps65;go_wp2_with fail;rw[← HA0.out];go_wp2_with fail;refine wp_region_bw (by kernel_rfl) (by kernel_rfl) ?_
  repeat (go_big_quiet_step ((go_at_call 64;(with_reducible exact Calls.bw_same (HREG.out _)))))
  refine wpQuiet_nil ?_;intro w1 hw1;go_wp2_with fail;go_ret;exact⟨rfl,HB0.out.trans (hw1.mono HB0.out.size)⟩
 ·obtain rfl:=E2.out h3
  have h3':(op==3)=false:=by simpa using h3
  clear E1 E2 h3;go_enter Try.func65,Try.ntmps65;go_wp2_with fail;go_ret;exact⟨rfl,by rw[← HA0.out];exact HB0.out⟩
theorem doneF {p:List (List Ins)}{s:Sq}{t:Nat}{k:Int}{r:List Ins}(hk:s.pc[t]? = some k) (hr:p[t]? = some r) (h:k < r.length):sqDone p s=false:=by
 unfold sqDone;rw[List.all_eq_false];refine⟨t,List.mem_range.2 (List.getElem?_eq_some_iff.1 hr).1,?_⟩;simp[List.getD_eq_getElem?_getD,hk,hr];omega
theorem doneT {p:List (List Ins)}{s:Sq}(h:∀ t < p.length,∃ k r,s.pc[t]? = some k∧p[t]? = some r∧(r.length:Int)≤k):sqDone p s=true:=by
 unfold sqDone;rw[List.all_eq_true];intro t ht;obtain⟨k,r,hk,hr,hn⟩:=h t (List.mem_range.1 ht);simp[List.getD_eq_getElem?_getD,hk,hr];omega
theorem l3Done_any (vp:Value) (p:List (List Ins)) (x:SV) (s:St) (w:World) (hp:RepP w vp p) (hx:RepSt w x s) (hl:s.pc.length=p.length) (hpl:p.length≤1048576) :
 Calls Try.prog 40 #[vp,.agg #[.slice x.p.a x.p.n x.p.cap,.slice x.r.a x.r.n x.r.cap,.slice x.m.a x.m.n x.m.cap,.slice x.b.a x.b.n x.b.cap]] w
  fun e w'=>e = .returned (.bool (sqDone p s.q))∧Below w.heap.size w w':=by
 obtain⟨⟨pa,pn,pk⟩,⟨ra,rn,rk⟩,⟨ma,mn,mk⟩,⟨ba,bn,bk⟩⟩:=x;obtain⟨va,vc,rfl,hc1,hc2,hc3,hp⟩:=hp.open;obtain⟨_,_,hv2,-,-,-,-⟩:=hx.pc.open;simp only[Slc.v,Value.slice.injEq]at hv2;obtain⟨rfl,hn2,rfl⟩:=hv2;have HX:Hid (Rep IntE w (.slice pa pn pk) s.pc):=hide hx.pc;have HP:=hide hp;have HL:=hide hl;obtain⟨A0,hA0⟩:∃ A0,A0=w.alloc (.cells #[.slice pa pn pk,.slice ra rn rk,.slice ma mn mk,.slice ba bn bk] 64):=⟨_,rfl⟩
 have HB:Hid (Below w.heap.size w A0):=hide (by rw[hA0];exact belowAlloc _ _);have hz:A0.heap.size=w.heap.size+1:=by rw[hA0];simp
 have HX2:Hid (A0.heap[w.heap.size]? = some (.cells #[.slice pa pn pk,.slice ra rn rk,.slice ma mn mk,.slice ba bn bk] 64 (0,0))):=hide (by rw[hA0];exact heap_alloc_new w _);have HA0:=hide hA0;have hpn:pn=p.length:=by omega
 generalize hn:p.length=n at *;have HN:=hide hn;clear hA0 hx hp hl hn2 hn;subst hpn;go_enter Try.func40,Try.ntmps40;go_wp2_with fail;rw[← HA0.out]
 go_loopw [5] (fun i wr => ∃ k:Nat,k≤pn∧i = .int .i64 k∧Hid (∀ t < k,∃ c r,s.pc[t]? = some c∧p[t]? = some r∧(r.length:Int)≤c)∧Below A0.heap.size A0 wr) (fun i _=>pn - (intOf i).toNat)
 case atStart=>exact⟨0,Nat.zero_le _,rfl,hide (fun t h=>absurd h (Nat.not_lt_zero t)),Below.refl _ _⟩
 case round =>
  obtain⟨k,hk,rfl,hno,hb⟩:=hrel;by_cases hlt:k < pn
  ·have hlt':=nat_of_lt hlt
   have hbw:=HB.out.trans (hb.mono HB.out.size);have d0:wr.cell? ⟨w.heap.size,0,none⟩=some (.slice pa pn pk):=cellH ((hb.block w.heap.size (by omega)).trans HX2.out) (k:=0) rfl;have dl:=lt_of_cell d0;obtain⟨y,hy⟩:=get_of_lt (xs:=s.pc) (k:=k) (by rw[HL.out];exact hlt);obtain⟨r,hrk⟩:=get_of_lt (xs:=p) (k:=k) (by rw[HN.out];exact hlt);obtain⟨b,o,rfl,hbl,i0⟩:=(HX.out.below hbw).int hy;obtain⟨b2,o2,qa,qc,rfl,hbl2,q0,q1⟩:=(HP.out.below hbw).row hrk;obtain⟨_,_,_,_,hrl,_,_⟩:=q1.open;have HBR:=hide hb;have HBS:=hide hb.size;have Y:=hide hy;have RK:=hide hrk
   clear hy hrk q1 hb hbw;by_cases hlt2:y < (r.length:Int)
   ·have E:Hid (sqDone p s.q=false):=hide (doneF (s:=s.q) Y.out RK.out hlt2)
    go_wp2_with fail;refine wp_region_bw (by kernel_rfl) (by kernel_rfl) ?_
    repeat (go_big_quiet_step (fail))
    refine wpQuiet_nil ?_;intro w1 hw1;go_wp2_with fail;go_ret;rw[E.out];exact⟨rfl,HB.out.trans ((HBR.out.trans (hw1.mono HBS.out)).mono HB.out.size)⟩
   ·have NO:Hid (∀ t < k+1,∃ c r,s.pc[t]? = some c∧p[t]? = some r∧(r.length:Int)≤c):=hide fun t ht=>by
     by_cases e:t=k
     ·subst e;exact⟨y,r,Y.out,RK.out,Int.not_lt.1 hlt2⟩
     ·exact hno.out t (by omega)
    have hlt3:(r.length:Int)≤y:=Int.not_lt.1 hlt2;clear hlt2;go_wp2_with fail;refine wp_region_bw (by kernel_rfl) (by kernel_rfl) ?_
    repeat (go_big_quiet_step (fail))
    refine wpQuiet_nil ?_;intro w1 hw1;go_wp2_with fail;go_roundw
    case rel=>exact⟨k+1,by omega,by go_num,NO,HBR.out.trans (hw1.mono HBS.out)⟩
    case measure=>simp[intOf];omega
  ·obtain rfl:k=pn:=by omega
   have E:Hid (sqDone p s.q=true):=hide (doneT (s:=s.q) (fun t ht=>hno.out t (by rw[HN.out]at ht;exact ht)));go_wp2_with fail;go_ret;rw[E.out];exact⟨rfl,HB.out.trans (hb.mono HB.out.size)⟩
end Go.Proofs.Ytnkfphndfijcoaa
namespace Go.Proofs.Ytnkfphndfijcoaa
open Go.RowKit
structure JOc (A0:World) (rg mm:List Int) (a f1 f2:Bool) (A:Nat) (f g:Slc) (W:World):Prop where
 out:Below A0.heap.size A0 W
 o1:a=true→f1=false→Own IntE 3 W A0.heap.size (.slice (some ⟨A,0,none⟩) 0 0) []
 o2:f1=true→f2=false→Own IntE 3 W A0.heap.size f.v rg
 o3:f2=true→Own IntE 3 W A0.heap.size g.v (rg++mm)
 i1:f1=true→a=true
 i2:f2=true→f1=true
section
variable {A0 W w' : World} {rg mm : List Int} {a f1 f2 : Bool} {A : Nat} {f g s' : Slc}
theorem JOc.lit (hJ:JOc A0 rg mm false f1 f2 A f g W):JOc A0 rg mm true f1 f2 W.heap.size f g (W.alloc (.cells #[] 3)):=by
 cases h1:f1 with
 | true=>exact(nomatch hJ.i1 h1)
 | false =>
  subst h1;cases h2:f2 with
  | true=>exact(nomatch hJ.i2 h2)
  | false =>
   subst h2;exact⟨hJ.out.alloc hJ.out.size _,fun _ _=>Own.empty _ _ hJ.out.size,fun e=>(nomatch e),fun e=>(nomatch e),fun e=>(nomatch e),fun e=>(nomatch e)⟩
theorem JOc.app1 (hJ:JOc A0 rg mm a false f2 A f g W) (ha:a=true) (ho:Own IntE 3 w' A0.heap.size s'.v ([]++rg)) (hg:W.grownBy w' (Slc.v ⟨some ⟨A,0,none⟩,0,0⟩).ownBlock):JOc A0 rg mm a true f2 A s' g w':=by
 cases h2:f2 with
 | true=>exact(nomatch hJ.i2 h2)
 | false =>
  subst h2;exact⟨hJ.out.grown hg hJ.out.size fun q hq=>(World.ownsRow.lt (hJ.o1 ha rfl) q hq).1,fun _ e=>(nomatch e),fun _ _=>ho,fun e=>(nomatch e),fun _=>ha,fun e=>(nomatch e)⟩
theorem JOc.app2 (hJ:JOc A0 rg mm a f1 false A f g W) (h1:f1=true) (ho:Own IntE 3 w' A0.heap.size s'.v (rg++mm)) (hg:W.grownBy w' f.v.ownBlock):JOc A0 rg mm a f1 true A f s' w':=
 ⟨hJ.out.grown hg hJ.out.size fun q hq=>(World.ownsRow.lt (hJ.o2 h1 rfl) q hq).1,fun _ e=>(by rw[h1]at e;exact(nomatch e)),fun _ e=>(nomatch e),fun _=>ho,hJ.i1,fun _=>h1⟩
end
theorem l3Outcome_any (x:SV) (s:St) (w:World) (hx:RepSt w x s) (h2:s.rg.length≤1048576) (h3:s.mm.length≤1048576) :
 Calls Try.prog 42 #[.agg #[.slice x.p.a x.p.n x.p.cap,.slice x.r.a x.r.n x.r.cap,.slice x.m.a x.m.n x.m.cap,.slice x.b.a x.b.n x.b.cap]] w (RetOwn IntE 3 w (sqOut s.q)):=by
 obtain⟨⟨pa,pn,pk⟩,⟨ra,rn,rk⟩,⟨ma,mn,mk⟩,⟨ba,bn,bk⟩⟩:=x;have HX:=hide hx;clear hx;obtain⟨A0,hA0⟩:∃ A0,A0=w.alloc (.cells #[.slice pa pn pk,.slice ra rn rk,.slice ma mn mk,.slice ba bn bk] 64):=⟨_,rfl⟩
 have HB:Hid (Below w.heap.size w A0):=hide (by rw[hA0];exact belowAlloc _ _);have hz:A0.heap.size=w.heap.size+1:=by rw[hA0];simp
 have HX2:Hid (A0.heap[w.heap.size]? = some (.cells #[.slice pa pn pk,.slice ra rn rk,.slice ma mn mk,.slice ba bn bk] 64 (0,0))):=hide (by rw[hA0];exact heap_alloc_new w _);have HA0:=hide hA0;clear hA0;go_enter Try.func42,Try.ntmps42;go_wp2_with fail;rw[← HA0.out]
 -- reg outc
 refine wp_region_inv3 (n:=7) (by kernel_rfl) rfl (by kernel_rfl) (by kernel_rfl) (fun A ls a' W => ∃ (ga:Nat) (f:Slc) (g:Slc) (x3 x4 x5 x6 x7 x8 x9:Value),a'=putAll A [(3,x3),(4,x4),(5,x5),(6,x6),(7,x7),(8,x8),(9,x9)]∧Vd ls 0 [] x3 (.slice (some ⟨ga,0,none⟩) 0 0)∧Vd ls 1 [] x4 (.pointer (some ⟨w.heap.size,1,none⟩))∧Vd ls 2 [] x5 (.slice ra rn rk)∧Vd ls 3 [0] x6 (.slice f.a f.n f.cap)∧Vd ls 4 [] x7 (.pointer (some ⟨w.heap.size,2,none⟩))∧Vd ls 5 [] x8 (.slice ma mn mk)∧Vd ls 6 [0,3] x9 (.slice g.a g.n g.cap)∧JOc A0 s.rg s.mm (fl ls 0) (fl ls 3) (fl ls 6) ga f g W) ?r0 ?rs ?re
 case r0 =>
  exact⟨0,⟨none,0,0⟩,⟨none,0,0⟩,undef,undef,undef,undef,undef,undef,undef,by simp only[putAll,Act.put,List.setIfInBounds_toArray,List.set_cons_succ,List.set_cons_zero],Vd.start,Vd.start,Vd.start,Vd.start,Vd.start,Vd.start,Vd.start,by simp only[fl_start];exact⟨(Below.refl _ _).drew,fun h=>(nomatch h),fun h=>(nomatch h),fun h=>(nomatch h),fun h=>(nomatch h),fun h=>(nomatch h)⟩⟩
 case rs =>
  rintro ls a' W hs hnl ⟨ga,f,g,x3,x4,x5,x6,x7,x8,x9,ha,cv0,cv1,cv2,cv3,cv4,cv5,cv6,hJ⟩ k o hkn mc K hK;simp only[putAll,Act.put,List.setIfInBounds_toArray,List.set_cons_succ,List.set_cons_zero]at ha;subst ha;have hkc:k=0∨k=1∨k=2∨k=3∨k=4∨k=5∨k=6:=by omega
  have hop:=mc.op;have haf:=mc.after;rcases hkc with rfl | rfl | rfl | rfl | rfl | rfl | rfl
  ·simp at hop;subst hop;simp[Region.binds]at haf
   have f0:=fl_no mc.new;rw[f0]at hJ;go_simp;exact hK _ _ ⟨W.heap.size,f,g,_,_,_,_,_,_,_,by simp only[putAll,Act.put,List.setIfInBounds_toArray,List.set_cons_succ,List.set_cons_zero],Vd.same (by simp),cv1.set (by decide),cv2.set (by decide),cv3.void (by decide) (by decide) mc.new,cv4.set (by decide),cv5.set (by decide),cv6.void (by decide) (by decide) mc.new,by rw[fl_got hs (by decide),fl_set (show 0≠3 by decide),fl_set (show 0≠6 by decide)];exact hJ.lit⟩
  ·simp at hop;subst hop;simp[Region.binds]at haf
   go_simp;exact hK _ _ ⟨ga,f,g,_,_,_,_,_,_,_,by simp only[putAll,Act.put,List.setIfInBounds_toArray,List.set_cons_succ,List.set_cons_zero],cv0.set (by decide),Vd.same (by simp),cv2.set (by decide),cv3.set (by decide),cv4.set (by decide),cv5.set (by decide),cv6.set (by decide),by rw[fl_set (show 1≠0 by decide),fl_set (show 1≠3 by decide),fl_set (show 1≠6 by decide)];exact hJ⟩
  ·simp at hop;subst hop;simp[Region.binds]at haf
   obtain rfl:=(cv1.get (by simp[haf])).symm;have hbk:=(hJ.out.block w.heap.size (by omega)).trans HX2.out;have d1:W.cell? ⟨w.heap.size,1,none⟩=some (.slice ra rn rk):=cellH hbk (k:=1) rfl;have dl:=lt_of_cell d1;go_simp;exact hK _ _ ⟨ga,f,g,_,_,_,_,_,_,_,by simp only[putAll,Act.put,List.setIfInBounds_toArray,List.set_cons_succ,List.set_cons_zero],cv0.set (by decide),cv1.set (by decide),Vd.same (by simp),cv3.set (by decide),cv4.set (by decide),cv5.set (by decide),cv6.set (by decide),by rw[fl_set (show 2≠0 by decide),fl_set (show 2≠3 by decide),fl_set (show 2≠6 by decide)];exact hJ⟩
  ·simp at hop;subst hop;simp[Region.binds]at haf
   obtain rfl:=(cv0.get (by simp[haf])).symm;obtain rfl:=(cv2.get (by simp[haf])).symm;have f3:=fl_no mc.new;rw[f3]at hJ;have f0:=fl_yes (show ls[0]? = some true by simp[haf]);rw[f0]at hJ;refine step_appSAtM IntE 3 Try.infoInt rfl Try.underlying34 A0.heap.size ⟨some ⟨ga,0,none⟩,0,0⟩ [] s.rg _ (hJ.o1 rfl rfl) ((HX.out.rg.below HB.out).below hJ.out) (by decide) (by simp;omega) hJ.out.size (by rfl) _ _ (by rfl) (by rfl) (by rfl) ?_;intro s6 w6 hown6 hgr6 hat6;exact hK _ _ ⟨ga,s6,g,_,_,_,_,_,_,_,by simp only[putAll,Act.put,List.setIfInBounds_toArray,List.set_cons_succ,List.set_cons_zero],cv0.set (by decide),cv1.set (by decide),cv2.set (by decide),Vd.same (by simp[haf]),cv4.set (by decide),cv5.set (by decide),cv6.void (by decide) (by decide) mc.new,by rw[fl_set (show 3≠0 by decide),fl_got hs (by decide),fl_set (show 3≠6 by decide),f0];exact hJ.app1 rfl hown6 hgr6⟩
  ·simp at hop;subst hop;simp[Region.binds]at haf
   go_simp;exact hK _ _ ⟨ga,f,g,_,_,_,_,_,_,_,by simp only[putAll,Act.put,List.setIfInBounds_toArray,List.set_cons_succ,List.set_cons_zero],cv0.set (by decide),cv1.set (by decide),cv2.set (by decide),cv3.set (by decide),Vd.same (by simp),cv5.set (by decide),cv6.set (by decide),by rw[fl_set (show 4≠0 by decide),fl_set (show 4≠3 by decide),fl_set (show 4≠6 by decide)];exact hJ⟩
  ·simp at hop;subst hop;simp[Region.binds]at haf
   obtain rfl:=(cv4.get (by simp[haf])).symm;have hbk:=(hJ.out.block w.heap.size (by omega)).trans HX2.out;have d2:W.cell? ⟨w.heap.size,2,none⟩=some (.slice ma mn mk):=cellH hbk (k:=2) rfl;have dl:=lt_of_cell d2;go_simp;exact hK _ _ ⟨ga,f,g,_,_,_,_,_,_,_,by simp only[putAll,Act.put,List.setIfInBounds_toArray,List.set_cons_succ,List.set_cons_zero],cv0.set (by decide),cv1.set (by decide),cv2.set (by decide),cv3.set (by decide),cv4.set (by decide),Vd.same (by simp),cv6.set (by decide),by rw[fl_set (show 5≠0 by decide),fl_set (show 5≠3 by decide),fl_set (show 5≠6 by decide)];exact hJ⟩
  ·simp at hop;subst hop;simp[Region.binds]at haf
   have q3:=(cv3 (by simp[haf])).1;simp at q3;obtain rfl:=(cv3.get (by simp[haf])).symm;obtain rfl:=(cv5.get (by simp[haf])).symm;have f6:=fl_no mc.new;rw[f6]at hJ;have f3:=fl_yes (show ls[3]? = some true by simp[haf]);rw[f3]at hJ;refine step_appSAtM IntE 3 Try.infoInt rfl Try.underlying34 A0.heap.size f s.rg s.mm _ (hJ.o2 rfl rfl) ((HX.out.mm.below HB.out).below hJ.out) (by decide) (by omega) hJ.out.size (by rfl) _ _ (by rfl) (by rfl) (by rfl) ?_;intro s6 w6 hown6 hgr6 hat6;exact hK _ _ ⟨ga,f,s6,_,_,_,_,_,_,_,by simp only[putAll,Act.put,List.setIfInBounds_toArray,List.set_cons_succ,List.set_cons_zero],cv0.set (by decide),cv1.set (by decide),cv2.set (by decide),cv3.set (by decide),cv4.set (by decide),cv5.set (by decide),Vd.same (by simp[haf,q3]),by rw[fl_set (show 6≠0 by decide),fl_set (show 6≠3 by decide),fl_got hs (by decide),f3];exact hJ.app2 rfl hown6 hgr6⟩
 case re =>
  rintro ls a' W hall ⟨ga,f,g,x3,x4,x5,x6,x7,x8,x9,ha,cv0,cv1,cv2,cv3,cv4,cv5,cv6,hJ⟩ o hop;simp only[putAll,Act.put,List.setIfInBounds_toArray,List.set_cons_succ,List.set_cons_zero]at ha;subst ha;simp at hop;subst hop;obtain rfl:=(cv0.get (hall 0 (by decide))).symm;obtain rfl:=(cv1.get (hall 1 (by decide))).symm;obtain rfl:=(cv2.get (hall 2 (by decide))).symm;obtain rfl:=(cv3.get (hall 3 (by decide))).symm;obtain rfl:=(cv4.get (hall 4 (by decide))).symm;obtain rfl:=(cv5.get (hall 5 (by decide))).symm;obtain rfl:=(cv6.get (hall 6 (by decide))).symm;rw[fl_yes (hall 0 (by decide))]at hJ;rw[fl_yes (hall 3 (by decide))]at hJ;rw[fl_yes (hall 6 (by decide))]at hJ;go_simp;go_wp2_with fail;go_ret;exact⟨_,rfl,(hJ.o3 rfl).mono HB.out.size,HB.out.trans (hJ.out.mono HB.out.size)⟩
 -- end outc
end Go.Proofs.Ytnkfphndfijcoaa
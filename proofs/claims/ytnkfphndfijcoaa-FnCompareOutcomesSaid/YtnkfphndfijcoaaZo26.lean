/-
  The reference's first state with views. Condition: a bound on the number of threads.
-/
import Derived.Test.YtnkfphndfijcoaaZo22
import Derived.Test.YtnkfphndfijcoaaZo13
set_option maxHeartbeats 6400000
set_option maxRecDepth 100000
namespace Go.Proofs.Ytnkfphndfijcoaa
open Go.RowKit
section
variable {A0 W w' : World} {pc rg : List Int} {a1 f1 a2 f2 fo : Bool} {A B O n : Nat} {f g : Slc}
theorem JC5.mk1 (hJ:JC5 A0 pc rg false false a2 f2 fo A B f g O W) (ho:Own IntE 3 w' W.heap.size (.slice (some ⟨W.heap.size,0,none⟩) n n) pc) (hg:W.grownBy w' none):JC5 A0 pc rg true true a2 f2 fo A B ⟨some ⟨W.heap.size,0,none⟩,n,n⟩ g O w':=
 ⟨hJ.out.grown hg hJ.out.size (fun q hq=>nomatch hq),hJ.ln.put1 (c1':=⟨some ⟨W.heap.size,0,none⟩,n,n⟩) (ho.mono hJ.out.size) (grown_of_below ((Below.refl _ _).grown hg (Nat.le_refl _) (fun q hq=>nomatch hq)) _) (.inr fun q hq=>by simp[Value.ownBlock]at hq;omega),fun _=>rfl,hJ.i2,hJ.obB ((Below.refl _ _).grown hg (Nat.le_refl _) (fun q hq=>nomatch hq))⟩
theorem JC5.mk2 (hJ:JC5 A0 pc rg a1 f1 false false fo A B f g O W) (ho:Own IntE 3 w' W.heap.size (.slice (some ⟨W.heap.size,0,none⟩) n n) rg) (hg:W.grownBy w' none):JC5 A0 pc rg a1 f1 true true fo A B f ⟨some ⟨W.heap.size,0,none⟩,n,n⟩ O w':=
 ⟨hJ.out.grown hg hJ.out.size (fun q hq=>nomatch hq),hJ.ln.put2 (c2':=⟨some ⟨W.heap.size,0,none⟩,n,n⟩) (ho.mono hJ.out.size) (grown_of_below ((Below.refl _ _).grown hg (Nat.le_refl _) (fun q hq=>nomatch hq)) _) (.inr fun q hq=>by simp[Value.ownBlock]at hq;omega),hJ.i1,fun _=>rfl,hJ.obB ((Below.refl _ _).grown hg (Nat.le_refl _) (fun q hq=>nomatch hq))⟩
end
structure CpR (w:World) (B O:Nat) (x:SV):Prop where
 br:w.heap[B]? = some (.cells #[.slice none 0 0,.slice none 0 0,.slice none 0 0,.slice none 0 0] 79 (0,0))
 bo:w.heap[O]? = some (.cells #[.slice x.p.a x.p.n x.p.cap,.slice x.r.a x.r.n x.r.cap,.slice x.m.a x.m.n x.m.cap,.slice x.b.a x.b.n x.b.cap] 79 (0,0))
 lO:B < O
theorem CpR.kp {w w':World}{B O:Nat}{x:SV}{L:List TypeId}(h:CpR w B O x) (k:KpT L 0 w w') (hL:79∉L):CpR w' B O x:=⟨k.same h.br hL,k.same h.bo hL,h.lO⟩
theorem CpR.setM {w:World}{B O:Nat}{x:SV}(h:CpR w B O x) (m:Slc):CpR (w.setCell ⟨O,2,none⟩ m.v) B O ⟨x.p,x.r,m,x.b⟩:=by
 have:=h.lO;exact⟨(heap_setCell_other w ⟨O,2,none⟩ _ _ (show B≠O by omega)).trans h.br,heap_setCell_same w O 2 _ _ _ h.bo,h.lO⟩
theorem CpR.setB {w:World}{B O:Nat}{x:SV}(h:CpR w B O x) (b:Slc):CpR (w.setCell ⟨O,3,none⟩ b.v) B O ⟨x.p,x.r,x.m,b⟩:=by
 have:=h.lO;exact⟨(heap_setCell_other w ⟨O,3,none⟩ _ _ (show B≠O by omega)).trans h.br,heap_setCell_same w O 3 _ _ _ h.bo,h.lO⟩
theorem mk3_int (V:World):∃ w',(Instr.makeSlice 34 (.int .i64 3) (.int .i64 3)).run Try.prog V = .ok (.slice (some ⟨V.heap.size,0,none⟩) 3 3) w'∧Own IntE 3 w' V.heap.size (.slice (some ⟨V.heap.size,0,none⟩) 3 3) [0,0,0]∧V.grownBy w' none:=by
 obtain⟨it,hi,hz0,hz1,hz2⟩:=info_parts Try.infoInt;obtain⟨w',hrun,r1,r2⟩:=run_make_full (P:=Try.prog) V V.heap.size 34 3 it (.int .i64 0) 1 Try.underlying34 hi hz0 hz1 .i64 .i64 3 (by rw[hz2];decide) (by unfold maxLen;decide) (Nat.le_refl _);refine⟨w',hrun,?_,r2⟩;show Own IntE _ _ _ _ (List.replicate 3 0);unfold Own;rw[List.length_replicate,← made_eq (E:=IntE) (0:Int) (.int .i64 0) rfl 3];exact r1
theorem PVw.newRow1 {w w':World}{base:Nat}{x:SV}{s:Vw}{us lu lk:List Slc}{ms:List (List MV)}(h:PVw w base x s us lu lk ms) (hb:Below w.heap.size w w') {u:Slc}{m:MV}{g:Mg}(ho:Own MgE 101 w' base u.v [m]) (hn:∀ q,u.v.ownBlock=some q→w'.heap.size≤q∨w.heap.size≤q) (hr:Own IntE 3 w' base m.s.v g.view) (hn2:∀ q,m.s.v.ownBlock=some q→w.heap.size≤q) (hg:m.val=g.val∧m.lock=g.lock):PVw w' base x ⟨s.pc,s.rg,s.vw,s.ls++[[g]]⟩ us (lu++[u]) lk (ms++[[m]]):=by
 have ll:=h.ll;have lm:=h.lm
 have h1:=h.newRow (Below.refl _ w) (u:=⟨none,0,0⟩) (Own.nil _ _ _) (fun q hq=>by simp[Value.ownBlock]at hq);have hbs:=hb.size;have h2:PVw w' base x ⟨s.pc,s.rg,s.vw,s.ls++[[]]⟩ us (lu++[⟨none,0,0⟩]) lk (ms++[[]]):=h1.below hb;have farU:∀ (i:Nat) (a:Slc),lu[i]? = some a→∀ q,a.v.ownBlock=some q→u.v.ownBlock≠some q:=fun i a h1 q hq e=>by
  obtain⟨mr,hmr⟩:=get_of_lt (xs:=ms) (k:=i) (by rw[lm,← ll];exact(List.getElem?_eq_some_iff.1 h1).1);have:=(World.ownsRow.lt (h.hm i a mr h1 hmr) q hq).2;have:=hn q e;omega
 have last:∀ {α:Type}(xs:List α) (a b:α) (i:Nat),(xs++[a])[i]? = some b→(i < xs.length∧xs[i]? = some b)∨(i=xs.length∧b=a):=fun xs a b i h1=>by
  rcases Nat.lt_or_ge i xs.length with hi | hi
  ·rw[List.getElem?_append_left hi]at h1;exact .inl ⟨hi,h1⟩
  ·rw[List.getElem?_append_right hi]at h1
   cases hk:i - xs.length with
   | zero=>rw[hk]at h1;simp at h1;exact .inr ⟨by omega,h1.symm⟩
   | succ k=>rw[hk]at h1;simp at h1
 refine⟨h.fam.more (ix:=(3,ms.length,0)) (fun u r ho=>ho.below hb) hr hn2 (fun j v q hj => ?_),h2.hv,h2.hl,h.lv,by simp[ll],by simp[lm],fun i a r h1 h2' => ?_,fun i r l' h1 h2' => ?_,fun i j a b h1 h2' hij q hq => ?_⟩
 ·unfold famOf at hj ⊢
  split at hj <;> try (right;exact hj)
  rename_i i k;rcases Nat.lt_or_ge i ms.length with hi | hi
  ·rw[List.getElem?_append_left hi,List.getElem?_append_left (by omega)]at hj
   exact .inr hj
  ·left
   rw[List.getElem?_append_right hi,List.getElem?_append_right (by omega)]at hj;cases hk:i - ms.length with
   | succ k=>rw[hk]at hj;simp at hj
   | zero =>
    rw[show i - s.ls.length=0 by omega,hk]at hj;simp only[List.getElem?_cons_zero,Option.bind_some]at hj;cases k with
    | succ k=>simp at hj
    | zero =>
     simp at hj;exact⟨by rw[show i=ms.length by omega],hj.1.symm,hj.2.symm⟩
 ·rcases last lu u a i h1 with⟨hi,e1⟩ | ⟨ei,ea⟩ <;> rcases last ms [m] r i h2' with⟨hj,e2⟩ | ⟨ej,eb⟩
  ·exact(h.hm i a r e1 e2).below hb
  ·omega
  ·omega
  ·rw[ea,eb];exact ho
 ·rcases last ms [m] r i h1 with⟨hi,e1⟩ | ⟨ei,ea⟩ <;> rcases last s.ls [g] l' i h2' with⟨hj,e2⟩ | ⟨ej,eb⟩
  ·exact h.mv i r l' e1 e2
  ·omega
  ·omega
  ·rw[ea,eb]
   refine⟨rfl,fun k m' g' hm hg' => ?_⟩;cases k with
   | zero=>simp at hm hg';rw[← hm,← hg'];exact hg
   | succ k=>simp at hm
 ·rcases last lu u a i h1 with⟨hi,e1⟩ | ⟨ei,ea⟩ <;> rcases last lu u b j h2' with⟨hj,e2⟩ | ⟨ej,eb⟩
  ·exact h.mf i j a b e1 e2 hij q hq
  ·rw[eb];exact farU i a e1 q hq
  ·rw[ea]at hq;exact fun e=>farU j b e2 q e hq
  ·exact absurd (ei.trans ej.symm) hij
theorem l5Start_any (pa:Option Addr) (pk n:Nat) (p:List (List Ins)) (w:World) (hp:p.length=n) (hn:n≤1000) :
 Calls Try.prog 49 #[.slice pa n pk] w (RetVw w (vwStart p)):=by
 obtain⟨A0,hA0⟩:∃ A0,A0=w.alloc (.cells #[.slice none 0 0,.slice none 0 0,.slice none 0 0,.slice none 0 0] 79):=⟨_,rfl⟩
 have HB:Hid (Below w.heap.size w A0):=hide (by rw[hA0];exact belowAlloc _ _);have hz:A0.heap.size=w.heap.size+1:=by rw[hA0];simp
 have HR2:Hid (A0.heap[w.heap.size]? = some (.cells #[.slice none 0 0,.slice none 0 0,.slice none 0 0,.slice none 0 0] 79 (0,0))):=hide (by rw[hA0];exact heap_alloc_new w _);have HST:Hid (vwStart p=⟨List.replicate n 0,List.replicate (n * 3) 0,List.replicate n [0,0,0],List.replicate 3 [⟨0,false,[0,0,0]⟩]⟩):=hide (by unfold vwStart;rw[hp]);have HA0:=hide hA0;clear hA0 hp;rw[HST.out];go_enter Try.func49,Try.ntmps49;go_wp2_with fail;rw[← HA0.out]
 -- reg start
 refine wp_region_inv3 (n:=9) (by kernel_rfl) rfl (by kernel_rfl) (by kernel_rfl) (fun A ls a' W => ∃ (f:Slc) (g:Slc) (O:Nat) (x6 x7 x8 x9 x10 x11 x12 x13 x3:Value),a'=putAll A [(6,x6),(7,x7),(8,x8),(9,x9),(10,x10),(11,x11),(12,x12),(13,x13),(3,x3)]∧Vd ls 0 [] x6 (.slice pa n pk)∧Vd ls 1 [] x7 (.int .i64 (n:Int))∧Vd ls 2 [] x8 (.slice f.a f.n f.cap)∧Vd ls 3 [] x9 (.slice pa n pk)∧Vd ls 4 [] x10 (.int .i64 (n:Int))∧Vd ls 5 [] x11 (.int .i64 ((n:Int) * 3))∧Vd ls 6 [] x12 (.slice g.a g.n g.cap)∧Vd ls 7 [2,6] x13 (.agg #[.slice f.a f.n f.cap,.slice g.a g.n g.cap,.slice none 0 0,.slice none 0 0])∧Vd ls 8 [] x3 (.pointer (some ⟨O,0,none⟩))∧JC5 A0 (List.replicate n 0) (List.replicate (n * 3) 0) (fl ls 2) (fl ls 2) (fl ls 6) (fl ls 6) (fl ls 8) 0 0 f g O W) ?r0 ?rs ?re
 case r0 =>
  exact⟨⟨none,0,0⟩,⟨none,0,0⟩,0,undef,undef,undef,undef,undef,undef,undef,undef,undef,by simp only[putAll,Act.put,List.setIfInBounds_toArray,List.set_cons_succ,List.set_cons_zero],Vd.start,Vd.start,Vd.start,Vd.start,Vd.start,Vd.start,Vd.start,Vd.start,Vd.start,by simp only[fl_start];exact JC5.start (hz ▸ (Below.refl _ _).drew)⟩
 case rs =>
  rintro ls a' W hs hnl ⟨f,g,O,x6,x7,x8,x9,x10,x11,x12,x13,x3,ha,cv0,cv1,cv2,cv3,cv4,cv5,cv6,cv7,cv8,hJ⟩ k o hkn mc K hK;simp only[putAll,Act.put,List.setIfInBounds_toArray,List.set_cons_succ,List.set_cons_zero]at ha;subst ha;have hkc:k=0∨k=1∨k=2∨k=3∨k=4∨k=5∨k=6∨k=7∨k=8:=by omega
  have hop:=mc.op;have haf:=mc.after;rcases hkc with rfl | rfl | rfl | rfl | rfl | rfl | rfl | rfl | rfl
  ·simp at hop;subst hop;simp[Region.binds]at haf
   go_simp;exact hK _ _ ⟨f,g,O,_,_,_,_,_,_,_,_,_,by simp only[putAll,Act.put,List.setIfInBounds_toArray,List.set_cons_succ,List.set_cons_zero],Vd.same (by simp),cv1.set (by decide),cv2.set (by decide),cv3.set (by decide),cv4.set (by decide),cv5.set (by decide),cv6.set (by decide),cv7.set (by decide),cv8.set (by decide),by rw[fl_set (show 0≠2 by decide),fl_set (show 0≠6 by decide),fl_set (show 0≠8 by decide)];exact hJ⟩
  ·simp at hop;subst hop;simp[Region.binds]at haf
   obtain rfl:=(cv0.get (by simp[haf])).symm;go_simp;exact hK _ _ ⟨f,g,O,_,_,_,_,_,_,_,_,_,by simp only[putAll,Act.put,List.setIfInBounds_toArray,List.set_cons_succ,List.set_cons_zero],cv0.set (by decide),Vd.same (by simp),cv2.set (by decide),cv3.set (by decide),cv4.set (by decide),cv5.set (by decide),cv6.set (by decide),cv7.set (by decide),cv8.set (by decide),by rw[fl_set (show 1≠2 by decide),fl_set (show 1≠6 by decide),fl_set (show 1≠8 by decide)];exact hJ⟩
  ·simp at hop;subst hop;simp[Region.binds]at haf
   obtain rfl:=(cv1.get (by simp[haf])).symm;have f2:=fl_no mc.new;rw[f2]at hJ;have hsz:=hJ.out.size;refine step_mk IntE 3 0 Try.infoInt rfl Try.underlying34 (n) (by decide) (by omega) (by rfl) _ _ (by rfl) (by rfl) (by rfl) ?_;intro w6 ho6 hg6;exact hK _ _ ⟨⟨some ⟨W.heap.size,0,none⟩,n,n⟩,g,O,_,_,_,_,_,_,_,_,_,by simp only[putAll,Act.put,List.setIfInBounds_toArray,List.set_cons_succ,List.set_cons_zero],cv0.set (by decide),cv1.set (by decide),Vd.same (by simp),cv3.set (by decide),cv4.set (by decide),cv5.set (by decide),cv6.set (by decide),cv7.void (by decide) (by decide) mc.new,cv8.set (by decide),by rw[fl_got hs (by decide),fl_set (show 2≠6 by decide),fl_set (show 2≠8 by decide)];exact hJ.mk1 ho6 hg6⟩
  ·simp at hop;subst hop;simp[Region.binds]at haf
   go_simp;exact hK _ _ ⟨f,g,O,_,_,_,_,_,_,_,_,_,by simp only[putAll,Act.put,List.setIfInBounds_toArray,List.set_cons_succ,List.set_cons_zero],cv0.set (by decide),cv1.set (by decide),cv2.set (by decide),Vd.same (by simp),cv4.set (by decide),cv5.set (by decide),cv6.set (by decide),cv7.set (by decide),cv8.set (by decide),by rw[fl_set (show 3≠2 by decide),fl_set (show 3≠6 by decide),fl_set (show 3≠8 by decide)];exact hJ⟩
  ·simp at hop;subst hop;simp[Region.binds]at haf
   obtain rfl:=(cv3.get (by simp[haf])).symm;go_simp;exact hK _ _ ⟨f,g,O,_,_,_,_,_,_,_,_,_,by simp only[putAll,Act.put,List.setIfInBounds_toArray,List.set_cons_succ,List.set_cons_zero],cv0.set (by decide),cv1.set (by decide),cv2.set (by decide),cv3.set (by decide),Vd.same (by simp),cv5.set (by decide),cv6.set (by decide),cv7.set (by decide),cv8.set (by decide),by rw[fl_set (show 4≠2 by decide),fl_set (show 4≠6 by decide),fl_set (show 4≠8 by decide)];exact hJ⟩
  ·simp at hop;subst hop;simp[Region.binds]at haf
   obtain rfl:=(cv4.get (by simp[haf])).symm;have hw5:IntKind.i64.wrap ((n:Int) * 3)=(n:Int) * 3:=wrapM (by omega) (by omega);go_simp;exact hK _ _ ⟨f,g,O,_,_,_,_,_,_,_,_,_,by simp only[putAll,Act.put,List.setIfInBounds_toArray,List.set_cons_succ,List.set_cons_zero],cv0.set (by decide),cv1.set (by decide),cv2.set (by decide),cv3.set (by decide),cv4.set (by decide),Vd.same (by simp),cv6.set (by decide),cv7.set (by decide),cv8.set (by decide),by rw[fl_set (show 5≠2 by decide),fl_set (show 5≠6 by decide),fl_set (show 5≠8 by decide)];exact hJ⟩
  ·simp at hop;subst hop;simp[Region.binds]at haf
   obtain rfl:=(cv5.get (by simp[haf])).symm;have f6:=fl_no mc.new;rw[f6]at hJ;have hsz:=hJ.out.size;refine step_mk IntE 3 0 Try.infoInt rfl Try.underlying34 (n * 3) (by decide) (by omega) (by rfl) _ _ (by rfl) (by show Value.int .i64 ((n:Int) * 3)=_;congr 1) (by show Value.int .i64 ((n:Int) * 3)=_;congr 1) ?_;intro w6 ho6 hg6;exact hK _ _ ⟨f,⟨some ⟨W.heap.size,0,none⟩,n * 3,n * 3⟩,O,_,_,_,_,_,_,_,_,_,by simp only[putAll,Act.put,List.setIfInBounds_toArray,List.set_cons_succ,List.set_cons_zero],cv0.set (by decide),cv1.set (by decide),cv2.set (by decide),cv3.set (by decide),cv4.set (by decide),cv5.set (by decide),Vd.same (by simp),cv7.void (by decide) (by decide) mc.new,cv8.set (by decide),by rw[fl_set (show 6≠2 by decide),fl_got hs (by decide),fl_set (show 6≠8 by decide)];exact hJ.mk2 ho6 hg6⟩
  ·simp at hop;subst hop;simp[Region.binds]at haf
   obtain rfl:=(cv2.get (by simp[haf])).symm;obtain rfl:=(cv6.get (by simp[haf])).symm;go_simp;exact hK _ _ ⟨f,g,O,_,_,_,_,_,_,_,_,_,by simp only[putAll,Act.put,List.setIfInBounds_toArray,List.set_cons_succ,List.set_cons_zero],cv0.set (by decide),cv1.set (by decide),cv2.set (by decide),cv3.set (by decide),cv4.set (by decide),cv5.set (by decide),cv6.set (by decide),Vd.same (by simp[haf]),cv8.set (by decide),by rw[fl_set (show 7≠2 by decide),fl_set (show 7≠6 by decide),fl_set (show 7≠8 by decide)];exact hJ⟩
  ·simp at hop;subst hop;simp[Region.binds]at haf
   have f8:=fl_no mc.new;rw[f8]at hJ;go_simp;exact hK _ _ ⟨f,g,W.heap.size,_,_,_,_,_,_,_,_,_,by simp only[putAll,Act.put,List.setIfInBounds_toArray,List.set_cons_succ,List.set_cons_zero],cv0.set (by decide),cv1.set (by decide),cv2.set (by decide),cv3.set (by decide),cv4.set (by decide),cv5.set (by decide),cv6.set (by decide),cv7.set (by decide),Vd.same (by simp),by rw[fl_set (show 8≠2 by decide),fl_set (show 8≠6 by decide),fl_got hs (by decide)];exact hJ.obj⟩
 case re =>
  rintro ls a' W hall ⟨f,g,O,x6,x7,x8,x9,x10,x11,x12,x13,x3,ha,cv0,cv1,cv2,cv3,cv4,cv5,cv6,cv7,cv8,hJ⟩ o hop;simp only[putAll,Act.put,List.setIfInBounds_toArray,List.set_cons_succ,List.set_cons_zero]at ha;subst ha;simp at hop;subst hop;obtain rfl:=(cv0.get (hall 0 (by decide))).symm;obtain rfl:=(cv1.get (hall 1 (by decide))).symm;obtain rfl:=(cv2.get (hall 2 (by decide))).symm;obtain rfl:=(cv3.get (hall 3 (by decide))).symm;obtain rfl:=(cv4.get (hall 4 (by decide))).symm;obtain rfl:=(cv5.get (hall 5 (by decide))).symm;obtain rfl:=(cv6.get (hall 6 (by decide))).symm;obtain rfl:=(cv7.get (hall 7 (by decide))).symm;obtain rfl:=(cv8.get (hall 8 (by decide))).symm;rw[fl_yes (hall 2 (by decide))]at hJ;rw[fl_yes (hall 6 (by decide))]at hJ;rw[fl_yes (hall 8 (by decide))]at hJ;obtain⟨hbo,hbB⟩:=hJ.ob rfl;have hln:=hJ.ln;simp only[laneA,laneL,if_true]at hln;have hbr:=(hJ.out.block w.heap.size (by omega)).trans HR2.out;have c0:W.cell? ⟨O,0,none⟩=some (.slice none 0 0):=cellH hbo (k:=0) rfl;have c1:W.cell? ⟨O,1,none⟩=some (.slice none 0 0):=cellH hbo (k:=1) rfl;have c2:W.cell? ⟨O,2,none⟩=some (.slice none 0 0):=cellH hbo (k:=2) rfl
  have c3:W.cell? ⟨O,3,none⟩=some (.slice none 0 0):=cellH hbo (k:=3) rfl;have cfz:=frozH hbo;have cl:=lt_of_cell c0;go_simp;have hb0:=heap_setCell_same W O 0 _ _ (.slice f.a f.n f.cap) hbo;have hb1:=heap_setCell_same (W.setCell ⟨O,0,none⟩ (.slice f.a f.n f.cap)) O 1 _ _ (.slice g.a g.n g.cap) hb0;have hb2:=heap_setCell_same ((W.setCell ⟨O,0,none⟩ (.slice f.a f.n f.cap)).setCell ⟨O,1,none⟩ (.slice g.a g.n g.cap)) O 2 _ _ (.slice none 0 0) hb1;have hb3:=heap_setCell_same (((W.setCell ⟨O,0,none⟩ (.slice f.a f.n f.cap)).setCell ⟨O,1,none⟩ (.slice g.a g.n g.cap)).setCell ⟨O,2,none⟩ (.slice none 0 0)) O 3 _ _ (.slice none 0 0) hb2;have hp0:=(PVw.start hln.o1 hln.o2 hln.d12).mono (base':=w.heap.size) (by omega);have hp4:=(((hp0.setT (T:=79) (by decide) (by decide) (by decide) (by decide) ⟨_,hbo⟩ 0 (.slice f.a f.n f.cap)).setT (T:=79) (by decide) (by decide) (by decide) (by decide) ⟨_,hb0⟩ 1 (.slice g.a g.n g.cap)).setT (T:=79) (by decide) (by decide) (by decide) (by decide) ⟨_,hb1⟩ 2 (.slice none 0 0)).setT (T:=79) (by decide) (by decide) (by decide) (by decide) ⟨_,hb2⟩ 3 (.slice none 0 0)
  have hO:=(((hJ.out.setCell (p:=⟨O,0,none⟩) hbB (.slice f.a f.n f.cap)).setCell (p:=⟨O,1,none⟩) hbB (.slice g.a g.n g.cap)).setCell (p:=⟨O,2,none⟩) hbB (.slice none 0 0)).setCell (p:=⟨O,3,none⟩) hbB (.slice none 0 0);have HP0:=hide hp4;have HC0:=hide (CpR.mk (x:=⟨f,g,⟨none,0,0⟩,⟨none,0,0⟩⟩) (B:=w.heap.size) ((hO.block w.heap.size (by omega)).trans HR2.out) hb3 (by omega));have HB9:=hide (HB.out.trans (hO.mono HB.out.size));clear hb0 hb1 hb2 hb3 hp0 hp4 hO hbB hJ hln hbr c0 c1 c2 c3 cfz cl hbo;go_wp2_with fail
  go_loopw [4] (fun i wr => ∃ k:Nat,k≤n∧i = .int .i64 k∧(∃ (sv:Slc) (us:List Slc),CpR wr w.heap.size O ⟨f,g,sv,⟨none,0,0⟩⟩∧PVw wr w.heap.size ⟨f,g,sv,⟨none,0,0⟩⟩ ⟨List.replicate n 0,List.replicate (n * 3) 0,List.replicate k [0,0,0],[]⟩ us [] [] [])∧Below w.heap.size w wr) (fun i _=>n - (intOf i).toNat)
  case atStart=>exact⟨0,Nat.zero_le _,rfl,⟨_,_,HC0.out,HP0.out⟩,HB9.out⟩
  case round =>
   obtain⟨k,hk,rfl,⟨⟨sa,sn,sc⟩,us,hc,hp⟩,hbr⟩:=hrel;have o2:wr.cell? ⟨O,2,none⟩=some (.slice sa sn sc):=cellH hc.bo (k:=2) rfl;have ofz:=frozH hc.bo;have ol:=lt_of_cell o2;have HC:=hide hc;have HP:=hide hp;have HBR:=hide hbr
   have hbs:w.heap.size≤wr.heap.size:=hbr.size;have hlO:=hc.lO;clear hc hp hbr;by_cases hlt:k < n
   ·have hltk:=nat_of_lt hlt
    have HUL:Hid (us.length≤68719476736):=hide (by rw[HP.out.lv];simp;omega);obtain⟨w6,hrun,ho6,hg6⟩:=mk3_int wr.drew;have O6:=hide (show Own IntE 3 w6 wr.heap.size (.slice (some ⟨wr.heap.size,0,none⟩) 3 3) [0,0,0] from ho6);have B6:=hide ((Below.refl wr.heap.size wr).drew.grown hg6 (Nat.le_refl _) (fun q hq=>nomatch hq));have hk6:w6.cell? ⟨O,2,none⟩=some (.slice sa sn sc):=(B6.out.cell (p:=⟨O,2,none⟩) ol).trans o2;have hb6:=B6.out.size;have ol6:O < w6.heap.size:=Nat.lt_of_lt_of_le ol hb6;clear ho6 hg6;go_wp2_with fail
    go_region_law ((refine step_app SlcE 34 Try.infoIntSM rfl Try.underlying23 w.heap.size _ us ⟨some ⟨wr.heap.size,0,none⟩,3,3⟩ ((HP.out.hv.below B6.out).alloc _) (by decide) HUL.out (by simp;omega) (by rfl) _ _ (by rfl) (by rfl) w6.heap.size 0 1 (by rfl) news_alloc ?_;intro v8 w8 hown8 hgr8;obtain⟨⟨a8,n8,c8⟩,rfl,-⟩:=hown8.toSlc;have K8:=(KpT.of_below (L:=[34]) (B:=0) (B6.out.alloc hb6 (.cells #[.slice (some ⟨wr.heap.size,0,none⟩) 3 3] 34))).trans (KpT.grown ((HP.out.hv.below B6.out).alloc _) (by decide) (Nat.zero_le _) hgr8);have bo8:=K8.same HC.out.bo (by decide);have o8:w8.cell? ⟨O,2,none⟩=some (.slice sa sn sc):=cellH bo8 (k:=2) rfl;have ofz8:=frozH bo8;have ol8:=lt_of_cell o8;have G8:=hide hgr8;have O8:=hide hown8;clear hown8 hgr8))
    all_goals
     have P8:=HP.out.addView (B6.out.alloc hb6 (.cells #[.slice (some ⟨wr.heap.size,0,none⟩) 3 3] 34)) (u:=⟨some ⟨wr.heap.size,0,none⟩,3,3⟩) (r:=[0,0,0]) G8.out ((O6.out.mono hbs).alloc _) (fun q hq=>by simp[Value.ownBlock]at hq;omega) O8.out;have P9:=hide (P8.setT (T:=79) (by decide) (by decide) (by decide) (by decide) ⟨_,bo8⟩ 2 (.slice a8 n8 c8));have B8:=(HBR.out.trans (B6.out.mono hbs)).alloc (Nat.le_trans hbs hb6) (.cells #[.slice (some ⟨wr.heap.size,0,none⟩) 3 3] 34);have B9:=B8.grown G8.out (by simp;omega) (fun q hq=>(World.ownsRow.lt HP.out.hv q hq).1);have HC9:=hide ((HC.out.kp K8 (by decide)).setM ⟨a8,n8,c8⟩);have HB10:=hide (B9.setCell (p:=⟨O,2,none⟩) (show w.heap.size≤O by omega) (.slice a8 n8 c8));clear P8 B8 B9 K8 bo8;go_wp2_with fail;go_roundw
     case rel=>exact⟨k+1,by omega,by go_num,⟨⟨a8,n8,c8⟩,_,HC9.out,by rw[List.replicate_succ'];exact P9.out⟩,HB10.out⟩
     case measure=>simp[intOf];omega
   ·obtain rfl:k=n:=by omega
    have HP1:=HP;have HC1:=HC;have HBR1:=HBR
    clear HC HP HBR ofz hlt hk;go_wp2_with fail;clear o2 ol hbs
    go_loopw [5] (fun i wr => ∃ r:Nat,r≤3∧i = .int .i64 r∧(∃ (sb:Slc) (lu:List Slc) (ms:List (List MV)),CpR wr w.heap.size O ⟨f,g,⟨sa,sn,sc⟩,sb⟩∧PVw wr w.heap.size ⟨f,g,⟨sa,sn,sc⟩,sb⟩ ⟨List.replicate k 0,List.replicate (k * 3) 0,List.replicate k [0,0,0],List.replicate r [⟨0,false,[0,0,0]⟩]⟩ us lu lu ms)∧Below w.heap.size w wr) (fun i _=>3 - (intOf i).toNat)
    case atStart=>exact⟨0,Nat.zero_le _,rfl,⟨_,_,_,HC1.out,HP1.out⟩,HBR1.out⟩
    case round =>
     obtain⟨r,hr,rfl,⟨⟨ta,tn,tc⟩,lu,ms,hc,hp⟩,hbr⟩:=hrel;have o3:wr.cell? ⟨O,3,none⟩=some (.slice ta tn tc):=cellH hc.bo (k:=3) rfl;have ofz:=frozH hc.bo;have ol:=lt_of_cell o3;have HC:=hide hc;have HP:=hide hp;have HBR:=hide hbr
     have hbs:w.heap.size≤wr.heap.size:=hbr.size;have hlO:=hc.lO;by_cases hlt:r < 3
     ·have hltr:decide (r≤2)=true:=decide_eq_true (by omega)
      have hltr2:(r:Int)≤2:=by omega
      have HLL:Hid (lu.length≤68719476736):=hide (by rw[HP.out.ll];simp;omega);clear hc hp hbr;obtain⟨w6,hrun,ho6,hg6⟩:=mk3_int wr.drew;have O6:=hide (show Own IntE 3 w6 wr.heap.size (.slice (some ⟨wr.heap.size,0,none⟩) 3 3) [0,0,0] from ho6);have B6:=hide ((Below.refl wr.heap.size wr).drew.grown hg6 (Nat.le_refl _) (fun q hq=>nomatch hq));have hk6:w6.cell? ⟨O,3,none⟩=some (.slice ta tn tc):=(B6.out.cell (p:=⟨O,3,none⟩) ol).trans o3;have hb6:=B6.out.size;have ol6:O < w6.heap.size:=Nat.lt_of_lt_of_le ol hb6;clear ho6 hg6;go_wp2_with fail
      go_region_law ((refine step_app SlcE 102 Try.infoMsSM rfl Try.underlying77 w.heap.size _ lu ⟨some ⟨w6.heap.size,0,none⟩,1,1⟩ (((HP.out.hl.below B6.out).alloc _).alloc _) (by decide) HLL.out (by simp;omega) (by rfl) _ _ (by rfl) (by rfl) (w6.heap.size+1) 0 1 (by rfl) (news_allocA (by simp)) ?_;intro v8 w8 hown8 hgr8;obtain⟨⟨a8,n8,c8⟩,rfl,-⟩:=hown8.toSlc;have BA:=hide ((B6.out.alloc hb6 (.cells #[.int .i64 0,.bool false,.slice (some ⟨wr.heap.size,0,none⟩) 3 3] 101)).alloc (by simp;omega) (.cells #[.slice (some ⟨w6.heap.size,0,none⟩) 1 1] 102));have K8:=(KpT.of_below (L:=[102]) (B:=0) BA.out).trans (KpT.grown (((HP.out.hl.below B6.out).alloc _).alloc _) (by decide) (Nat.zero_le _) hgr8);have bo8:=K8.same HC.out.bo (by decide);have o8:w8.cell? ⟨O,3,none⟩=some (.slice ta tn tc):=cellH bo8 (k:=3) rfl;have ofz8:=frozH bo8;have ol8:=lt_of_cell o8;have G8:=hide hgr8;have O8:=hide hown8;clear hown8 hgr8))
      all_goals
       have P7:=HP.out.newRow1 (w':=w6.alloc (.cells #[.int .i64 0,.bool false,.slice (some ⟨wr.heap.size,0,none⟩) 3 3] 101)) (B6.out.alloc hb6 _) (u:=⟨some ⟨w6.heap.size,0,none⟩,1,1⟩) (m:=⟨0,false,⟨some ⟨wr.heap.size,0,none⟩,3,3⟩⟩) (g:=⟨0,false,[0,0,0]⟩) (Own.lit1 (E:=MgE) w6 (Nat.le_trans hbs hb6) ⟨0,false,⟨some ⟨wr.heap.size,0,none⟩,3,3⟩⟩) (fun q hq=>by simp[Value.ownBlock]at hq;omega) ((O6.out.mono hbs).alloc _) (fun q hq=>by simp[Value.ownBlock]at hq;omega) ⟨rfl,rfl⟩;have P8:=P7.putRow (belowAlloc _ (.cells #[.slice (some ⟨w6.heap.size,0,none⟩) 1 1] 102)) G8.out O8.out;have P9:=hide (P8.setT (T:=79) (by decide) (by decide) (by decide) (by decide) ⟨_,bo8⟩ 3 (.slice a8 n8 c8));have B8:=HBR.out.trans (BA.out.mono hbs);have B9:=B8.grown G8.out (by simp;omega) (fun q hq=>(World.ownsRow.lt HP.out.hl q hq).1);have HC9:=hide ((HC.out.kp K8 (by decide)).setB ⟨a8,n8,c8⟩);have HB10:=hide (B9.setCell (p:=⟨O,3,none⟩) (show w.heap.size≤O by omega) (.slice a8 n8 c8));clear P7 P8 B8 B9 K8 bo8;go_wp2_with fail;go_roundw
       case rel=>exact⟨r+1,by omega,by go_num,⟨⟨a8,n8,c8⟩,_,_,HC9.out,by rw[List.replicate_succ'];exact P9.out⟩,HB10.out⟩
       case measure=>simp[intOf];omega
     ·obtain rfl:r=3:=by omega
      have hltr:¬ ((3:Int)≤2):=by decide
      have PF:=hide hp.full;have o0:wr.cell? ⟨O,0,none⟩=some (.slice f.a f.n f.cap):=cellH hc.bo (k:=0) rfl;have o1:wr.cell? ⟨O,1,none⟩=some (.slice g.a g.n g.cap):=cellH hc.bo (k:=1) rfl;have o2:wr.cell? ⟨O,2,none⟩=some (.slice sa sn sc):=cellH hc.bo (k:=2) rfl;have r0:wr.cell? ⟨w.heap.size,0,none⟩=some (.slice none 0 0):=cellH hc.br (k:=0) rfl;have r1:wr.cell? ⟨w.heap.size,1,none⟩=some (.slice none 0 0):=cellH hc.br (k:=1) rfl;have r2:wr.cell? ⟨w.heap.size,2,none⟩=some (.slice none 0 0):=cellH hc.br (k:=2) rfl;have r3:wr.cell? ⟨w.heap.size,3,none⟩=some (.slice none 0 0):=cellH hc.br (k:=3) rfl;have rfz:=frozH hc.br;have rl:=lt_of_cell r0;clear hc hp hbr;go_wp2_with fail;have t0:TyB 79 wr w.heap.size:=⟨_,HC.out.br⟩
      refine bodyPost_ret (v:=.agg #[.slice f.a f.n f.cap,.slice g.a g.n g.cap,.slice sa sn sc,.slice ta tn tc]) (by simp[results,Try.results49,go_sem, *]) rfl ⟨⟨f,g,⟨sa,sn,sc⟩,⟨ta,tn,tc⟩⟩,us,lu,ms,rfl,?_,?_⟩
      ·exact(((PF.out.setT (by decide) (by decide) (by decide) (by decide) t0 0 _).setT (by decide) (by decide) (by decide) (by decide) (t0.set _ _ _) 1 _).setT (by decide) (by decide) (by decide) (by decide) ((t0.set _ _ _).set _ _ _) 2 _).setT (by decide) (by decide) (by decide) (by decide) (((t0.set _ _ _).set _ _ _).set _ _ _) 3 _
      ·exact(((HBR.out.setCell (p:=⟨w.heap.size,0,none⟩) (Nat.le_refl _) _).setCell (p:=⟨w.heap.size,1,none⟩) (Nat.le_refl _) _).setCell (p:=⟨w.heap.size,2,none⟩) (Nat.le_refl _) _).setCell (p:=⟨w.heap.size,3,none⟩) (Nat.le_refl _) _
 -- end start
end Go.Proofs.Ytnkfphndfijcoaa
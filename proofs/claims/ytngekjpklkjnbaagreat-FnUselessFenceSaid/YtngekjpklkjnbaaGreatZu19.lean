/-
  A state with store buffers after a thread's move: a load, a fence. Condition: a state as it can be, a valid instruction.
-/
import Derived.Test.YtngekjpklkjnbaaGreatZu15
set_option maxHeartbeats 6400000
set_option maxRecDepth 100000
namespace Go.Proofs.YtngekjpklkjnbaaGreat
open Go.RowKit Go.Shelf
attribute [local go_sem] Oper.semAt_some
theorem VU {W W':World}{row:Option Nat}{b:Nat}{cur:Array Value}{T:TypeId}{fr:Nat × Nat}(h:W.heap[b]? = some (.cells cur T fr)) (hg:W.grownBy W' row) (hr:∀ r,row=some r→∃ o:Obj,W.heap[r]? = some o∧o.isCells=false):W'.heap[b]? = some (.cells cur T fr):=by
 rw[hg.block b (Array.getElem?_eq_some_iff.1 h).1 (fun e => ?_),h];obtain⟨o,h1,h2⟩:=hr b e.symm;rw[h]at h1;simp at h1;subst h1;cases h2
structure Cw (w:World) (loc:Nat) (v:Value) (W:World):Prop where
 h5:W.heap[w.heap.size]? = some (.cells #[.int .i64 (loc:Int)] 3 (0,0))
 h6:W.heap[w.heap.size+1]? = some (.cells #[v] 5 (0,0))
 bl:Below w.heap.size w W
theorem Cw.grown {w:World}{loc:Nat}{v:Value}{W W':World}{row:Option Nat}{B:Nat}(h:Cw w loc v W) (hB:w.heap.size≤B) (hg:W.grownBy W' row) (hr:∀ r,row=some r→B≤r∧∃ o:Obj,W.heap[r]? = some o∧o.isCells=false):Cw w loc v W':=
 ⟨VU h.h5 hg fun r e=>(hr r e).2,VU h.h6 hg fun r e=>(hr r e).2,h.bl.grown hg h.bl.size fun k e=>Nat.le_trans hB (hr k e).1⟩
theorem Cw.put {w:World}{loc:Nat}{v:Value}{W:World}(h:Cw w loc v W) (u:Value):Cw w loc u (W.setCell ⟨w.heap.size+1,0,none⟩ u):=
 ⟨(heap_setCell_other W ⟨w.heap.size+1,0,none⟩ w.heap.size u (by show w.heap.size≠w.heap.size+1;omega)).trans h.h5,heap_setCell_same W (w.heap.size+1) 0 _ _ u h.h6,h.bl.setCell (p:=⟨w.heap.size+1,0,none⟩) (by show w.heap.size≤w.heap.size+1;omega) _⟩
theorem AZ (zs:List Int):(zs.attach.zipIdx.reverse).map (fun x=>x.1.1)=zs.reverse:=by
 rw[List.map_reverse]
 congr 1
 have h1:(fun x:{u:Int // u∈zs} × Nat=>x.1.1)=(fun g:{u:Int // u∈zs}=>g.1) ∘ Prod.fst:=rfl;rw[h1,← List.map_map,List.zipIdx_map_fst,List.attach_map_subtype_val]
theorem GG {e:Int × Int}(h:Y8 e):(e.1 * 16+e.2) / 16=e.1∧(e.1 * 16+e.2) % 16=e.2:=by
 unfold Y8 at h;omega
theorem He {row:List (Int × Int)}(hen:∀ e∈row,Y8 e) {loc:Nat}(h:∀ x∈(Z1 row).attach.zipIdx.reverse,¬ x.1.1 / 16=(loc:Int)):row.reverse.find? (fun e=>e.1==(loc:Int))=none:=by
 rw[List.find?_eq_none];intro e he h2;rw[List.mem_reverse]at he;have h3:e.1 * 16+e.2∈(Z1 row).reverse:=List.mem_reverse.2 (List.mem_map.2 ⟨e,he,rfl⟩);rw[← AZ]at h3;obtain⟨x,hx,hxe⟩:=List.mem_map.1 h3;refine h x hx ?_;rw[hxe,(GG (hen e he)).1];exact beq_iff_eq.1 h2
theorem Hd {row:List (Int × Int)}(hen:∀ e∈row,Y8 e) {loc:Nat}{k:Nat}{pre':List ({u:Int // u∈Z1 row} × Nat)}{x:{u:Int // u∈Z1 row} × Nat}(h:pre'++[x]=(Z1 row).attach.zipIdx.reverse.take k) (hno:∀ y∈pre',¬ y.1.1 / 16=(loc:Int)) (hx:x.1.1 / 16=(loc:Int)):row.reverse.find? (fun e=>e.1==(loc:Int))=some ((loc:Int),x.1.1 % 16):=by
 have h1:(Z1 row).reverse=pre'.map (fun x=>x.1.1)++(x.1.1 :: ((Z1 row).attach.zipIdx.reverse.drop k).map (fun x=>x.1.1)):=by
  rw[← AZ]
  conv=>lhs;rw[← List.take_append_drop k (Z1 row).attach.zipIdx.reverse]
  rw[← h];simp
 unfold Z1 at h1;rw[← List.map_reverse]at h1;obtain⟨l1,l2,e1,e2,e3⟩:=List.map_eq_append_iff.1 h1;obtain⟨e,l3,rfl,e4,-⟩:=List.map_eq_cons_iff.1 e3;have he:e∈row:=List.mem_reverse.1 (by rw[e1];simp);obtain⟨d1,d2⟩:=GG (hen e he);rw[e4,hx]at d1;rw[e4]at d2;rw[e1,List.find?_append,List.find?_eq_none.2,Option.none_or,List.find?_cons,← d1]
 ·simp[d2,d1]
 ·intro y hy h2
  have h3:y.1 * 16+y.2∈pre'.map (fun x=>x.1.1):=by rw[← e2];exact List.mem_map.2 ⟨y,hy,rfl⟩
  obtain⟨z,hz,hze⟩:=List.mem_map.1 h3;refine hno z hz ?_;rw[hze,(GG (hen y (List.mem_reverse.1 (by rw[e1];simp[hy])))).1];exact beq_iff_eq.1 h2
theorem CX {s:Bf}{t loc:Nat}{split:Bool}{row:List (Int × Int)}(h:s.bf[Zj t loc split]? = some row):Ys s t loc split=match row.reverse.find? (fun e=>e.1==(loc:Int)) with | some e=>e.2 | none=>s.q.mm[loc]?.getD 0:=by
 unfold Ys;rw[List.getD_eq_getElem?_getD,h,Option.getD_some,List.getD_eq_getElem?_getD,Int.toNat_natCast];rfl
theorem Cw.gone {w:World}{loc:Nat}{v:Value}{W:World}(h:Cw w loc v W) {D:Nat}(hD:w.heap.size+1≠D) (o:Obj):(W.putObj D o).cell? ⟨w.heap.size+1,0,none⟩=some v:=
 Zc ((World.putObj_heap_other hD).trans h.h6) (k:=0) rfl
theorem Cw.drew {w:World}{loc:Nat}{v:Value}{W:World}(h:Cw w loc v W):Cw w loc v W.drew:=⟨h.h5,h.h6,h.bl.drew⟩
theorem KF (b t loc:Nat) (vp:Value) (split:Bool) (wv:Zt) (p:List (List Ins)) (s:Bf) (w:World) (hx:ZO w b vp split wv s) (hw:Vr w wv s) (hok:ZE p split s) (ht:t < p.length) (hpl:p.length≤3) (hl:loc≤2) (hlen:∀ r∈s.bf,r.length≤1048576) :
 Calls Tryz.prog 235 #[.pointer (some ⟨b,0,none⟩),.int .i64 (t:Int),.int .i64 (loc:Int)] w fun e w'=>e = .returned (Z2 (Ys s t loc split))∧Below w.heap.size w w':=by
 obtain⟨wa,wn,wk⟩:=wv;have HX:=Za hx;have HW:=Za hw;have HOK:=Za hok
 have h16:=hx.split;have h17:=hx.waits;have bl:=hx.lt;have ht2:t≤2:=Om;have hqs:Zj t loc split < s.bf.length:=by rw[hok.lb];exact Xi ht Om
 obtain⟨q,hq⟩:∃ q,q=Zj t loc split:=⟨_,rfl⟩
 rw[← hq]at hqs;obtain⟨row,hrow⟩:=Zd (xs:=s.bf) (k:=q) hqs;have hrow2:(s.bf.map Z1)[q]? = some (Z1 row):=by rw[List.getElem?_map,hrow];rfl
 obtain⟨_,_,hv,-,-,-,-⟩:=hw.open;simp only[Zt.v,Value.slice.injEq]at hv;obtain⟨rfl,hwn,rfl⟩:=hv;rw[List.length_map]at hwn;obtain⟨wb,wo,ra,rc,rfl,hbl2,q0,hrr⟩:=Yv.row hw hrow2;rw[List.length_map]at q0;obtain⟨rn,hrn⟩:∃ rn,rn=row.length:=⟨_,rfl⟩
 simp only[← hrn]at q0;have HLN:Hid (rn≤1048576):=Za (by rw[hrn];exact hlen row (List.mem_of_getElem? hrow));have HRN:=Za hrn;have HQ:=Za hq;have HROW:=Za hrow;have HRR:=Za hrr
 have hqn:(q:Int) < (wn:Int):=by rw[hwn];omega
 have HBU:=Za (fun X h=>Q8 b t loc split X h ht2 hl);simp only[← hq]at HBU;have HB0:=Za (((Below.refl w.heap.size w).alloc (Nat.le_refl _) (.cells #[.int .i64 (loc:Int)] 3)).alloc Sm (.cells #[.int .u8 0] 5));have HEN:Hid (∀ e∈row,Y8 e):=Za (hok.en row (List.mem_of_getElem? hrow));have HSEE:=Za (CX (t:=t) (loc:=loc) (split:=split) (s:=s) (row:=row) (by rw[← hq];exact hrow));have HGR:Hid (∀ g∈Z1 row,0≤g∧g≤47):=Za (fun g hg=>by
  obtain⟨e,he,rfl⟩:=List.mem_map.1 hg;have h1:=hok.en row (List.mem_of_getElem? hrow) e he;unfold Y8 at h1;omega)
 clear hx hw hok hrow hrow2 hrn hq hwn hrr hlen;refine(callsIn_wide (n:=9)).1 ?_;refine callsIn_of_wp_marks Tryz.func235 rfl trivial ?_ rfl;simp only[Tryz.ntmps235,List.size_toArray,List.length_cons,List.length_nil,Nat.reduceAdd,Nat.reduceSub,Array.replicate_succ,Array.replicate_zero,List.push_toArray,List.append_toArray,List.nil_append,List.cons_append];refine(wpIn_wide (n:=9)).2 ?_;go_wp2_with fail;obtain⟨wB,hwB⟩:∃ W,W=(w.alloc (.cells #[.int .i64 (loc:Int)] 3)).alloc (.cells #[.int .u8 0] 5):=⟨_,rfl⟩
 rw[← hwB];obtain⟨W1,hW1⟩:∃ W,W=wB.drew:=⟨_,rfl⟩
 have BB:Hid (Below w.heap.size w W1):=Za (by rw[hW1,hwB];exact HB0.out.drew);have H5:Hid (W1.heap[w.heap.size]? = some (.cells #[.int .i64 (loc:Int)] 3 (0,0))):=Za (by
  rw[hW1,hwB];show ((w.alloc _).alloc _).heap[w.heap.size]? = _;rw[heap_alloc_old _ _ Sm];exact heap_alloc_new w _)
 have H6:Hid (W1.heap[w.heap.size+1]? = some (.cells #[.int .u8 0] 5 (0,0))):=Za (by
  rw[hW1,hwB];show ((w.alloc _).alloc _).heap[w.heap.size+1]? = _;have:=heap_alloc_new (w.alloc (.cells #[.int .i64 (loc:Int)] 3)) (.cells #[.int .u8 0] 5);simpa using this)
 have q5:W1.cell? ⟨w.heap.size,0,none⟩=some (.int .i64 (loc:Int)):=Zc H5.out (k:=0) rfl;have q16:=(BB.out.cell (p:=⟨b,16,none⟩) bl).trans h16;have q17:=(BB.out.cell (p:=⟨b,17,none⟩) bl).trans h17;have qr:=(BB.out.cell (p:=⟨wb,wo+q,none⟩) hbl2).trans q0;have l5:=Zb q5;have lb:=Zb q17;have lr:=Zb qr;have RR:=Za (HRR.out.below BB.out);have HX1:=Za (HX.out.below BB.out);have HW1:=Za hW1;clear h16 h17 q0 HB0 hwB hW1
 -- ZQ read
 refine Zl (n:=10) Kr rfl Kr Kr (fun A ls a' W => ∃ (x9 x10 x11 x12 x13 x14 x15 x16 x17 x18:Value),a'=Zk A [(9,x9),(10,x10),(11,x11),(12,x12),(13,x13),(14,x14),(15,x15),(16,x16),(17,x17),(18,x18)]∧Vd ls 0 [] x9 (.pointer (some ⟨b,0,none⟩))∧Vd ls 1 [] x10 (.pointer (some ⟨b,0,none⟩))∧Vd ls 2 [] x11 (.pointer (some ⟨b,17,none⟩))∧Vd ls 3 [] x12 (.slice (some ⟨wb,wo,none⟩) wn wk)∧Vd ls 4 [] x13 (.pointer (some ⟨b,0,none⟩))∧Vd ls 5 [] x14 (.int .i64 (t:Int))∧Vd ls 6 [] x15 (.int .i64 (loc:Int))∧Vd ls 7 [] x16 (.int .i64 (q:Int))∧Vd ls 8 [] x17 (.pointer (some ⟨wb,wo+q,none⟩))∧Vd ls 9 [] x18 (.slice ra rn rc)∧W=W1) ?r0 ?rs ?re
 case r0 =>
  exact⟨undef,undef,undef,undef,undef,undef,undef,undef,undef,undef,pA,Vs,Vs,Vs,Vs,Vs,Vs,Vs,Vs,Vs,Vs,by exact HW1.out.symm⟩
 case rs =>
  rintro ls a' W hs hnl ⟨x9,x10,x11,x12,x13,x14,x15,x16,x17,x18,ha,cv0,cv1,cv2,cv3,cv4,cv5,cv6,cv7,cv8,cv9,hJ⟩ k o hkn mc K hK;simp only[Zk,Act.put,List.setIfInBounds_toArray,List.set_cons_succ,List.set_cons_zero]at ha;subst ha;have hkc:k=0∨k=1∨k=2∨k=3∨k=4∨k=5∨k=6∨k=7∨k=8∨k=9:=Om;have hop:=mc.op;have haf:=mc.after;rcases hkc with rfl | rfl | rfl | rfl | rfl | rfl | rfl | rfl | rfl | rfl
  ·simp at hop;subst hop;simp[Region.binds]at haf
   obtain rfl:W1=W:=hJ.symm;have hJ:W1=W1:=rfl;go_simp;exact hK _ _ ⟨_,_,_,_,_,_,_,_,_,_,pA,Ve,cv1.s,cv2.s,cv3.s,cv4.s,cv5.s,cv6.s,cv7.s,cv8.s,cv9.s,by exact hJ⟩
  ·simp at hop;subst hop;simp[Region.binds]at haf
   obtain rfl:=(cv0.get (by simp[haf])).symm;obtain rfl:W1=W:=hJ.symm;have hJ:W1=W1:=rfl;go_simp;exact hK _ _ ⟨_,_,_,_,_,_,_,_,_,_,pA,cv0.s,Ve,cv2.s,cv3.s,cv4.s,cv5.s,cv6.s,cv7.s,cv8.s,cv9.s,by exact hJ⟩
  ·simp at hop;subst hop;simp[Region.binds]at haf
   obtain rfl:=(cv1.get (by simp[haf])).symm;obtain rfl:W1=W:=hJ.symm;have hJ:W1=W1:=rfl;go_simp;exact hK _ _ ⟨_,_,_,_,_,_,_,_,_,_,pA,cv0.s,cv1.s,Ve,cv3.s,cv4.s,cv5.s,cv6.s,cv7.s,cv8.s,cv9.s,by exact hJ⟩
  ·simp at hop;subst hop;simp[Region.binds]at haf
   obtain rfl:=(cv2.get (by simp[haf])).symm;obtain rfl:W1=W:=hJ.symm;have hJ:W1=W1:=rfl;go_simp;exact hK _ _ ⟨_,_,_,_,_,_,_,_,_,_,pA,cv0.s,cv1.s,cv2.s,Ve,cv4.s,cv5.s,cv6.s,cv7.s,cv8.s,cv9.s,by exact hJ⟩
  ·simp at hop;subst hop;simp[Region.binds]at haf
   obtain rfl:W1=W:=hJ.symm;have hJ:W1=W1:=rfl;go_simp;exact hK _ _ ⟨_,_,_,_,_,_,_,_,_,_,pA,cv0.s,cv1.s,cv2.s,cv3.s,Ve,cv5.s,cv6.s,cv7.s,cv8.s,cv9.s,by exact hJ⟩
  ·simp at hop;subst hop;simp[Region.binds]at haf
   obtain rfl:W1=W:=hJ.symm;have hJ:W1=W1:=rfl;go_simp;exact hK _ _ ⟨_,_,_,_,_,_,_,_,_,_,pA,cv0.s,cv1.s,cv2.s,cv3.s,cv4.s,Ve,cv6.s,cv7.s,cv8.s,cv9.s,by exact hJ⟩
  ·simp at hop;subst hop;simp[Region.binds]at haf
   obtain rfl:W1=W:=hJ.symm;have hJ:W1=W1:=rfl;go_simp;exact hK _ _ ⟨_,_,_,_,_,_,_,_,_,_,pA,cv0.s,cv1.s,cv2.s,cv3.s,cv4.s,cv5.s,Ve,cv7.s,cv8.s,cv9.s,by exact hJ⟩
  ·simp at hop;subst hop;simp[Region.binds]at haf
   obtain rfl:=(cv4.get (by simp[haf])).symm;obtain rfl:=(cv5.get (by simp[haf])).symm;obtain rfl:=(cv6.get (by simp[haf])).symm;obtain rfl:W1=W:=hJ.symm;have hJ:W1=W1:=rfl;go_simp;go_at_call 236
   (with_reducible refine(HBU.out _ q16).mono ?_);rintro e u ⟨rfl,rfl⟩
   exact hK _ _ ⟨_,_,_,_,_,_,_,_,_,_,pA,cv0.s,cv1.s,cv2.s,cv3.s,cv4.s,cv5.s,cv6.s,Ve,cv8.s,cv9.s,Rf⟩
  ·simp at hop;subst hop;simp[Region.binds]at haf
   obtain rfl:=(cv3.get (by simp[haf])).symm;obtain rfl:=(cv7.get (by simp[haf])).symm;obtain rfl:W1=W:=hJ.symm;have hJ:W1=W1:=rfl;go_simp;exact hK _ _ ⟨_,_,_,_,_,_,_,_,_,_,pA,cv0.s,cv1.s,cv2.s,cv3.s,cv4.s,cv5.s,cv6.s,cv7.s,Ve,cv9.s,by exact hJ⟩
  ·simp at hop;subst hop;simp[Region.binds]at haf
   obtain rfl:=(cv8.get (by simp[haf])).symm;obtain rfl:W1=W:=hJ.symm;have hJ:W1=W1:=rfl;go_simp;exact hK _ _ ⟨_,_,_,_,_,_,_,_,_,_,pA,cv0.s,cv1.s,cv2.s,cv3.s,cv4.s,cv5.s,cv6.s,cv7.s,cv8.s,Ve,by exact hJ⟩
 case re =>
  rintro ls a' W hall ⟨x9,x10,x11,x12,x13,x14,x15,x16,x17,x18,ha,cv0,cv1,cv2,cv3,cv4,cv5,cv6,cv7,cv8,cv9,hJ⟩ o hop;simp only[Zk,Act.put,List.setIfInBounds_toArray,List.set_cons_succ,List.set_cons_zero]at ha;subst ha;simp at hop;subst hop;obtain rfl:=cv0.ga hall;obtain rfl:=cv1.ga hall;obtain rfl:=cv2.ga hall;obtain rfl:=cv3.ga hall;obtain rfl:=cv4.ga hall;obtain rfl:=cv5.ga hall;obtain rfl:=cv6.ga hall;obtain rfl:=cv7.ga hall;obtain rfl:=cv8.ga hall;obtain rfl:=cv9.ga hall;go_simp
  (with_reducible refine(Uz ra rn rc W1).mono ?_);rintro e W2 ⟨rfl,hW2⟩
  have hb2:Below W1.heap.size W1 W2:=by rw[hW2];exact(Below.refl _ _).alloc (Nat.le_refl _) _
  have hbx:W2.heap[W1.heap.size]? = some (.cells #[.slice ra rn rc] 39 (0,0)):=by rw[hW2];exact heap_alloc_new W1 _
  have B2:=Za hb2;have HBX:=Za hbx
  clear hW2 hb2 hbx;go_wp2_with fail;refine(wpIn_wide (n:=9)).1 ?_;have hz2:W1.heap.size < W2.heap.size:=(Array.getElem?_eq_some_iff.1 HBX.out).1;have l6:=(Array.getElem?_eq_some_iff.1 H6.out).1;have hm2:Cw w loc (.int .u8 0) W2:=⟨(B2.out.block w.heap.size l5).trans H5.out,(B2.out.block (w.heap.size+1) l6).trans H6.out,BB.out.trans (B2.out.mono BB.out.size)⟩
  have hrr1:Z7 Zr W1 (.slice ra rn rc) (Z1 row):=by have:=RR.out;rwa[List.length_map,← HRN.out]at this
  obtain⟨rb,hrbl,hrb⟩:∃ rb,rb < W2.heap.size∧∀ g o,ra=some ⟨g,o,none⟩→Z1 row≠[]→g=rb:=by
   cases hne:Z1 row with
   | nil=>exact⟨W1.heap.size,hz2,fun g o _ h=>absurd rfl h⟩
   | cons z zs =>
    rw[hne]at hrr1;obtain⟨a0,c0,hv0,_,_,hh⟩:=hrr1;simp only[Value.slice.injEq]at hv0;obtain⟨bb,oo,e0,h0⟩:=hh 0 z rfl;have h1:=h0 0 (Z2 z) rfl;refine⟨bb,Nat.lt_of_lt_of_le (Zb h1) B2.out.size,fun g o e _ => ?_⟩;rw[hv0.1,e0]at e;simp at e;exact e.1.symm
  have HST:=RH (Pr:=fun g=>g∈Z1 row) 8 Om W1.heap.size rb (.slice ra rn rc) (Z1 row).attach (by rw[List.length_attach,List.length_map,← HRN.out];exact HLN.out) W2 hz2 (Zc HBX.out (k:=0) rfl) (by rw[List.attach_map_subtype_val];exact hrr1.below B2.out) (fun g o e hne=>by
   simp only[Value.slice.injEq]at e;exact hrb g o e.1 (fun h=>hne (by rw[List.attach_eq_nil_iff];exact h)))
  have HM2:=Za hm2;have BX2:=Za (hrr1.below B2.out);clear hm2 hrr1 hrb;refine wpIn_rangeFunc_ownH rfl Om (gf:=243) (lb:=#[.pointer (some ⟨W1.heap.size,0,none⟩)]) rfl trivial (enters_of Tryz.func243 Kr rfl)
   HST Xb.trans (Ey hz2 hrbl) (Below.refl _ _) (fun _=>rfl)
   (fun pre W=>(∀ x∈pre,¬ x.1.1 / 16=(loc:Int))∧Cw w loc (.int .u8 0) W)
   (fun c pre W=>c = .ret∧∃ pre' x,pre=pre'++[x]∧(∀ y∈pre',¬ y.1.1 / 16=(loc:Int))∧x.1.1 / 16=(loc:Int)∧Cw w loc (Z2 (x.1.1 % 16)) W)
   (fun pre W W' row h hg hr=>⟨h.1,h.2.grown (by have:=BB.out.size;omega) hg hr⟩)
   (fun c pre W W' row h hg hr=>by
    obtain⟨rfl,pre',x,h1,h2,h3,h4⟩:=h;exact⟨rfl,pre',x,h1,h2,h3,h4.grown (by have:=BB.out.size;omega) hg hr⟩)
   ⟨fun x h=>by simp at h,HM2.out⟩
   (fun x a' W=>a' = { tmps:=#[.pointer (some ⟨b,0,none⟩),.int .i64 (t:Int),.int .i64 (loc:Int),undef,undef,.pointer (some ⟨w.heap.size,0,none⟩),.pointer (some ⟨w.heap.size+1,0,none⟩),undef,Z2 x.1.1,.pointer (some ⟨b,0,none⟩),.pointer (some ⟨b,0,none⟩),.pointer (some ⟨b,17,none⟩),.slice (some ⟨wb,wo,none⟩) wn wk,.pointer (some ⟨b,0,none⟩),.int .i64 (t:Int),.int .i64 (loc:Int),.int .i64 (q:Int),.pointer (some ⟨wb,wo+q,none⟩),.slice ra rn rc,.func (.func 243) #[] #[.pointer (some ⟨W1.heap.size,0,none⟩)],.int .i64 (x.2:Int),Z2 x.1.1,undef,undef,undef,undef,undef,undef,undef,undef,undef,undef,undef,undef,undef,undef],defers:=[] })
   (fun x a' _ W W' row h _ _=>h)
   ?assign ?body ?done ?stop
  case assign =>
   rintro l pre ⟨⟨g,hgm⟩,ix⟩ W K hi hK;gi_wp2;exact hK _ _ (KeepsFrom.refl _ _) (Xb.refl _ _ _) hi rfl
  case body =>
   rintro l pre ⟨⟨g,hgm⟩,ix⟩ a' W hl ⟨r0,hr0⟩ ⟨hno,hm⟩ rfl hlt;obtain⟨hg0,hg47⟩:=HGR.out g hgm;have HM:=Za hm;have HNO:=Za hno
   have c5:W.cell? ⟨w.heap.size,0,none⟩=some (.int .i64 (loc:Int)):=Zc hm.h5 (k:=0) rfl;have c6:W.cell? ⟨w.heap.size+1,0,none⟩=some (.int .u8 0):=Zc hm.h6 (k:=0) rfl;have f6:=Z6 hm.h6;have cl5:=Zb c5;have cl6:=Zb c6;clear hm hno hr0;dsimp only;by_cases hq:g / 16=(loc:Int)
   ·have hqb:(g / 16==(loc:Int))=true:=by rw[hq];simp
    gi_wp2;exact⟨(KeepsOthers.setCell _ _ _).from _,rfl,pre,(⟨g,hgm⟩,ix),rfl,HNO.out,hq,HM.out.put _⟩
   ·have hqb:(g / 16==(loc:Int))=false:=beq_false_of_ne hq
    gi_wp2;exact⟨KeepsFrom.refl _ _,Xb.refl _ _ _,fun x hx=>(List.mem_append.1 hx).elim (HNO.out x) (fun h=>by simp at h;subst h;exact hq),HM.out⟩
  case done =>
   rintro D ys W hD rfl ⟨hno,hm⟩ hK;have HM:=Za hm;have HNO:=Za hno;have HK:=Za hK
   have c5:W.cell? ⟨w.heap.size,0,none⟩=some (.int .i64 (loc:Int)):=Zc hm.h5 (k:=0) rfl;have c6:W.cell? ⟨w.heap.size+1,0,none⟩=some (.int .u8 0):=Zc hm.h6 (k:=0) rfl;have f6:=Z6 hm.h6;have m13:=(ZN.ZX (HX.out.below hm.bl)).c3 loc Om;have cl5:=Zb c5;have cl6:=Zb c6;have clb:=Zb m13;have hll:(loc:Int) < 3:=Om;clear hm hno hK;go_wp2_with fail
   go_region
   go_wp2_with fail;have hD1:w.heap.size+1≠D:=Om;have hKD:=(heap_setCell_other W ⟨w.heap.size+1,0,none⟩ D (Z2 (s.q.mm[loc]?.getD 0)) (by show D≠w.heap.size+1;omega)).trans HK.out;have hme:=(HM.out.put (Z2 (s.q.mm[loc]?.getD 0))).drew;have q6:=hme.gone hD1 (.deferred none);refine⟨Sm,.inl ⟨_,_,rfl,run_takeDeferred hKD,?_⟩⟩;refine⟨Z2 (s.q.mm[loc]?.getD 0),by simp[results,Tryz.results235,go_sem,q6],?_⟩;refine⟨?_,hme.bl.trans (belowK_b (w:=W2) Om _ D _ _ hD hKD rfl rfl)⟩;rw[HSEE.out,He HEN.out HNO.out]
  case stop =>
   rintro D c pre W hD ⟨k0,hk0⟩ ⟨rfl,pre',x,hpe,hno,hxl,hm⟩ hK;have HM:=Za hm;have HNO:=Za hno;have HK:=Za hK
   clear hm hno hK;gi_wp2;have hD1:w.heap.size+1≠D:=Om;have q6:=HM.out.gone hD1 (.deferred none);refine⟨Sm,.inl ⟨_,_,rfl,run_takeDeferred HK.out,?_⟩⟩;refine⟨Z2 (x.1.1 % 16),by simp[results,Tryz.results235,go_sem,q6],?_⟩;refine⟨?_,HM.out.bl.trans (belowK_b (w:=W2) Om _ D _ _ hD HK.out rfl rfl)⟩;rw[HSEE.out,Hd HEN.out (hpe.symm.trans hk0) HNO.out hxl]
 -- end read
end Go.Proofs.YtngekjpklkjnbaaGreat
namespace Go.Proofs.YtngekjpklkjnbaaGreat
open Go.RowKit
theorem YM (pv:Value) (q:Sq) (more:Array Value) {t:Nat}(ht:t < 16) {u:Value}:(ZY pv q++more).setIfInBounds t u=(ZY pv q).setIfInBounds t u++more:=by
 rw[Array.setIfInBounds_append_left So]
theorem Ij {x:Ins}(h:Zg x=true):x.op=1∨x.op=2∨x.op=3∨x.op=4∨x.op=5:=by
 unfold Zg at h
 repeat' split at h
 all_goals first | omega | (simp at h;done)
theorem CS {s s':Bf}{split:Bool}{t:Nat}{k:Int}{ln rn:Nat}{val:Int}(h:YR s split t k ⟨1,(ln:Int),(rn:Int),val⟩=some s'):s'=⟨⟨s.q.pc.set t (k+1),s.q.rg.set (t * 3+rn) (Ys s t (ln:Int) split),s.q.mm⟩,s.bf⟩:=by
 unfold YR at h;simp at h;exact h.symm
theorem RJ {s s':Bf}{split:Bool}{t:Nat}{k:Int}{ln rn:Nat}{op val:Int}(ho:op=2∨op=3) (h:YR s split t k ⟨op,(ln:Int),(rn:Int),val⟩=some s'):s'=⟨⟨s.q.pc.set t (k+1),s.q.rg,s.q.mm⟩,s.bf.set (Zj t (ln:Int) split) (s.bf.getD (Zj t (ln:Int) split) []++[((ln:Int),ZL s.q t ⟨op,(ln:Int),(rn:Int),val⟩)])⟩:=by
 unfold YR at h;rcases ho with rfl | rfl
 all_goals
  simp at h;rw[← h];simp
theorem Bp {s s':Bf}{split:Bool}{t:Nat}{k:Int}{ln rn:Nat}{val:Int}(h:YR s split t k ⟨4,(ln:Int),(rn:Int),val⟩=some s'):s'=⟨⟨s.q.pc.set t (k+1),s.q.rg,s.q.mm⟩,s.bf⟩:=by
 unfold YR Yy at h;simp[Z8,ZF]at h;exact h.2.symm
theorem Ce {s:Bf}{split:Bool}{t ln:Nat}(hl:ln < 3) (h:ZZ s t split=true):Ys s t (ln:Int) split=s.q.mm.getD ln 0:=by
 rw[Jy,List.all_eq_true]at h;have h1:=h ln (List.mem_range.2 hl);rw[List.isEmpty_iff]at h1;unfold Ys;rw[h1];simp
theorem CU {s s':Bf}{split:Bool}{t:Nat}{k:Int}{ln rn:Nat}{val:Int}(hl:ln < 3) (h:YR s split t k ⟨5,(ln:Int),(rn:Int),val⟩=some s'):s'=⟨⟨s.q.pc.set t (k+1),s.q.rg.set (t * 3+rn) (Ys s t (ln:Int) split),s.q.mm.set ln val⟩,s.bf⟩:=by
 unfold YR at h;rw[if_pos (.inr rfl)]at h;split at h
 ·rename_i he
  rw[Ce hl he];simp[Yy,Z8,ZF,ZL]at h;rw[← h];simp
 ·cases h
def UO (w:World) (vp:Value) (split:Bool) (s s':Bf) (us:List Zt) (e:Ending) (w':World):Prop:=∃ (b':Nat) (wv':Zt),e = .returned (AE 169 b')∧ZO w' b' vp split wv' s'∧w.heap.size≤b'∧Below w.heap.size w w' ∧
 ((s'.bf=s.bf∧Own Zw 39 w' w.heap.size wv'.v us)∨∃ (k:Nat) (r:List (Int × Int)) (u':Zt),s'.bf=s.bf.set k r∧Own Zw 39 w' w.heap.size wv'.v (us.set k u')∧Own Zr 5 w' w.heap.size u'.v (Z1 r))
structure JA (W1:World) (xs:List Int) (x:Int) (c l a:Bool) (f g:Zt) (O:Nat) (W:World):Prop where
 bw:Below W1.heap.size W1 W
 cl:c=true→a=false→Own Zr 5 W W1.heap.size f.v xs
 lt:l=true→a=false→W.heap[O]? = some (.cells #[.int .u8 x] 5 (0,0))
 ap:a=true→Own Zr 5 W W1.heap.size g.v (xs++[x])
section
variable {W1 : World} {xs : List Int} {x : Int} {c l a : Bool} {f g : Zt} {O : Nat} {W W' : World}
theorem JA.start (W1:World) (xs:List Int) (x:Int) (f g:Zt) (O:Nat) {W:World}(h:Below W1.heap.size W1 W):JA W1 xs x false false false f g O W:=⟨h,fun h=>(by cases h),fun h=>(by cases h),fun h=>(by cases h)⟩
theorem JA.step (h:JA W1 xs x c l a f g O W) (hb:Below W.heap.size W W'):JA W1 xs x c l a f g O W':=
 ⟨h.bw.trans (hb.mono h.bw.size),fun p q=>(h.cl p q).below hb,fun p q=>(hb.block O (Array.getElem?_eq_some_iff.1 (h.lt p q)).1).trans (h.lt p q),fun p=>(h.ap p).below hb⟩
theorem JA.clone (h:JA W1 xs x false l a f g O W) {f':Zt}(ho:Own Zr 5 W' W.heap.size f'.v xs) (hb:Below W.heap.size W W'):JA W1 xs x true l a f' g O W':=
 have k:=h.step hb
 ⟨k.bw,fun _ _=>ho.mono h.bw.size,k.lt,k.ap⟩
theorem JA.lit (h:JA W1 xs x c false a f g O W):JA W1 xs x c true a f g W.heap.size (W.alloc (.cells #[.int .u8 x] 5)):=
 have k:=h.step ((Below.refl W.heap.size W).alloc (Nat.le_refl _) (.cells #[.int .u8 x] 5))
 ⟨k.bw,k.cl,fun _ _=>heap_alloc_new W _,k.ap⟩
theorem JA.app (h:JA W1 xs x true true false f g O W) {g':Zt}(ho:Own Zr 5 W' W1.heap.size g'.v (xs++[x])) (hg:W.grownBy W' f.v.ownBlock):JA W1 xs x true true true f g' O W':=
 ⟨h.bw.grown hg h.bw.size fun q hq=>(World.ownsRow.lt (h.cl rfl rfl) q hq).1,fun _ q=>(by cases q),fun _ q=>(by cases q),fun _=>ho⟩
end
set_option linter.unusedSimpArgs false in
theorem VA (b t:Nat) (vp:Value) (split:Bool) (wv:Zt) (us:List Zt) (p:List (List Ins)) (s s':Bf) (i:Ins) (w:World) (hp:Z5 w vp p) (hx:ZO w b vp split wv s) (hus:Z7 Zw w wv.v us) (hul:us.length=s.bf.length)
 (hrows:∀ (k:Nat) (u:Zt) (r:List (Int × Int)),us[k]? = some u→s.bf[k]? = some r→Z7 Zr w u.v (Z1 r)) (hok:ZE p split s) (hlen:∀ r∈s.bf,r.length≤42) (hpl:p.length≤3) (hpr:∀ r∈p,r.length≤7) (ht:t < p.length) (hi:YV p s.q t=some i) (hv:Zg i=true) (hop:i.op=1) (hd:YR s split t (s.q.pc.getD t 0) i=some s') :
 Calls Tryz.prog 230 #[.pointer (some ⟨b,0,none⟩),.int .i64 (t:Int)] w (UO w vp split s s' us):=by
 obtain⟨va,vc,rfl,hc1,hc2,hc3,hp⟩:=hp.open;obtain⟨wa,wn,wk⟩:=wv;obtain⟨op,loc,ZQ,val⟩:=i;simp only at hop;subst hop;obtain⟨⟨l0,l2⟩,⟨r0,r2⟩,v0,v3⟩:=XS hv;simp only at l0 l2 r0 r2 v0 v3;obtain⟨ln,rfl⟩:∃ ln:Nat,loc=ln:=⟨loc.toNat,Om⟩
 obtain⟨rn,rfl⟩:∃ rn:Nat,ZQ=rn:=⟨ZQ.toNat,Om⟩
 obtain⟨r,hr⟩:=Zd (xs:=p) (k:=t) ht;obtain⟨k,hk⟩:=Zd (xs:=s.q.pc) (k:=t) (by rw[hok.q.lp];exact ht);have hkr:=hok.q.pc t k r hk hr;have hrl:=hpr r (List.mem_of_getElem? hr);obtain⟨kn,rfl⟩:∃ kn:Nat,k=kn:=⟨k.toNat,Om⟩
 have hkd:s.q.pc.getD t 0=(kn:Int):=by rw[List.getD_eq_getElem?_getD,hk];rfl
 have hk7:kn≤7:=Om;have hlb9:s.bf.length≤9:=by
  rw[hok.lb];have:Yj split≤3:=by cases split <;> simp[Yj]
  have:=Nat.mul_le_mul hpl this;omega
 have hlb1:0 < s.bf.length:=by rw[hok.lb];exact Nat.mul_pos Om (by cases split <;> simp[Yj])
 have HP:=Za hp;have HOK:=Za hok;have HPR:=Za hpr;have HKD:=Za hkd;have HI:=Za hi;have HT:=Za ht;have HPL:=Za hpl
 have HLEN:=Za hlen;have HBW:Hid (Vr w ⟨wa,wn,wk⟩ s):=Za ⟨us,by rw[List.length_map];exact hul,hus,fun k u r hu hr=>by
  rw[List.getElem?_map]at hr;obtain⟨r0,h,rfl⟩:=Option.map_eq_some_iff.1 hr;exact hrows k u r0 hu h⟩
 have HVR:=Za (fun ho:ZF 1=true=>Xo (t:=t) hok.q.rg hv ho);rw[hkd]at hd;have HD:=Za hd;have hqs:Zj t (ln:Int) split < s.bf.length:=by rw[hok.lb];exact Xi ht Om
 obtain⟨row,hrow⟩:=Zd (xs:=s.bf) (k:=Zj t (ln:Int) split) hqs;obtain⟨⟨ra,sn,sk⟩,hu⟩:=Zd (xs:=us) (k:=Zj t (ln:Int) split) Om;have HUR:=Za (hrows _ _ _ hu hrow);have HRL:=Za (hlen row (List.mem_of_getElem? hrow));have HRD:=Za (show s.bf.getD (Zj t (ln:Int) split) []=row by rw[List.getD_eq_getElem?_getD,hrow];rfl);obtain⟨wb,wo,hwa,hwl,q0⟩:=Z7.Hf (show Z7 Zw w (.slice wa wn wk) us from hus) hu;subst hwa;obtain⟨q,hq⟩:∃ q,q=Zj t (ln:Int) split:=⟨_,rfl⟩
 rw[← hq]at HRD hu q0 hqs;have HQ:=Za hq;have HU:=Za hu;have HQ0:=Za q0;have HQS:=Za hqs;have HWL:=Za hwl
 clear hlen hd hq hu q0 hqs hwl hrow hrows;have htl:(t:Int) < 3:=Om;have hrn3:(rn:Int) < 3:=Om;have hln3:(ln:Int) < 3:=Om;have ht3:t < 3:=Om;have hl3:ln < 3:=Om;have hr3:rn < 3:=Om;have HUS:=Za hus;have HWN:Hid (wn=us.length):=Za (by obtain⟨_,_,hv1,-⟩:=hus.open;simp only[Zt.v,Value.slice.injEq]at hv1;exact hv1.2.1);have HV:=Za (ZN.ZX hx);have HX:=Za hx;have c0:=HV.out.c0;have bl:=HV.out.lt;have d16:=hx.split;have d17:=hx.waits;obtain⟨d1,d2,d3,d4,d5,d6,d7,d8,d9,d10,d11,d12,d13,d14,d15⟩:=HV.out.BZ;have hsa:=@ZJ;have HUL:=Za hul;have HLB:=Za hlb9
 have hul9:us.length≤9:=Om;have hune:us≠[]:=fun e=>by rw[e]at hul;simp at hul;omega
 have hnt:¬ ((p.length:Int)≤(t:Int)):=Om;clear hp hx hus hul hlb9 hok hpr hkd hi hr hk hkr hrl hv;generalize hn:p.length=n at *;have HN:=Za hn;clear hn;obtain⟨x1,hx1⟩:∃ x,x=s.q.pc.getD 0 0:=⟨_,rfl⟩
 obtain⟨x2,hx2⟩:∃ x,x=s.q.pc.getD 1 0:=⟨_,rfl⟩
 obtain⟨x3,hx3⟩:∃ x,x=s.q.pc.getD 2 0:=⟨_,rfl⟩
 obtain⟨x4,hx4⟩:∃ x,x=s.q.rg.getD 0 0:=⟨_,rfl⟩
 obtain⟨x5,hx5⟩:∃ x,x=s.q.rg.getD 1 0:=⟨_,rfl⟩
 obtain⟨x6,hx6⟩:∃ x,x=s.q.rg.getD 2 0:=⟨_,rfl⟩
 obtain⟨x7,hx7⟩:∃ x,x=s.q.rg.getD 3 0:=⟨_,rfl⟩
 obtain⟨x8,hx8⟩:∃ x,x=s.q.rg.getD 4 0:=⟨_,rfl⟩
 obtain⟨x9,hx9⟩:∃ x,x=s.q.rg.getD 5 0:=⟨_,rfl⟩
 obtain⟨x10,hx10⟩:∃ x,x=s.q.rg.getD 6 0:=⟨_,rfl⟩
 obtain⟨x11,hx11⟩:∃ x,x=s.q.rg.getD 7 0:=⟨_,rfl⟩
 obtain⟨x12,hx12⟩:∃ x,x=s.q.rg.getD 8 0:=⟨_,rfl⟩
 obtain⟨x13,hx13⟩:∃ x,x=s.q.mm.getD 0 0:=⟨_,rfl⟩
 obtain⟨x14,hx14⟩:∃ x,x=s.q.mm.getD 1 0:=⟨_,rfl⟩
 obtain⟨x15,hx15⟩:∃ x,x=s.q.mm.getD 2 0:=⟨_,rfl⟩
 have HA:Hid (ZY (.slice va n vc) s.q ++ #[.bool split,.slice (some ⟨wb,wo,none⟩) wn wk] = #[.slice va n vc,.int .u8 x1,.int .u8 x2,.int .u8 x3,.int .u8 x4,.int .u8 x5,.int .u8 x6,.int .u8 x7,.int .u8 x8,.int .u8 x9,.int .u8 x10,.int .u8 x11,.int .u8 x12,.int .u8 x13,.int .u8 x14,.int .u8 x15,.bool split,.slice (some ⟨wb,wo,none⟩) wn wk]):=Za (by rw[hx1,hx2,hx3,hx4,hx5,hx6,hx7,hx8,hx9,hx10,hx11,hx12,hx13,hx14,hx15];rfl);rw[← hx1]at d1;rw[← hx2]at d2;rw[← hx3]at d3;rw[← hx4]at d4;rw[← hx5]at d5;rw[← hx6]at d6;rw[← hx7]at d7;rw[← hx8]at d8;rw[← hx9]at d9;rw[← hx10]at d10;rw[← hx11]at d11;rw[← hx12]at d12;rw[← hx13]at d13;rw[← hx14]at d14;rw[← hx15]at d15;clear hx1 hx2 hx3 hx4 hx5 hx6 hx7 hx8 hx9 hx10 hx11 hx12 hx13 hx14 hx15;have HLD:Hid (w.rangeAt b 0 [.slice va n vc,.int .u8 x1,.int .u8 x2,.int .u8 x3,.int .u8 x4,.int .u8 x5,.int .u8 x6,.int .u8 x7,.int .u8 x8,.int .u8 x9,.int .u8 x10,.int .u8 x11,.int .u8 x12,.int .u8 x13,.int .u8 x14,.int .u8 x15,.bool split,.slice (some ⟨wb,wo,none⟩) wn wk]):=Za (by
  intro j v hj;have h:w.heap[b]? = some (.cells #[.slice va n vc,.int .u8 x1,.int .u8 x2,.int .u8 x3,.int .u8 x4,.int .u8 x5,.int .u8 x6,.int .u8 x7,.int .u8 x8,.int .u8 x9,.int .u8 x10,.int .u8 x11,.int .u8 x12,.int .u8 x13,.int .u8 x14,.int .u8 x15,.bool split,.slice (some ⟨wb,wo,none⟩) wn wk] 172 (0,0)):=by rw[← HA.out];exact HX.out
  rw[Nat.zero_add];exact Zc h (by simpa using hj))
 have HON:Hid ((#[.slice va n vc,.int .u8 x1,.int .u8 x2,.int .u8 x3,.int .u8 x4,.int .u8 x5,.int .u8 x6,.int .u8 x7,.int .u8 x8,.int .u8 x9,.int .u8 x10,.int .u8 x11,.int .u8 x12,.int .u8 x13,.int .u8 x14,.int .u8 x15,.bool split,.slice (some ⟨wb,wo,none⟩) wn wk]:Array Value).all (fun v=>v.oneCell')=true):=Za (by simp[Value.oneCell']);obtain⟨dB,hUB,hRB⟩:=Jq;have HUB:=Za hUB;have HRB:=Za hRB
 clear hUB hRB;go_enter Tryz.func230,Tryz.ntmps230
 iterate 23 (first | (refine wp_load_mid 172 (.tmp 12) rfl b 0 rfl [.slice va n vc,.int .u8 x1,.int .u8 x2,.int .u8 x3,.int .u8 x4,.int .u8 x5,.int .u8 x6,.int .u8 x7,.int .u8 x8,.int .u8 x9,.int .u8 x10,.int .u8 x11,.int .u8 x12,.int .u8 x13,.int .u8 x14,.int .u8 x15,.bool split,.slice (some ⟨wb,wo,none⟩) wn wk] dB HLD.out HUB.out HRB.out Kr ?_;go_simp) | go_values | go_skip | go_guarded | go_step | go_upon)
 refine YO 172 (.tmp 5) (.tmp 13) rfl _ #[.slice va n vc,.int .u8 x1,.int .u8 x2,.int .u8 x3,.int .u8 x4,.int .u8 x5,.int .u8 x6,.int .u8 x7,.int .u8 x8,.int .u8 x9,.int .u8 x10,.int .u8 x11,.int .u8 x12,.int .u8 x13,.int .u8 x14,.int .u8 x15,.bool split,.slice (some ⟨wb,wo,none⟩) wn wk] rfl rfl Kr rfl HON.out ?_;go_simp;go_wp2_with fail;obtain⟨V1,hV1⟩:∃ V1,V1=w.alloc (.cells #[.slice va n vc,.int .u8 x1,.int .u8 x2,.int .u8 x3,.int .u8 x4,.int .u8 x5,.int .u8 x6,.int .u8 x7,.int .u8 x8,.int .u8 x9,.int .u8 x10,.int .u8 x11,.int .u8 x12,.int .u8 x13,.int .u8 x14,.int .u8 x15,.bool split,.slice (some ⟨wb,wo,none⟩) wn wk] 172):=⟨_,rfl⟩
 have X1:Hid (ZO V1 w.heap.size (.slice va n vc) split ⟨some ⟨wb,wo,none⟩,wn,wk⟩ s):=Za (by rw[hV1];show _=some (Obj.cells (ZY (.slice va n vc) s.q++_) _ _);rw[HA.out];exact heap_alloc_new _ _);have B1:Hid (Below w.heap.size w V1):=Za (by rw[hV1];exact(Below.refl _ _).alloc (Nat.le_refl _) _);simp only[← hV1];clear hV1 d1 d2 d3 d4 d5 d6 d7 d8 d9 d10 d11 d12 d13 d14 d15 HA;have HCL:=Za (YY (.slice (some ⟨wb,wo,none⟩) wn wk) us V1 (HUS.out.below B1.out) Om)
 (with_reducible refine HCL.out.mono ?_);rintro e w2 ⟨vw,rfl,how,hb2⟩
 obtain⟨cg,cc,rfl⟩:=XU how hune;have HOW:=Za how;have hcg:=World.ownsRow.lt how cg rfl;have hlN:w.heap.size < V1.heap.size:=X1.out.lt;have B2:=Za (B1.out.trans (hb2.mono B1.out.size));have X2:=Za (X1.out.below hb2);have hX2:=X2.out;have e17:=hX2.waits;have efz:=Z6 hX2;have el:=hX2.lt;clear hb2 HCL how hX2;have X3:Hid (ZO (w2.setCell ⟨w.heap.size,17,none⟩ (.slice (some ⟨cg,0,none⟩) us.length cc)) w.heap.size (.slice va n vc) split ⟨some ⟨cg,0,none⟩,us.length,cc⟩ s):=Za (heap_setCell_same w2 w.heap.size 17 _ _ (.slice (some ⟨cg,0,none⟩) us.length cc) X2.out);have B3:Hid (Below w.heap.size w (w2.setCell ⟨w.heap.size,17,none⟩ (.slice (some ⟨cg,0,none⟩) us.length cc))):=Za (B2.out.setCell (p:=⟨w.heap.size,17,none⟩) (Nat.le_refl _) _);have g0:=(B3.out.cell (p:=⟨b,0,none⟩) bl).trans c0;have bl2:b < w2.heap.size:=Nat.lt_of_lt_of_le bl B2.out.size;have HCG:=Za hcg;have HLN:=Za hlN
 clear hune d16 d17 c0 hul9 hlN hcg hsa;go_wp2_with fail;clear e17 efz el g0;obtain⟨W3,hW3⟩:∃ W,W=w2.setCell ⟨w.heap.size,17,none⟩ (.slice (some ⟨cg,0,none⟩) us.length cc):=⟨_,rfl⟩
 have hcgne:cg≠w.heap.size:=by have h1:=HCG.out.1;have h2:=HLN.out;omega
 have OW3:Hid (Own Zw 39 W3 V1.heap.size (.slice (some ⟨cg,0,none⟩) us.length cc) us):=Za (by
  rw[hW3];exact HOW.out.K5 fun q hq=>heap_setCell_other w2 ⟨w.heap.size,17,none⟩ q _ (show q≠w.heap.size by simp[Value.ownBlock]at hq;rw[← hq];exact hcgne))
 have HCN:=Za hcgne;clear hcgne;simp only[← hW3]at X3 B3 ⊢;clear hW3 HOW X2 B2 X1 B1 bl2
 (with_reducible refine(XT b t va n vc p s.q W3 (HP.out.below B3.out) (HV.out.below B3.out) HOK.out.q (by rw[HN.out];exact HPL.out) HPR.out (by rw[HN.out];exact HT.out)).mono ?_);rintro e w4 ⟨rfl,hb4⟩
 rw[HI.out];simp only[Fx];have bC:=(Below.refl w4.heap.size w4).alloc (Nat.le_refl _) (.cells #[.int .i64 1,.int .i64 (ln:Int),.int .i64 (rn:Int),.int .i64 val] 44);have X4:=Za (X3.out.below hb4);have B4:=Za (B3.out.trans (hb4.mono B3.out.size));have OW4:=Za (OW3.out.below hb4);have hl4:w.heap.size < w4.heap.size:=X4.out.lt;have X5:=Za (X4.out.below bC);have e1:(w4.alloc (.cells #[.int .i64 1,.int .i64 (ln:Int),.int .i64 (rn:Int),.int .i64 val] 44)).cell? ⟨w.heap.size,1+t,none⟩=some (.int .u8 (kn:Int)):=by have h:=(ZN.ZX X5.out).c1 t ht3;rw[HKD.out]at h;exact h
 have efz:=Z6 X5.out;have el:w.heap.size < w4.heap.size+1:=Om;have hwk:IntKind.u8.wrap ((kn:Int)+1)=(kn:Int)+1:=by rw[IntKind.wrap_u8];omega
 have HL4:=Za hl4;clear hb4 bC hl4 X3 B3 OW3
 go_upto_region 11 with fail
 obtain⟨V6,hV6⟩:∃ V6,V6=(w4.alloc (.cells #[.int .i64 1,.int .i64 (ln:Int),.int .i64 (rn:Int),.int .i64 val] 44)).setCell ⟨w.heap.size,1+t,none⟩ (.int .u8 ((kn:Int)+1)):=⟨_,rfl⟩
 have hX6:ZO V6 w.heap.size (.slice va n vc) split ⟨some ⟨cg,0,none⟩,us.length,cc⟩ ⟨⟨s.q.pc.set t ((kn:Int)+1),s.q.rg,s.q.mm⟩,s.bf⟩:=by
  rw[hV6];have h:=heap_setCell_same (w4.alloc (.cells #[.int .i64 1,.int .i64 (ln:Int),.int .i64 (rn:Int),.int .i64 val] 44)) w.heap.size (1+t) _ _ (Z2 ((kn:Int)+1)) X5.out;rw[YM _ s.q _ Om,XA _ s.q ht3 (by rw[HOK.out.q.lp,HN.out];exact HT.out)]at h;exact h
 have hC6:V6.heap[w4.heap.size]? = some (.cells #[.int .i64 1,.int .i64 (ln:Int),.int .i64 (rn:Int),.int .i64 val] 44 (0,0)):=by
  rw[hV6];exact(heap_setCell_other (w4.alloc (.cells #[.int .i64 1,.int .i64 (ln:Int),.int .i64 (rn:Int),.int .i64 val] 44)) ⟨w.heap.size,1+t,none⟩ w4.heap.size _ (show w4.heap.size≠w.heap.size by have:=HL4.out;omega)).trans (heap_alloc_new w4 _)
 have B6:Hid (Below w.heap.size w V6):=Za (by rw[hV6];exact(B4.out.alloc B4.out.size _).setCell (p:=⟨w.heap.size,1+t,none⟩) (Nat.le_refl _) _);have X6:=Za hX6;have C6:=Za hC6
 have OW6:Hid (Own Zw 39 V6 V1.heap.size (.slice (some ⟨cg,0,none⟩) us.length cc) us):=Za (by rw[hV6];exact(OW4.out.below ((Below.refl _ _).alloc (Nat.le_refl _) _)).Zy (T:=172) (j:=1+t) (u:=Z2 ((kn:Int)+1)) Dc X5.out);rw[← hV6];clear hV6 hX6 e1 efz el X5 B4;have g0:V6.cell? ⟨w4.heap.size,0,none⟩=some (.int .i64 1):=Zc hC6 (k:=0) rfl;have g1:V6.cell? ⟨w4.heap.size,1,none⟩=some (.int .i64 (ln:Int)):=Zc hC6 (k:=1) rfl;have g2:V6.cell? ⟨w4.heap.size,2,none⟩=some (.int .i64 (rn:Int)):=Zc hC6 (k:=2) rfl;have g3:V6.cell? ⟨w4.heap.size,3,none⟩=some (.int .i64 val):=Zc hC6 (k:=3) rfl;have gl:=Zb g0;clear hC6;go_wp2_with fail
 (with_reducible refine(XJ 1 (ln:Int) (rn:Int) val V6).mono ?_);rintro e w7 ⟨rfl,hb7⟩
 have X7:=Za (X6.out.below hb7);have OW7:=Za (OW6.out.below hb7);have C7:=Za ((hb7.block w4.heap.size gl).trans C6.out);have B7:=Za (B6.out.trans (hb7.mono B6.out.size));have k7_0:w7.cell? ⟨w4.heap.size,0,none⟩=some (.int .i64 1):=Zc C7.out (k:=0) rfl;have k7_1:w7.cell? ⟨w4.heap.size,1,none⟩=some (.int .i64 (ln:Int)):=Zc C7.out (k:=1) rfl;have k7_2:w7.cell? ⟨w4.heap.size,2,none⟩=some (.int .i64 (rn:Int)):=Zc C7.out (k:=2) rfl;have k7_3:w7.cell? ⟨w4.heap.size,3,none⟩=some (.int .i64 val):=Zc C7.out (k:=3) rfl;have k7_l:=Zb k7_0;clear hb7 g0 g1 g2 g3 gl X6 OW6 C6 B6;have nl7:w.heap.size < w7.heap.size:=X7.out.lt;have fz7:=Z6 X7.out;have mw7:=(ZN.ZX X7.out).c3 ln hl3;have hr:Z8 1=true:=Dc;simp only[hr]
 go_upto_region 12 with fail
 have hnt2:decide (n≤t)=false:=decide_eq_false Om
 try simp only[hnt2]
 clear hnt2;have HDS:=Za (CS HD.out);obtain⟨W1,hW1⟩:∃ W,W=w7.drew:=⟨_,rfl⟩
 have H1:Hid (Below W1.heap.size W1 w7.drew):=Za (by rw[hW1];exact Below.refl _ _);have X1:Hid (ZO W1 w.heap.size (.slice va n vc) split ⟨some ⟨cg,0,none⟩,us.length,cc⟩ ⟨⟨s.q.pc.set t ((kn:Int)+1),s.q.rg,s.q.mm⟩,s.bf⟩):=Za (by rw[hW1];exact X7.out);have OW1:Hid (Own Zw 39 W1 V1.heap.size (.slice (some ⟨cg,0,none⟩) us.length cc) us):=Za (by rw[hW1];exact OW7.out.below (Below.refl _ _).drew);have C1:Hid (W1.heap[w4.heap.size]? = some (.cells #[.int .i64 1,.int .i64 (ln:Int),.int .i64 (rn:Int),.int .i64 val] 44 (0,0))):=Za (by rw[hW1];exact C7.out);have B1:Hid (Below w.heap.size w W1):=Za (by rw[hW1];exact B7.out.drew);obtain⟨R,hR⟩:∃ R,R=Ys s t (ln:Int) split:=⟨_,rfl⟩
 have HRD2:Hid (∀ W,Below W1.heap.size W1 W→Calls Tryz.prog 235 #[.pointer (some ⟨b,0,none⟩),.int .i64 (t:Int),.int .i64 (ln:Int)] W fun e w'=>e = .returned (.int .u8 R)∧Below W.heap.size W w'):=Za fun W hW=>by
  have hbW:=B1.out.trans (hW.mono B1.out.size);rw[hR];exact KF b t ln (.slice va n vc) split ⟨some ⟨wb,wo,none⟩,wn,wk⟩ p s W (HX.out.below hbW) (HBW.out.below hbW) HOK.out (by rw[HN.out];exact HT.out) (by rw[HN.out];exact HPL.out) Om (fun r hr=>Nat.le_trans (HLEN.out r hr) Dc)
 rw[← hR]at HDS;have j1:W1.cell? ⟨w4.heap.size,1,none⟩=some (.int .i64 (ln:Int)):=Zc C1.out (k:=1) rfl;have j2:W1.cell? ⟨w4.heap.size,2,none⟩=some (.int .i64 (rn:Int)):=Zc C1.out (k:=2) rfl;have jl:=Zb j1;clear k7_0 k7_1 k7_2 k7_3 k7_l fz7 nl7 mw7 hW1 hR hr X7 OW7 C7 B7
 -- ZQ rd1
 refine Zl (n:=12) Kr rfl Kr Kr (fun A ls a' W => ∃ (x84 x85 x86 x87 x88 x89 x90 x91 x92 x93 x94 x95:Value),a'=Zk A [(84,x84),(85,x85),(86,x86),(87,x87),(88,x88),(89,x89),(90,x90),(91,x91),(92,x92),(93,x93),(94,x94),(95,x95)]∧Vd ls 0 [] x84 (.int .i64 (t:Int))∧Vd ls 1 [] x85 (.pointer (some ⟨w4.heap.size,2,none⟩))∧Vd ls 2 [] x86 (.int .i64 (rn:Int))∧Vd ls 3 [] x87 (.pointer (some ⟨b,0,none⟩))∧Vd ls 4 [] x88 (.int .i64 (t:Int))∧Vd ls 5 [] x89 (.pointer (some ⟨w4.heap.size,1,none⟩))∧Vd ls 6 [] x90 (.int .i64 (ln:Int))∧Vd ls 7 [] x91 (.int .u8 R)∧Vd ls 8 [] x92 (.pointer (some ⟨w.heap.size,0,none⟩))∧Vd ls 9 [] x93 (.pointer (some ⟨w.heap.size,4,none⟩))∧Vd ls 10 [] x94 (.pointer (some ⟨w.heap.size,4+t * 3,none⟩))∧Vd ls 11 [] x95 (.pointer (some ⟨w.heap.size,4+t * 3+rn,none⟩))∧Below W1.heap.size W1 W) ?r0 ?rs ?re
 case r0 =>
  exact⟨undef,undef,undef,undef,undef,undef,undef,undef,undef,undef,undef,undef,pA,Vs,Vs,Vs,Vs,Vs,Vs,Vs,Vs,Vs,Vs,Vs,Vs,by exact H1.out⟩
 case rs =>
  rintro ls a' W hs hnl ⟨x84,x85,x86,x87,x88,x89,x90,x91,x92,x93,x94,x95,ha,cv0,cv1,cv2,cv3,cv4,cv5,cv6,cv7,cv8,cv9,cv10,cv11,hJ⟩ k o hkn mc K hK;simp only[Zk,Act.put,List.setIfInBounds_toArray,List.set_cons_succ,List.set_cons_zero]at ha;subst ha;have hkc:k=0∨k=1∨k=2∨k=3∨k=4∨k=5∨k=6∨k=7∨k=8∨k=9∨k=10∨k=11:=Om;have hop:=mc.op;have haf:=mc.after;rcases hkc with rfl | rfl | rfl | rfl | rfl | rfl | rfl | rfl | rfl | rfl | rfl | rfl
  ·simp at hop;subst hop;simp[Region.binds]at haf
   go_simp;exact hK _ _ ⟨_,_,_,_,_,_,_,_,_,_,_,_,pA,Ve,cv1.s,cv2.s,cv3.s,cv4.s,cv5.s,cv6.s,cv7.s,cv8.s,cv9.s,cv10.s,cv11.s,by exact hJ⟩
  ·simp at hop;subst hop;simp[Region.binds]at haf
   go_simp;exact hK _ _ ⟨_,_,_,_,_,_,_,_,_,_,_,_,pA,cv0.s,Ve,cv2.s,cv3.s,cv4.s,cv5.s,cv6.s,cv7.s,cv8.s,cv9.s,cv10.s,cv11.s,by exact hJ⟩
  ·simp at hop;subst hop;simp[Region.binds]at haf
   obtain rfl:=(cv1.get (by simp[haf])).symm;have BB:=hJ;have e2:W.cell? ⟨w4.heap.size,2,none⟩=some (.int .i64 (rn:Int)):=(BB.cell (p:=⟨w4.heap.size,2,none⟩) jl).trans j2;have el:=Zb e2;go_simp;exact hK _ _ ⟨_,_,_,_,_,_,_,_,_,_,_,_,pA,cv0.s,cv1.s,Ve,cv3.s,cv4.s,cv5.s,cv6.s,cv7.s,cv8.s,cv9.s,cv10.s,cv11.s,by exact hJ⟩
  ·simp at hop;subst hop;simp[Region.binds]at haf
   go_simp;exact hK _ _ ⟨_,_,_,_,_,_,_,_,_,_,_,_,pA,cv0.s,cv1.s,cv2.s,Ve,cv4.s,cv5.s,cv6.s,cv7.s,cv8.s,cv9.s,cv10.s,cv11.s,by exact hJ⟩
  ·simp at hop;subst hop;simp[Region.binds]at haf
   go_simp;exact hK _ _ ⟨_,_,_,_,_,_,_,_,_,_,_,_,pA,cv0.s,cv1.s,cv2.s,cv3.s,Ve,cv5.s,cv6.s,cv7.s,cv8.s,cv9.s,cv10.s,cv11.s,by exact hJ⟩
  ·simp at hop;subst hop;simp[Region.binds]at haf
   go_simp;exact hK _ _ ⟨_,_,_,_,_,_,_,_,_,_,_,_,pA,cv0.s,cv1.s,cv2.s,cv3.s,cv4.s,Ve,cv6.s,cv7.s,cv8.s,cv9.s,cv10.s,cv11.s,by exact hJ⟩
  ·simp at hop;subst hop;simp[Region.binds]at haf
   obtain rfl:=(cv5.get (by simp[haf])).symm;have BB:=hJ;have e1:W.cell? ⟨w4.heap.size,1,none⟩=some (.int .i64 (ln:Int)):=(BB.cell (p:=⟨w4.heap.size,1,none⟩) jl).trans j1;have el:=Zb e1;go_simp;exact hK _ _ ⟨_,_,_,_,_,_,_,_,_,_,_,_,pA,cv0.s,cv1.s,cv2.s,cv3.s,cv4.s,cv5.s,Ve,cv7.s,cv8.s,cv9.s,cv10.s,cv11.s,by exact hJ⟩
  ·simp at hop;subst hop;simp[Region.binds]at haf
   obtain rfl:=(cv3.get (by simp[haf])).symm;obtain rfl:=(cv4.get (by simp[haf])).symm;obtain rfl:=(cv6.get (by simp[haf])).symm;go_simp;go_at_call 235
   (with_reducible refine(HRD2.out W hJ).mono ?_);rintro e u ⟨rfl,hb⟩
   exact hK _ _ ⟨_,_,_,_,_,_,_,_,_,_,_,_,pA,cv0.s,cv1.s,cv2.s,cv3.s,cv4.s,cv5.s,cv6.s,Ve,cv8.s,cv9.s,cv10.s,cv11.s,by exact hJ.trans (hb.mono hJ.size)⟩
  ·simp at hop;subst hop;simp[Region.binds]at haf
   go_simp;exact hK _ _ ⟨_,_,_,_,_,_,_,_,_,_,_,_,pA,cv0.s,cv1.s,cv2.s,cv3.s,cv4.s,cv5.s,cv6.s,cv7.s,Ve,cv9.s,cv10.s,cv11.s,by exact hJ⟩
  ·simp at hop;subst hop;simp[Region.binds]at haf
   obtain rfl:=(cv8.get (by simp[haf])).symm;go_simp;exact hK _ _ ⟨_,_,_,_,_,_,_,_,_,_,_,_,pA,cv0.s,cv1.s,cv2.s,cv3.s,cv4.s,cv5.s,cv6.s,cv7.s,cv8.s,Ve,cv10.s,cv11.s,by exact hJ⟩
  ·simp at hop;subst hop;simp[Region.binds]at haf
   obtain rfl:=(cv9.get (by simp[haf])).symm;obtain rfl:=(cv0.get (by simp[haf])).symm;go_simp;exact hK _ _ ⟨_,_,_,_,_,_,_,_,_,_,_,_,pA,cv0.s,cv1.s,cv2.s,cv3.s,cv4.s,cv5.s,cv6.s,cv7.s,cv8.s,cv9.s,Ve,cv11.s,by exact hJ⟩
  ·simp at hop;subst hop;simp[Region.binds]at haf
   obtain rfl:=(cv10.get (by simp[haf])).symm;obtain rfl:=(cv2.get (by simp[haf])).symm;go_simp;exact hK _ _ ⟨_,_,_,_,_,_,_,_,_,_,_,_,pA,cv0.s,cv1.s,cv2.s,cv3.s,cv4.s,cv5.s,cv6.s,cv7.s,cv8.s,cv9.s,cv10.s,Ve,by exact hJ⟩
 case re =>
  rintro ls a' W hall ⟨x84,x85,x86,x87,x88,x89,x90,x91,x92,x93,x94,x95,ha,cv0,cv1,cv2,cv3,cv4,cv5,cv6,cv7,cv8,cv9,cv10,cv11,hJ⟩ o hop;simp only[Zk,Act.put,List.setIfInBounds_toArray,List.set_cons_succ,List.set_cons_zero]at ha;subst ha;simp at hop;subst hop;obtain rfl:=cv0.ga hall;obtain rfl:=cv1.ga hall;obtain rfl:=cv2.ga hall;obtain rfl:=cv3.ga hall;obtain rfl:=cv4.ga hall;obtain rfl:=cv5.ga hall;obtain rfl:=cv6.ga hall;obtain rfl:=cv7.ga hall;obtain rfl:=cv8.ga hall;obtain rfl:=cv9.ga hall;obtain rfl:=cv10.ga hall;obtain rfl:=cv11.ga hall;have hbx:=X1.out.below hJ;have c2:=(ZN.ZX hbx).c2 t ht3 rn hr3;have cl:=Zb c2;have cfz:=Z6 hbx;go_simp;have h6:=heap_setCell_same W w.heap.size (4+t * 3+rn) _ _ (Z2 R) hbx;rw[YM _ _ _ Om,KX _ _ ht3 hr3 (by show t * 3+rn < s.q.rg.length;rw[HOK.out.q.lr,HN.out];have:=HT.out;omega)]at h6;have CW:=(hJ.block w4.heap.size jl).trans C1.out;obtain⟨V8,hV8⟩:∃ V,V=W.setCell ⟨w.heap.size,4+t * 3+rn,none⟩ (.int .u8 R):=⟨_,rfl⟩
  have X8:Hid (ZO V8 w.heap.size (.slice va n vc) split ⟨some ⟨cg,0,none⟩,us.length,cc⟩ ⟨⟨s.q.pc.set t ((kn:Int)+1),s.q.rg.set (t * 3+rn) R,s.q.mm⟩,s.bf⟩):=Za (by rw[hV8];exact h6);have OW8:Hid (Own Zw 39 V8 V1.heap.size (.slice (some ⟨cg,0,none⟩) us.length cc) us):=Za (by rw[hV8];exact(OW1.out.below hJ).Zy (T:=172) Dc hbx);have C8:Hid (V8.heap[w4.heap.size]? = some (.cells #[.int .i64 1,.int .i64 (ln:Int),.int .i64 (rn:Int),.int .i64 val] 44 (0,0))):=Za (by rw[hV8];exact(heap_setCell_other W ⟨w.heap.size,4+t * 3+rn,none⟩ w4.heap.size _ (show w4.heap.size≠w.heap.size by have:=HL4.out;omega)).trans CW);have B8:Hid (Below w.heap.size w V8):=Za (by rw[hV8];exact(B1.out.trans (hJ.mono B1.out.size)).setCell (p:=⟨w.heap.size,4+t * 3+rn,none⟩) (Nat.le_refl _) _);rw[← hV8];clear hV8 h6 CW hbx c2 cl cfz hJ j1 j2 jl X1 OW1 C1 B1;have k8_0:V8.cell? ⟨w4.heap.size,0,none⟩=some (.int .i64 1):=Zc C8.out (k:=0) rfl;have k8_1:V8.cell? ⟨w4.heap.size,1,none⟩=some (.int .i64 (ln:Int)):=Zc C8.out (k:=1) rfl;have k8_3:V8.cell? ⟨w4.heap.size,3,none⟩=some (.int .i64 val):=Zc C8.out (k:=3) rfl;have k8_l:=Zb k8_0;have nl8:=X8.out.lt;have fz8:=Z6 X8.out
  have mw8:=(ZN.ZX X8.out).c3 ln hl3;go_wp2_with fail;have FX:Hid (ZO V8 w.heap.size (.slice va n vc) split ⟨some ⟨cg,0,none⟩,us.length,cc⟩ s'):=Za (by rw[HDS.out];exact X8.out);go_ret;exact⟨w.heap.size,⟨some ⟨cg,0,none⟩,us.length,cc⟩,rfl,FX.out,Nat.le_refl _,B8.out,.inl ⟨by rw[HDS.out],OW8.out.mono (Nat.le_of_lt HLN.out)⟩⟩
 -- end rd1
set_option linter.unusedSimpArgs false in
theorem VD (b t:Nat) (vp:Value) (split:Bool) (wv:Zt) (us:List Zt) (p:List (List Ins)) (s s':Bf) (i:Ins) (w:World) (hp:Z5 w vp p) (hx:ZO w b vp split wv s) (hus:Z7 Zw w wv.v us) (hul:us.length=s.bf.length)
 (hrows:∀ (k:Nat) (u:Zt) (r:List (Int × Int)),us[k]? = some u→s.bf[k]? = some r→Z7 Zr w u.v (Z1 r)) (hok:ZE p split s) (hlen:∀ r∈s.bf,r.length≤42) (hpl:p.length≤3) (hpr:∀ r∈p,r.length≤7) (ht:t < p.length) (hi:YV p s.q t=some i) (hv:Zg i=true) (hop:i.op=4) (hd:YR s split t (s.q.pc.getD t 0) i=some s') :
 Calls Tryz.prog 230 #[.pointer (some ⟨b,0,none⟩),.int .i64 (t:Int)] w (UO w vp split s s' us):=by
 obtain⟨va,vc,rfl,hc1,hc2,hc3,hp⟩:=hp.open;obtain⟨wa,wn,wk⟩:=wv;obtain⟨op,loc,ZQ,val⟩:=i;simp only at hop;subst hop;obtain⟨⟨l0,l2⟩,⟨r0,r2⟩,v0,v3⟩:=XS hv;simp only at l0 l2 r0 r2 v0 v3;obtain⟨ln,rfl⟩:∃ ln:Nat,loc=ln:=⟨loc.toNat,Om⟩
 obtain⟨rn,rfl⟩:∃ rn:Nat,ZQ=rn:=⟨ZQ.toNat,Om⟩
 obtain⟨r,hr⟩:=Zd (xs:=p) (k:=t) ht;obtain⟨k,hk⟩:=Zd (xs:=s.q.pc) (k:=t) (by rw[hok.q.lp];exact ht);have hkr:=hok.q.pc t k r hk hr;have hrl:=hpr r (List.mem_of_getElem? hr);obtain⟨kn,rfl⟩:∃ kn:Nat,k=kn:=⟨k.toNat,Om⟩
 have hkd:s.q.pc.getD t 0=(kn:Int):=by rw[List.getD_eq_getElem?_getD,hk];rfl
 have hk7:kn≤7:=Om;have hlb9:s.bf.length≤9:=by
  rw[hok.lb];have:Yj split≤3:=by cases split <;> simp[Yj]
  have:=Nat.mul_le_mul hpl this;omega
 have hlb1:0 < s.bf.length:=by rw[hok.lb];exact Nat.mul_pos Om (by cases split <;> simp[Yj])
 have HP:=Za hp;have HOK:=Za hok;have HPR:=Za hpr;have HKD:=Za hkd;have HI:=Za hi;have HT:=Za ht;have HPL:=Za hpl
 have HLEN:=Za hlen;have HBW:Hid (Vr w ⟨wa,wn,wk⟩ s):=Za ⟨us,by rw[List.length_map];exact hul,hus,fun k u r hu hr=>by
  rw[List.getElem?_map]at hr;obtain⟨r0,h,rfl⟩:=Option.map_eq_some_iff.1 hr;exact hrows k u r0 hu h⟩
 have HVR:=Za (fun ho:ZF 4=true=>Xo (t:=t) hok.q.rg hv ho);rw[hkd]at hd;have HD:=Za hd;have hqs:Zj t (ln:Int) split < s.bf.length:=by rw[hok.lb];exact Xi ht Om
 obtain⟨row,hrow⟩:=Zd (xs:=s.bf) (k:=Zj t (ln:Int) split) hqs;obtain⟨⟨ra,sn,sk⟩,hu⟩:=Zd (xs:=us) (k:=Zj t (ln:Int) split) Om;have HUR:=Za (hrows _ _ _ hu hrow);have HRL:=Za (hlen row (List.mem_of_getElem? hrow));have HRD:=Za (show s.bf.getD (Zj t (ln:Int) split) []=row by rw[List.getD_eq_getElem?_getD,hrow];rfl);obtain⟨wb,wo,hwa,hwl,q0⟩:=Z7.Hf (show Z7 Zw w (.slice wa wn wk) us from hus) hu;subst hwa;obtain⟨q,hq⟩:∃ q,q=Zj t (ln:Int) split:=⟨_,rfl⟩
 rw[← hq]at HRD hu q0 hqs;have HQ:=Za hq;have HU:=Za hu;have HQ0:=Za q0;have HQS:=Za hqs;have HWL:=Za hwl
 clear hlen hd hq hu q0 hqs hwl hrow hrows;have htl:(t:Int) < 3:=Om;have hrn3:(rn:Int) < 3:=Om;have hln3:(ln:Int) < 3:=Om;have ht3:t < 3:=Om;have hl3:ln < 3:=Om;have hr3:rn < 3:=Om;have HUS:=Za hus;have HWN:Hid (wn=us.length):=Za (by obtain⟨_,_,hv1,-⟩:=hus.open;simp only[Zt.v,Value.slice.injEq]at hv1;exact hv1.2.1);have HV:=Za (ZN.ZX hx);have HX:=Za hx;have c0:=HV.out.c0;have bl:=HV.out.lt;have d16:=hx.split;have d17:=hx.waits;obtain⟨d1,d2,d3,d4,d5,d6,d7,d8,d9,d10,d11,d12,d13,d14,d15⟩:=HV.out.BZ;have hsa:=@ZJ;have HUL:=Za hul;have HLB:=Za hlb9
 have hul9:us.length≤9:=Om;have hune:us≠[]:=fun e=>by rw[e]at hul;simp at hul;omega
 have hnt:¬ ((p.length:Int)≤(t:Int)):=Om;clear hp hx hus hul hlb9 hok hpr hkd hi hr hk hkr hrl hv;generalize hn:p.length=n at *;have HN:=Za hn;clear hn;obtain⟨x1,hx1⟩:∃ x,x=s.q.pc.getD 0 0:=⟨_,rfl⟩
 obtain⟨x2,hx2⟩:∃ x,x=s.q.pc.getD 1 0:=⟨_,rfl⟩
 obtain⟨x3,hx3⟩:∃ x,x=s.q.pc.getD 2 0:=⟨_,rfl⟩
 obtain⟨x4,hx4⟩:∃ x,x=s.q.rg.getD 0 0:=⟨_,rfl⟩
 obtain⟨x5,hx5⟩:∃ x,x=s.q.rg.getD 1 0:=⟨_,rfl⟩
 obtain⟨x6,hx6⟩:∃ x,x=s.q.rg.getD 2 0:=⟨_,rfl⟩
 obtain⟨x7,hx7⟩:∃ x,x=s.q.rg.getD 3 0:=⟨_,rfl⟩
 obtain⟨x8,hx8⟩:∃ x,x=s.q.rg.getD 4 0:=⟨_,rfl⟩
 obtain⟨x9,hx9⟩:∃ x,x=s.q.rg.getD 5 0:=⟨_,rfl⟩
 obtain⟨x10,hx10⟩:∃ x,x=s.q.rg.getD 6 0:=⟨_,rfl⟩
 obtain⟨x11,hx11⟩:∃ x,x=s.q.rg.getD 7 0:=⟨_,rfl⟩
 obtain⟨x12,hx12⟩:∃ x,x=s.q.rg.getD 8 0:=⟨_,rfl⟩
 obtain⟨x13,hx13⟩:∃ x,x=s.q.mm.getD 0 0:=⟨_,rfl⟩
 obtain⟨x14,hx14⟩:∃ x,x=s.q.mm.getD 1 0:=⟨_,rfl⟩
 obtain⟨x15,hx15⟩:∃ x,x=s.q.mm.getD 2 0:=⟨_,rfl⟩
 have HA:Hid (ZY (.slice va n vc) s.q ++ #[.bool split,.slice (some ⟨wb,wo,none⟩) wn wk] = #[.slice va n vc,.int .u8 x1,.int .u8 x2,.int .u8 x3,.int .u8 x4,.int .u8 x5,.int .u8 x6,.int .u8 x7,.int .u8 x8,.int .u8 x9,.int .u8 x10,.int .u8 x11,.int .u8 x12,.int .u8 x13,.int .u8 x14,.int .u8 x15,.bool split,.slice (some ⟨wb,wo,none⟩) wn wk]):=Za (by rw[hx1,hx2,hx3,hx4,hx5,hx6,hx7,hx8,hx9,hx10,hx11,hx12,hx13,hx14,hx15];rfl);rw[← hx1]at d1;rw[← hx2]at d2;rw[← hx3]at d3;rw[← hx4]at d4;rw[← hx5]at d5;rw[← hx6]at d6;rw[← hx7]at d7;rw[← hx8]at d8;rw[← hx9]at d9;rw[← hx10]at d10;rw[← hx11]at d11;rw[← hx12]at d12;rw[← hx13]at d13;rw[← hx14]at d14;rw[← hx15]at d15;clear hx1 hx2 hx3 hx4 hx5 hx6 hx7 hx8 hx9 hx10 hx11 hx12 hx13 hx14 hx15;have HLD:Hid (w.rangeAt b 0 [.slice va n vc,.int .u8 x1,.int .u8 x2,.int .u8 x3,.int .u8 x4,.int .u8 x5,.int .u8 x6,.int .u8 x7,.int .u8 x8,.int .u8 x9,.int .u8 x10,.int .u8 x11,.int .u8 x12,.int .u8 x13,.int .u8 x14,.int .u8 x15,.bool split,.slice (some ⟨wb,wo,none⟩) wn wk]):=Za (by
  intro j v hj;have h:w.heap[b]? = some (.cells #[.slice va n vc,.int .u8 x1,.int .u8 x2,.int .u8 x3,.int .u8 x4,.int .u8 x5,.int .u8 x6,.int .u8 x7,.int .u8 x8,.int .u8 x9,.int .u8 x10,.int .u8 x11,.int .u8 x12,.int .u8 x13,.int .u8 x14,.int .u8 x15,.bool split,.slice (some ⟨wb,wo,none⟩) wn wk] 172 (0,0)):=by rw[← HA.out];exact HX.out
  rw[Nat.zero_add];exact Zc h (by simpa using hj))
 have HON:Hid ((#[.slice va n vc,.int .u8 x1,.int .u8 x2,.int .u8 x3,.int .u8 x4,.int .u8 x5,.int .u8 x6,.int .u8 x7,.int .u8 x8,.int .u8 x9,.int .u8 x10,.int .u8 x11,.int .u8 x12,.int .u8 x13,.int .u8 x14,.int .u8 x15,.bool split,.slice (some ⟨wb,wo,none⟩) wn wk]:Array Value).all (fun v=>v.oneCell')=true):=Za (by simp[Value.oneCell']);obtain⟨dB,hUB,hRB⟩:=Jq;have HUB:=Za hUB;have HRB:=Za hRB
 clear hUB hRB;go_enter Tryz.func230,Tryz.ntmps230
 iterate 23 (first | (refine wp_load_mid 172 (.tmp 12) rfl b 0 rfl [.slice va n vc,.int .u8 x1,.int .u8 x2,.int .u8 x3,.int .u8 x4,.int .u8 x5,.int .u8 x6,.int .u8 x7,.int .u8 x8,.int .u8 x9,.int .u8 x10,.int .u8 x11,.int .u8 x12,.int .u8 x13,.int .u8 x14,.int .u8 x15,.bool split,.slice (some ⟨wb,wo,none⟩) wn wk] dB HLD.out HUB.out HRB.out Kr ?_;go_simp) | go_values | go_skip | go_guarded | go_step | go_upon)
 refine YO 172 (.tmp 5) (.tmp 13) rfl _ #[.slice va n vc,.int .u8 x1,.int .u8 x2,.int .u8 x3,.int .u8 x4,.int .u8 x5,.int .u8 x6,.int .u8 x7,.int .u8 x8,.int .u8 x9,.int .u8 x10,.int .u8 x11,.int .u8 x12,.int .u8 x13,.int .u8 x14,.int .u8 x15,.bool split,.slice (some ⟨wb,wo,none⟩) wn wk] rfl rfl Kr rfl HON.out ?_;go_simp;go_wp2_with fail;obtain⟨V1,hV1⟩:∃ V1,V1=w.alloc (.cells #[.slice va n vc,.int .u8 x1,.int .u8 x2,.int .u8 x3,.int .u8 x4,.int .u8 x5,.int .u8 x6,.int .u8 x7,.int .u8 x8,.int .u8 x9,.int .u8 x10,.int .u8 x11,.int .u8 x12,.int .u8 x13,.int .u8 x14,.int .u8 x15,.bool split,.slice (some ⟨wb,wo,none⟩) wn wk] 172):=⟨_,rfl⟩
 have X1:Hid (ZO V1 w.heap.size (.slice va n vc) split ⟨some ⟨wb,wo,none⟩,wn,wk⟩ s):=Za (by rw[hV1];show _=some (Obj.cells (ZY (.slice va n vc) s.q++_) _ _);rw[HA.out];exact heap_alloc_new _ _);have B1:Hid (Below w.heap.size w V1):=Za (by rw[hV1];exact(Below.refl _ _).alloc (Nat.le_refl _) _);simp only[← hV1];clear hV1 d1 d2 d3 d4 d5 d6 d7 d8 d9 d10 d11 d12 d13 d14 d15 HA;have HCL:=Za (YY (.slice (some ⟨wb,wo,none⟩) wn wk) us V1 (HUS.out.below B1.out) Om)
 (with_reducible refine HCL.out.mono ?_);rintro e w2 ⟨vw,rfl,how,hb2⟩
 obtain⟨cg,cc,rfl⟩:=XU how hune;have HOW:=Za how;have hcg:=World.ownsRow.lt how cg rfl;have hlN:w.heap.size < V1.heap.size:=X1.out.lt;have B2:=Za (B1.out.trans (hb2.mono B1.out.size));have X2:=Za (X1.out.below hb2);have hX2:=X2.out;have e17:=hX2.waits;have efz:=Z6 hX2;have el:=hX2.lt;clear hb2 HCL how hX2;have X3:Hid (ZO (w2.setCell ⟨w.heap.size,17,none⟩ (.slice (some ⟨cg,0,none⟩) us.length cc)) w.heap.size (.slice va n vc) split ⟨some ⟨cg,0,none⟩,us.length,cc⟩ s):=Za (heap_setCell_same w2 w.heap.size 17 _ _ (.slice (some ⟨cg,0,none⟩) us.length cc) X2.out);have B3:Hid (Below w.heap.size w (w2.setCell ⟨w.heap.size,17,none⟩ (.slice (some ⟨cg,0,none⟩) us.length cc))):=Za (B2.out.setCell (p:=⟨w.heap.size,17,none⟩) (Nat.le_refl _) _);have g0:=(B3.out.cell (p:=⟨b,0,none⟩) bl).trans c0;have bl2:b < w2.heap.size:=Nat.lt_of_lt_of_le bl B2.out.size;have HCG:=Za hcg;have HLN:=Za hlN
 clear hune d16 d17 c0 hul9 hlN hcg hsa;go_wp2_with fail;clear e17 efz el g0;obtain⟨W3,hW3⟩:∃ W,W=w2.setCell ⟨w.heap.size,17,none⟩ (.slice (some ⟨cg,0,none⟩) us.length cc):=⟨_,rfl⟩
 have hcgne:cg≠w.heap.size:=by have h1:=HCG.out.1;have h2:=HLN.out;omega
 have OW3:Hid (Own Zw 39 W3 V1.heap.size (.slice (some ⟨cg,0,none⟩) us.length cc) us):=Za (by
  rw[hW3];exact HOW.out.K5 fun q hq=>heap_setCell_other w2 ⟨w.heap.size,17,none⟩ q _ (show q≠w.heap.size by simp[Value.ownBlock]at hq;rw[← hq];exact hcgne))
 have HCN:=Za hcgne;clear hcgne;simp only[← hW3]at X3 B3 ⊢;clear hW3 HOW X2 B2 X1 B1 bl2
 (with_reducible refine(XT b t va n vc p s.q W3 (HP.out.below B3.out) (HV.out.below B3.out) HOK.out.q (by rw[HN.out];exact HPL.out) HPR.out (by rw[HN.out];exact HT.out)).mono ?_);rintro e w4 ⟨rfl,hb4⟩
 rw[HI.out];simp only[Fx];have bC:=(Below.refl w4.heap.size w4).alloc (Nat.le_refl _) (.cells #[.int .i64 4,.int .i64 (ln:Int),.int .i64 (rn:Int),.int .i64 val] 44);have X4:=Za (X3.out.below hb4);have B4:=Za (B3.out.trans (hb4.mono B3.out.size));have OW4:=Za (OW3.out.below hb4);have hl4:w.heap.size < w4.heap.size:=X4.out.lt;have X5:=Za (X4.out.below bC);have e1:(w4.alloc (.cells #[.int .i64 4,.int .i64 (ln:Int),.int .i64 (rn:Int),.int .i64 val] 44)).cell? ⟨w.heap.size,1+t,none⟩=some (.int .u8 (kn:Int)):=by have h:=(ZN.ZX X5.out).c1 t ht3;rw[HKD.out]at h;exact h
 have efz:=Z6 X5.out;have el:w.heap.size < w4.heap.size+1:=Om;have hwk:IntKind.u8.wrap ((kn:Int)+1)=(kn:Int)+1:=by rw[IntKind.wrap_u8];omega
 have HL4:=Za hl4;clear hb4 bC hl4 X3 B3 OW3
 go_upto_region 11 with fail
 obtain⟨V6,hV6⟩:∃ V6,V6=(w4.alloc (.cells #[.int .i64 4,.int .i64 (ln:Int),.int .i64 (rn:Int),.int .i64 val] 44)).setCell ⟨w.heap.size,1+t,none⟩ (.int .u8 ((kn:Int)+1)):=⟨_,rfl⟩
 have hX6:ZO V6 w.heap.size (.slice va n vc) split ⟨some ⟨cg,0,none⟩,us.length,cc⟩ ⟨⟨s.q.pc.set t ((kn:Int)+1),s.q.rg,s.q.mm⟩,s.bf⟩:=by
  rw[hV6];have h:=heap_setCell_same (w4.alloc (.cells #[.int .i64 4,.int .i64 (ln:Int),.int .i64 (rn:Int),.int .i64 val] 44)) w.heap.size (1+t) _ _ (Z2 ((kn:Int)+1)) X5.out;rw[YM _ s.q _ Om,XA _ s.q ht3 (by rw[HOK.out.q.lp,HN.out];exact HT.out)]at h;exact h
 have hC6:V6.heap[w4.heap.size]? = some (.cells #[.int .i64 4,.int .i64 (ln:Int),.int .i64 (rn:Int),.int .i64 val] 44 (0,0)):=by
  rw[hV6];exact(heap_setCell_other (w4.alloc (.cells #[.int .i64 4,.int .i64 (ln:Int),.int .i64 (rn:Int),.int .i64 val] 44)) ⟨w.heap.size,1+t,none⟩ w4.heap.size _ (show w4.heap.size≠w.heap.size by have:=HL4.out;omega)).trans (heap_alloc_new w4 _)
 have B6:Hid (Below w.heap.size w V6):=Za (by rw[hV6];exact(B4.out.alloc B4.out.size _).setCell (p:=⟨w.heap.size,1+t,none⟩) (Nat.le_refl _) _);have X6:=Za hX6;have C6:=Za hC6
 have OW6:Hid (Own Zw 39 V6 V1.heap.size (.slice (some ⟨cg,0,none⟩) us.length cc) us):=Za (by rw[hV6];exact(OW4.out.below ((Below.refl _ _).alloc (Nat.le_refl _) _)).Zy (T:=172) (j:=1+t) (u:=Z2 ((kn:Int)+1)) Dc X5.out);rw[← hV6];clear hV6 hX6 e1 efz el X5 B4;have g0:V6.cell? ⟨w4.heap.size,0,none⟩=some (.int .i64 4):=Zc hC6 (k:=0) rfl;have g1:V6.cell? ⟨w4.heap.size,1,none⟩=some (.int .i64 (ln:Int)):=Zc hC6 (k:=1) rfl;have g2:V6.cell? ⟨w4.heap.size,2,none⟩=some (.int .i64 (rn:Int)):=Zc hC6 (k:=2) rfl;have g3:V6.cell? ⟨w4.heap.size,3,none⟩=some (.int .i64 val):=Zc hC6 (k:=3) rfl;have gl:=Zb g0;clear hC6;go_wp2_with fail
 (with_reducible refine(XJ 4 (ln:Int) (rn:Int) val V6).mono ?_);rintro e w7 ⟨rfl,hb7⟩
 have X7:=Za (X6.out.below hb7);have OW7:=Za (OW6.out.below hb7);have C7:=Za ((hb7.block w4.heap.size gl).trans C6.out);have B7:=Za (B6.out.trans (hb7.mono B6.out.size));have k7_0:w7.cell? ⟨w4.heap.size,0,none⟩=some (.int .i64 4):=Zc C7.out (k:=0) rfl;have k7_1:w7.cell? ⟨w4.heap.size,1,none⟩=some (.int .i64 (ln:Int)):=Zc C7.out (k:=1) rfl;have k7_2:w7.cell? ⟨w4.heap.size,2,none⟩=some (.int .i64 (rn:Int)):=Zc C7.out (k:=2) rfl;have k7_3:w7.cell? ⟨w4.heap.size,3,none⟩=some (.int .i64 val):=Zc C7.out (k:=3) rfl;have k7_l:=Zb k7_0;clear hb7 g0 g1 g2 g3 gl X6 OW6 C6 B6;have nl7:w.heap.size < w7.heap.size:=X7.out.lt;have fz7:=Z6 X7.out;have mw7:=(ZN.ZX X7.out).c3 ln hl3;have hr:Z8 4=false:=Dc;simp only[hr];go_wp2_with fail;have HDS:=Za (Bp HD.out);have FX:Hid (ZO w7 w.heap.size (.slice va n vc) split ⟨some ⟨cg,0,none⟩,us.length,cc⟩ s'):=Za (by rw[HDS.out];exact X7.out);go_ret;exact⟨w.heap.size,⟨some ⟨cg,0,none⟩,us.length,cc⟩,rfl,FX.out,Nat.le_refl _,B7.out,.inl ⟨by rw[HDS.out],OW7.out.mono (Nat.le_of_lt HLN.out)⟩⟩
end Go.Proofs.YtngekjpklkjnbaaGreat
/-
  A state with store buffers after a thread's move: a swap. Condition: a state as it can be, a valid instruction.
-/
import Derived.Test.YtlddmagfbcomgaaZr15
import Derived.Test.YtlddmagfbcomgaaZr02
import Derived.Test.YtlddmagfbcomgaaZr11
import Derived.Deep.Cut
set_option maxHeartbeats 6400000
set_option maxRecDepth 100000
namespace Go.Proofs.Ytlddmagfbcomgaa
open Go.RowKit Go.Shelf
attribute [local go_sem] Oper.semAt_some
theorem heap_keptJ {W W':World} {row:Option Nat} {b:Nat} {cur:Array Value} {T:TypeId} {fr:Nat × Nat} (h:W.heap[b]? = some (.cells cur T fr)) (hg:W.grownBy W' row) (hr:∀ r,row=some r→∃ o:Obj,W.heap[r]? = some o∧o.isCells=false):W'.heap[b]? = some (.cells cur T fr):=by
 rw [hg.block b (Array.getElem?_eq_some_iff.1 h).1 (fun e => ?_),h]
 obtain ⟨o,h1,h2⟩:=hr b e.symm
 rw [h] at h1
 simp at h1;subst h1
 cases h2
structure RdM (w:World) (loc:Nat) (v:Value) (W:World):Prop where
 h5:W.heap[w.heap.size]? = some (.cells #[.int .i64 (loc:Int)] 3 (0,0))
 h6:W.heap[w.heap.size+1]? = some (.cells #[v] 5 (0,0))
 bl:Below w.heap.size w W
theorem RdM.grown {w:World} {loc:Nat} {v:Value} {W W':World} {row:Option Nat} {B:Nat} (h:RdM w loc v W) (hB:w.heap.size≤B) (hg:W.grownBy W' row) (hr:∀ r,row=some r→B≤r∧∃ o:Obj,W.heap[r]? = some o∧o.isCells=false):RdM w loc v W':=
 ⟨heap_keptJ h.h5 hg fun r e=>(hr r e).2,heap_keptJ h.h6 hg fun r e=>(hr r e).2,h.bl.grown hg h.bl.size fun k e=>Nat.le_trans hB (hr k e).1⟩
theorem RdM.put {w:World} {loc:Nat} {v:Value} {W:World} (h:RdM w loc v W) (u:Value):RdM w loc u (W.setCell ⟨w.heap.size+1,0,none⟩ u):=
 ⟨(heap_setCell_other W ⟨w.heap.size+1,0,none⟩ w.heap.size u (by show w.heap.size≠w.heap.size+1;omega)).trans h.h5,heap_setCell_same W (w.heap.size+1) 0 _ _ u h.h6,h.bl.setCell (p:=⟨w.heap.size+1,0,none⟩) (by show w.heap.size≤w.heap.size+1;omega) _⟩
theorem vals_all (zs:List Int):(zs.attach.zipIdx.reverse).map (fun x=>x.1.1)=zs.reverse:=by
 rw [List.map_reverse]
 congr 1
 have h1:(fun x:{u:Int // u∈zs} × Nat=>x.1.1)=(fun g:{u:Int // u∈zs}=>g.1) ∘ Prod.fst:=rfl
 rw [h1,← List.map_map,List.zipIdx_map_fst,List.attach_map_subtype_val]
theorem enc_div {e:Int × Int} (h:entOk e):(e.1 * 16+e.2) / 16=e.1∧(e.1 * 16+e.2) % 16=e.2:=by
 unfold entOk at h;omega
theorem seen_no {row:List (Int × Int)} (hen:∀ e∈row,entOk e) {loc:Nat} (h:∀ x∈(encR2 row).attach.zipIdx.reverse,¬ x.1.1 / 16=(loc:Int)):row.reverse.find? (fun e=>e.1==(loc:Int))=none:=by
 rw [List.find?_eq_none]
 intro e he h2
 rw [List.mem_reverse] at he
 have h3:e.1 * 16+e.2∈(encR2 row).reverse:=List.mem_reverse.2 (List.mem_map.2 ⟨e,he,rfl⟩)
 rw [← vals_all] at h3
 obtain ⟨x,hx,hxe⟩:=List.mem_map.1 h3
 refine h x hx ?_
 rw [hxe,(enc_div (hen e he)).1]
 exact beq_iff_eq.1 h2
theorem seen_at {row:List (Int × Int)} (hen:∀ e∈row,entOk e) {loc:Nat} {k:Nat} {pre':List ({u:Int // u∈encR2 row} × Nat)} {x:{u:Int // u∈encR2 row} × Nat} (h:pre'++[x]=(encR2 row).attach.zipIdx.reverse.take k) (hno:∀ y∈pre',¬ y.1.1 / 16=(loc:Int)) (hx:x.1.1 / 16=(loc:Int)):row.reverse.find? (fun e=>e.1==(loc:Int))=some ((loc:Int),x.1.1 % 16):=by
 have h1:(encR2 row).reverse=pre'.map (fun x=>x.1.1)++(x.1.1 :: ((encR2 row).attach.zipIdx.reverse.drop k).map (fun x=>x.1.1)):=by
  rw [← vals_all]
  conv=>lhs;rw [← List.take_append_drop k (encR2 row).attach.zipIdx.reverse]
  rw [← h];simp
 unfold encR2 at h1
 rw [← List.map_reverse] at h1
 obtain ⟨l1,l2,e1,e2,e3⟩:=List.map_eq_append_iff.1 h1
 obtain ⟨e,l3,rfl,e4, -⟩:=List.map_eq_cons_iff.1 e3
 have he:e∈row:=List.mem_reverse.1 (by rw [e1];simp)
 obtain ⟨d1,d2⟩:=enc_div (hen e he)
 rw [e4,hx] at d1
 rw [e4] at d2
 rw [e1,List.find?_append,List.find?_eq_none.2,Option.none_or,List.find?_cons,← d1]
 ·simp [d2,d1]
 ·intro y hy h2
  have h3:y.1 * 16+y.2∈pre'.map (fun x=>x.1.1):=by rw [← e2];exact List.mem_map.2 ⟨y,hy,rfl⟩
  obtain ⟨z,hz,hze⟩:=List.mem_map.1 h3
  refine hno z hz ?_
  rw [hze,(enc_div (hen y (List.mem_reverse.1 (by rw [e1];simp [hy])))).1]
  exact beq_iff_eq.1 h2
theorem bfSeen_of {s:Bf} {t loc:Nat} {split:Bool} {row:List (Int × Int)} (h:s.bf[bfPlace t loc split]? = some row):bfSeen s t loc split=match row.reverse.find? (fun e=>e.1==(loc:Int)) with | some e=>e.2 | none=>s.q.mm[loc]?.getD 0:=by
 unfold bfSeen
 rw [List.getD_eq_getElem?_getD,h,Option.getD_some,List.getD_eq_getElem?_getD,Int.toNat_natCast]
 rfl
theorem RdM.gone {w:World} {loc:Nat} {v:Value} {W:World} (h:RdM w loc v W) {D:Nat} (hD:w.heap.size+1≠D) (o:Obj):(W.putObj D o).cell? ⟨w.heap.size+1,0,none⟩=some v:=
 cellH ((World.putObj_heap_other hD).trans h.h6) (k:=0) rfl
theorem RdM.drew {w:World} {loc:Nat} {v:Value} {W:World} (h:RdM w loc v W):RdM w loc v W.drew:=⟨h.h5,h.h6,h.bl.drew⟩
theorem bufRead_any (b t loc:Nat) (vp:Value) (split:Bool) (wv:Slc) (p:List (List Ins)) (s:Bf) (w:World) (hx:BufB w b vp split wv s) (hw:BufW w wv s) (hok:BfOk p split s) (ht:t < p.length) (hpl:p.length≤3) (hl:loc≤2) (hlen:∀ r∈s.bf,r.length≤1048576) :
 Calls Try.prog 107 #[.pointer (some ⟨b,0,none⟩), .int .i64 (t:Int), .int .i64 (loc:Int)] w fun e w'=>e = .returned (u8V (bfSeen s t loc split))∧Below w.heap.size w w':=by
 obtain ⟨wa,wn,wk⟩:=wv
 have HX:=hide hx;have HW:=hide hw;have HOK:=hide hok
 have h16:=hx.split
 have h17:=hx.waits
 have bl:=hx.lt
 have ht2:t≤2:=by omega
 have hqs:bfPlace t loc split < s.bf.length:=by rw [hok.lb];exact place_in ht (by omega)
 obtain ⟨q,hq⟩:∃ q,q=bfPlace t loc split:=⟨_,rfl⟩
 rw [← hq] at hqs
 obtain ⟨row,hrow⟩:=get_of_lt (xs:=s.bf) (k:=q) hqs
 have hrow2:(s.bf.map encR2)[q]? = some (encR2 row):=by rw [List.getElem?_map,hrow];rfl
 obtain ⟨_,_,hv, -, -, -, -⟩:=hw.open
 simp only [Slc.v,Value.slice.injEq] at hv
 obtain ⟨rfl,hwn,rfl⟩:=hv
 rw [List.length_map] at hwn
 obtain ⟨wb,wo,ra,rc,rfl,hbl2,q0,hrr⟩:=Rep2.row hw hrow2
 rw [List.length_map] at q0
 obtain ⟨rn,hrn⟩:∃ rn,rn=row.length:=⟨_,rfl⟩
 simp only [← hrn] at q0
 have HLN:Hid (rn≤1048576):=hide (by rw [hrn];exact hlen row (List.mem_of_getElem? hrow))
 have HRN:=hide hrn;have HQ:=hide hq;have HROW:=hide hrow;have HRR:=hide hrr
 have hqn:(q:Int) < (wn:Int):=by rw [hwn];omega
 have HBU:=hide (fun X h=>buffer_any b t loc split X h ht2 hl)
 simp only [← hq] at HBU
 have HB0:=hide (((Below.refl w.heap.size w).alloc (Nat.le_refl _) (.cells #[.int .i64 (loc:Int)] 3)).alloc (by simp) (.cells #[.int .u8 0] 5))
 have HEN:Hid (∀ e∈row,entOk e):=hide (hok.en row (List.mem_of_getElem? hrow))
 have HSEE:=hide (bfSeen_of (t:=t) (loc:=loc) (split:=split) (s:=s) (row:=row) (by rw [← hq];exact hrow))
 have HGR:Hid (∀ g∈encR2 row,0≤g∧g≤47):=hide (fun g hg=>by
  obtain ⟨e,he,rfl⟩:=List.mem_map.1 hg
  have h1:=hok.en row (List.mem_of_getElem? hrow) e he
  unfold entOk at h1
  omega)
 clear hx hw hok hrow hrow2 hrn hq hwn hrr hlen
 refine (callsIn_wide (n:=9)).1 ?_
 refine callsIn_of_wp_marks Try.func107 rfl trivial ?_ rfl
 simp only [Try.ntmps107,List.size_toArray,List.length_cons,List.length_nil,Nat.reduceAdd,Nat.reduceSub,Array.replicate_succ,Array.replicate_zero,List.push_toArray,List.append_toArray,List.nil_append,List.cons_append]
 refine (wpIn_wide (n:=9)).2 ?_
 go_wp2_with fail
 obtain ⟨wB,hwB⟩:∃ W,W=(w.alloc (.cells #[.int .i64 (loc:Int)] 3)).alloc (.cells #[.int .u8 0] 5):=⟨_,rfl⟩
 rw [← hwB]
 obtain ⟨W1,hW1⟩:∃ W,W=wB.drew:=⟨_,rfl⟩
 have BB:Hid (Below w.heap.size w W1):=hide (by rw [hW1,hwB];exact HB0.out.drew)
 have H5:Hid (W1.heap[w.heap.size]? = some (.cells #[.int .i64 (loc:Int)] 3 (0,0))):=hide (by
  rw [hW1,hwB]
  show ((w.alloc _).alloc _).heap[w.heap.size]? = _
  rw [heap_alloc_old _ _ (by simp)];exact heap_alloc_new w _)
 have H6:Hid (W1.heap[w.heap.size+1]? = some (.cells #[.int .u8 0] 5 (0,0))):=hide (by
  rw [hW1,hwB]
  show ((w.alloc _).alloc _).heap[w.heap.size+1]? = _
  have:=heap_alloc_new (w.alloc (.cells #[.int .i64 (loc:Int)] 3)) (.cells #[.int .u8 0] 5)
  simpa using this)
 have q5:W1.cell? ⟨w.heap.size,0,none⟩=some (.int .i64 (loc:Int)):=cellH H5.out (k:=0) rfl
 have q16:=(BB.out.cell (p:=⟨b,16,none⟩) bl).trans h16
 have q17:=(BB.out.cell (p:=⟨b,17,none⟩) bl).trans h17
 have qr:=(BB.out.cell (p:=⟨wb,wo+q,none⟩) hbl2).trans q0
 have l5:=lt_of_cell q5
 have lb:=lt_of_cell q17
 have lr:=lt_of_cell qr
 have RR:=hide (HRR.out.below BB.out)
 have HX1:=hide (HX.out.below BB.out)
 have HW1:=hide hW1
 clear h16 h17 q0 HB0 hwB hW1
 -- reg read
 refine wp_region_inv3 (n:=10) (by kernel_rfl) rfl (by kernel_rfl) (by kernel_rfl) (fun A ls a' W => ∃ (x9 x10 x11 x12 x13 x14 x15 x16 x17 x18:Value),a'=putAll A [(9,x9),(10,x10),(11,x11),(12,x12),(13,x13),(14,x14),(15,x15),(16,x16),(17,x17),(18,x18)]∧Vd ls 0 [] x9 (.pointer (some ⟨b,0,none⟩))∧Vd ls 1 [] x10 (.pointer (some ⟨b,0,none⟩))∧Vd ls 2 [] x11 (.pointer (some ⟨b,17,none⟩))∧Vd ls 3 [] x12 (.slice (some ⟨wb,wo,none⟩) wn wk)∧Vd ls 4 [] x13 (.pointer (some ⟨b,0,none⟩))∧Vd ls 5 [] x14 (.int .i64 (t:Int))∧Vd ls 6 [] x15 (.int .i64 (loc:Int))∧Vd ls 7 [] x16 (.int .i64 (q:Int))∧Vd ls 8 [] x17 (.pointer (some ⟨wb,wo+q,none⟩))∧Vd ls 9 [] x18 (.slice ra rn rc)∧W=W1) ?r0 ?rs ?re
 case r0 =>
  exact ⟨undef,undef,undef,undef,undef,undef,undef,undef,undef,undef,by simp only [putAll,Act.put,List.setIfInBounds_toArray,List.set_cons_succ,List.set_cons_zero],Vd.start,Vd.start,Vd.start,Vd.start,Vd.start,Vd.start,Vd.start,Vd.start,Vd.start,Vd.start,by exact HW1.out.symm⟩
 case rs =>
  rintro ls a' W hs hnl ⟨x9,x10,x11,x12,x13,x14,x15,x16,x17,x18,ha,cv0,cv1,cv2,cv3,cv4,cv5,cv6,cv7,cv8,cv9,hJ⟩ k o hkn mc K hK
  simp only [putAll,Act.put,List.setIfInBounds_toArray,List.set_cons_succ,List.set_cons_zero] at ha
  subst ha
  have hkc:k=0∨k=1∨k=2∨k=3∨k=4∨k=5∨k=6∨k=7∨k=8∨k=9:=by omega
  have hop:=mc.op
  have haf:=mc.after
  rcases hkc with rfl | rfl | rfl | rfl | rfl | rfl | rfl | rfl | rfl | rfl
  ·simp at hop;subst hop;simp [Region.binds] at haf
   obtain rfl:W1=W:=hJ.symm
   have hJ:W1=W1:=rfl
   go_simp
   exact hK _ _ ⟨_,_,_,_,_,_,_,_,_,_,by simp only [putAll,Act.put,List.setIfInBounds_toArray,List.set_cons_succ,List.set_cons_zero],Vd.same (by simp),cv1.set (by decide),cv2.set (by decide),cv3.set (by decide),cv4.set (by decide),cv5.set (by decide),cv6.set (by decide),cv7.set (by decide),cv8.set (by decide),cv9.set (by decide),by exact hJ⟩
  ·simp at hop;subst hop;simp [Region.binds] at haf
   obtain rfl:=(cv0.get (by simp [haf])).symm
   obtain rfl:W1=W:=hJ.symm
   have hJ:W1=W1:=rfl
   go_simp
   exact hK _ _ ⟨_,_,_,_,_,_,_,_,_,_,by simp only [putAll,Act.put,List.setIfInBounds_toArray,List.set_cons_succ,List.set_cons_zero],cv0.set (by decide),Vd.same (by simp),cv2.set (by decide),cv3.set (by decide),cv4.set (by decide),cv5.set (by decide),cv6.set (by decide),cv7.set (by decide),cv8.set (by decide),cv9.set (by decide),by exact hJ⟩
  ·simp at hop;subst hop;simp [Region.binds] at haf
   obtain rfl:=(cv1.get (by simp [haf])).symm
   obtain rfl:W1=W:=hJ.symm
   have hJ:W1=W1:=rfl
   go_simp
   exact hK _ _ ⟨_,_,_,_,_,_,_,_,_,_,by simp only [putAll,Act.put,List.setIfInBounds_toArray,List.set_cons_succ,List.set_cons_zero],cv0.set (by decide),cv1.set (by decide),Vd.same (by simp),cv3.set (by decide),cv4.set (by decide),cv5.set (by decide),cv6.set (by decide),cv7.set (by decide),cv8.set (by decide),cv9.set (by decide),by exact hJ⟩
  ·simp at hop;subst hop;simp [Region.binds] at haf
   obtain rfl:=(cv2.get (by simp [haf])).symm
   obtain rfl:W1=W:=hJ.symm
   have hJ:W1=W1:=rfl
   go_simp
   exact hK _ _ ⟨_,_,_,_,_,_,_,_,_,_,by simp only [putAll,Act.put,List.setIfInBounds_toArray,List.set_cons_succ,List.set_cons_zero],cv0.set (by decide),cv1.set (by decide),cv2.set (by decide),Vd.same (by simp),cv4.set (by decide),cv5.set (by decide),cv6.set (by decide),cv7.set (by decide),cv8.set (by decide),cv9.set (by decide),by exact hJ⟩
  ·simp at hop;subst hop;simp [Region.binds] at haf
   obtain rfl:W1=W:=hJ.symm
   have hJ:W1=W1:=rfl
   go_simp
   exact hK _ _ ⟨_,_,_,_,_,_,_,_,_,_,by simp only [putAll,Act.put,List.setIfInBounds_toArray,List.set_cons_succ,List.set_cons_zero],cv0.set (by decide),cv1.set (by decide),cv2.set (by decide),cv3.set (by decide),Vd.same (by simp),cv5.set (by decide),cv6.set (by decide),cv7.set (by decide),cv8.set (by decide),cv9.set (by decide),by exact hJ⟩
  ·simp at hop;subst hop;simp [Region.binds] at haf
   obtain rfl:W1=W:=hJ.symm
   have hJ:W1=W1:=rfl
   go_simp
   exact hK _ _ ⟨_,_,_,_,_,_,_,_,_,_,by simp only [putAll,Act.put,List.setIfInBounds_toArray,List.set_cons_succ,List.set_cons_zero],cv0.set (by decide),cv1.set (by decide),cv2.set (by decide),cv3.set (by decide),cv4.set (by decide),Vd.same (by simp),cv6.set (by decide),cv7.set (by decide),cv8.set (by decide),cv9.set (by decide),by exact hJ⟩
  ·simp at hop;subst hop;simp [Region.binds] at haf
   obtain rfl:W1=W:=hJ.symm
   have hJ:W1=W1:=rfl
   go_simp
   exact hK _ _ ⟨_,_,_,_,_,_,_,_,_,_,by simp only [putAll,Act.put,List.setIfInBounds_toArray,List.set_cons_succ,List.set_cons_zero],cv0.set (by decide),cv1.set (by decide),cv2.set (by decide),cv3.set (by decide),cv4.set (by decide),cv5.set (by decide),Vd.same (by simp),cv7.set (by decide),cv8.set (by decide),cv9.set (by decide),by exact hJ⟩
  ·simp at hop;subst hop;simp [Region.binds] at haf
   obtain rfl:=(cv4.get (by simp [haf])).symm
   obtain rfl:=(cv5.get (by simp [haf])).symm
   obtain rfl:=(cv6.get (by simp [haf])).symm
   obtain rfl:W1=W:=hJ.symm
   have hJ:W1=W1:=rfl
   go_simp
   go_at_call 108
   (with_reducible refine (HBU.out _ q16).mono ?_);rintro e u ⟨rfl,rfl⟩
   exact hK _ _ ⟨_,_,_,_,_,_,_,_,_,_,by simp only [putAll,Act.put,List.setIfInBounds_toArray,List.set_cons_succ,List.set_cons_zero],cv0.set (by decide),cv1.set (by decide),cv2.set (by decide),cv3.set (by decide),cv4.set (by decide),cv5.set (by decide),cv6.set (by decide),Vd.same (by simp),cv8.set (by decide),cv9.set (by decide),by rfl⟩
  ·simp at hop;subst hop;simp [Region.binds] at haf
   obtain rfl:=(cv3.get (by simp [haf])).symm
   obtain rfl:=(cv7.get (by simp [haf])).symm
   obtain rfl:W1=W:=hJ.symm
   have hJ:W1=W1:=rfl
   go_simp
   exact hK _ _ ⟨_,_,_,_,_,_,_,_,_,_,by simp only [putAll,Act.put,List.setIfInBounds_toArray,List.set_cons_succ,List.set_cons_zero],cv0.set (by decide),cv1.set (by decide),cv2.set (by decide),cv3.set (by decide),cv4.set (by decide),cv5.set (by decide),cv6.set (by decide),cv7.set (by decide),Vd.same (by simp),cv9.set (by decide),by exact hJ⟩
  ·simp at hop;subst hop;simp [Region.binds] at haf
   obtain rfl:=(cv8.get (by simp [haf])).symm
   obtain rfl:W1=W:=hJ.symm
   have hJ:W1=W1:=rfl
   go_simp
   exact hK _ _ ⟨_,_,_,_,_,_,_,_,_,_,by simp only [putAll,Act.put,List.setIfInBounds_toArray,List.set_cons_succ,List.set_cons_zero],cv0.set (by decide),cv1.set (by decide),cv2.set (by decide),cv3.set (by decide),cv4.set (by decide),cv5.set (by decide),cv6.set (by decide),cv7.set (by decide),cv8.set (by decide),Vd.same (by simp),by exact hJ⟩
 case re =>
  rintro ls a' W hall ⟨x9,x10,x11,x12,x13,x14,x15,x16,x17,x18,ha,cv0,cv1,cv2,cv3,cv4,cv5,cv6,cv7,cv8,cv9,hJ⟩ o hop
  simp only [putAll,Act.put,List.setIfInBounds_toArray,List.set_cons_succ,List.set_cons_zero] at ha
  subst ha
  simp at hop;subst hop
  obtain rfl:=(cv0.get (hall 0 (by decide))).symm
  obtain rfl:=(cv1.get (hall 1 (by decide))).symm
  obtain rfl:=(cv2.get (hall 2 (by decide))).symm
  obtain rfl:=(cv3.get (hall 3 (by decide))).symm
  obtain rfl:=(cv4.get (hall 4 (by decide))).symm
  obtain rfl:=(cv5.get (hall 5 (by decide))).symm
  obtain rfl:=(cv6.get (hall 6 (by decide))).symm
  obtain rfl:=(cv7.get (hall 7 (by decide))).symm
  obtain rfl:=(cv8.get (hall 8 (by decide))).symm
  obtain rfl:=(cv9.get (hall 9 (by decide))).symm
  go_simp
  (with_reducible refine (BackwardB_any ra rn rc W1).mono ?_);rintro e W2 ⟨rfl,hW2⟩
  have hb2:Below W1.heap.size W1 W2:=by rw [hW2];exact (Below.refl _ _).alloc (Nat.le_refl _) _
  have hbx:W2.heap[W1.heap.size]? = some (.cells #[.slice ra rn rc] 22 (0,0)):=by rw [hW2];exact heap_alloc_new W1 _
  have B2:=hide hb2;have HBX:=hide hbx
  clear hW2 hb2 hbx
  go_wp2_with fail
  refine (wpIn_wide (n:=9)).1 ?_
  have hz2:W1.heap.size < W2.heap.size:=(Array.getElem?_eq_some_iff.1 HBX.out).1
  have l6:=(Array.getElem?_eq_some_iff.1 H6.out).1
  have hm2:RdM w loc (.int .u8 0) W2:=⟨(B2.out.block w.heap.size l5).trans H5.out,(B2.out.block (w.heap.size+1) l6).trans H6.out,BB.out.trans (B2.out.mono BB.out.size)⟩
  have hrr1:Rep ByteE W1 (.slice ra rn rc) (encR2 row):=by have:=RR.out;rwa [List.length_map,← HRN.out] at this
  obtain ⟨rb,hrbl,hrb⟩:∃ rb,rb < W2.heap.size∧∀ g o,ra=some ⟨g,o,none⟩→encR2 row≠[]→g=rb:=by
   cases hne:encR2 row with
   | nil=>exact ⟨W1.heap.size,hz2,fun g o _ h=>absurd rfl h⟩
   | cons z zs =>
    rw [hne] at hrr1
    obtain ⟨a0,c0,hv0,_,_,hh⟩:=hrr1
    simp only [Value.slice.injEq] at hv0
    obtain ⟨bb,oo,e0,h0⟩:=hh 0 z rfl
    have h1:=h0 0 (u8V z) rfl
    refine ⟨bb,Nat.lt_of_lt_of_le (lt_of_cell h1) B2.out.size,fun g o e _ => ?_⟩
    rw [hv0.1,e0] at e
    simp at e
    exact e.1.symm
  have HST:=backB_stops (Pr:=fun g=>g∈encR2 row) 8 (by omega) W1.heap.size rb (.slice ra rn rc) (encR2 row).attach (by rw [List.length_attach,List.length_map,← HRN.out];exact HLN.out) W2 hz2 (cellH HBX.out (k:=0) rfl) (by rw [List.attach_map_subtype_val];exact hrr1.below B2.out) (fun g o e hne=>by
   simp only [Value.slice.injEq] at e
   exact hrb g o e.1 (fun h=>hne (by rw [List.attach_eq_nil_iff];exact h)))
  have HM2:=hide hm2
  have BX2:=hide (hrr1.below B2.out)
  clear hm2 hrr1 hrb
  refine wpIn_rangeFunc_ownH rfl (by omega) (gf:=117) (lb:=#[.pointer (some ⟨W1.heap.size,0,none⟩)]) rfl trivial (enters_of Try.func117 (by kernel_rfl) rfl)
   HST KeepB2.trans (keepB2_b hz2 hrbl) (Below.refl _ _) (fun _=>rfl)
   (fun pre W=>(∀ x∈pre,¬ x.1.1 / 16=(loc:Int))∧RdM w loc (.int .u8 0) W)
   (fun c pre W=>c = .ret∧∃ pre' x,pre=pre'++[x]∧(∀ y∈pre',¬ y.1.1 / 16=(loc:Int))∧x.1.1 / 16=(loc:Int)∧RdM w loc (u8V (x.1.1 % 16)) W)
   (fun pre W W' row h hg hr=>⟨h.1,h.2.grown (by have:=BB.out.size;omega) hg hr⟩)
   (fun c pre W W' row h hg hr=>by
    obtain ⟨rfl,pre',x,h1,h2,h3,h4⟩:=h
    exact ⟨rfl,pre',x,h1,h2,h3,h4.grown (by have:=BB.out.size;omega) hg hr⟩)
   ⟨fun x h=>by simp at h,HM2.out⟩
   (fun x a' W=>a' = { tmps:=#[.pointer (some ⟨b,0,none⟩), .int .i64 (t:Int), .int .i64 (loc:Int),undef,undef, .pointer (some ⟨w.heap.size,0,none⟩), .pointer (some ⟨w.heap.size+1,0,none⟩),undef,u8V x.1.1, .pointer (some ⟨b,0,none⟩), .pointer (some ⟨b,0,none⟩), .pointer (some ⟨b,17,none⟩), .slice (some ⟨wb,wo,none⟩) wn wk, .pointer (some ⟨b,0,none⟩), .int .i64 (t:Int), .int .i64 (loc:Int), .int .i64 (q:Int), .pointer (some ⟨wb,wo+q,none⟩), .slice ra rn rc, .func (.func 117) #[] #[.pointer (some ⟨W1.heap.size,0,none⟩)], .int .i64 (x.2:Int),u8V x.1.1,undef,undef,undef,undef,undef,undef,undef,undef,undef,undef,undef,undef,undef,undef],defers:=[] })
   (fun x a' _ W W' row h _ _=>h)
   ?assign ?body ?done ?stop
  case assign =>
   rintro l pre ⟨⟨g,hgm⟩,ix⟩ W K hi hK
   gi_wp2
   exact hK _ _ (KeepsFrom.refl _ _) (KeepB2.refl _ _ _) hi rfl
  case body =>
   rintro l pre ⟨⟨g,hgm⟩,ix⟩ a' W hl ⟨r0,hr0⟩ ⟨hno,hm⟩ rfl hlt
   obtain ⟨hg0,hg47⟩:=HGR.out g hgm
   have HM:=hide hm;have HNO:=hide hno
   have c5:W.cell? ⟨w.heap.size,0,none⟩=some (.int .i64 (loc:Int)):=cellH hm.h5 (k:=0) rfl
   have c6:W.cell? ⟨w.heap.size+1,0,none⟩=some (.int .u8 0):=cellH hm.h6 (k:=0) rfl
   have f6:=frozH hm.h6
   have cl5:=lt_of_cell c5
   have cl6:=lt_of_cell c6
   clear hm hno hr0
   dsimp only
   by_cases hq:g / 16=(loc:Int)
   ·have hqb:(g / 16==(loc:Int))=true:=by rw [hq];simp
    gi_wp2
    exact ⟨(KeepsOthers.setCell _ _ _).from _,rfl,pre,(⟨g,hgm⟩,ix),rfl,HNO.out,hq,HM.out.put _⟩
   ·have hqb:(g / 16==(loc:Int))=false:=beq_false_of_ne hq
    gi_wp2
    exact ⟨KeepsFrom.refl _ _,KeepB2.refl _ _ _,fun x hx=>(List.mem_append.1 hx).elim (HNO.out x) (fun h=>by simp at h;subst h;exact hq),HM.out⟩
  case done =>
   rintro D ys W hD rfl ⟨hno,hm⟩ hK
   have HM:=hide hm;have HNO:=hide hno;have HK:=hide hK
   have c5:W.cell? ⟨w.heap.size,0,none⟩=some (.int .i64 (loc:Int)):=cellH hm.h5 (k:=0) rfl
   have c6:W.cell? ⟨w.heap.size+1,0,none⟩=some (.int .u8 0):=cellH hm.h6 (k:=0) rfl
   have f6:=frozH hm.h6
   have m13:=(ValAt.ofMore (HX.out.below hm.bl)).c3 loc (by omega)
   have cl5:=lt_of_cell c5
   have cl6:=lt_of_cell c6
   have clb:=lt_of_cell m13
   have hll:(loc:Int) < 3:=by omega
   clear hm hno hK
   go_wp2_with fail
   go_region
   go_wp2_with fail
   have hD1:w.heap.size+1≠D:=by omega
   have hKD:=(heap_setCell_other W ⟨w.heap.size+1,0,none⟩ D (u8V (s.q.mm[loc]?.getD 0)) (by show D≠w.heap.size+1;omega)).trans HK.out
   have hme:=(HM.out.put (u8V (s.q.mm[loc]?.getD 0))).drew
   have q6:=hme.gone hD1 (.deferred none)
   refine ⟨by simp, .inl ⟨_,_,rfl,run_takeDeferred hKD, ?_⟩⟩
   refine ⟨u8V (s.q.mm[loc]?.getD 0),by simp [results,Try.results107,go_sem,q6], ?_⟩
   refine ⟨?_,hme.bl.trans (belowK_b (w:=W2) (by omega) _ D _ _ hD hKD rfl rfl)⟩
   rw [HSEE.out,seen_no HEN.out HNO.out]
  case stop =>
   rintro D c pre W hD ⟨k0,hk0⟩ ⟨rfl,pre',x,hpe,hno,hxl,hm⟩ hK
   have HM:=hide hm;have HNO:=hide hno;have HK:=hide hK
   clear hm hno hK
   gi_wp2
   have hD1:w.heap.size+1≠D:=by omega
   have q6:=HM.out.gone hD1 (.deferred none)
   refine ⟨by simp, .inl ⟨_,_,rfl,run_takeDeferred HK.out, ?_⟩⟩
   refine ⟨u8V (x.1.1 % 16),by simp [results,Try.results107,go_sem,q6], ?_⟩
   refine ⟨?_,HM.out.bl.trans (belowK_b (w:=W2) (by omega) _ D _ _ hD HK.out rfl rfl)⟩
   rw [HSEE.out,seen_at HEN.out (hpe.symm.trans hk0) HNO.out hxl]
 -- end read
end Go.Proofs.Ytlddmagfbcomgaa
namespace Go.Proofs.Ytlddmagfbcomgaa
open Go.RowKit
theorem valsA_moreL (pv:Value) (q:Sq) (more:Array Value) {t:Nat} (ht:t < 16) {u:Value}:(valsA pv q++more).setIfInBounds t u=(valsA pv q).setIfInBounds t u++more:=by
 rw [Array.setIfInBounds_append_left (by simp;omega)]
theorem ins_op {x:Ins} (h:insValid x=true):x.op=1∨x.op=2∨x.op=3∨x.op=4∨x.op=5:=by
 unfold insValid at h
 repeat' split at h
 all_goals first | omega | (simp at h;done)
theorem bfDo_read {s s':Bf} {split:Bool} {t:Nat} {k:Int} {ln rn:Nat} {val:Int} (h:bfDo s split t k ⟨1,(ln:Int),(rn:Int),val⟩=some s'):s'=⟨⟨s.q.pc.set t (k+1),s.q.rg.set (t * 3+rn) (bfSeen s t (ln:Int) split),s.q.mm⟩,s.bf⟩:=by
 unfold bfDo at h
 simp at h
 exact h.symm
theorem bfDo_put {s s':Bf} {split:Bool} {t:Nat} {k:Int} {ln rn:Nat} {op val:Int} (ho:op=2∨op=3) (h:bfDo s split t k ⟨op,(ln:Int),(rn:Int),val⟩=some s'):s'=⟨⟨s.q.pc.set t (k+1),s.q.rg,s.q.mm⟩,s.bf.set (bfPlace t (ln:Int) split) (s.bf.getD (bfPlace t (ln:Int) split) []++[((ln:Int),sqVal s.q t ⟨op,(ln:Int),(rn:Int),val⟩)])⟩:=by
 unfold bfDo at h
 rcases ho with rfl | rfl
 all_goals
  simp at h
  rw [← h]
  simp
theorem bfDo_fence {s s':Bf} {split:Bool} {t:Nat} {k:Int} {ln rn:Nat} {val:Int} (h:bfDo s split t k ⟨4,(ln:Int),(rn:Int),val⟩=some s'):s'=⟨⟨s.q.pc.set t (k+1),s.q.rg,s.q.mm⟩,s.bf⟩:=by
 unfold bfDo sqDo at h
 simp [isRop,isWop] at h
 exact h.2.symm
theorem seen_empty {s:Bf} {split:Bool} {t ln:Nat} (hl:ln < 3) (h:bfEmpty s t split=true):bfSeen s t (ln:Int) split=s.q.mm.getD ln 0:=by
 rw [bfEmpty_three,List.all_eq_true] at h
 have h1:=h ln (List.mem_range.2 hl)
 rw [List.isEmpty_iff] at h1
 unfold bfSeen
 rw [h1]
 simp
theorem bfDo_swap {s s':Bf} {split:Bool} {t:Nat} {k:Int} {ln rn:Nat} {val:Int} (hl:ln < 3) (h:bfDo s split t k ⟨5,(ln:Int),(rn:Int),val⟩=some s'):s'=⟨⟨s.q.pc.set t (k+1),s.q.rg.set (t * 3+rn) (bfSeen s t (ln:Int) split),s.q.mm.set ln val⟩,s.bf⟩:=by
 unfold bfDo at h
 rw [if_pos (.inr rfl)] at h
 split at h
 ·rename_i he
  rw [seen_empty hl he]
  simp [sqDo,isRop,isWop,sqVal] at h
  rw [← h]
  simp
 ·cases h
def RetTh (w:World) (vp:Value) (split:Bool) (s s':Bf) (us:List Slc) (e:Ending) (w':World):Prop:=∃ (b':Nat) (wv':Slc),e = .returned (mcV 76 b')∧BufB w' b' vp split wv' s'∧w.heap.size≤b'∧Below w.heap.size w w' ∧
 ((s'.bf=s.bf∧Own SlcE 22 w' w.heap.size wv'.v us)∨∃ (k:Nat) (r:List (Int × Int)) (u':Slc),s'.bf=s.bf.set k r∧Own SlcE 22 w' w.heap.size wv'.v (us.set k u')∧Own ByteE 5 w' w.heap.size u'.v (encR2 r))
structure JA (W1:World) (xs:List Int) (x:Int) (c l a:Bool) (f g:Slc) (O:Nat) (W:World):Prop where
 bw:Below W1.heap.size W1 W
 cl:c=true→a=false→Own ByteE 5 W W1.heap.size f.v xs
 lt:l=true→a=false→W.heap[O]? = some (.cells #[.int .u8 x] 5 (0,0))
 ap:a=true→Own ByteE 5 W W1.heap.size g.v (xs++[x])
section
variable {W1 : World} {xs : List Int} {x : Int} {c l a : Bool} {f g : Slc} {O : Nat} {W W' : World}
theorem JA.start (W1:World) (xs:List Int) (x:Int) (f g:Slc) (O:Nat) {W:World} (h:Below W1.heap.size W1 W):JA W1 xs x false false false f g O W:=⟨h,fun h=>(by cases h),fun h=>(by cases h),fun h=>(by cases h)⟩
theorem JA.step (h:JA W1 xs x c l a f g O W) (hb:Below W.heap.size W W'):JA W1 xs x c l a f g O W':=
 ⟨h.bw.trans (hb.mono h.bw.size),fun p q=>(h.cl p q).below hb,fun p q=>(hb.block O (Array.getElem?_eq_some_iff.1 (h.lt p q)).1).trans (h.lt p q),fun p=>(h.ap p).below hb⟩
theorem JA.clone (h:JA W1 xs x false l a f g O W) {f':Slc} (ho:Own ByteE 5 W' W.heap.size f'.v xs) (hb:Below W.heap.size W W'):JA W1 xs x true l a f' g O W':=
 have k:=h.step hb
 ⟨k.bw,fun _ _=>ho.mono h.bw.size,k.lt,k.ap⟩
theorem JA.lit (h:JA W1 xs x c false a f g O W):JA W1 xs x c true a f g W.heap.size (W.alloc (.cells #[.int .u8 x] 5)):=
 have k:=h.step ((Below.refl W.heap.size W).alloc (Nat.le_refl _) (.cells #[.int .u8 x] 5))
 ⟨k.bw,k.cl,fun _ _=>heap_alloc_new W _,k.ap⟩
theorem JA.app (h:JA W1 xs x true true false f g O W) {g':Slc} (ho:Own ByteE 5 W' W1.heap.size g'.v (xs++[x])) (hg:W.grownBy W' f.v.ownBlock):JA W1 xs x true true true f g' O W':=
 ⟨h.bw.grown hg h.bw.size fun q hq=>(World.ownsRow.lt (h.cl rfl rfl) q hq).1,fun _ q=>(by cases q),fun _ q=>(by cases q),fun _=>ho⟩
end
end Go.Proofs.Ytlddmagfbcomgaa
namespace Go.Proofs.Ytlddmagfbcomgaa
open Go.RowKit
set_option linter.unusedSimpArgs false in
theorem bufThread5_any (b t:Nat) (vp:Value) (split:Bool) (wv:Slc) (us:List Slc) (p:List (List Ins)) (s s':Bf) (i:Ins) (w:World) (hp:RepP w vp p) (hx:BufB w b vp split wv s) (hus:Rep SlcE w wv.v us) (hul:us.length=s.bf.length)
 (hrows:∀ (k:Nat) (u:Slc) (r:List (Int × Int)),us[k]? = some u→s.bf[k]? = some r→Rep ByteE w u.v (encR2 r)) (hok:BfOk p split s) (hlen:∀ r∈s.bf,r.length≤42) (hpl:p.length≤3) (hpr:∀ r∈p,r.length≤7) (ht:t < p.length) (hi:sqIns p s.q t=some i) (hv:insValid i=true) (hop:i.op=5) (hd:bfDo s split t (s.q.pc.getD t 0) i=some s') :
 Calls Try.prog 99 #[.pointer (some ⟨b,0,none⟩), .int .i64 (t:Int)] w (RetTh w vp split s s' us):=by
 obtain ⟨va,vc,rfl,hc1,hc2,hc3,hp⟩:=hp.open
 obtain ⟨wa,wn,wk⟩:=wv
 obtain ⟨op,loc,reg,val⟩:=i
 simp only at hop
 subst hop
 obtain ⟨⟨l0,l2⟩,⟨r0,r2⟩,v0,v3⟩:=ins_ranges hv
 simp only at l0 l2 r0 r2 v0 v3
 obtain ⟨ln,rfl⟩:∃ ln:Nat,loc=ln:=⟨loc.toNat,by omega⟩
 obtain ⟨rn,rfl⟩:∃ rn:Nat,reg=rn:=⟨reg.toNat,by omega⟩
 obtain ⟨r,hr⟩:=get_of_lt (xs:=p) (k:=t) ht
 obtain ⟨k,hk⟩:=get_of_lt (xs:=s.q.pc) (k:=t) (by rw [hok.q.lp];exact ht)
 have hkr:=hok.q.pc t k r hk hr
 have hrl:=hpr r (List.mem_of_getElem? hr)
 obtain ⟨kn,rfl⟩:∃ kn:Nat,k=kn:=⟨k.toNat,by omega⟩
 have hkd:s.q.pc.getD t 0=(kn:Int):=by rw [List.getD_eq_getElem?_getD,hk];rfl
 have hk7:kn≤7:=by omega
 have hlb9:s.bf.length≤9:=by
  rw [hok.lb]
  have:bfN split≤3:=by cases split <;> simp [bfN]
  have:=Nat.mul_le_mul hpl this
  omega
 have hlb1:0 < s.bf.length:=by rw [hok.lb];exact Nat.mul_pos (by omega) (by cases split <;> simp [bfN])
 have HP:=hide hp;have HOK:=hide hok;have HPR:=hide hpr;have HKD:=hide hkd;have HI:=hide hi;have HT:=hide ht;have HPL:=hide hpl
 have HLEN:=hide hlen;have HBW:Hid (BufW w ⟨wa,wn,wk⟩ s):=hide ⟨us,by rw [List.length_map];exact hul,hus,fun k u r hu hr=>by
  rw [List.getElem?_map] at hr
  obtain ⟨r0,h,rfl⟩:=Option.map_eq_some_iff.1 hr
  exact hrows k u r0 hu h⟩
 have HVR:=hide (fun ho:isWop 5=true=>val_range (t:=t) hok.q.rg hv ho)
 rw [hkd] at hd
 have HD:=hide hd
 have hqs:bfPlace t (ln:Int) split < s.bf.length:=by rw [hok.lb];exact place_in ht (by omega)
 obtain ⟨row,hrow⟩:=get_of_lt (xs:=s.bf) (k:=bfPlace t (ln:Int) split) hqs
 obtain ⟨⟨ra,sn,sk⟩,hu⟩:=get_of_lt (xs:=us) (k:=bfPlace t (ln:Int) split) (by omega)
 have HUR:=hide (hrows _ _ _ hu hrow)
 have HRL:=hide (hlen row (List.mem_of_getElem? hrow))
 have HRD:=hide (show s.bf.getD (bfPlace t (ln:Int) split) []=row by rw [List.getD_eq_getElem?_getD,hrow];rfl)
 obtain ⟨wb,wo,hwa,hwl,q0⟩:=Rep.slc (show Rep SlcE w (.slice wa wn wk) us from hus) hu
 subst hwa
 obtain ⟨q,hq⟩:∃ q,q=bfPlace t (ln:Int) split:=⟨_,rfl⟩
 rw [← hq] at HRD hu q0 hqs
 have HQ:=hide hq;have HU:=hide hu;have HQ0:=hide q0;have HQS:=hide hqs;have HWL:=hide hwl
 clear hlen hd hq hu q0 hqs hwl hrow hrows
 have htl:(t:Int) < 3:=by omega
 have hrn3:(rn:Int) < 3:=by omega
 have hln3:(ln:Int) < 3:=by omega
 have ht3:t < 3:=by omega
 have hl3:ln < 3:=by omega
 have hr3:rn < 3:=by omega
 have HUS:=hide hus
 have HWN:Hid (wn=us.length):=hide (by obtain ⟨_,_,hv1, -⟩:=hus.open;simp only [Slc.v,Value.slice.injEq] at hv1;exact hv1.2.1)
 have HV:=hide (ValAt.ofMore hx)
 have HX:=hide hx
 have c0:=HV.out.c0
 have bl:=HV.out.lt
 have d16:=hx.split
 have d17:=hx.waits
 obtain ⟨d1,d2,d3,d4,d5,d6,d7,d8,d9,d10,d11,d12,d13,d14,d15⟩:=HV.out.regs
 have hsa:=@setCell_alloc
 have HUL:=hide hul;have HLB:=hide hlb9
 have hul9:us.length≤9:=by omega
 have hune:us≠[]:=fun e=>by rw [e] at hul;simp at hul;omega
 have hnt:¬ ((p.length:Int)≤(t:Int)):=by omega
 clear hp hx hus hul hlb9 hok hpr hkd hi hr hk hkr hrl hv
 generalize hn:p.length=n at *
 have HN:=hide hn
 clear hn
 obtain ⟨x1,hx1⟩:∃ x,x=s.q.pc.getD 0 0:=⟨_,rfl⟩
 obtain ⟨x2,hx2⟩:∃ x,x=s.q.pc.getD 1 0:=⟨_,rfl⟩
 obtain ⟨x3,hx3⟩:∃ x,x=s.q.pc.getD 2 0:=⟨_,rfl⟩
 obtain ⟨x4,hx4⟩:∃ x,x=s.q.rg.getD 0 0:=⟨_,rfl⟩
 obtain ⟨x5,hx5⟩:∃ x,x=s.q.rg.getD 1 0:=⟨_,rfl⟩
 obtain ⟨x6,hx6⟩:∃ x,x=s.q.rg.getD 2 0:=⟨_,rfl⟩
 obtain ⟨x7,hx7⟩:∃ x,x=s.q.rg.getD 3 0:=⟨_,rfl⟩
 obtain ⟨x8,hx8⟩:∃ x,x=s.q.rg.getD 4 0:=⟨_,rfl⟩
 obtain ⟨x9,hx9⟩:∃ x,x=s.q.rg.getD 5 0:=⟨_,rfl⟩
 obtain ⟨x10,hx10⟩:∃ x,x=s.q.rg.getD 6 0:=⟨_,rfl⟩
 obtain ⟨x11,hx11⟩:∃ x,x=s.q.rg.getD 7 0:=⟨_,rfl⟩
 obtain ⟨x12,hx12⟩:∃ x,x=s.q.rg.getD 8 0:=⟨_,rfl⟩
 obtain ⟨x13,hx13⟩:∃ x,x=s.q.mm.getD 0 0:=⟨_,rfl⟩
 obtain ⟨x14,hx14⟩:∃ x,x=s.q.mm.getD 1 0:=⟨_,rfl⟩
 obtain ⟨x15,hx15⟩:∃ x,x=s.q.mm.getD 2 0:=⟨_,rfl⟩
 have HA:Hid (valsA (.slice va n vc) s.q ++ #[.bool split, .slice (some ⟨wb,wo,none⟩) wn wk] = #[.slice va n vc, .int .u8 x1, .int .u8 x2, .int .u8 x3, .int .u8 x4, .int .u8 x5, .int .u8 x6, .int .u8 x7, .int .u8 x8, .int .u8 x9, .int .u8 x10, .int .u8 x11, .int .u8 x12, .int .u8 x13, .int .u8 x14, .int .u8 x15, .bool split, .slice (some ⟨wb,wo,none⟩) wn wk]):=hide (by rw [hx1,hx2,hx3,hx4,hx5,hx6,hx7,hx8,hx9,hx10,hx11,hx12,hx13,hx14,hx15];rfl)
 rw [← hx1] at d1;rw [← hx2] at d2;rw [← hx3] at d3;rw [← hx4] at d4;rw [← hx5] at d5;rw [← hx6] at d6;rw [← hx7] at d7;rw [← hx8] at d8;rw [← hx9] at d9;rw [← hx10] at d10;rw [← hx11] at d11;rw [← hx12] at d12;rw [← hx13] at d13;rw [← hx14] at d14;rw [← hx15] at d15
 clear hx1 hx2 hx3 hx4 hx5 hx6 hx7 hx8 hx9 hx10 hx11 hx12 hx13 hx14 hx15
 have HLD:Hid (w.rangeAt b 0 [.slice va n vc, .int .u8 x1, .int .u8 x2, .int .u8 x3, .int .u8 x4, .int .u8 x5, .int .u8 x6, .int .u8 x7, .int .u8 x8, .int .u8 x9, .int .u8 x10, .int .u8 x11, .int .u8 x12, .int .u8 x13, .int .u8 x14, .int .u8 x15, .bool split, .slice (some ⟨wb,wo,none⟩) wn wk]):=hide (by
  intro j v hj
  have h:w.heap[b]? = some (.cells #[.slice va n vc, .int .u8 x1, .int .u8 x2, .int .u8 x3, .int .u8 x4, .int .u8 x5, .int .u8 x6, .int .u8 x7, .int .u8 x8, .int .u8 x9, .int .u8 x10, .int .u8 x11, .int .u8 x12, .int .u8 x13, .int .u8 x14, .int .u8 x15, .bool split, .slice (some ⟨wb,wo,none⟩) wn wk] 83 (0,0)):=by rw [← HA.out];exact HX.out
  rw [Nat.zero_add]
  exact cellH h (by simpa using hj))
 have HON:Hid ((#[.slice va n vc, .int .u8 x1, .int .u8 x2, .int .u8 x3, .int .u8 x4, .int .u8 x5, .int .u8 x6, .int .u8 x7, .int .u8 x8, .int .u8 x9, .int .u8 x10, .int .u8 x11, .int .u8 x12, .int .u8 x13, .int .u8 x14, .int .u8 x15, .bool split, .slice (some ⟨wb,wo,none⟩) wn wk]:Array Value).all (fun v=>v.oneCell')=true):=hide (by simp [Value.oneCell'])
 obtain ⟨dB,hUB,hRB⟩:=rowBufs
 have HUB:=hide hUB;have HRB:=hide hRB
 clear hUB hRB
 go_enter Try.func99,Try.ntmps99
 iterate 23 (first | (refine wp_load_mid 83 (.tmp 12) rfl b 0 rfl [.slice va n vc, .int .u8 x1, .int .u8 x2, .int .u8 x3, .int .u8 x4, .int .u8 x5, .int .u8 x6, .int .u8 x7, .int .u8 x8, .int .u8 x9, .int .u8 x10, .int .u8 x11, .int .u8 x12, .int .u8 x13, .int .u8 x14, .int .u8 x15, .bool split, .slice (some ⟨wb,wo,none⟩) wn wk] dB HLD.out HUB.out HRB.out (by kernel_rfl) ?_;go_simp) | go_values | go_skip | go_guarded | go_step | go_upon)
 refine wp_store_new 83 (.tmp 5) (.tmp 13) rfl _ #[.slice va n vc, .int .u8 x1, .int .u8 x2, .int .u8 x3, .int .u8 x4, .int .u8 x5, .int .u8 x6, .int .u8 x7, .int .u8 x8, .int .u8 x9, .int .u8 x10, .int .u8 x11, .int .u8 x12, .int .u8 x13, .int .u8 x14, .int .u8 x15, .bool split, .slice (some ⟨wb,wo,none⟩) wn wk] rfl rfl (by kernel_rfl) rfl HON.out ?_
 go_simp
 go_wp2_with fail
 obtain ⟨V1,hV1⟩:∃ V1,V1=w.alloc (.cells #[.slice va n vc, .int .u8 x1, .int .u8 x2, .int .u8 x3, .int .u8 x4, .int .u8 x5, .int .u8 x6, .int .u8 x7, .int .u8 x8, .int .u8 x9, .int .u8 x10, .int .u8 x11, .int .u8 x12, .int .u8 x13, .int .u8 x14, .int .u8 x15, .bool split, .slice (some ⟨wb,wo,none⟩) wn wk] 83):=⟨_,rfl⟩
 have X1:Hid (BufB V1 w.heap.size (.slice va n vc) split ⟨some ⟨wb,wo,none⟩,wn,wk⟩ s):=hide (by rw [hV1];show _=some (Obj.cells (valsA (.slice va n vc) s.q++_) _ _);rw [HA.out];exact heap_alloc_new _ _)
 have B1:Hid (Below w.heap.size w V1):=hide (by rw [hV1];exact (Below.refl _ _).alloc (Nat.le_refl _) _)
 simp only [← hV1]
 clear hV1 d1 d2 d3 d4 d5 d6 d7 d8 d9 d10 d11 d12 d13 d14 d15 HA
 have HCL:=hide (cloneBB_any (.slice (some ⟨wb,wo,none⟩) wn wk) us V1 (HUS.out.below B1.out) (by omega))
 (with_reducible refine HCL.out.mono ?_);rintro e w2 ⟨vw,rfl,how,hb2⟩
 obtain ⟨cg,cc,rfl⟩:=own_some how hune
 have HOW:=hide how
 have hcg:=World.ownsRow.lt how cg rfl
 have hlN:w.heap.size < V1.heap.size:=X1.out.lt
 have B2:=hide (B1.out.trans (hb2.mono B1.out.size))
 have X2:=hide (X1.out.below hb2)
 have hX2:=X2.out
 have e17:=hX2.waits
 have efz:=frozH hX2
 have el:=hX2.lt
 clear hb2 HCL how hX2
 have X3:Hid (BufB (w2.setCell ⟨w.heap.size,17,none⟩ (.slice (some ⟨cg,0,none⟩) us.length cc)) w.heap.size (.slice va n vc) split ⟨some ⟨cg,0,none⟩,us.length,cc⟩ s):=hide (heap_setCell_same w2 w.heap.size 17 _ _ (.slice (some ⟨cg,0,none⟩) us.length cc) X2.out)
 have B3:Hid (Below w.heap.size w (w2.setCell ⟨w.heap.size,17,none⟩ (.slice (some ⟨cg,0,none⟩) us.length cc))):=hide (B2.out.setCell (p:=⟨w.heap.size,17,none⟩) (Nat.le_refl _) _)
 have g0:=(B3.out.cell (p:=⟨b,0,none⟩) bl).trans c0
 have bl2:b < w2.heap.size:=Nat.lt_of_lt_of_le bl B2.out.size
 have HCG:=hide hcg;have HLN:=hide hlN
 clear hune d16 d17 c0 hul9 hlN hcg hsa
 go_wp2_with fail
 clear e17 efz el g0
 obtain ⟨W3,hW3⟩:∃ W,W=w2.setCell ⟨w.heap.size,17,none⟩ (.slice (some ⟨cg,0,none⟩) us.length cc):=⟨_,rfl⟩
 have hcgne:cg≠w.heap.size:=by have h1:=HCG.out.1;have h2:=HLN.out;omega
 have OW3:Hid (Own SlcE 22 W3 V1.heap.size (.slice (some ⟨cg,0,none⟩) us.length cc) us):=hide (by
  rw [hW3]
  exact HOW.out.sameV0 fun q hq=>heap_setCell_other w2 ⟨w.heap.size,17,none⟩ q _ (show q≠w.heap.size by simp [Value.ownBlock] at hq;rw [← hq];exact hcgne))
 have HCN:=hide hcgne
 clear hcgne
 simp only [← hW3] at X3 B3 ⊢
 clear hW3 HOW X2 B2 X1 B1 bl2
 (with_reducible refine (next_any b t va n vc p s.q W3 (HP.out.below B3.out) (HV.out.below B3.out) HOK.out.q (by rw [HN.out];exact HPL.out) HPR.out (by rw [HN.out];exact HT.out)).mono ?_);rintro e w4 ⟨rfl,hb4⟩
 rw [HI.out]
 simp only [nxT]
 have bC:=(Below.refl w4.heap.size w4).alloc (Nat.le_refl _) (.cells #[.int .i64 5, .int .i64 (ln:Int), .int .i64 (rn:Int), .int .i64 val] 38)
 have X4:=hide (X3.out.below hb4)
 have B4:=hide (B3.out.trans (hb4.mono B3.out.size))
 have OW4:=hide (OW3.out.below hb4)
 have hl4:w.heap.size < w4.heap.size:=X4.out.lt
 have X5:=hide (X4.out.below bC)
 have e1:(w4.alloc (.cells #[.int .i64 5, .int .i64 (ln:Int), .int .i64 (rn:Int), .int .i64 val] 38)).cell? ⟨w.heap.size,1+t,none⟩=some (.int .u8 (kn:Int)):=by have h:=(ValAt.ofMore X5.out).c1 t ht3;rw [HKD.out] at h;exact h
 have efz:=frozH X5.out
 have el:w.heap.size < w4.heap.size+1:=by omega
 have hwk:IntKind.u8.wrap ((kn:Int)+1)=(kn:Int)+1:=by rw [IntKind.wrap_u8];omega
 have HL4:=hide hl4
 clear hb4 bC hl4 X3 B3 OW3
 go_upto_region 11 with fail
 obtain ⟨V6,hV6⟩:∃ V6,V6=(w4.alloc (.cells #[.int .i64 5, .int .i64 (ln:Int), .int .i64 (rn:Int), .int .i64 val] 38)).setCell ⟨w.heap.size,1+t,none⟩ (.int .u8 ((kn:Int)+1)):=⟨_,rfl⟩
 have hX6:BufB V6 w.heap.size (.slice va n vc) split ⟨some ⟨cg,0,none⟩,us.length,cc⟩ ⟨⟨s.q.pc.set t ((kn:Int)+1),s.q.rg,s.q.mm⟩,s.bf⟩:=by
  rw [hV6]
  have h:=heap_setCell_same (w4.alloc (.cells #[.int .i64 5, .int .i64 (ln:Int), .int .i64 (rn:Int), .int .i64 val] 38)) w.heap.size (1+t) _ _ (u8V ((kn:Int)+1)) X5.out
  rw [valsA_moreL _ s.q _ (by omega),valsA_setPc _ s.q ht3 (by rw [HOK.out.q.lp,HN.out];exact HT.out)] at h
  exact h
 have hC6:V6.heap[w4.heap.size]? = some (.cells #[.int .i64 5, .int .i64 (ln:Int), .int .i64 (rn:Int), .int .i64 val] 38 (0,0)):=by
  rw [hV6]
  exact (heap_setCell_other (w4.alloc (.cells #[.int .i64 5, .int .i64 (ln:Int), .int .i64 (rn:Int), .int .i64 val] 38)) ⟨w.heap.size,1+t,none⟩ w4.heap.size _ (show w4.heap.size≠w.heap.size by have:=HL4.out;omega)).trans (heap_alloc_new w4 _)
 have B6:Hid (Below w.heap.size w V6):=hide (by rw [hV6];exact (B4.out.alloc B4.out.size _).setCell (p:=⟨w.heap.size,1+t,none⟩) (Nat.le_refl _) _)
 have X6:=hide hX6;have C6:=hide hC6
 have OW6:Hid (Own SlcE 22 V6 V1.heap.size (.slice (some ⟨cg,0,none⟩) us.length cc) us):=hide (by rw [hV6];exact (OW4.out.below ((Below.refl _ _).alloc (Nat.le_refl _) _)).setOther (T:=83) (j:=1+t) (u:=u8V ((kn:Int)+1)) (by decide) X5.out)
 rw [← hV6]
 clear hV6 hX6 e1 efz el X5 B4
 have g0:V6.cell? ⟨w4.heap.size,0,none⟩=some (.int .i64 5):=cellH hC6 (k:=0) rfl
 have g1:V6.cell? ⟨w4.heap.size,1,none⟩=some (.int .i64 (ln:Int)):=cellH hC6 (k:=1) rfl
 have g2:V6.cell? ⟨w4.heap.size,2,none⟩=some (.int .i64 (rn:Int)):=cellH hC6 (k:=2) rfl
 have g3:V6.cell? ⟨w4.heap.size,3,none⟩=some (.int .i64 val):=cellH hC6 (k:=3) rfl
 have gl:=lt_of_cell g0
 clear hC6
 go_wp2_with fail
 (with_reducible refine (reads_raw 5 (ln:Int) (rn:Int) val V6).mono ?_);rintro e w7 ⟨rfl,hb7⟩
 have X7:=hide (X6.out.below hb7)
 have OW7:=hide (OW6.out.below hb7)
 have C7:=hide ((hb7.block w4.heap.size gl).trans C6.out)
 have B7:=hide (B6.out.trans (hb7.mono B6.out.size))
 have k7_0:w7.cell? ⟨w4.heap.size,0,none⟩=some (.int .i64 5):=cellH C7.out (k:=0) rfl
 have k7_1:w7.cell? ⟨w4.heap.size,1,none⟩=some (.int .i64 (ln:Int)):=cellH C7.out (k:=1) rfl
 have k7_2:w7.cell? ⟨w4.heap.size,2,none⟩=some (.int .i64 (rn:Int)):=cellH C7.out (k:=2) rfl
 have k7_3:w7.cell? ⟨w4.heap.size,3,none⟩=some (.int .i64 val):=cellH C7.out (k:=3) rfl
 have k7_l:=lt_of_cell k7_0
 clear hb7 g0 g1 g2 g3 gl X6 OW6 C6 B6
 have nl7:w.heap.size < w7.heap.size:=X7.out.lt
 have fz7:=frozH X7.out
 have mw7:=(ValAt.ofMore X7.out).c3 ln hl3
 have hr:isRop 5=true:=by decide
 simp only [hr]
 go_upto_region 12 with fail
 have hnt2:decide (n≤t)=false:=decide_eq_false (by omega)
 try simp only [hnt2]
 clear hnt2
 have HDS:=hide (bfDo_swap hl3 HD.out)
 obtain ⟨W1,hW1⟩:∃ W,W=w7.drew:=⟨_,rfl⟩
 have H1:Hid (Below W1.heap.size W1 w7.drew):=hide (by rw [hW1];exact Below.refl _ _)
 have X1:Hid (BufB W1 w.heap.size (.slice va n vc) split ⟨some ⟨cg,0,none⟩,us.length,cc⟩ ⟨⟨s.q.pc.set t ((kn:Int)+1),s.q.rg,s.q.mm⟩,s.bf⟩):=hide (by rw [hW1];exact X7.out)
 have OW1:Hid (Own SlcE 22 W1 V1.heap.size (.slice (some ⟨cg,0,none⟩) us.length cc) us):=hide (by rw [hW1];exact OW7.out.below (Below.refl _ _).drew)
 have C1:Hid (W1.heap[w4.heap.size]? = some (.cells #[.int .i64 5, .int .i64 (ln:Int), .int .i64 (rn:Int), .int .i64 val] 38 (0,0))):=hide (by rw [hW1];exact C7.out)
 have B1:Hid (Below w.heap.size w W1):=hide (by rw [hW1];exact B7.out.drew)
 obtain ⟨R,hR⟩:∃ R,R=bfSeen s t (ln:Int) split:=⟨_,rfl⟩
 have HRD2:Hid (∀ W,Below W1.heap.size W1 W→Calls Try.prog 107 #[.pointer (some ⟨b,0,none⟩), .int .i64 (t:Int), .int .i64 (ln:Int)] W fun e w'=>e = .returned (.int .u8 R)∧Below W.heap.size W w'):=hide fun W hW=>by
  have hbW:=B1.out.trans (hW.mono B1.out.size)
  rw [hR]
  exact bufRead_any b t ln (.slice va n vc) split ⟨some ⟨wb,wo,none⟩,wn,wk⟩ p s W (HX.out.below hbW) (HBW.out.below hbW) HOK.out (by rw [HN.out];exact HT.out) (by rw [HN.out];exact HPL.out) (by omega) (fun r hr=>Nat.le_trans (HLEN.out r hr) (by decide))
 rw [← hR] at HDS
 have j1:W1.cell? ⟨w4.heap.size,1,none⟩=some (.int .i64 (ln:Int)):=cellH C1.out (k:=1) rfl
 have j2:W1.cell? ⟨w4.heap.size,2,none⟩=some (.int .i64 (rn:Int)):=cellH C1.out (k:=2) rfl
 have jl:=lt_of_cell j1
 clear k7_0 k7_1 k7_2 k7_3 k7_l fz7 nl7 mw7 hW1 hR hr X7 OW7 C7 B7
 -- reg rd5
 refine wp_region_inv3 (n:=12) (by kernel_rfl) rfl (by kernel_rfl) (by kernel_rfl) (fun A ls a' W => ∃ (x84 x85 x86 x87 x88 x89 x90 x91 x92 x93 x94 x95:Value),a'=putAll A [(84,x84),(85,x85),(86,x86),(87,x87),(88,x88),(89,x89),(90,x90),(91,x91),(92,x92),(93,x93),(94,x94),(95,x95)]∧Vd ls 0 [] x84 (.int .i64 (t:Int))∧Vd ls 1 [] x85 (.pointer (some ⟨w4.heap.size,2,none⟩))∧Vd ls 2 [] x86 (.int .i64 (rn:Int))∧Vd ls 3 [] x87 (.pointer (some ⟨b,0,none⟩))∧Vd ls 4 [] x88 (.int .i64 (t:Int))∧Vd ls 5 [] x89 (.pointer (some ⟨w4.heap.size,1,none⟩))∧Vd ls 6 [] x90 (.int .i64 (ln:Int))∧Vd ls 7 [] x91 (.int .u8 R)∧Vd ls 8 [] x92 (.pointer (some ⟨w.heap.size,0,none⟩))∧Vd ls 9 [] x93 (.pointer (some ⟨w.heap.size,4,none⟩))∧Vd ls 10 [] x94 (.pointer (some ⟨w.heap.size,4+t * 3,none⟩))∧Vd ls 11 [] x95 (.pointer (some ⟨w.heap.size,4+t * 3+rn,none⟩))∧Below W1.heap.size W1 W) ?r0 ?rs ?re
 case r0 =>
  exact ⟨undef,undef,undef,undef,undef,undef,undef,undef,undef,undef,undef,undef,by simp only [putAll,Act.put,List.setIfInBounds_toArray,List.set_cons_succ,List.set_cons_zero],Vd.start,Vd.start,Vd.start,Vd.start,Vd.start,Vd.start,Vd.start,Vd.start,Vd.start,Vd.start,Vd.start,Vd.start,by exact H1.out⟩
 case rs =>
  rintro ls a' W hs hnl ⟨x84,x85,x86,x87,x88,x89,x90,x91,x92,x93,x94,x95,ha,cv0,cv1,cv2,cv3,cv4,cv5,cv6,cv7,cv8,cv9,cv10,cv11,hJ⟩ k o hkn mc K hK
  simp only [putAll,Act.put,List.setIfInBounds_toArray,List.set_cons_succ,List.set_cons_zero] at ha
  subst ha
  have hkc:k=0∨k=1∨k=2∨k=3∨k=4∨k=5∨k=6∨k=7∨k=8∨k=9∨k=10∨k=11:=by omega
  have hop:=mc.op
  have haf:=mc.after
  rcases hkc with rfl | rfl | rfl | rfl | rfl | rfl | rfl | rfl | rfl | rfl | rfl | rfl
  ·simp at hop;subst hop;simp [Region.binds] at haf
   go_simp
   exact hK _ _ ⟨_,_,_,_,_,_,_,_,_,_,_,_,by simp only [putAll,Act.put,List.setIfInBounds_toArray,List.set_cons_succ,List.set_cons_zero],Vd.same (by simp),cv1.set (by decide),cv2.set (by decide),cv3.set (by decide),cv4.set (by decide),cv5.set (by decide),cv6.set (by decide),cv7.set (by decide),cv8.set (by decide),cv9.set (by decide),cv10.set (by decide),cv11.set (by decide),by exact hJ⟩
  ·simp at hop;subst hop;simp [Region.binds] at haf
   go_simp
   exact hK _ _ ⟨_,_,_,_,_,_,_,_,_,_,_,_,by simp only [putAll,Act.put,List.setIfInBounds_toArray,List.set_cons_succ,List.set_cons_zero],cv0.set (by decide),Vd.same (by simp),cv2.set (by decide),cv3.set (by decide),cv4.set (by decide),cv5.set (by decide),cv6.set (by decide),cv7.set (by decide),cv8.set (by decide),cv9.set (by decide),cv10.set (by decide),cv11.set (by decide),by exact hJ⟩
  ·simp at hop;subst hop;simp [Region.binds] at haf
   obtain rfl:=(cv1.get (by simp [haf])).symm
   have BB:=hJ
   have e2:W.cell? ⟨w4.heap.size,2,none⟩=some (.int .i64 (rn:Int)):=(BB.cell (p:=⟨w4.heap.size,2,none⟩) jl).trans j2
   have el:=lt_of_cell e2
   go_simp
   exact hK _ _ ⟨_,_,_,_,_,_,_,_,_,_,_,_,by simp only [putAll,Act.put,List.setIfInBounds_toArray,List.set_cons_succ,List.set_cons_zero],cv0.set (by decide),cv1.set (by decide),Vd.same (by simp),cv3.set (by decide),cv4.set (by decide),cv5.set (by decide),cv6.set (by decide),cv7.set (by decide),cv8.set (by decide),cv9.set (by decide),cv10.set (by decide),cv11.set (by decide),by exact hJ⟩
  ·simp at hop;subst hop;simp [Region.binds] at haf
   go_simp
   exact hK _ _ ⟨_,_,_,_,_,_,_,_,_,_,_,_,by simp only [putAll,Act.put,List.setIfInBounds_toArray,List.set_cons_succ,List.set_cons_zero],cv0.set (by decide),cv1.set (by decide),cv2.set (by decide),Vd.same (by simp),cv4.set (by decide),cv5.set (by decide),cv6.set (by decide),cv7.set (by decide),cv8.set (by decide),cv9.set (by decide),cv10.set (by decide),cv11.set (by decide),by exact hJ⟩
  ·simp at hop;subst hop;simp [Region.binds] at haf
   go_simp
   exact hK _ _ ⟨_,_,_,_,_,_,_,_,_,_,_,_,by simp only [putAll,Act.put,List.setIfInBounds_toArray,List.set_cons_succ,List.set_cons_zero],cv0.set (by decide),cv1.set (by decide),cv2.set (by decide),cv3.set (by decide),Vd.same (by simp),cv5.set (by decide),cv6.set (by decide),cv7.set (by decide),cv8.set (by decide),cv9.set (by decide),cv10.set (by decide),cv11.set (by decide),by exact hJ⟩
  ·simp at hop;subst hop;simp [Region.binds] at haf
   go_simp
   exact hK _ _ ⟨_,_,_,_,_,_,_,_,_,_,_,_,by simp only [putAll,Act.put,List.setIfInBounds_toArray,List.set_cons_succ,List.set_cons_zero],cv0.set (by decide),cv1.set (by decide),cv2.set (by decide),cv3.set (by decide),cv4.set (by decide),Vd.same (by simp),cv6.set (by decide),cv7.set (by decide),cv8.set (by decide),cv9.set (by decide),cv10.set (by decide),cv11.set (by decide),by exact hJ⟩
  ·simp at hop;subst hop;simp [Region.binds] at haf
   obtain rfl:=(cv5.get (by simp [haf])).symm
   have BB:=hJ
   have e1:W.cell? ⟨w4.heap.size,1,none⟩=some (.int .i64 (ln:Int)):=(BB.cell (p:=⟨w4.heap.size,1,none⟩) jl).trans j1
   have el:=lt_of_cell e1
   go_simp
   exact hK _ _ ⟨_,_,_,_,_,_,_,_,_,_,_,_,by simp only [putAll,Act.put,List.setIfInBounds_toArray,List.set_cons_succ,List.set_cons_zero],cv0.set (by decide),cv1.set (by decide),cv2.set (by decide),cv3.set (by decide),cv4.set (by decide),cv5.set (by decide),Vd.same (by simp),cv7.set (by decide),cv8.set (by decide),cv9.set (by decide),cv10.set (by decide),cv11.set (by decide),by exact hJ⟩
  ·simp at hop;subst hop;simp [Region.binds] at haf
   obtain rfl:=(cv3.get (by simp [haf])).symm
   obtain rfl:=(cv4.get (by simp [haf])).symm
   obtain rfl:=(cv6.get (by simp [haf])).symm
   go_simp
   go_at_call 107
   (with_reducible refine (HRD2.out W hJ).mono ?_);rintro e u ⟨rfl,hb⟩
   exact hK _ _ ⟨_,_,_,_,_,_,_,_,_,_,_,_,by simp only [putAll,Act.put,List.setIfInBounds_toArray,List.set_cons_succ,List.set_cons_zero],cv0.set (by decide),cv1.set (by decide),cv2.set (by decide),cv3.set (by decide),cv4.set (by decide),cv5.set (by decide),cv6.set (by decide),Vd.same (by simp),cv8.set (by decide),cv9.set (by decide),cv10.set (by decide),cv11.set (by decide),by exact hJ.trans (hb.mono hJ.size)⟩
  ·simp at hop;subst hop;simp [Region.binds] at haf
   go_simp
   exact hK _ _ ⟨_,_,_,_,_,_,_,_,_,_,_,_,by simp only [putAll,Act.put,List.setIfInBounds_toArray,List.set_cons_succ,List.set_cons_zero],cv0.set (by decide),cv1.set (by decide),cv2.set (by decide),cv3.set (by decide),cv4.set (by decide),cv5.set (by decide),cv6.set (by decide),cv7.set (by decide),Vd.same (by simp),cv9.set (by decide),cv10.set (by decide),cv11.set (by decide),by exact hJ⟩
  ·simp at hop;subst hop;simp [Region.binds] at haf
   obtain rfl:=(cv8.get (by simp [haf])).symm
   go_simp
   exact hK _ _ ⟨_,_,_,_,_,_,_,_,_,_,_,_,by simp only [putAll,Act.put,List.setIfInBounds_toArray,List.set_cons_succ,List.set_cons_zero],cv0.set (by decide),cv1.set (by decide),cv2.set (by decide),cv3.set (by decide),cv4.set (by decide),cv5.set (by decide),cv6.set (by decide),cv7.set (by decide),cv8.set (by decide),Vd.same (by simp),cv10.set (by decide),cv11.set (by decide),by exact hJ⟩
  ·simp at hop;subst hop;simp [Region.binds] at haf
   obtain rfl:=(cv9.get (by simp [haf])).symm
   obtain rfl:=(cv0.get (by simp [haf])).symm
   go_simp
   exact hK _ _ ⟨_,_,_,_,_,_,_,_,_,_,_,_,by simp only [putAll,Act.put,List.setIfInBounds_toArray,List.set_cons_succ,List.set_cons_zero],cv0.set (by decide),cv1.set (by decide),cv2.set (by decide),cv3.set (by decide),cv4.set (by decide),cv5.set (by decide),cv6.set (by decide),cv7.set (by decide),cv8.set (by decide),cv9.set (by decide),Vd.same (by simp),cv11.set (by decide),by exact hJ⟩
  ·simp at hop;subst hop;simp [Region.binds] at haf
   obtain rfl:=(cv10.get (by simp [haf])).symm
   obtain rfl:=(cv2.get (by simp [haf])).symm
   go_simp
   exact hK _ _ ⟨_,_,_,_,_,_,_,_,_,_,_,_,by simp only [putAll,Act.put,List.setIfInBounds_toArray,List.set_cons_succ,List.set_cons_zero],cv0.set (by decide),cv1.set (by decide),cv2.set (by decide),cv3.set (by decide),cv4.set (by decide),cv5.set (by decide),cv6.set (by decide),cv7.set (by decide),cv8.set (by decide),cv9.set (by decide),cv10.set (by decide),Vd.same (by simp),by exact hJ⟩
 case re =>
  rintro ls a' W hall ⟨x84,x85,x86,x87,x88,x89,x90,x91,x92,x93,x94,x95,ha,cv0,cv1,cv2,cv3,cv4,cv5,cv6,cv7,cv8,cv9,cv10,cv11,hJ⟩ o hop
  simp only [putAll,Act.put,List.setIfInBounds_toArray,List.set_cons_succ,List.set_cons_zero] at ha
  subst ha
  simp at hop;subst hop
  obtain rfl:=(cv0.get (hall 0 (by decide))).symm
  obtain rfl:=(cv1.get (hall 1 (by decide))).symm
  obtain rfl:=(cv2.get (hall 2 (by decide))).symm
  obtain rfl:=(cv3.get (hall 3 (by decide))).symm
  obtain rfl:=(cv4.get (hall 4 (by decide))).symm
  obtain rfl:=(cv5.get (hall 5 (by decide))).symm
  obtain rfl:=(cv6.get (hall 6 (by decide))).symm
  obtain rfl:=(cv7.get (hall 7 (by decide))).symm
  obtain rfl:=(cv8.get (hall 8 (by decide))).symm
  obtain rfl:=(cv9.get (hall 9 (by decide))).symm
  obtain rfl:=(cv10.get (hall 10 (by decide))).symm
  obtain rfl:=(cv11.get (hall 11 (by decide))).symm
  have hbx:=X1.out.below hJ
  have c2:=(ValAt.ofMore hbx).c2 t ht3 rn hr3
  have cl:=lt_of_cell c2
  have cfz:=frozH hbx
  go_simp
  have h6:=heap_setCell_same W w.heap.size (4+t * 3+rn) _ _ (u8V R) hbx
  rw [valsA_moreL _ _ _ (by omega),valsA_setRg _ _ ht3 hr3 (by show t * 3+rn < s.q.rg.length;rw [HOK.out.q.lr,HN.out];have:=HT.out;omega)] at h6
  have CW:=(hJ.block w4.heap.size jl).trans C1.out
  obtain ⟨V8,hV8⟩:∃ V,V=W.setCell ⟨w.heap.size,4+t * 3+rn,none⟩ (.int .u8 R):=⟨_,rfl⟩
  have X8:Hid (BufB V8 w.heap.size (.slice va n vc) split ⟨some ⟨cg,0,none⟩,us.length,cc⟩ ⟨⟨s.q.pc.set t ((kn:Int)+1),s.q.rg.set (t * 3+rn) R,s.q.mm⟩,s.bf⟩):=hide (by rw [hV8];exact h6)
  have OW8:Hid (Own SlcE 22 V8 V1.heap.size (.slice (some ⟨cg,0,none⟩) us.length cc) us):=hide (by rw [hV8];exact (OW1.out.below hJ).setOther (T:=83) (by decide) hbx)
  have C8:Hid (V8.heap[w4.heap.size]? = some (.cells #[.int .i64 5, .int .i64 (ln:Int), .int .i64 (rn:Int), .int .i64 val] 38 (0,0))):=hide (by rw [hV8];exact (heap_setCell_other W ⟨w.heap.size,4+t * 3+rn,none⟩ w4.heap.size _ (show w4.heap.size≠w.heap.size by have:=HL4.out;omega)).trans CW)
  have B8:Hid (Below w.heap.size w V8):=hide (by rw [hV8];exact (B1.out.trans (hJ.mono B1.out.size)).setCell (p:=⟨w.heap.size,4+t * 3+rn,none⟩) (Nat.le_refl _) _)
  rw [← hV8]
  clear hV8 h6 CW hbx c2 cl cfz hJ j1 j2 jl X1 OW1 C1 B1
  have k8_0:V8.cell? ⟨w4.heap.size,0,none⟩=some (.int .i64 5):=cellH C8.out (k:=0) rfl
  have k8_1:V8.cell? ⟨w4.heap.size,1,none⟩=some (.int .i64 (ln:Int)):=cellH C8.out (k:=1) rfl
  have k8_3:V8.cell? ⟨w4.heap.size,3,none⟩=some (.int .i64 val):=cellH C8.out (k:=3) rfl
  have k8_l:=lt_of_cell k8_0
  have nl8:=X8.out.lt
  have fz8:=frozH X8.out
  have mw8:=(ValAt.ofMore X8.out).c3 ln hl3
  have wv:IntKind.u8.wrap val=val:=by rw [IntKind.wrap_u8];omega
  go_wp2_with fail
  have h8:=heap_setCell_same V8 w.heap.size (13+ln) _ _ (u8V val) X8.out
  rw [valsA_more _ _ _ hl3,valsA_setMm _ _ hl3 (by show ln < s.q.mm.length;rw [HOK.out.q.lm];exact hl3)] at h8
  have FX:Hid (BufB (V8.setCell ⟨w.heap.size,13+ln,none⟩ (u8V val)) w.heap.size (.slice va n vc) split ⟨some ⟨cg,0,none⟩,us.length,cc⟩ s'):=hide (by rw [HDS.out];exact h8)
  have FO:=hide ((OW8.out.setOther (T:=83) (j:=13+ln) (u:=u8V val) (by decide) X8.out).mono (Nat.le_of_lt HLN.out))
  have FW:=hide (B8.out.setCell (p:=⟨w.heap.size,13+ln,none⟩) (Nat.le_refl _) (u8V val))
  clear h8
  go_ret
  exact ⟨w.heap.size,⟨some ⟨cg,0,none⟩,us.length,cc⟩,rfl,FX.out,Nat.le_refl _,FW.out, .inl ⟨by rw [HDS.out],FO.out⟩⟩
 -- end rd5
end Go.Proofs.Ytlddmagfbcomgaa
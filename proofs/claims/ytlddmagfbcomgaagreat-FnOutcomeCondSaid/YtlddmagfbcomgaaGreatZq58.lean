/-
  The reference's step with one memory. Condition: bounds on lengths and numbers.
-/
import Derived.Test.YtlddmagfbcomgaaGreatZq55
set_option maxHeartbeats 6400000
set_option maxRecDepth 100000
namespace Go.Proofs.YtlddmagfbcomgaaGreat
open Go.RowKit
theorem Own2.setLow {α:Type} {E:El α} {T1 T2:TypeId} {w:World} {base g j:Nat} {v u:Value} {p:List (List α)} (h:Own2 E T1 T2 w base v p) (hg:g < base):Own2 E T1 T2 (w.setCell ⟨g,j,none⟩ u) base v p:=by
 obtain ⟨us,g1,g2,g3,g4,g5⟩:=h
 exact ⟨us,g1,g2.sameT fun q hq=>heap_setCell_other w ⟨g,j,none⟩ q u (show q≠g by have:=(World.ownsRow.lt g2 q hq).1;omega),
  fun i u' r hu hr=>(g3 i u' r hu hr).sameT fun q hq=>heap_setCell_other w ⟨g,j,none⟩ q u (show q≠g by have:=(World.ownsRow.lt (g3 i u' r hu hr) q hq).1;omega),g4,g5⟩
structure DoS (w:World) (O I m:Nat) (xs:List Value) (y:SV) (i:List Value) (s:St) (V:World):Prop where
 bx:V.heap[w.heap.size]? = some (.cells xs.toArray 195 (0,0))
 br:V.heap[w.heap.size+1]? = some (.cells #[.slice none 0 0, .slice none 0 0, .slice none 0 0, .slice none 0 0] 195 (0,0))
 bo:V.heap[O]? = some (.cells #[.slice y.p.a y.p.n y.p.cap, .slice y.r.a y.r.n y.r.cap, .slice y.m.a y.m.n y.m.cap, .slice y.b.a y.b.n y.b.cap] 195 (0,0))
 bi:V.heap[I]? = some (.cells i.toArray 74 (0,0))
 st:OwnSt V (w.heap.size+2) m y s
 bl:Below w.heap.size w V
 n1:w.heap.size+1 < O
 n2:O < I
 n3:m≤O
section
variable {w V V' : World} {O I m g k : Nat} {xs i : List Value} {y : SV} {s : St} {v : Int}
theorem DoS.below (h:DoS w O I m xs y i s V) (hb:Below V.heap.size V V'):DoS w O I m xs y i s V':=
 have e:∀ {q ob},V.heap[q]? = some ob→V'.heap[q]? = some ob:=fun hq=>(hb.block _ (Array.getElem?_eq_some_iff.1 hq).1).trans hq
 ⟨e h.bx,e h.br,e h.bo,e h.bi,h.st.below hb,h.bl.trans (hb.mono h.bl.size),h.n1,h.n2,h.n3⟩
theorem DoS.other (_:DoS w O I m xs y i s V) {l:List Int} {c:Slc} (ho:Own IntE 3 V (w.heap.size+2) c.v l) (hg:c.v.ownBlock=some g) (u:Value) :
 ∀ (q:Nat) (a:Array Value) (T:TypeId),V.heap[q]? = some (Obj.cells a T (0,0))→T≠3→(V.setCell ⟨g,k,none⟩ u).heap[q]? = some (Obj.cells a T (0,0)):=fun q a T hq hT =>
 (heap_setCell_other V ⟨g,k,none⟩ q u (show q≠g by
  rintro rfl
  obtain ⟨a',ha⟩:=ho.typeT hg
  rw [hq] at ha
  simp at ha
  exact hT ha.2)).trans hq
theorem DoS.pc (h:DoS w O I m xs y i s V) (hg:y.p.a=some ⟨g,0,none⟩) (hk:k < s.pc.length) (v:Int):DoS w O I m xs y i { s with pc:=s.pc.set k v } (V.setCell ⟨g,k,none⟩ (.int .i64 v))∧g < V.heap.size∧(∃ x,V.cell? ⟨g,k,none⟩=some (.int .i64 x))∧V.frozen? ⟨g,k,none⟩=false:=by
 obtain ⟨⟨a,n,c⟩,y2,y3,y4⟩:=y
 subst hg
 obtain ⟨x,hx⟩:=get_of_lt hk
 obtain ⟨k1,k2,k3,k4,k5⟩:=h.st.ln.o1.int1 hx v
 have e:=h.other (k:=k) h.st.ln.o1 rfl (.int .i64 v)
 exact ⟨⟨e _ _ _ h.bx (by decide),e _ _ _ h.br (by decide),e _ _ _ h.bo (by decide),e _ _ _ h.bi (by decide),⟨h.st.ln.put1 k4 k5 (.inl rfl),h.st.bf.setLow (h.st.p1 g rfl),h.st.p1,h.st.p2,h.st.p3,h.st.le,by simpa using h.st.lh⟩,h.bl.setCell (p:=⟨g,k,none⟩) (by have:=(World.ownsRow.lt h.st.ln.o1 g rfl).1;show _≤g;omega) _,h.n1,h.n2,h.n3⟩,k1,⟨x,k2⟩,k3 k⟩
theorem DoS.rg (h:DoS w O I m xs y i s V) (hg:y.r.a=some ⟨g,0,none⟩) (hk:k < s.rg.length) (v:Int):DoS w O I m xs y i { s with rg:=s.rg.set k v } (V.setCell ⟨g,k,none⟩ (.int .i64 v))∧g < V.heap.size∧(∃ x,V.cell? ⟨g,k,none⟩=some (.int .i64 x))∧V.frozen? ⟨g,k,none⟩=false:=by
 obtain ⟨y1,⟨a,n,c⟩,y3,y4⟩:=y
 subst hg
 obtain ⟨x,hx⟩:=get_of_lt hk
 obtain ⟨k1,k2,k3,k4,k5⟩:=h.st.ln.o2.int1 hx v
 have e:=h.other (k:=k) h.st.ln.o2 rfl (.int .i64 v)
 exact ⟨⟨e _ _ _ h.bx (by decide),e _ _ _ h.br (by decide),e _ _ _ h.bo (by decide),e _ _ _ h.bi (by decide),⟨h.st.ln.put2 k4 k5 (.inl rfl),h.st.bf.setLow (h.st.p2 g rfl),h.st.p1,h.st.p2,h.st.p3,h.st.le,by simpa using h.st.lh⟩,h.bl.setCell (p:=⟨g,k,none⟩) (by have:=(World.ownsRow.lt h.st.ln.o2 g rfl).1;show _≤g;omega) _,h.n1,h.n2,h.n3⟩,k1,⟨x,k2⟩,k3 k⟩
theorem DoS.mm (h:DoS w O I m xs y i s V) (hg:y.m.a=some ⟨g,0,none⟩) (hk:k < s.mm.length) (v:Int):DoS w O I m xs y i { s with mm:=s.mm.set k v } (V.setCell ⟨g,k,none⟩ (.int .i64 v))∧g < V.heap.size∧(∃ x,V.cell? ⟨g,k,none⟩=some (.int .i64 x))∧V.frozen? ⟨g,k,none⟩=false:=by
 obtain ⟨y1,y2,⟨a,n,c⟩,y4⟩:=y
 subst hg
 obtain ⟨x,hx⟩:=get_of_lt hk
 obtain ⟨k1,k2,k3,k4,k5⟩:=h.st.ln.o3.int1 hx v
 have e:=h.other (k:=k) h.st.ln.o3 rfl (.int .i64 v)
 exact ⟨⟨e _ _ _ h.bx (by decide),e _ _ _ h.br (by decide),e _ _ _ h.bo (by decide),e _ _ _ h.bi (by decide),⟨h.st.ln.put3 k4 k5 (.inl rfl),h.st.bf.setLow (h.st.p3 g rfl),h.st.p1,h.st.p2,h.st.p3,h.st.le,by simpa using h.st.lh⟩,h.bl.setCell (p:=⟨g,k,none⟩) (by have:=(World.ownsRow.lt h.st.ln.o3 g rfl).1;show _≤g;omega) _,h.n1,h.n2,h.n3⟩,k1,⟨x,k2⟩,k3 k⟩
end
structure JDo (V:World) (f:Bool) (I:Nat) (W:World):Prop where
 out:Below V.heap.size V W
 ob:f=true→W.heap[I]? = some (.cells #[.int .i64 0, .int .i64 0, .int .i64 0, .int .i64 0] 74 (0,0))∧V.heap.size≤I
theorem l3Do_n (vp:Value) (p:List (List Ins)) (x:SV) (s:St) (t kn lc rc:Nat) (op val:Int) (r:List Ins) (w:World) (hp:RepP w vp p) (hx:RepSt w x s) (hpc:s.pc[t]? = some (kn:Int)) (hrow:p[t]? = some r) (hins:r[kn]? = some ⟨op,lc,rc,val⟩)
 (hr:isRop op=false) (hw:isWop op=false) (ht:t≤2) (hlc:lc≤2) (hrc:rc≤2) (h1:s.pc.length≤1000) (h2:s.rg.length=s.pc.length * 3) (h3:s.mm.length=3) (h4:s.bf.length≤100) (h5:∀ o∈s.bf,o.length≤1000) (hrl:r.length≤1000) :
 Calls Tryz.prog 198 #[vp, .agg #[.slice x.p.a x.p.n x.p.cap, .slice x.r.a x.r.n x.r.cap, .slice x.m.a x.m.n x.m.cap, .slice x.b.a x.b.n x.b.cap], .int .i64 (t:Int)] w
  (RetSt w ⟨(sqDo s.q t kn ⟨op,lc,rc,val⟩).pc,(sqDo s.q t kn ⟨op,lc,rc,val⟩).rg,(sqDo s.q t kn ⟨op,lc,rc,val⟩).mm,s.bf⟩):=by
 obtain ⟨⟨pa,pn,pk⟩,⟨ra,rn,rk⟩,⟨ma,mn,mk⟩,⟨ba,bn,bk⟩⟩:=x
 obtain ⟨va,vc,rfl,hc1,hc2,hc3,hp⟩:=hp.open
 obtain ⟨b2,o2,qa,qc,rfl,hbl2,q0,q1⟩:=hp.row hrow
 obtain ⟨b3,o3,rfl,hbl3,r0,r1,r2,r3⟩:=q1.ins hins
 have hpt:=(List.getElem?_eq_some_iff.1 hrow).1
 have hkr:=(List.getElem?_eq_some_iff.1 hins).1
 obtain ⟨_,_,hv1, -, -, -, -⟩:=hx.pc.open
 obtain ⟨_,_,hv3, -, -, -, -⟩:=hx.mm.open
 simp only [Slc.v,Value.slice.injEq] at hv1 hv3
 obtain ⟨rfl,hn1,rfl⟩:=hv1
 obtain ⟨rfl,hn3,rfl⟩:=hv3
 obtain ⟨b,o,rfl,hbl,i0⟩:=(show Rep IntE w (.slice pa pn pk) s.pc from hx.pc).int hpc
 obtain ⟨mv,hmv⟩:=get_of_lt (xs:=s.mm) (k:=lc) (by omega)
 obtain ⟨bm,om,rfl,hblm,m0⟩:=(show Rep IntE w (.slice ma mn mk) s.mm from hx.mm).int hmv
 have htl:=(List.getElem?_eq_some_iff.1 hpc).1
 obtain ⟨qr,hqr⟩:∃ qr:Nat,qr=t * 3+rc:=⟨_,rfl⟩
 have HX:=hide hx
 have HREG:=hide (fun w'=>(l3Reg_M t rc w' ht hrc).mono fun e w'' ⟨h1,h2⟩=>(⟨by rw [hqr];exact h1,h2 ▸ Below.refl _ _⟩:e=Ending.returned (.int .i64 (qr:Int))∧Below w'.heap.size w' w''))
 have HRO:=hide hr;have HWO:=hide hw
 have MV:Hid (s.mm.getD lc 0=mv):=hide (by rw [List.getD_eq_getElem?_getD,hmv];rfl)
 have E:Hid (sqDo s.q t kn ⟨op,lc,rc,val⟩=⟨s.pc.set t ((kn:Int)+1),s.rg,s.mm⟩):=hide (by unfold sqDo;simp [hr,hw])
 have hpn:(t:Int) < (pn:Int):=by omega
 have hpn2:(t:Int) < (p.length:Int):=by omega
 have hkn2:(kn:Int) < (r.length:Int):=by omega
 have hmn:(lc:Int) < (mn:Int):=by omega
 have hrg:qr < s.rg.length:=by omega
 have H1:=hide h1;have H2:=hide h2;have H3:=hide h3;have HPC:=hide htl;have HRG:=hide hrg;have HMM:=hide (show lc < s.mm.length by omega)
 have HRL:=hide hrl
 have HVAL:=hide (fun w' (h:RepSt w' ⟨⟨some ⟨b,o,none⟩,pn,pk⟩,⟨ra,rn,rk⟩,⟨some ⟨bm,om,none⟩,mn,mk⟩,⟨ba,bn,bk⟩⟩ s)=>l3Value_any _ s t rc op lc val w' h ht hrc (by omega))
 have hknb:(kn:Int) < 1000:=by omega
 have hkw:IntKind.i64.wrap ((kn:Int)+1)=(kn:Int)+1:=wrapM (by omega) (by omega)
 have HCP:=hide (fun w' (h:RepSt w' ⟨⟨some ⟨b,o,none⟩,pn,pk⟩,⟨ra,rn,rk⟩,⟨some ⟨bm,om,none⟩,mn,mk⟩,⟨ba,bn,bk⟩⟩ s)=>l3Copy_any _ s w' h (by omega) (by omega) (by omega) (by omega) (fun o ho=>by have:=h5 o ho;omega))
 obtain ⟨A0,hA0⟩:∃ A0,A0=(w.alloc (.cells #[.slice (some ⟨b,o,none⟩) pn pk, .slice ra rn rk, .slice (some ⟨bm,om,none⟩) mn mk, .slice ba bn bk] 195)).alloc (.cells #[.slice none 0 0, .slice none 0 0, .slice none 0 0, .slice none 0 0] 195):=⟨_,rfl⟩
 have hz:A0.heap.size=w.heap.size+2:=by rw [hA0];simp
 have HX2:Hid (A0.heap[w.heap.size]? = some (.cells #[.slice (some ⟨b,o,none⟩) pn pk, .slice ra rn rk, .slice (some ⟨bm,om,none⟩) mn mk, .slice ba bn bk] 195 (0,0))):=hide (by
  rw [hA0,heap_alloc_old _ _ (by simp)];exact heap_alloc_new w _)
 have HR2:Hid (A0.heap[w.heap.size+1]? = some (.cells #[.slice none 0 0, .slice none 0 0, .slice none 0 0, .slice none 0 0] 195 (0,0))):=hide (by
  have h:=heap_alloc_new (w.alloc (.cells #[.slice (some ⟨b,o,none⟩) pn pk, .slice ra rn rk, .slice (some ⟨bm,om,none⟩) mn mk, .slice ba bn bk] 195)) (.cells #[.slice none 0 0, .slice none 0 0, .slice none 0 0, .slice none 0 0] 195)
  rw [hA0];simpa using h)
 have HB:Hid (Below w.heap.size w A0):=hide (by rw [hA0];exact (belowAlloc w _).alloc (by simp) _)
 have a0:A0.cell? ⟨w.heap.size,0,none⟩=some (.slice (some ⟨b,o,none⟩) pn pk):=cellH HX2.out (k:=0) rfl
 have a1:A0.cell? ⟨w.heap.size,1,none⟩=some (.slice ra rn rk):=cellH HX2.out (k:=1) rfl
 have a2:A0.cell? ⟨w.heap.size,2,none⟩=some (.slice (some ⟨bm,om,none⟩) mn mk):=cellH HX2.out (k:=2) rfl
 have a3:A0.cell? ⟨w.heap.size,3,none⟩=some (.slice ba bn bk):=cellH HX2.out (k:=3) rfl
 have al:=lt_of_cell a0
 have HA0:=hide hA0
 have HT:=hide ht;have HLC:=hide hlc;have HRC:=hide hrc
 have Q0:=hide q0;have R0:=hide r0;have R1:=hide r1;have R2:=hide r2;have R3:=hide r3;have I0:=hide i0;have M0:=hide m0
 clear hqr hn1 hn3 hx hp q1 hr hw hA0 hpc hrow hins hmv h1 h2 h3 h4 h5 hrl htl hrg q0 r0 r1 r2 r3 i0 m0
 go_enter Tryz.func198,Tryz.ntmps198
 go_wp2_with fail
 rw [← HA0.out]
 go_wp2_with (go_at_call 216;(with_reducible refine (HCP.out _ (HX.out.below HB.out)).mono ?_);rintro e w1 ⟨y,m,rfl,hs1,hb1⟩;have S1:=hide hs1;have B1:=hide hb1;have hsz1:=hb1.size;clear hs1 hb1)
 obtain ⟨V,hV⟩:∃ V,V=w1.alloc (.cells #[.slice y.p.a y.p.n y.p.cap, .slice y.r.a y.r.n y.r.cap, .slice y.m.a y.m.n y.m.cap, .slice y.b.a y.b.n y.b.cap] 195):=⟨_,rfl⟩
 have BV:Hid (Below A0.heap.size A0 V):=hide (by rw [hV];exact B1.out.alloc B1.out.size _)
 have BO:Hid (V.heap[w1.heap.size]? = some (.cells #[.slice y.p.a y.p.n y.p.cap, .slice y.r.a y.r.n y.r.cap, .slice y.m.a y.m.n y.m.cap, .slice y.b.a y.b.n y.b.cap] 195 (0,0))):=hide (by rw [hV];exact heap_alloc_new w1 _)
 have S2:Hid (OwnSt V (w.heap.size+2) m y s):=hide (by have h:=S1.out.below (belowAlloc w1 (.cells #[.slice y.p.a y.p.n y.p.cap, .slice y.r.a y.r.n y.r.cap, .slice y.m.a y.m.n y.m.cap, .slice y.b.a y.b.n y.b.cap] 195));rw [hz] at h;rw [hV];exact h)
 have hzV:V.heap.size=w1.heap.size+1:=by rw [hV];simp
 have hmO:Hid (m≤w1.heap.size):=hide S1.out.lh
 have HV:=hide hV
 rw [← hV]
 clear hV S1 B1
 -- reg do2n
 refine wp_region_inv3 (n:=12) (by kernel_rfl) rfl (by kernel_rfl) (by kernel_rfl) (fun A ls a' W => ∃ (I:Nat) (x11 x12 x13 x14 x15 x16 x17 x18 x19 x20 x21 x8:Value),a'=putAll A [(11,x11),(12,x12),(13,x13),(14,x14),(15,x15),(16,x16),(17,x17),(18,x18),(19,x19),(20,x20),(21,x21),(8,x8)]∧Vd ls 0 [] x11 (.slice (some ⟨b2,o2,none⟩) p.length vc)∧Vd ls 1 [] x12 (.int .i64 (t:Int))∧Vd ls 2 [] x13 (.pointer (some ⟨b2,o2+t,none⟩))∧Vd ls 3 [] x14 (.slice (some ⟨b3,o3,none⟩) r.length qc)∧Vd ls 4 [] x15 (.pointer (some ⟨w.heap.size,0,none⟩))∧Vd ls 5 [] x16 (.slice (some ⟨b,o,none⟩) pn pk)∧Vd ls 6 [] x17 (.int .i64 (t:Int))∧Vd ls 7 [] x18 (.pointer (some ⟨b,o+t,none⟩))∧Vd ls 8 [] x19 (.int .i64 (kn:Int))∧Vd ls 9 [] x20 (.pointer (some ⟨b3,o3+kn * 4,none⟩))∧Vd ls 10 [] x21 (.agg #[.int .i64 op, .int .i64 (lc:Int), .int .i64 (rc:Int), .int .i64 val])∧Vd ls 11 [] x8 (.pointer (some ⟨I,0,none⟩))∧JDo V (fl ls 11) I W) ?r0 ?rs ?re
 case r0 =>
  exact ⟨0,undef,undef,undef,undef,undef,undef,undef,undef,undef,undef,undef,undef,by simp only [putAll,Act.put,List.setIfInBounds_toArray,List.set_cons_succ,List.set_cons_zero],Vd.start,Vd.start,Vd.start,Vd.start,Vd.start,Vd.start,Vd.start,Vd.start,Vd.start,Vd.start,Vd.start,Vd.start,by simp only [fl_start];exact ⟨(Below.refl _ _).drew,fun h=>(nomatch h)⟩⟩
 case rs =>
  rintro ls a' W hs hnl ⟨I,x11,x12,x13,x14,x15,x16,x17,x18,x19,x20,x21,x8,ha,cv0,cv1,cv2,cv3,cv4,cv5,cv6,cv7,cv8,cv9,cv10,cv11,hJ⟩ k o hkn mc K hK
  simp only [putAll,Act.put,List.setIfInBounds_toArray,List.set_cons_succ,List.set_cons_zero] at ha
  subst ha
  have hkc:k=0∨k=1∨k=2∨k=3∨k=4∨k=5∨k=6∨k=7∨k=8∨k=9∨k=10∨k=11:=by omega
  have hop:=mc.op
  have haf:=mc.after
  rcases hkc with rfl | rfl | rfl | rfl | rfl | rfl | rfl | rfl | rfl | rfl | rfl | rfl
  ·simp at hop;subst hop;simp [Region.binds] at haf
   go_simp
   exact hK _ _ ⟨I,_,_,_,_,_,_,_,_,_,_,_,_,by simp only [putAll,Act.put,List.setIfInBounds_toArray,List.set_cons_succ,List.set_cons_zero],Vd.same (by simp),cv1.set (by decide),cv2.set (by decide),cv3.set (by decide),cv4.set (by decide),cv5.set (by decide),cv6.set (by decide),cv7.set (by decide),cv8.set (by decide),cv9.set (by decide),cv10.set (by decide),cv11.set (by decide),by rw [fl_set (show 0≠11 by decide)];exact hJ⟩
  ·simp at hop;subst hop;simp [Region.binds] at haf
   go_simp
   exact hK _ _ ⟨I,_,_,_,_,_,_,_,_,_,_,_,_,by simp only [putAll,Act.put,List.setIfInBounds_toArray,List.set_cons_succ,List.set_cons_zero],cv0.set (by decide),Vd.same (by simp),cv2.set (by decide),cv3.set (by decide),cv4.set (by decide),cv5.set (by decide),cv6.set (by decide),cv7.set (by decide),cv8.set (by decide),cv9.set (by decide),cv10.set (by decide),cv11.set (by decide),by rw [fl_set (show 1≠11 by decide)];exact hJ⟩
  ·simp at hop;subst hop;simp [Region.binds] at haf
   obtain rfl:=(cv0.get (by simp [haf])).symm
   obtain rfl:=(cv1.get (by simp [haf])).symm
   go_simp
   exact hK _ _ ⟨I,_,_,_,_,_,_,_,_,_,_,_,_,by simp only [putAll,Act.put,List.setIfInBounds_toArray,List.set_cons_succ,List.set_cons_zero],cv0.set (by decide),cv1.set (by decide),Vd.same (by simp),cv3.set (by decide),cv4.set (by decide),cv5.set (by decide),cv6.set (by decide),cv7.set (by decide),cv8.set (by decide),cv9.set (by decide),cv10.set (by decide),cv11.set (by decide),by rw [fl_set (show 2≠11 by decide)];exact hJ⟩
  ·simp at hop;subst hop;simp [Region.binds] at haf
   obtain rfl:=(cv2.get (by simp [haf])).symm
   have hbw:=HB.out.trans ((BV.out.trans (hJ.out.mono BV.out.size)).mono HB.out.size)
   have q2:=(hbw.cell (p:=⟨b2,o2+t,none⟩) hbl2).trans Q0.out
   have ql:=lt_of_cell q2
   go_simp
   exact hK _ _ ⟨I,_,_,_,_,_,_,_,_,_,_,_,_,by simp only [putAll,Act.put,List.setIfInBounds_toArray,List.set_cons_succ,List.set_cons_zero],cv0.set (by decide),cv1.set (by decide),cv2.set (by decide),Vd.same (by simp),cv4.set (by decide),cv5.set (by decide),cv6.set (by decide),cv7.set (by decide),cv8.set (by decide),cv9.set (by decide),cv10.set (by decide),cv11.set (by decide),by rw [fl_set (show 3≠11 by decide)];exact hJ⟩
  ·simp at hop;subst hop;simp [Region.binds] at haf
   go_simp
   exact hK _ _ ⟨I,_,_,_,_,_,_,_,_,_,_,_,_,by simp only [putAll,Act.put,List.setIfInBounds_toArray,List.set_cons_succ,List.set_cons_zero],cv0.set (by decide),cv1.set (by decide),cv2.set (by decide),cv3.set (by decide),Vd.same (by simp),cv5.set (by decide),cv6.set (by decide),cv7.set (by decide),cv8.set (by decide),cv9.set (by decide),cv10.set (by decide),cv11.set (by decide),by rw [fl_set (show 4≠11 by decide)];exact hJ⟩
  ·simp at hop;subst hop;simp [Region.binds] at haf
   obtain rfl:=(cv4.get (by simp [haf])).symm
   have d0:W.cell? ⟨w.heap.size,0,none⟩=some (.slice (some ⟨b,o,none⟩) pn pk):=cellH ((hJ.out.block w.heap.size (by omega)).trans ((BV.out.block w.heap.size (by omega)).trans HX2.out)) (k:=0) rfl
   have dl:=lt_of_cell d0
   go_simp
   exact hK _ _ ⟨I,_,_,_,_,_,_,_,_,_,_,_,_,by simp only [putAll,Act.put,List.setIfInBounds_toArray,List.set_cons_succ,List.set_cons_zero],cv0.set (by decide),cv1.set (by decide),cv2.set (by decide),cv3.set (by decide),cv4.set (by decide),Vd.same (by simp),cv6.set (by decide),cv7.set (by decide),cv8.set (by decide),cv9.set (by decide),cv10.set (by decide),cv11.set (by decide),by rw [fl_set (show 5≠11 by decide)];exact hJ⟩
  ·simp at hop;subst hop;simp [Region.binds] at haf
   go_simp
   exact hK _ _ ⟨I,_,_,_,_,_,_,_,_,_,_,_,_,by simp only [putAll,Act.put,List.setIfInBounds_toArray,List.set_cons_succ,List.set_cons_zero],cv0.set (by decide),cv1.set (by decide),cv2.set (by decide),cv3.set (by decide),cv4.set (by decide),cv5.set (by decide),Vd.same (by simp),cv7.set (by decide),cv8.set (by decide),cv9.set (by decide),cv10.set (by decide),cv11.set (by decide),by rw [fl_set (show 6≠11 by decide)];exact hJ⟩
  ·simp at hop;subst hop;simp [Region.binds] at haf
   obtain rfl:=(cv5.get (by simp [haf])).symm
   obtain rfl:=(cv6.get (by simp [haf])).symm
   go_simp
   exact hK _ _ ⟨I,_,_,_,_,_,_,_,_,_,_,_,_,by simp only [putAll,Act.put,List.setIfInBounds_toArray,List.set_cons_succ,List.set_cons_zero],cv0.set (by decide),cv1.set (by decide),cv2.set (by decide),cv3.set (by decide),cv4.set (by decide),cv5.set (by decide),cv6.set (by decide),Vd.same (by simp),cv8.set (by decide),cv9.set (by decide),cv10.set (by decide),cv11.set (by decide),by rw [fl_set (show 7≠11 by decide)];exact hJ⟩
  ·simp at hop;subst hop;simp [Region.binds] at haf
   obtain rfl:=(cv7.get (by simp [haf])).symm
   have hbw:=HB.out.trans ((BV.out.trans (hJ.out.mono BV.out.size)).mono HB.out.size)
   have q2:=(hbw.cell (p:=⟨b,o+t,none⟩) hbl).trans I0.out
   have ql:=lt_of_cell q2
   go_simp
   exact hK _ _ ⟨I,_,_,_,_,_,_,_,_,_,_,_,_,by simp only [putAll,Act.put,List.setIfInBounds_toArray,List.set_cons_succ,List.set_cons_zero],cv0.set (by decide),cv1.set (by decide),cv2.set (by decide),cv3.set (by decide),cv4.set (by decide),cv5.set (by decide),cv6.set (by decide),cv7.set (by decide),Vd.same (by simp),cv9.set (by decide),cv10.set (by decide),cv11.set (by decide),by rw [fl_set (show 8≠11 by decide)];exact hJ⟩
  ·simp at hop;subst hop;simp [Region.binds] at haf
   obtain rfl:=(cv3.get (by simp [haf])).symm
   obtain rfl:=(cv8.get (by simp [haf])).symm
   go_simp
   exact hK _ _ ⟨I,_,_,_,_,_,_,_,_,_,_,_,_,by simp only [putAll,Act.put,List.setIfInBounds_toArray,List.set_cons_succ,List.set_cons_zero],cv0.set (by decide),cv1.set (by decide),cv2.set (by decide),cv3.set (by decide),cv4.set (by decide),cv5.set (by decide),cv6.set (by decide),cv7.set (by decide),cv8.set (by decide),Vd.same (by simp),cv10.set (by decide),cv11.set (by decide),by rw [fl_set (show 9≠11 by decide)];exact hJ⟩
  ·simp at hop;subst hop;simp [Region.binds] at haf
   obtain rfl:=(cv9.get (by simp [haf])).symm
   have hbw:=HB.out.trans ((BV.out.trans (hJ.out.mono BV.out.size)).mono HB.out.size)
   have e0:=(hbw.cell (p:=⟨b3,o3+kn * 4,none⟩) hbl3).trans R0.out
   have e1:=(hbw.cell (p:=⟨b3,o3+kn * 4+1,none⟩) hbl3).trans R1.out
   have e2:=(hbw.cell (p:=⟨b3,o3+kn * 4+2,none⟩) hbl3).trans R2.out
   have e3:=(hbw.cell (p:=⟨b3,o3+kn * 4+3,none⟩) hbl3).trans R3.out
   have ql:=lt_of_cell e0
   go_simp
   exact hK _ _ ⟨I,_,_,_,_,_,_,_,_,_,_,_,_,by simp only [putAll,Act.put,List.setIfInBounds_toArray,List.set_cons_succ,List.set_cons_zero],cv0.set (by decide),cv1.set (by decide),cv2.set (by decide),cv3.set (by decide),cv4.set (by decide),cv5.set (by decide),cv6.set (by decide),cv7.set (by decide),cv8.set (by decide),cv9.set (by decide),Vd.same (by simp),cv11.set (by decide),by rw [fl_set (show 10≠11 by decide)];exact hJ⟩
  ·simp at hop;subst hop;simp [Region.binds] at haf
   have f11:=fl_no mc.new;rw [f11] at hJ
   go_simp
   exact hK _ _ ⟨W.heap.size,_,_,_,_,_,_,_,_,_,_,_,_,by simp only [putAll,Act.put,List.setIfInBounds_toArray,List.set_cons_succ,List.set_cons_zero],cv0.set (by decide),cv1.set (by decide),cv2.set (by decide),cv3.set (by decide),cv4.set (by decide),cv5.set (by decide),cv6.set (by decide),cv7.set (by decide),cv8.set (by decide),cv9.set (by decide),cv10.set (by decide),Vd.same (by simp),by rw [fl_got hs (by decide)];exact ⟨hJ.out.alloc hJ.out.size _,fun _=>⟨heap_alloc_new W _,hJ.out.size⟩⟩⟩
 case re =>
  rintro ls a' W hall ⟨I,x11,x12,x13,x14,x15,x16,x17,x18,x19,x20,x21,x8,ha,cv0,cv1,cv2,cv3,cv4,cv5,cv6,cv7,cv8,cv9,cv10,cv11,hJ⟩ o hop
  simp only [putAll,Act.put,List.setIfInBounds_toArray,List.set_cons_succ,List.set_cons_zero] at ha
  subst ha
  simp at hop;subst hop
  obtain rfl:=(cv0.get (hall 0 (by decide))).symm
  obtain rfl:=(cv1.get (hall 1 (by decide))).symm
  obtain rfl:=(cv2.get (hall 2 (by decide))).symm
  obtain rfl:=(cv3.get (hall 3 (by decide))).symm
  obtain rfl:=(cv4.get (hall 4 (by decide))).symm
  obtain rfl:=(cv5.get (hall 5 (by decide))).symm
  obtain rfl:=(cv6.get (hall 6 (by decide))).symm
  obtain rfl:=(cv7.get (hall 7 (by decide))).symm
  obtain rfl:=(cv8.get (hall 8 (by decide))).symm
  obtain rfl:=(cv9.get (hall 9 (by decide))).symm
  obtain rfl:=(cv10.get (hall 10 (by decide))).symm
  obtain rfl:=(cv11.get (hall 11 (by decide))).symm
  rw [fl_yes (hall 11 (by decide))] at hJ
  obtain ⟨hbi,hIV⟩:=hJ.ob rfl
  have c0:W.cell? ⟨I,0,none⟩=some (.int .i64 0):=cellH hbi (k:=0) rfl
  have c1:W.cell? ⟨I,1,none⟩=some (.int .i64 0):=cellH hbi (k:=1) rfl
  have c2:W.cell? ⟨I,2,none⟩=some (.int .i64 0):=cellH hbi (k:=2) rfl
  have c3:W.cell? ⟨I,3,none⟩=some (.int .i64 0):=cellH hbi (k:=3) rfl
  have cfz:=frozH hbi
  have cl:=lt_of_cell c0
  go_simp
  have hb0:=heap_setCell_same W I 0 _ _ (.int .i64 op) hbi
  have hb1:=heap_setCell_same (W.setCell ⟨I,0,none⟩ (.int .i64 op)) I 1 _ _ (.int .i64 (lc:Int)) hb0
  have hb2:=heap_setCell_same ((W.setCell ⟨I,0,none⟩ (.int .i64 op)).setCell ⟨I,1,none⟩ (.int .i64 (lc:Int))) I 2 _ _ (.int .i64 (rc:Int)) hb1
  have hb3:=heap_setCell_same (((W.setCell ⟨I,0,none⟩ (.int .i64 op)).setCell ⟨I,1,none⟩ (.int .i64 (lc:Int))).setCell ⟨I,2,none⟩ (.int .i64 (rc:Int))) I 3 _ _ (.int .i64 val) hb2
  have hO:=(((hJ.out.setCell (p:=⟨I,0,none⟩) hIV (.int .i64 op)).setCell (p:=⟨I,1,none⟩) hIV (.int .i64 (lc:Int))).setCell (p:=⟨I,2,none⟩) hIV (.int .i64 (rc:Int))).setCell (p:=⟨I,3,none⟩) hIV (.int .i64 val)
  have HD1:=hide (DoS.mk (w:=w) (O:=w1.heap.size) (I:=I) (m:=m) (xs:=[.slice (some ⟨b,o,none⟩) pn pk, .slice ra rn rk, .slice (some ⟨bm,om,none⟩) mn mk, .slice ba bn bk]) (y:=y) (i:=[.int .i64 op, .int .i64 (lc:Int), .int .i64 (rc:Int), .int .i64 val]) (s:=s) ((hO.block w.heap.size (by omega)).trans ((BV.out.block w.heap.size (by omega)).trans HX2.out)) ((hO.block (w.heap.size+1) (by omega)).trans ((BV.out.block (w.heap.size+1) (by omega)).trans HR2.out)) ((hO.block w1.heap.size (by omega)).trans BO.out) hb3 (S2.out.below hO) (HB.out.trans ((BV.out.trans (hO.mono BV.out.size)).mono HB.out.size)) (by omega) (by omega) hmO.out)
  obtain ⟨V1,hV1⟩:∃ V1,V1=(((W.setCell ⟨I,0,none⟩ (.int .i64 op)).setCell ⟨I,1,none⟩ (.int .i64 (lc:Int))).setCell ⟨I,2,none⟩ (.int .i64 (rc:Int))).setCell ⟨I,3,none⟩ (.int .i64 val):=⟨_,rfl⟩
  rw [← hV1] at HD1
  simp only [← hV1]
  clear hb0 hb1 hb2 hb3 hO hJ hbi c0 c1 c2 c3 cfz cl hV1 a0 a1 a2 a3 al hIV
  go_wp2_with fail
  obtain ⟨gp,hgp, -⟩:=HD1.out.st.ln.o1.open1 (get_of_lt HPC.out).choose_spec
  have HGP:=hide hgp
  obtain ⟨⟨yp1,yp2,yp3⟩,⟨yr1,yr2,yr3⟩,⟨ym1,ym2,ym3⟩,⟨yb1,yb2,yb3⟩⟩:=y
  subst hgp
  have hyp2:(t:Int) < (yp2:Int):=by have:=(show yp2=s.pc.length from HD1.out.st.ln.o1.len);have:=HPC.out;omega
  -- reg do3n
  refine wp_region_inv3 (n:=10) (by kernel_rfl) rfl (by kernel_rfl) (by kernel_rfl) (fun A ls a' W => ∃ (x22 x23 x24 x25 x26 x27 x28 x29 x30 x31:Value),a'=putAll A [(22,x22),(23,x23),(24,x24),(25,x25),(26,x26),(27,x27),(28,x28),(29,x29),(30,x30),(31,x31)]∧Vd ls 0 [] x22 (.pointer (some ⟨w1.heap.size,0,none⟩))∧Vd ls 1 [] x23 (.slice (some ⟨gp,0,none⟩) yp2 yp3)∧Vd ls 2 [] x24 (.int .i64 (t:Int))∧Vd ls 3 [] x25 (.pointer (some ⟨w.heap.size,0,none⟩))∧Vd ls 4 [] x26 (.slice (some ⟨b,o,none⟩) pn pk)∧Vd ls 5 [] x27 (.int .i64 (t:Int))∧Vd ls 6 [] x28 (.pointer (some ⟨b,o+t,none⟩))∧Vd ls 7 [] x29 (.int .i64 (kn:Int))∧Vd ls 8 [] x30 (.int .i64 ((kn:Int)+1))∧Vd ls 9 [] x31 (.pointer (some ⟨gp,t,none⟩))∧Below V1.heap.size V1 W) ?r0 ?rs ?re
  case r0 =>
   exact ⟨undef,undef,undef,undef,undef,undef,undef,undef,undef,undef,by simp only [putAll,Act.put,List.setIfInBounds_toArray,List.set_cons_succ,List.set_cons_zero],Vd.start,Vd.start,Vd.start,Vd.start,Vd.start,Vd.start,Vd.start,Vd.start,Vd.start,Vd.start,by exact (Below.refl _ _).drew⟩
  case rs =>
   rintro ls a' W hs hnl ⟨x22,x23,x24,x25,x26,x27,x28,x29,x30,x31,ha,cv0,cv1,cv2,cv3,cv4,cv5,cv6,cv7,cv8,cv9,hJ⟩ k o hkn mc K hK
   simp only [putAll,Act.put,List.setIfInBounds_toArray,List.set_cons_succ,List.set_cons_zero] at ha
   subst ha
   have hkc:k=0∨k=1∨k=2∨k=3∨k=4∨k=5∨k=6∨k=7∨k=8∨k=9:=by omega
   have hop:=mc.op
   have haf:=mc.after
   rcases hkc with rfl | rfl | rfl | rfl | rfl | rfl | rfl | rfl | rfl | rfl
   ·simp at hop;subst hop;simp [Region.binds] at haf
    go_simp
    exact hK _ _ ⟨_,_,_,_,_,_,_,_,_,_,by simp only [putAll,Act.put,List.setIfInBounds_toArray,List.set_cons_succ,List.set_cons_zero],Vd.same (by simp),cv1.set (by decide),cv2.set (by decide),cv3.set (by decide),cv4.set (by decide),cv5.set (by decide),cv6.set (by decide),cv7.set (by decide),cv8.set (by decide),cv9.set (by decide),by exact hJ⟩
   ·simp at hop;subst hop;simp [Region.binds] at haf
    obtain rfl:=(cv0.get (by simp [haf])).symm
    have d0:W.cell? ⟨w1.heap.size,0,none⟩=some (.slice (some ⟨gp,0,none⟩) yp2 yp3):=cellH ((hJ.block w1.heap.size (Array.getElem?_eq_some_iff.1 HD1.out.bo).1).trans HD1.out.bo) (k:=0) rfl
    have dl:=lt_of_cell d0
    go_simp
    exact hK _ _ ⟨_,_,_,_,_,_,_,_,_,_,by simp only [putAll,Act.put,List.setIfInBounds_toArray,List.set_cons_succ,List.set_cons_zero],cv0.set (by decide),Vd.same (by simp),cv2.set (by decide),cv3.set (by decide),cv4.set (by decide),cv5.set (by decide),cv6.set (by decide),cv7.set (by decide),cv8.set (by decide),cv9.set (by decide),by exact hJ⟩
   ·simp at hop;subst hop;simp [Region.binds] at haf
    go_simp
    exact hK _ _ ⟨_,_,_,_,_,_,_,_,_,_,by simp only [putAll,Act.put,List.setIfInBounds_toArray,List.set_cons_succ,List.set_cons_zero],cv0.set (by decide),cv1.set (by decide),Vd.same (by simp),cv3.set (by decide),cv4.set (by decide),cv5.set (by decide),cv6.set (by decide),cv7.set (by decide),cv8.set (by decide),cv9.set (by decide),by exact hJ⟩
   ·simp at hop;subst hop;simp [Region.binds] at haf
    go_simp
    exact hK _ _ ⟨_,_,_,_,_,_,_,_,_,_,by simp only [putAll,Act.put,List.setIfInBounds_toArray,List.set_cons_succ,List.set_cons_zero],cv0.set (by decide),cv1.set (by decide),cv2.set (by decide),Vd.same (by simp),cv4.set (by decide),cv5.set (by decide),cv6.set (by decide),cv7.set (by decide),cv8.set (by decide),cv9.set (by decide),by exact hJ⟩
   ·simp at hop;subst hop;simp [Region.binds] at haf
    obtain rfl:=(cv3.get (by simp [haf])).symm
    have d0:W.cell? ⟨w.heap.size,0,none⟩=some (.slice (some ⟨b,o,none⟩) pn pk):=cellH ((hJ.block w.heap.size (Array.getElem?_eq_some_iff.1 HD1.out.bx).1).trans HD1.out.bx) (k:=0) rfl
    have dl:=lt_of_cell d0
    go_simp
    exact hK _ _ ⟨_,_,_,_,_,_,_,_,_,_,by simp only [putAll,Act.put,List.setIfInBounds_toArray,List.set_cons_succ,List.set_cons_zero],cv0.set (by decide),cv1.set (by decide),cv2.set (by decide),cv3.set (by decide),Vd.same (by simp),cv5.set (by decide),cv6.set (by decide),cv7.set (by decide),cv8.set (by decide),cv9.set (by decide),by exact hJ⟩
   ·simp at hop;subst hop;simp [Region.binds] at haf
    go_simp
    exact hK _ _ ⟨_,_,_,_,_,_,_,_,_,_,by simp only [putAll,Act.put,List.setIfInBounds_toArray,List.set_cons_succ,List.set_cons_zero],cv0.set (by decide),cv1.set (by decide),cv2.set (by decide),cv3.set (by decide),cv4.set (by decide),Vd.same (by simp),cv6.set (by decide),cv7.set (by decide),cv8.set (by decide),cv9.set (by decide),by exact hJ⟩
   ·simp at hop;subst hop;simp [Region.binds] at haf
    obtain rfl:=(cv4.get (by simp [haf])).symm
    obtain rfl:=(cv5.get (by simp [haf])).symm
    go_simp
    exact hK _ _ ⟨_,_,_,_,_,_,_,_,_,_,by simp only [putAll,Act.put,List.setIfInBounds_toArray,List.set_cons_succ,List.set_cons_zero],cv0.set (by decide),cv1.set (by decide),cv2.set (by decide),cv3.set (by decide),cv4.set (by decide),cv5.set (by decide),Vd.same (by simp),cv7.set (by decide),cv8.set (by decide),cv9.set (by decide),by exact hJ⟩
   ·simp at hop;subst hop;simp [Region.binds] at haf
    obtain rfl:=(cv6.get (by simp [haf])).symm
    have hbw:=HD1.out.bl.trans (hJ.mono HD1.out.bl.size)
    have q2:=(hbw.cell (p:=⟨b,o+t,none⟩) hbl).trans I0.out
    have ql:=lt_of_cell q2
    go_simp
    exact hK _ _ ⟨_,_,_,_,_,_,_,_,_,_,by simp only [putAll,Act.put,List.setIfInBounds_toArray,List.set_cons_succ,List.set_cons_zero],cv0.set (by decide),cv1.set (by decide),cv2.set (by decide),cv3.set (by decide),cv4.set (by decide),cv5.set (by decide),cv6.set (by decide),Vd.same (by simp),cv8.set (by decide),cv9.set (by decide),by exact hJ⟩
   ·simp at hop;subst hop;simp [Region.binds] at haf
    obtain rfl:=(cv7.get (by simp [haf])).symm
    go_simp
    exact hK _ _ ⟨_,_,_,_,_,_,_,_,_,_,by simp only [putAll,Act.put,List.setIfInBounds_toArray,List.set_cons_succ,List.set_cons_zero],cv0.set (by decide),cv1.set (by decide),cv2.set (by decide),cv3.set (by decide),cv4.set (by decide),cv5.set (by decide),cv6.set (by decide),cv7.set (by decide),Vd.same (by simp),cv9.set (by decide),by exact hJ⟩
   ·simp at hop;subst hop;simp [Region.binds] at haf
    obtain rfl:=(cv1.get (by simp [haf])).symm
    obtain rfl:=(cv2.get (by simp [haf])).symm
    go_simp
    exact hK _ _ ⟨_,_,_,_,_,_,_,_,_,_,by simp only [putAll,Act.put,List.setIfInBounds_toArray,List.set_cons_succ,List.set_cons_zero],cv0.set (by decide),cv1.set (by decide),cv2.set (by decide),cv3.set (by decide),cv4.set (by decide),cv5.set (by decide),cv6.set (by decide),cv7.set (by decide),cv8.set (by decide),Vd.same (by simp),by exact hJ⟩
  case re =>
   rintro ls a' W hall ⟨x22,x23,x24,x25,x26,x27,x28,x29,x30,x31,ha,cv0,cv1,cv2,cv3,cv4,cv5,cv6,cv7,cv8,cv9,hJ⟩ o hop
   simp only [putAll,Act.put,List.setIfInBounds_toArray,List.set_cons_succ,List.set_cons_zero] at ha
   subst ha
   simp at hop;subst hop
   obtain rfl:=(cv0.get (hall 0 (by decide))).symm
   obtain rfl:=(cv1.get (hall 1 (by decide))).symm
   obtain rfl:=(cv2.get (hall 2 (by decide))).symm
   obtain rfl:=(cv3.get (hall 3 (by decide))).symm
   obtain rfl:=(cv4.get (hall 4 (by decide))).symm
   obtain rfl:=(cv5.get (hall 5 (by decide))).symm
   obtain rfl:=(cv6.get (hall 6 (by decide))).symm
   obtain rfl:=(cv7.get (hall 7 (by decide))).symm
   obtain rfl:=(cv8.get (hall 8 (by decide))).symm
   obtain rfl:=(cv9.get (hall 9 (by decide))).symm
   obtain ⟨hD,hgl,⟨z,hz0⟩,hfz⟩:=(HD1.out.below hJ).pc (k:=t) rfl HPC.out ((kn:Int)+1)
   go_simp
   have HD2:=hide hD
   obtain ⟨V2,hV2⟩:∃ V2,V2=W.setCell ⟨gp,t,none⟩ (.int .i64 ((kn:Int)+1)):=⟨_,rfl⟩
   rw [← hV2] at HD2
   simp only [← hV2]
   clear hD hgl hz0 hfz hJ hV2
   have i0:V2.cell? ⟨I,0,none⟩=some (.int .i64 op):=cellH HD2.out.bi (k:=0) rfl
   have i1:V2.cell? ⟨I,1,none⟩=some (.int .i64 (lc:Int)):=cellH HD2.out.bi (k:=1) rfl
   have i2:V2.cell? ⟨I,2,none⟩=some (.int .i64 (rc:Int)):=cellH HD2.out.bi (k:=2) rfl
   have i3:V2.cell? ⟨I,3,none⟩=some (.int .i64 val):=cellH HD2.out.bi (k:=3) rfl
   have il:=lt_of_cell i0
   go_wp2_with (first | (go_at_call 133;(with_reducible refine (l1Reads_raw _ _ _ _ _).mono ?_);rw [HRO.out];rintro e w4 ⟨rfl,hb4⟩;have HD3:=hide (HD2.out.below hb4);clear hb4;have HD4:=HD3;have k0:w4.cell? ⟨I,0,none⟩=some (.int .i64 op):=cellH HD4.out.bi (k:=0) rfl;have k1:w4.cell? ⟨I,1,none⟩=some (.int .i64 (lc:Int)):=cellH HD4.out.bi (k:=1) rfl;have k2:w4.cell? ⟨I,2,none⟩=some (.int .i64 (rc:Int)):=cellH HD4.out.bi (k:=2) rfl;have k3:w4.cell? ⟨I,3,none⟩=some (.int .i64 val):=cellH HD4.out.bi (k:=3) rfl;have kl:=lt_of_cell k0) | (go_at_call 134;(with_reducible refine (l1Writes_raw _ _ _ _ _).mono ?_);rw [HWO.out];rintro e w6 ⟨rfl,hb6⟩;have HD5:=hide (HD4.out.below hb6);clear hb6;have hD:=HD5.out;have g0:w6.cell? ⟨w1.heap.size,0,none⟩=some (.slice (some ⟨gp,0,none⟩) yp2 yp3):=cellH hD.bo (k:=0) rfl;have g1:w6.cell? ⟨w1.heap.size,1,none⟩=some (.slice yr1 yr2 yr3):=cellH hD.bo (k:=1) rfl;have g2:w6.cell? ⟨w1.heap.size,2,none⟩=some (.slice ym1 ym2 ym3):=cellH hD.bo (k:=2) rfl;have g3:w6.cell? ⟨w1.heap.size,3,none⟩=some (.slice yb1 yb2 yb3):=cellH hD.bo (k:=3) rfl;have gl:=lt_of_cell g0;have r0:w6.cell? ⟨w.heap.size+1,0,none⟩=some (.slice none 0 0):=cellH hD.br (k:=0) rfl;have r1:w6.cell? ⟨w.heap.size+1,1,none⟩=some (.slice none 0 0):=cellH hD.br (k:=1) rfl;have r2:w6.cell? ⟨w.heap.size+1,2,none⟩=some (.slice none 0 0):=cellH hD.br (k:=2) rfl;have r3:w6.cell? ⟨w.heap.size+1,3,none⟩=some (.slice none 0 0):=cellH hD.br (k:=3) rfl;have rfz:=frozH hD.br;have rl:=lt_of_cell r0;clear hD))
   have hS:=HD5.out.st.mono (show w.heap.size≤w.heap.size+2 by omega)
   have t0:TyB 195 w6 (w.heap.size+1):=⟨_,HD5.out.br⟩
   rw [E.out]
   refine bodyPost_ret (v:=.agg #[.slice (some ⟨gp,0,none⟩) yp2 yp3, .slice yr1 yr2 yr3, .slice ym1 ym2 ym3, .slice yb1 yb2 yb3]) (by simp [results,Tryz.results198,go_sem, *]) rfl ⟨⟨⟨some ⟨gp,0,none⟩,yp2,yp3⟩,⟨yr1,yr2,yr3⟩,⟨ym1,ym2,ym3⟩,⟨yb1,yb2,yb3⟩⟩,m,rfl, ?_, ?_⟩
   ·exact (((hS.setT (by decide) (by decide) t0).setT (by decide) (by decide) (t0.set _ _ _)).setT (by decide) (by decide) ((t0.set _ _ _).set _ _ _)).setT (by decide) (by decide) (((t0.set _ _ _).set _ _ _).set _ _ _)
   ·exact (((HD5.out.bl.setCell (p:=⟨w.heap.size+1,0,none⟩) (show w.heap.size≤w.heap.size+1 by omega) _).setCell (p:=⟨w.heap.size+1,1,none⟩) (show w.heap.size≤w.heap.size+1 by omega) _).setCell (p:=⟨w.heap.size+1,2,none⟩) (show w.heap.size≤w.heap.size+1 by omega) _).setCell (p:=⟨w.heap.size+1,3,none⟩) (show w.heap.size≤w.heap.size+1 by omega) _
  -- end do3n
 -- end do2n
theorem l3Do_r (vp:Value) (p:List (List Ins)) (x:SV) (s:St) (t kn lc rc:Nat) (op val:Int) (r:List Ins) (w:World) (hp:RepP w vp p) (hx:RepSt w x s) (hpc:s.pc[t]? = some (kn:Int)) (hrow:p[t]? = some r) (hins:r[kn]? = some ⟨op,lc,rc,val⟩)
 (hr:isRop op=true) (hw:isWop op=false) (ht:t≤2) (hlc:lc≤2) (hrc:rc≤2) (h1:s.pc.length≤1000) (h2:s.rg.length=s.pc.length * 3) (h3:s.mm.length=3) (h4:s.bf.length≤100) (h5:∀ o∈s.bf,o.length≤1000) (hrl:r.length≤1000) :
 Calls Tryz.prog 198 #[vp, .agg #[.slice x.p.a x.p.n x.p.cap, .slice x.r.a x.r.n x.r.cap, .slice x.m.a x.m.n x.m.cap, .slice x.b.a x.b.n x.b.cap], .int .i64 (t:Int)] w
  (RetSt w ⟨(sqDo s.q t kn ⟨op,lc,rc,val⟩).pc,(sqDo s.q t kn ⟨op,lc,rc,val⟩).rg,(sqDo s.q t kn ⟨op,lc,rc,val⟩).mm,s.bf⟩):=by
 obtain ⟨⟨pa,pn,pk⟩,⟨ra,rn,rk⟩,⟨ma,mn,mk⟩,⟨ba,bn,bk⟩⟩:=x
 obtain ⟨va,vc,rfl,hc1,hc2,hc3,hp⟩:=hp.open
 obtain ⟨b2,o2,qa,qc,rfl,hbl2,q0,q1⟩:=hp.row hrow
 obtain ⟨b3,o3,rfl,hbl3,r0,r1,r2,r3⟩:=q1.ins hins
 have hpt:=(List.getElem?_eq_some_iff.1 hrow).1
 have hkr:=(List.getElem?_eq_some_iff.1 hins).1
 obtain ⟨_,_,hv1, -, -, -, -⟩:=hx.pc.open
 obtain ⟨_,_,hv3, -, -, -, -⟩:=hx.mm.open
 simp only [Slc.v,Value.slice.injEq] at hv1 hv3
 obtain ⟨rfl,hn1,rfl⟩:=hv1
 obtain ⟨rfl,hn3,rfl⟩:=hv3
 obtain ⟨b,o,rfl,hbl,i0⟩:=(show Rep IntE w (.slice pa pn pk) s.pc from hx.pc).int hpc
 obtain ⟨mv,hmv⟩:=get_of_lt (xs:=s.mm) (k:=lc) (by omega)
 obtain ⟨bm,om,rfl,hblm,m0⟩:=(show Rep IntE w (.slice ma mn mk) s.mm from hx.mm).int hmv
 have htl:=(List.getElem?_eq_some_iff.1 hpc).1
 obtain ⟨qr,hqr⟩:∃ qr:Nat,qr=t * 3+rc:=⟨_,rfl⟩
 have HX:=hide hx
 have HREG:=hide (fun w'=>(l3Reg_M t rc w' ht hrc).mono fun e w'' ⟨h1,h2⟩=>(⟨by rw [hqr];exact h1,h2 ▸ Below.refl _ _⟩:e=Ending.returned (.int .i64 (qr:Int))∧Below w'.heap.size w' w''))
 have HRO:=hide hr;have HWO:=hide hw
 have MV:Hid (s.mm.getD lc 0=mv):=hide (by rw [List.getD_eq_getElem?_getD,hmv];rfl)
 have E:Hid (sqDo s.q t kn ⟨op,lc,rc,val⟩=⟨s.pc.set t ((kn:Int)+1),s.rg.set qr mv,s.mm⟩):=hide (by unfold sqDo;simp [hr,hw,hmv,hqr])
 have hpn:(t:Int) < (pn:Int):=by omega
 have hpn2:(t:Int) < (p.length:Int):=by omega
 have hkn2:(kn:Int) < (r.length:Int):=by omega
 have hmn:(lc:Int) < (mn:Int):=by omega
 have hrg:qr < s.rg.length:=by omega
 have H1:=hide h1;have H2:=hide h2;have H3:=hide h3;have HPC:=hide htl;have HRG:=hide hrg;have HMM:=hide (show lc < s.mm.length by omega)
 have HRL:=hide hrl
 have HVAL:=hide (fun w' (h:RepSt w' ⟨⟨some ⟨b,o,none⟩,pn,pk⟩,⟨ra,rn,rk⟩,⟨some ⟨bm,om,none⟩,mn,mk⟩,⟨ba,bn,bk⟩⟩ s)=>l3Value_any _ s t rc op lc val w' h ht hrc (by omega))
 have hknb:(kn:Int) < 1000:=by omega
 have hkw:IntKind.i64.wrap ((kn:Int)+1)=(kn:Int)+1:=wrapM (by omega) (by omega)
 have HCP:=hide (fun w' (h:RepSt w' ⟨⟨some ⟨b,o,none⟩,pn,pk⟩,⟨ra,rn,rk⟩,⟨some ⟨bm,om,none⟩,mn,mk⟩,⟨ba,bn,bk⟩⟩ s)=>l3Copy_any _ s w' h (by omega) (by omega) (by omega) (by omega) (fun o ho=>by have:=h5 o ho;omega))
 obtain ⟨A0,hA0⟩:∃ A0,A0=(w.alloc (.cells #[.slice (some ⟨b,o,none⟩) pn pk, .slice ra rn rk, .slice (some ⟨bm,om,none⟩) mn mk, .slice ba bn bk] 195)).alloc (.cells #[.slice none 0 0, .slice none 0 0, .slice none 0 0, .slice none 0 0] 195):=⟨_,rfl⟩
 have hz:A0.heap.size=w.heap.size+2:=by rw [hA0];simp
 have HX2:Hid (A0.heap[w.heap.size]? = some (.cells #[.slice (some ⟨b,o,none⟩) pn pk, .slice ra rn rk, .slice (some ⟨bm,om,none⟩) mn mk, .slice ba bn bk] 195 (0,0))):=hide (by
  rw [hA0,heap_alloc_old _ _ (by simp)];exact heap_alloc_new w _)
 have HR2:Hid (A0.heap[w.heap.size+1]? = some (.cells #[.slice none 0 0, .slice none 0 0, .slice none 0 0, .slice none 0 0] 195 (0,0))):=hide (by
  have h:=heap_alloc_new (w.alloc (.cells #[.slice (some ⟨b,o,none⟩) pn pk, .slice ra rn rk, .slice (some ⟨bm,om,none⟩) mn mk, .slice ba bn bk] 195)) (.cells #[.slice none 0 0, .slice none 0 0, .slice none 0 0, .slice none 0 0] 195)
  rw [hA0];simpa using h)
 have HB:Hid (Below w.heap.size w A0):=hide (by rw [hA0];exact (belowAlloc w _).alloc (by simp) _)
 have a0:A0.cell? ⟨w.heap.size,0,none⟩=some (.slice (some ⟨b,o,none⟩) pn pk):=cellH HX2.out (k:=0) rfl
 have a1:A0.cell? ⟨w.heap.size,1,none⟩=some (.slice ra rn rk):=cellH HX2.out (k:=1) rfl
 have a2:A0.cell? ⟨w.heap.size,2,none⟩=some (.slice (some ⟨bm,om,none⟩) mn mk):=cellH HX2.out (k:=2) rfl
 have a3:A0.cell? ⟨w.heap.size,3,none⟩=some (.slice ba bn bk):=cellH HX2.out (k:=3) rfl
 have al:=lt_of_cell a0
 have HA0:=hide hA0
 have HT:=hide ht;have HLC:=hide hlc;have HRC:=hide hrc
 have Q0:=hide q0;have R0:=hide r0;have R1:=hide r1;have R2:=hide r2;have R3:=hide r3;have I0:=hide i0;have M0:=hide m0
 clear hqr hn1 hn3 hx hp q1 hr hw hA0 hpc hrow hins hmv h1 h2 h3 h4 h5 hrl htl hrg q0 r0 r1 r2 r3 i0 m0
 go_enter Tryz.func198,Tryz.ntmps198
 go_wp2_with fail
 rw [← HA0.out]
 go_wp2_with (go_at_call 216;(with_reducible refine (HCP.out _ (HX.out.below HB.out)).mono ?_);rintro e w1 ⟨y,m,rfl,hs1,hb1⟩;have S1:=hide hs1;have B1:=hide hb1;have hsz1:=hb1.size;clear hs1 hb1)
 obtain ⟨V,hV⟩:∃ V,V=w1.alloc (.cells #[.slice y.p.a y.p.n y.p.cap, .slice y.r.a y.r.n y.r.cap, .slice y.m.a y.m.n y.m.cap, .slice y.b.a y.b.n y.b.cap] 195):=⟨_,rfl⟩
 have BV:Hid (Below A0.heap.size A0 V):=hide (by rw [hV];exact B1.out.alloc B1.out.size _)
 have BO:Hid (V.heap[w1.heap.size]? = some (.cells #[.slice y.p.a y.p.n y.p.cap, .slice y.r.a y.r.n y.r.cap, .slice y.m.a y.m.n y.m.cap, .slice y.b.a y.b.n y.b.cap] 195 (0,0))):=hide (by rw [hV];exact heap_alloc_new w1 _)
 have S2:Hid (OwnSt V (w.heap.size+2) m y s):=hide (by have h:=S1.out.below (belowAlloc w1 (.cells #[.slice y.p.a y.p.n y.p.cap, .slice y.r.a y.r.n y.r.cap, .slice y.m.a y.m.n y.m.cap, .slice y.b.a y.b.n y.b.cap] 195));rw [hz] at h;rw [hV];exact h)
 have hzV:V.heap.size=w1.heap.size+1:=by rw [hV];simp
 have hmO:Hid (m≤w1.heap.size):=hide S1.out.lh
 have HV:=hide hV
 rw [← hV]
 clear hV S1 B1
 -- reg do2r
 refine wp_region_inv3 (n:=12) (by kernel_rfl) rfl (by kernel_rfl) (by kernel_rfl) (fun A ls a' W => ∃ (I:Nat) (x11 x12 x13 x14 x15 x16 x17 x18 x19 x20 x21 x8:Value),a'=putAll A [(11,x11),(12,x12),(13,x13),(14,x14),(15,x15),(16,x16),(17,x17),(18,x18),(19,x19),(20,x20),(21,x21),(8,x8)]∧Vd ls 0 [] x11 (.slice (some ⟨b2,o2,none⟩) p.length vc)∧Vd ls 1 [] x12 (.int .i64 (t:Int))∧Vd ls 2 [] x13 (.pointer (some ⟨b2,o2+t,none⟩))∧Vd ls 3 [] x14 (.slice (some ⟨b3,o3,none⟩) r.length qc)∧Vd ls 4 [] x15 (.pointer (some ⟨w.heap.size,0,none⟩))∧Vd ls 5 [] x16 (.slice (some ⟨b,o,none⟩) pn pk)∧Vd ls 6 [] x17 (.int .i64 (t:Int))∧Vd ls 7 [] x18 (.pointer (some ⟨b,o+t,none⟩))∧Vd ls 8 [] x19 (.int .i64 (kn:Int))∧Vd ls 9 [] x20 (.pointer (some ⟨b3,o3+kn * 4,none⟩))∧Vd ls 10 [] x21 (.agg #[.int .i64 op, .int .i64 (lc:Int), .int .i64 (rc:Int), .int .i64 val])∧Vd ls 11 [] x8 (.pointer (some ⟨I,0,none⟩))∧JDo V (fl ls 11) I W) ?r0 ?rs ?re
 case r0 =>
  exact ⟨0,undef,undef,undef,undef,undef,undef,undef,undef,undef,undef,undef,undef,by simp only [putAll,Act.put,List.setIfInBounds_toArray,List.set_cons_succ,List.set_cons_zero],Vd.start,Vd.start,Vd.start,Vd.start,Vd.start,Vd.start,Vd.start,Vd.start,Vd.start,Vd.start,Vd.start,Vd.start,by simp only [fl_start];exact ⟨(Below.refl _ _).drew,fun h=>(nomatch h)⟩⟩
 case rs =>
  rintro ls a' W hs hnl ⟨I,x11,x12,x13,x14,x15,x16,x17,x18,x19,x20,x21,x8,ha,cv0,cv1,cv2,cv3,cv4,cv5,cv6,cv7,cv8,cv9,cv10,cv11,hJ⟩ k o hkn mc K hK
  simp only [putAll,Act.put,List.setIfInBounds_toArray,List.set_cons_succ,List.set_cons_zero] at ha
  subst ha
  have hkc:k=0∨k=1∨k=2∨k=3∨k=4∨k=5∨k=6∨k=7∨k=8∨k=9∨k=10∨k=11:=by omega
  have hop:=mc.op
  have haf:=mc.after
  rcases hkc with rfl | rfl | rfl | rfl | rfl | rfl | rfl | rfl | rfl | rfl | rfl | rfl
  ·simp at hop;subst hop;simp [Region.binds] at haf
   go_simp
   exact hK _ _ ⟨I,_,_,_,_,_,_,_,_,_,_,_,_,by simp only [putAll,Act.put,List.setIfInBounds_toArray,List.set_cons_succ,List.set_cons_zero],Vd.same (by simp),cv1.set (by decide),cv2.set (by decide),cv3.set (by decide),cv4.set (by decide),cv5.set (by decide),cv6.set (by decide),cv7.set (by decide),cv8.set (by decide),cv9.set (by decide),cv10.set (by decide),cv11.set (by decide),by rw [fl_set (show 0≠11 by decide)];exact hJ⟩
  ·simp at hop;subst hop;simp [Region.binds] at haf
   go_simp
   exact hK _ _ ⟨I,_,_,_,_,_,_,_,_,_,_,_,_,by simp only [putAll,Act.put,List.setIfInBounds_toArray,List.set_cons_succ,List.set_cons_zero],cv0.set (by decide),Vd.same (by simp),cv2.set (by decide),cv3.set (by decide),cv4.set (by decide),cv5.set (by decide),cv6.set (by decide),cv7.set (by decide),cv8.set (by decide),cv9.set (by decide),cv10.set (by decide),cv11.set (by decide),by rw [fl_set (show 1≠11 by decide)];exact hJ⟩
  ·simp at hop;subst hop;simp [Region.binds] at haf
   obtain rfl:=(cv0.get (by simp [haf])).symm
   obtain rfl:=(cv1.get (by simp [haf])).symm
   go_simp
   exact hK _ _ ⟨I,_,_,_,_,_,_,_,_,_,_,_,_,by simp only [putAll,Act.put,List.setIfInBounds_toArray,List.set_cons_succ,List.set_cons_zero],cv0.set (by decide),cv1.set (by decide),Vd.same (by simp),cv3.set (by decide),cv4.set (by decide),cv5.set (by decide),cv6.set (by decide),cv7.set (by decide),cv8.set (by decide),cv9.set (by decide),cv10.set (by decide),cv11.set (by decide),by rw [fl_set (show 2≠11 by decide)];exact hJ⟩
  ·simp at hop;subst hop;simp [Region.binds] at haf
   obtain rfl:=(cv2.get (by simp [haf])).symm
   have hbw:=HB.out.trans ((BV.out.trans (hJ.out.mono BV.out.size)).mono HB.out.size)
   have q2:=(hbw.cell (p:=⟨b2,o2+t,none⟩) hbl2).trans Q0.out
   have ql:=lt_of_cell q2
   go_simp
   exact hK _ _ ⟨I,_,_,_,_,_,_,_,_,_,_,_,_,by simp only [putAll,Act.put,List.setIfInBounds_toArray,List.set_cons_succ,List.set_cons_zero],cv0.set (by decide),cv1.set (by decide),cv2.set (by decide),Vd.same (by simp),cv4.set (by decide),cv5.set (by decide),cv6.set (by decide),cv7.set (by decide),cv8.set (by decide),cv9.set (by decide),cv10.set (by decide),cv11.set (by decide),by rw [fl_set (show 3≠11 by decide)];exact hJ⟩
  ·simp at hop;subst hop;simp [Region.binds] at haf
   go_simp
   exact hK _ _ ⟨I,_,_,_,_,_,_,_,_,_,_,_,_,by simp only [putAll,Act.put,List.setIfInBounds_toArray,List.set_cons_succ,List.set_cons_zero],cv0.set (by decide),cv1.set (by decide),cv2.set (by decide),cv3.set (by decide),Vd.same (by simp),cv5.set (by decide),cv6.set (by decide),cv7.set (by decide),cv8.set (by decide),cv9.set (by decide),cv10.set (by decide),cv11.set (by decide),by rw [fl_set (show 4≠11 by decide)];exact hJ⟩
  ·simp at hop;subst hop;simp [Region.binds] at haf
   obtain rfl:=(cv4.get (by simp [haf])).symm
   have d0:W.cell? ⟨w.heap.size,0,none⟩=some (.slice (some ⟨b,o,none⟩) pn pk):=cellH ((hJ.out.block w.heap.size (by omega)).trans ((BV.out.block w.heap.size (by omega)).trans HX2.out)) (k:=0) rfl
   have dl:=lt_of_cell d0
   go_simp
   exact hK _ _ ⟨I,_,_,_,_,_,_,_,_,_,_,_,_,by simp only [putAll,Act.put,List.setIfInBounds_toArray,List.set_cons_succ,List.set_cons_zero],cv0.set (by decide),cv1.set (by decide),cv2.set (by decide),cv3.set (by decide),cv4.set (by decide),Vd.same (by simp),cv6.set (by decide),cv7.set (by decide),cv8.set (by decide),cv9.set (by decide),cv10.set (by decide),cv11.set (by decide),by rw [fl_set (show 5≠11 by decide)];exact hJ⟩
  ·simp at hop;subst hop;simp [Region.binds] at haf
   go_simp
   exact hK _ _ ⟨I,_,_,_,_,_,_,_,_,_,_,_,_,by simp only [putAll,Act.put,List.setIfInBounds_toArray,List.set_cons_succ,List.set_cons_zero],cv0.set (by decide),cv1.set (by decide),cv2.set (by decide),cv3.set (by decide),cv4.set (by decide),cv5.set (by decide),Vd.same (by simp),cv7.set (by decide),cv8.set (by decide),cv9.set (by decide),cv10.set (by decide),cv11.set (by decide),by rw [fl_set (show 6≠11 by decide)];exact hJ⟩
  ·simp at hop;subst hop;simp [Region.binds] at haf
   obtain rfl:=(cv5.get (by simp [haf])).symm
   obtain rfl:=(cv6.get (by simp [haf])).symm
   go_simp
   exact hK _ _ ⟨I,_,_,_,_,_,_,_,_,_,_,_,_,by simp only [putAll,Act.put,List.setIfInBounds_toArray,List.set_cons_succ,List.set_cons_zero],cv0.set (by decide),cv1.set (by decide),cv2.set (by decide),cv3.set (by decide),cv4.set (by decide),cv5.set (by decide),cv6.set (by decide),Vd.same (by simp),cv8.set (by decide),cv9.set (by decide),cv10.set (by decide),cv11.set (by decide),by rw [fl_set (show 7≠11 by decide)];exact hJ⟩
  ·simp at hop;subst hop;simp [Region.binds] at haf
   obtain rfl:=(cv7.get (by simp [haf])).symm
   have hbw:=HB.out.trans ((BV.out.trans (hJ.out.mono BV.out.size)).mono HB.out.size)
   have q2:=(hbw.cell (p:=⟨b,o+t,none⟩) hbl).trans I0.out
   have ql:=lt_of_cell q2
   go_simp
   exact hK _ _ ⟨I,_,_,_,_,_,_,_,_,_,_,_,_,by simp only [putAll,Act.put,List.setIfInBounds_toArray,List.set_cons_succ,List.set_cons_zero],cv0.set (by decide),cv1.set (by decide),cv2.set (by decide),cv3.set (by decide),cv4.set (by decide),cv5.set (by decide),cv6.set (by decide),cv7.set (by decide),Vd.same (by simp),cv9.set (by decide),cv10.set (by decide),cv11.set (by decide),by rw [fl_set (show 8≠11 by decide)];exact hJ⟩
  ·simp at hop;subst hop;simp [Region.binds] at haf
   obtain rfl:=(cv3.get (by simp [haf])).symm
   obtain rfl:=(cv8.get (by simp [haf])).symm
   go_simp
   exact hK _ _ ⟨I,_,_,_,_,_,_,_,_,_,_,_,_,by simp only [putAll,Act.put,List.setIfInBounds_toArray,List.set_cons_succ,List.set_cons_zero],cv0.set (by decide),cv1.set (by decide),cv2.set (by decide),cv3.set (by decide),cv4.set (by decide),cv5.set (by decide),cv6.set (by decide),cv7.set (by decide),cv8.set (by decide),Vd.same (by simp),cv10.set (by decide),cv11.set (by decide),by rw [fl_set (show 9≠11 by decide)];exact hJ⟩
  ·simp at hop;subst hop;simp [Region.binds] at haf
   obtain rfl:=(cv9.get (by simp [haf])).symm
   have hbw:=HB.out.trans ((BV.out.trans (hJ.out.mono BV.out.size)).mono HB.out.size)
   have e0:=(hbw.cell (p:=⟨b3,o3+kn * 4,none⟩) hbl3).trans R0.out
   have e1:=(hbw.cell (p:=⟨b3,o3+kn * 4+1,none⟩) hbl3).trans R1.out
   have e2:=(hbw.cell (p:=⟨b3,o3+kn * 4+2,none⟩) hbl3).trans R2.out
   have e3:=(hbw.cell (p:=⟨b3,o3+kn * 4+3,none⟩) hbl3).trans R3.out
   have ql:=lt_of_cell e0
   go_simp
   exact hK _ _ ⟨I,_,_,_,_,_,_,_,_,_,_,_,_,by simp only [putAll,Act.put,List.setIfInBounds_toArray,List.set_cons_succ,List.set_cons_zero],cv0.set (by decide),cv1.set (by decide),cv2.set (by decide),cv3.set (by decide),cv4.set (by decide),cv5.set (by decide),cv6.set (by decide),cv7.set (by decide),cv8.set (by decide),cv9.set (by decide),Vd.same (by simp),cv11.set (by decide),by rw [fl_set (show 10≠11 by decide)];exact hJ⟩
  ·simp at hop;subst hop;simp [Region.binds] at haf
   have f11:=fl_no mc.new;rw [f11] at hJ
   go_simp
   exact hK _ _ ⟨W.heap.size,_,_,_,_,_,_,_,_,_,_,_,_,by simp only [putAll,Act.put,List.setIfInBounds_toArray,List.set_cons_succ,List.set_cons_zero],cv0.set (by decide),cv1.set (by decide),cv2.set (by decide),cv3.set (by decide),cv4.set (by decide),cv5.set (by decide),cv6.set (by decide),cv7.set (by decide),cv8.set (by decide),cv9.set (by decide),cv10.set (by decide),Vd.same (by simp),by rw [fl_got hs (by decide)];exact ⟨hJ.out.alloc hJ.out.size _,fun _=>⟨heap_alloc_new W _,hJ.out.size⟩⟩⟩
 case re =>
  rintro ls a' W hall ⟨I,x11,x12,x13,x14,x15,x16,x17,x18,x19,x20,x21,x8,ha,cv0,cv1,cv2,cv3,cv4,cv5,cv6,cv7,cv8,cv9,cv10,cv11,hJ⟩ o hop
  simp only [putAll,Act.put,List.setIfInBounds_toArray,List.set_cons_succ,List.set_cons_zero] at ha
  subst ha
  simp at hop;subst hop
  obtain rfl:=(cv0.get (hall 0 (by decide))).symm
  obtain rfl:=(cv1.get (hall 1 (by decide))).symm
  obtain rfl:=(cv2.get (hall 2 (by decide))).symm
  obtain rfl:=(cv3.get (hall 3 (by decide))).symm
  obtain rfl:=(cv4.get (hall 4 (by decide))).symm
  obtain rfl:=(cv5.get (hall 5 (by decide))).symm
  obtain rfl:=(cv6.get (hall 6 (by decide))).symm
  obtain rfl:=(cv7.get (hall 7 (by decide))).symm
  obtain rfl:=(cv8.get (hall 8 (by decide))).symm
  obtain rfl:=(cv9.get (hall 9 (by decide))).symm
  obtain rfl:=(cv10.get (hall 10 (by decide))).symm
  obtain rfl:=(cv11.get (hall 11 (by decide))).symm
  rw [fl_yes (hall 11 (by decide))] at hJ
  obtain ⟨hbi,hIV⟩:=hJ.ob rfl
  have c0:W.cell? ⟨I,0,none⟩=some (.int .i64 0):=cellH hbi (k:=0) rfl
  have c1:W.cell? ⟨I,1,none⟩=some (.int .i64 0):=cellH hbi (k:=1) rfl
  have c2:W.cell? ⟨I,2,none⟩=some (.int .i64 0):=cellH hbi (k:=2) rfl
  have c3:W.cell? ⟨I,3,none⟩=some (.int .i64 0):=cellH hbi (k:=3) rfl
  have cfz:=frozH hbi
  have cl:=lt_of_cell c0
  go_simp
  have hb0:=heap_setCell_same W I 0 _ _ (.int .i64 op) hbi
  have hb1:=heap_setCell_same (W.setCell ⟨I,0,none⟩ (.int .i64 op)) I 1 _ _ (.int .i64 (lc:Int)) hb0
  have hb2:=heap_setCell_same ((W.setCell ⟨I,0,none⟩ (.int .i64 op)).setCell ⟨I,1,none⟩ (.int .i64 (lc:Int))) I 2 _ _ (.int .i64 (rc:Int)) hb1
  have hb3:=heap_setCell_same (((W.setCell ⟨I,0,none⟩ (.int .i64 op)).setCell ⟨I,1,none⟩ (.int .i64 (lc:Int))).setCell ⟨I,2,none⟩ (.int .i64 (rc:Int))) I 3 _ _ (.int .i64 val) hb2
  have hO:=(((hJ.out.setCell (p:=⟨I,0,none⟩) hIV (.int .i64 op)).setCell (p:=⟨I,1,none⟩) hIV (.int .i64 (lc:Int))).setCell (p:=⟨I,2,none⟩) hIV (.int .i64 (rc:Int))).setCell (p:=⟨I,3,none⟩) hIV (.int .i64 val)
  have HD1:=hide (DoS.mk (w:=w) (O:=w1.heap.size) (I:=I) (m:=m) (xs:=[.slice (some ⟨b,o,none⟩) pn pk, .slice ra rn rk, .slice (some ⟨bm,om,none⟩) mn mk, .slice ba bn bk]) (y:=y) (i:=[.int .i64 op, .int .i64 (lc:Int), .int .i64 (rc:Int), .int .i64 val]) (s:=s) ((hO.block w.heap.size (by omega)).trans ((BV.out.block w.heap.size (by omega)).trans HX2.out)) ((hO.block (w.heap.size+1) (by omega)).trans ((BV.out.block (w.heap.size+1) (by omega)).trans HR2.out)) ((hO.block w1.heap.size (by omega)).trans BO.out) hb3 (S2.out.below hO) (HB.out.trans ((BV.out.trans (hO.mono BV.out.size)).mono HB.out.size)) (by omega) (by omega) hmO.out)
  obtain ⟨V1,hV1⟩:∃ V1,V1=(((W.setCell ⟨I,0,none⟩ (.int .i64 op)).setCell ⟨I,1,none⟩ (.int .i64 (lc:Int))).setCell ⟨I,2,none⟩ (.int .i64 (rc:Int))).setCell ⟨I,3,none⟩ (.int .i64 val):=⟨_,rfl⟩
  rw [← hV1] at HD1
  simp only [← hV1]
  clear hb0 hb1 hb2 hb3 hO hJ hbi c0 c1 c2 c3 cfz cl hV1 a0 a1 a2 a3 al hIV
  go_wp2_with fail
  obtain ⟨gp,hgp, -⟩:=HD1.out.st.ln.o1.open1 (get_of_lt HPC.out).choose_spec
  have HGP:=hide hgp
  obtain ⟨⟨yp1,yp2,yp3⟩,⟨yr1,yr2,yr3⟩,⟨ym1,ym2,ym3⟩,⟨yb1,yb2,yb3⟩⟩:=y
  subst hgp
  have hyp2:(t:Int) < (yp2:Int):=by have:=(show yp2=s.pc.length from HD1.out.st.ln.o1.len);have:=HPC.out;omega
  -- reg do3r
  refine wp_region_inv3 (n:=10) (by kernel_rfl) rfl (by kernel_rfl) (by kernel_rfl) (fun A ls a' W => ∃ (x22 x23 x24 x25 x26 x27 x28 x29 x30 x31:Value),a'=putAll A [(22,x22),(23,x23),(24,x24),(25,x25),(26,x26),(27,x27),(28,x28),(29,x29),(30,x30),(31,x31)]∧Vd ls 0 [] x22 (.pointer (some ⟨w1.heap.size,0,none⟩))∧Vd ls 1 [] x23 (.slice (some ⟨gp,0,none⟩) yp2 yp3)∧Vd ls 2 [] x24 (.int .i64 (t:Int))∧Vd ls 3 [] x25 (.pointer (some ⟨w.heap.size,0,none⟩))∧Vd ls 4 [] x26 (.slice (some ⟨b,o,none⟩) pn pk)∧Vd ls 5 [] x27 (.int .i64 (t:Int))∧Vd ls 6 [] x28 (.pointer (some ⟨b,o+t,none⟩))∧Vd ls 7 [] x29 (.int .i64 (kn:Int))∧Vd ls 8 [] x30 (.int .i64 ((kn:Int)+1))∧Vd ls 9 [] x31 (.pointer (some ⟨gp,t,none⟩))∧Below V1.heap.size V1 W) ?r0 ?rs ?re
  case r0 =>
   exact ⟨undef,undef,undef,undef,undef,undef,undef,undef,undef,undef,by simp only [putAll,Act.put,List.setIfInBounds_toArray,List.set_cons_succ,List.set_cons_zero],Vd.start,Vd.start,Vd.start,Vd.start,Vd.start,Vd.start,Vd.start,Vd.start,Vd.start,Vd.start,by exact (Below.refl _ _).drew⟩
  case rs =>
   rintro ls a' W hs hnl ⟨x22,x23,x24,x25,x26,x27,x28,x29,x30,x31,ha,cv0,cv1,cv2,cv3,cv4,cv5,cv6,cv7,cv8,cv9,hJ⟩ k o hkn mc K hK
   simp only [putAll,Act.put,List.setIfInBounds_toArray,List.set_cons_succ,List.set_cons_zero] at ha
   subst ha
   have hkc:k=0∨k=1∨k=2∨k=3∨k=4∨k=5∨k=6∨k=7∨k=8∨k=9:=by omega
   have hop:=mc.op
   have haf:=mc.after
   rcases hkc with rfl | rfl | rfl | rfl | rfl | rfl | rfl | rfl | rfl | rfl
   ·simp at hop;subst hop;simp [Region.binds] at haf
    go_simp
    exact hK _ _ ⟨_,_,_,_,_,_,_,_,_,_,by simp only [putAll,Act.put,List.setIfInBounds_toArray,List.set_cons_succ,List.set_cons_zero],Vd.same (by simp),cv1.set (by decide),cv2.set (by decide),cv3.set (by decide),cv4.set (by decide),cv5.set (by decide),cv6.set (by decide),cv7.set (by decide),cv8.set (by decide),cv9.set (by decide),by exact hJ⟩
   ·simp at hop;subst hop;simp [Region.binds] at haf
    obtain rfl:=(cv0.get (by simp [haf])).symm
    have d0:W.cell? ⟨w1.heap.size,0,none⟩=some (.slice (some ⟨gp,0,none⟩) yp2 yp3):=cellH ((hJ.block w1.heap.size (Array.getElem?_eq_some_iff.1 HD1.out.bo).1).trans HD1.out.bo) (k:=0) rfl
    have dl:=lt_of_cell d0
    go_simp
    exact hK _ _ ⟨_,_,_,_,_,_,_,_,_,_,by simp only [putAll,Act.put,List.setIfInBounds_toArray,List.set_cons_succ,List.set_cons_zero],cv0.set (by decide),Vd.same (by simp),cv2.set (by decide),cv3.set (by decide),cv4.set (by decide),cv5.set (by decide),cv6.set (by decide),cv7.set (by decide),cv8.set (by decide),cv9.set (by decide),by exact hJ⟩
   ·simp at hop;subst hop;simp [Region.binds] at haf
    go_simp
    exact hK _ _ ⟨_,_,_,_,_,_,_,_,_,_,by simp only [putAll,Act.put,List.setIfInBounds_toArray,List.set_cons_succ,List.set_cons_zero],cv0.set (by decide),cv1.set (by decide),Vd.same (by simp),cv3.set (by decide),cv4.set (by decide),cv5.set (by decide),cv6.set (by decide),cv7.set (by decide),cv8.set (by decide),cv9.set (by decide),by exact hJ⟩
   ·simp at hop;subst hop;simp [Region.binds] at haf
    go_simp
    exact hK _ _ ⟨_,_,_,_,_,_,_,_,_,_,by simp only [putAll,Act.put,List.setIfInBounds_toArray,List.set_cons_succ,List.set_cons_zero],cv0.set (by decide),cv1.set (by decide),cv2.set (by decide),Vd.same (by simp),cv4.set (by decide),cv5.set (by decide),cv6.set (by decide),cv7.set (by decide),cv8.set (by decide),cv9.set (by decide),by exact hJ⟩
   ·simp at hop;subst hop;simp [Region.binds] at haf
    obtain rfl:=(cv3.get (by simp [haf])).symm
    have d0:W.cell? ⟨w.heap.size,0,none⟩=some (.slice (some ⟨b,o,none⟩) pn pk):=cellH ((hJ.block w.heap.size (Array.getElem?_eq_some_iff.1 HD1.out.bx).1).trans HD1.out.bx) (k:=0) rfl
    have dl:=lt_of_cell d0
    go_simp
    exact hK _ _ ⟨_,_,_,_,_,_,_,_,_,_,by simp only [putAll,Act.put,List.setIfInBounds_toArray,List.set_cons_succ,List.set_cons_zero],cv0.set (by decide),cv1.set (by decide),cv2.set (by decide),cv3.set (by decide),Vd.same (by simp),cv5.set (by decide),cv6.set (by decide),cv7.set (by decide),cv8.set (by decide),cv9.set (by decide),by exact hJ⟩
   ·simp at hop;subst hop;simp [Region.binds] at haf
    go_simp
    exact hK _ _ ⟨_,_,_,_,_,_,_,_,_,_,by simp only [putAll,Act.put,List.setIfInBounds_toArray,List.set_cons_succ,List.set_cons_zero],cv0.set (by decide),cv1.set (by decide),cv2.set (by decide),cv3.set (by decide),cv4.set (by decide),Vd.same (by simp),cv6.set (by decide),cv7.set (by decide),cv8.set (by decide),cv9.set (by decide),by exact hJ⟩
   ·simp at hop;subst hop;simp [Region.binds] at haf
    obtain rfl:=(cv4.get (by simp [haf])).symm
    obtain rfl:=(cv5.get (by simp [haf])).symm
    go_simp
    exact hK _ _ ⟨_,_,_,_,_,_,_,_,_,_,by simp only [putAll,Act.put,List.setIfInBounds_toArray,List.set_cons_succ,List.set_cons_zero],cv0.set (by decide),cv1.set (by decide),cv2.set (by decide),cv3.set (by decide),cv4.set (by decide),cv5.set (by decide),Vd.same (by simp),cv7.set (by decide),cv8.set (by decide),cv9.set (by decide),by exact hJ⟩
   ·simp at hop;subst hop;simp [Region.binds] at haf
    obtain rfl:=(cv6.get (by simp [haf])).symm
    have hbw:=HD1.out.bl.trans (hJ.mono HD1.out.bl.size)
    have q2:=(hbw.cell (p:=⟨b,o+t,none⟩) hbl).trans I0.out
    have ql:=lt_of_cell q2
    go_simp
    exact hK _ _ ⟨_,_,_,_,_,_,_,_,_,_,by simp only [putAll,Act.put,List.setIfInBounds_toArray,List.set_cons_succ,List.set_cons_zero],cv0.set (by decide),cv1.set (by decide),cv2.set (by decide),cv3.set (by decide),cv4.set (by decide),cv5.set (by decide),cv6.set (by decide),Vd.same (by simp),cv8.set (by decide),cv9.set (by decide),by exact hJ⟩
   ·simp at hop;subst hop;simp [Region.binds] at haf
    obtain rfl:=(cv7.get (by simp [haf])).symm
    go_simp
    exact hK _ _ ⟨_,_,_,_,_,_,_,_,_,_,by simp only [putAll,Act.put,List.setIfInBounds_toArray,List.set_cons_succ,List.set_cons_zero],cv0.set (by decide),cv1.set (by decide),cv2.set (by decide),cv3.set (by decide),cv4.set (by decide),cv5.set (by decide),cv6.set (by decide),cv7.set (by decide),Vd.same (by simp),cv9.set (by decide),by exact hJ⟩
   ·simp at hop;subst hop;simp [Region.binds] at haf
    obtain rfl:=(cv1.get (by simp [haf])).symm
    obtain rfl:=(cv2.get (by simp [haf])).symm
    go_simp
    exact hK _ _ ⟨_,_,_,_,_,_,_,_,_,_,by simp only [putAll,Act.put,List.setIfInBounds_toArray,List.set_cons_succ,List.set_cons_zero],cv0.set (by decide),cv1.set (by decide),cv2.set (by decide),cv3.set (by decide),cv4.set (by decide),cv5.set (by decide),cv6.set (by decide),cv7.set (by decide),cv8.set (by decide),Vd.same (by simp),by exact hJ⟩
  case re =>
   rintro ls a' W hall ⟨x22,x23,x24,x25,x26,x27,x28,x29,x30,x31,ha,cv0,cv1,cv2,cv3,cv4,cv5,cv6,cv7,cv8,cv9,hJ⟩ o hop
   simp only [putAll,Act.put,List.setIfInBounds_toArray,List.set_cons_succ,List.set_cons_zero] at ha
   subst ha
   simp at hop;subst hop
   obtain rfl:=(cv0.get (hall 0 (by decide))).symm
   obtain rfl:=(cv1.get (hall 1 (by decide))).symm
   obtain rfl:=(cv2.get (hall 2 (by decide))).symm
   obtain rfl:=(cv3.get (hall 3 (by decide))).symm
   obtain rfl:=(cv4.get (hall 4 (by decide))).symm
   obtain rfl:=(cv5.get (hall 5 (by decide))).symm
   obtain rfl:=(cv6.get (hall 6 (by decide))).symm
   obtain rfl:=(cv7.get (hall 7 (by decide))).symm
   obtain rfl:=(cv8.get (hall 8 (by decide))).symm
   obtain rfl:=(cv9.get (hall 9 (by decide))).symm
   obtain ⟨hD,hgl,⟨z,hz0⟩,hfz⟩:=(HD1.out.below hJ).pc (k:=t) rfl HPC.out ((kn:Int)+1)
   go_simp
   have HD2:=hide hD
   obtain ⟨V2,hV2⟩:∃ V2,V2=W.setCell ⟨gp,t,none⟩ (.int .i64 ((kn:Int)+1)):=⟨_,rfl⟩
   rw [← hV2] at HD2
   simp only [← hV2]
   clear hD hgl hz0 hfz hJ hV2
   have i0:V2.cell? ⟨I,0,none⟩=some (.int .i64 op):=cellH HD2.out.bi (k:=0) rfl
   have i1:V2.cell? ⟨I,1,none⟩=some (.int .i64 (lc:Int)):=cellH HD2.out.bi (k:=1) rfl
   have i2:V2.cell? ⟨I,2,none⟩=some (.int .i64 (rc:Int)):=cellH HD2.out.bi (k:=2) rfl
   have i3:V2.cell? ⟨I,3,none⟩=some (.int .i64 val):=cellH HD2.out.bi (k:=3) rfl
   have il:=lt_of_cell i0
   go_wp2_with (go_at_call 133;(with_reducible refine (l1Reads_raw _ _ _ _ _).mono ?_);rw [HRO.out];rintro e w4 ⟨rfl,hb4⟩;have HD3:=hide (HD2.out.below hb4);clear hb4)
   obtain ⟨gr,hgr, -⟩:=HD3.out.st.ln.o2.open1 (get_of_lt HRG.out).choose_spec
   subst hgr
   have hyr2:(qr:Int) < (yr2:Int):=by have:=(show yr2=s.rg.length from HD3.out.st.ln.o2.len);have:=HRG.out;omega
   -- reg do5r
   refine wp_region_inv3 (n:=13) (by kernel_rfl) rfl (by kernel_rfl) (by kernel_rfl) (fun A ls a' W => ∃ (x34 x35 x36 x37 x38 x39 x40 x41 x42 x43 x44 x45 x46:Value),a'=putAll A [(34,x34),(35,x35),(36,x36),(37,x37),(38,x38),(39,x39),(40,x40),(41,x41),(42,x42),(43,x43),(44,x44),(45,x45),(46,x46)]∧Vd ls 0 [] x34 (.pointer (some ⟨w1.heap.size,1,none⟩))∧Vd ls 1 [] x35 (.slice (some ⟨gr,0,none⟩) yr2 yr3)∧Vd ls 2 [] x36 (.int .i64 (t:Int))∧Vd ls 3 [] x37 (.pointer (some ⟨I,2,none⟩))∧Vd ls 4 [] x38 (.int .i64 (rc:Int))∧Vd ls 5 [] x39 (.int .i64 (qr:Int))∧Vd ls 6 [] x40 (.pointer (some ⟨w.heap.size,2,none⟩))∧Vd ls 7 [] x41 (.slice (some ⟨bm,om,none⟩) mn mk)∧Vd ls 8 [] x42 (.pointer (some ⟨I,1,none⟩))∧Vd ls 9 [] x43 (.int .i64 (lc:Int))∧Vd ls 10 [] x44 (.pointer (some ⟨bm,om+lc,none⟩))∧Vd ls 11 [] x45 (.int .i64 mv)∧Vd ls 12 [] x46 (.pointer (some ⟨gr,qr,none⟩))∧Below w4.heap.size w4 W) ?r0 ?rs ?re
   case r0 =>
    exact ⟨undef,undef,undef,undef,undef,undef,undef,undef,undef,undef,undef,undef,undef,by simp only [putAll,Act.put,List.setIfInBounds_toArray,List.set_cons_succ,List.set_cons_zero],Vd.start,Vd.start,Vd.start,Vd.start,Vd.start,Vd.start,Vd.start,Vd.start,Vd.start,Vd.start,Vd.start,Vd.start,Vd.start,by exact (Below.refl _ _).drew⟩
   case rs =>
    rintro ls a' W hs hnl ⟨x34,x35,x36,x37,x38,x39,x40,x41,x42,x43,x44,x45,x46,ha,cv0,cv1,cv2,cv3,cv4,cv5,cv6,cv7,cv8,cv9,cv10,cv11,cv12,hJ⟩ k o hkn mc K hK
    simp only [putAll,Act.put,List.setIfInBounds_toArray,List.set_cons_succ,List.set_cons_zero] at ha
    subst ha
    have hkc:k=0∨k=1∨k=2∨k=3∨k=4∨k=5∨k=6∨k=7∨k=8∨k=9∨k=10∨k=11∨k=12:=by omega
    have hop:=mc.op
    have haf:=mc.after
    rcases hkc with rfl | rfl | rfl | rfl | rfl | rfl | rfl | rfl | rfl | rfl | rfl | rfl | rfl
    ·simp at hop;subst hop;simp [Region.binds] at haf
     go_simp
     exact hK _ _ ⟨_,_,_,_,_,_,_,_,_,_,_,_,_,by simp only [putAll,Act.put,List.setIfInBounds_toArray,List.set_cons_succ,List.set_cons_zero],Vd.same (by simp),cv1.set (by decide),cv2.set (by decide),cv3.set (by decide),cv4.set (by decide),cv5.set (by decide),cv6.set (by decide),cv7.set (by decide),cv8.set (by decide),cv9.set (by decide),cv10.set (by decide),cv11.set (by decide),cv12.set (by decide),by exact hJ⟩
    ·simp at hop;subst hop;simp [Region.binds] at haf
     obtain rfl:=(cv0.get (by simp [haf])).symm
     have d1:W.cell? ⟨w1.heap.size,1,none⟩=some (.slice (some ⟨gr,0,none⟩) yr2 yr3):=cellH ((hJ.block w1.heap.size (Array.getElem?_eq_some_iff.1 HD3.out.bo).1).trans HD3.out.bo) (k:=1) rfl
     have dl:=lt_of_cell d1
     go_simp
     exact hK _ _ ⟨_,_,_,_,_,_,_,_,_,_,_,_,_,by simp only [putAll,Act.put,List.setIfInBounds_toArray,List.set_cons_succ,List.set_cons_zero],cv0.set (by decide),Vd.same (by simp),cv2.set (by decide),cv3.set (by decide),cv4.set (by decide),cv5.set (by decide),cv6.set (by decide),cv7.set (by decide),cv8.set (by decide),cv9.set (by decide),cv10.set (by decide),cv11.set (by decide),cv12.set (by decide),by exact hJ⟩
    ·simp at hop;subst hop;simp [Region.binds] at haf
     go_simp
     exact hK _ _ ⟨_,_,_,_,_,_,_,_,_,_,_,_,_,by simp only [putAll,Act.put,List.setIfInBounds_toArray,List.set_cons_succ,List.set_cons_zero],cv0.set (by decide),cv1.set (by decide),Vd.same (by simp),cv3.set (by decide),cv4.set (by decide),cv5.set (by decide),cv6.set (by decide),cv7.set (by decide),cv8.set (by decide),cv9.set (by decide),cv10.set (by decide),cv11.set (by decide),cv12.set (by decide),by exact hJ⟩
    ·simp at hop;subst hop;simp [Region.binds] at haf
     go_simp
     exact hK _ _ ⟨_,_,_,_,_,_,_,_,_,_,_,_,_,by simp only [putAll,Act.put,List.setIfInBounds_toArray,List.set_cons_succ,List.set_cons_zero],cv0.set (by decide),cv1.set (by decide),cv2.set (by decide),Vd.same (by simp),cv4.set (by decide),cv5.set (by decide),cv6.set (by decide),cv7.set (by decide),cv8.set (by decide),cv9.set (by decide),cv10.set (by decide),cv11.set (by decide),cv12.set (by decide),by exact hJ⟩
    ·simp at hop;subst hop;simp [Region.binds] at haf
     obtain rfl:=(cv3.get (by simp [haf])).symm
     have d2:W.cell? ⟨I,2,none⟩=some (.int .i64 (rc:Int)):=cellH ((hJ.block I (Array.getElem?_eq_some_iff.1 HD3.out.bi).1).trans HD3.out.bi) (k:=2) rfl
     have dl:=lt_of_cell d2
     go_simp
     exact hK _ _ ⟨_,_,_,_,_,_,_,_,_,_,_,_,_,by simp only [putAll,Act.put,List.setIfInBounds_toArray,List.set_cons_succ,List.set_cons_zero],cv0.set (by decide),cv1.set (by decide),cv2.set (by decide),cv3.set (by decide),Vd.same (by simp),cv5.set (by decide),cv6.set (by decide),cv7.set (by decide),cv8.set (by decide),cv9.set (by decide),cv10.set (by decide),cv11.set (by decide),cv12.set (by decide),by exact hJ⟩
    ·simp at hop;subst hop;simp [Region.binds] at haf
     obtain rfl:=(cv2.get (by simp [haf])).symm
     obtain rfl:=(cv4.get (by simp [haf])).symm
     go_simp
     go_at_call 76
     (with_reducible refine (HREG.out W).mono ?_);rintro e u ⟨rfl,hbu⟩
     exact hK _ _ ⟨_,_,_,_,_,_,_,_,_,_,_,_,_,by simp only [putAll,Act.put,List.setIfInBounds_toArray,List.set_cons_succ,List.set_cons_zero],cv0.set (by decide),cv1.set (by decide),cv2.set (by decide),cv3.set (by decide),cv4.set (by decide),Vd.same (by simp),cv6.set (by decide),cv7.set (by decide),cv8.set (by decide),cv9.set (by decide),cv10.set (by decide),cv11.set (by decide),cv12.set (by decide),by exact hJ.trans (hbu.mono hJ.size)⟩
    ·simp at hop;subst hop;simp [Region.binds] at haf
     go_simp
     exact hK _ _ ⟨_,_,_,_,_,_,_,_,_,_,_,_,_,by simp only [putAll,Act.put,List.setIfInBounds_toArray,List.set_cons_succ,List.set_cons_zero],cv0.set (by decide),cv1.set (by decide),cv2.set (by decide),cv3.set (by decide),cv4.set (by decide),cv5.set (by decide),Vd.same (by simp),cv7.set (by decide),cv8.set (by decide),cv9.set (by decide),cv10.set (by decide),cv11.set (by decide),cv12.set (by decide),by exact hJ⟩
    ·simp at hop;subst hop;simp [Region.binds] at haf
     obtain rfl:=(cv6.get (by simp [haf])).symm
     have d2:W.cell? ⟨w.heap.size,2,none⟩=some (.slice (some ⟨bm,om,none⟩) mn mk):=cellH ((hJ.block w.heap.size (Array.getElem?_eq_some_iff.1 HD3.out.bx).1).trans HD3.out.bx) (k:=2) rfl
     have dl:=lt_of_cell d2
     go_simp
     exact hK _ _ ⟨_,_,_,_,_,_,_,_,_,_,_,_,_,by simp only [putAll,Act.put,List.setIfInBounds_toArray,List.set_cons_succ,List.set_cons_zero],cv0.set (by decide),cv1.set (by decide),cv2.set (by decide),cv3.set (by decide),cv4.set (by decide),cv5.set (by decide),cv6.set (by decide),Vd.same (by simp),cv8.set (by decide),cv9.set (by decide),cv10.set (by decide),cv11.set (by decide),cv12.set (by decide),by exact hJ⟩
    ·simp at hop;subst hop;simp [Region.binds] at haf
     go_simp
     exact hK _ _ ⟨_,_,_,_,_,_,_,_,_,_,_,_,_,by simp only [putAll,Act.put,List.setIfInBounds_toArray,List.set_cons_succ,List.set_cons_zero],cv0.set (by decide),cv1.set (by decide),cv2.set (by decide),cv3.set (by decide),cv4.set (by decide),cv5.set (by decide),cv6.set (by decide),cv7.set (by decide),Vd.same (by simp),cv9.set (by decide),cv10.set (by decide),cv11.set (by decide),cv12.set (by decide),by exact hJ⟩
    ·simp at hop;subst hop;simp [Region.binds] at haf
     obtain rfl:=(cv8.get (by simp [haf])).symm
     have d1:W.cell? ⟨I,1,none⟩=some (.int .i64 (lc:Int)):=cellH ((hJ.block I (Array.getElem?_eq_some_iff.1 HD3.out.bi).1).trans HD3.out.bi) (k:=1) rfl
     have dl:=lt_of_cell d1
     go_simp
     exact hK _ _ ⟨_,_,_,_,_,_,_,_,_,_,_,_,_,by simp only [putAll,Act.put,List.setIfInBounds_toArray,List.set_cons_succ,List.set_cons_zero],cv0.set (by decide),cv1.set (by decide),cv2.set (by decide),cv3.set (by decide),cv4.set (by decide),cv5.set (by decide),cv6.set (by decide),cv7.set (by decide),cv8.set (by decide),Vd.same (by simp),cv10.set (by decide),cv11.set (by decide),cv12.set (by decide),by exact hJ⟩
    ·simp at hop;subst hop;simp [Region.binds] at haf
     obtain rfl:=(cv7.get (by simp [haf])).symm
     obtain rfl:=(cv9.get (by simp [haf])).symm
     go_simp
     exact hK _ _ ⟨_,_,_,_,_,_,_,_,_,_,_,_,_,by simp only [putAll,Act.put,List.setIfInBounds_toArray,List.set_cons_succ,List.set_cons_zero],cv0.set (by decide),cv1.set (by decide),cv2.set (by decide),cv3.set (by decide),cv4.set (by decide),cv5.set (by decide),cv6.set (by decide),cv7.set (by decide),cv8.set (by decide),cv9.set (by decide),Vd.same (by simp),cv11.set (by decide),cv12.set (by decide),by exact hJ⟩
    ·simp at hop;subst hop;simp [Region.binds] at haf
     obtain rfl:=(cv10.get (by simp [haf])).symm
     have hbw:=HD3.out.bl.trans (hJ.mono HD3.out.bl.size)
     have q2:=(hbw.cell (p:=⟨bm,om+lc,none⟩) hblm).trans M0.out
     have ql:=lt_of_cell q2
     go_simp
     exact hK _ _ ⟨_,_,_,_,_,_,_,_,_,_,_,_,_,by simp only [putAll,Act.put,List.setIfInBounds_toArray,List.set_cons_succ,List.set_cons_zero],cv0.set (by decide),cv1.set (by decide),cv2.set (by decide),cv3.set (by decide),cv4.set (by decide),cv5.set (by decide),cv6.set (by decide),cv7.set (by decide),cv8.set (by decide),cv9.set (by decide),cv10.set (by decide),Vd.same (by simp),cv12.set (by decide),by exact hJ⟩
    ·simp at hop;subst hop;simp [Region.binds] at haf
     obtain rfl:=(cv1.get (by simp [haf])).symm
     obtain rfl:=(cv5.get (by simp [haf])).symm
     go_simp
     exact hK _ _ ⟨_,_,_,_,_,_,_,_,_,_,_,_,_,by simp only [putAll,Act.put,List.setIfInBounds_toArray,List.set_cons_succ,List.set_cons_zero],cv0.set (by decide),cv1.set (by decide),cv2.set (by decide),cv3.set (by decide),cv4.set (by decide),cv5.set (by decide),cv6.set (by decide),cv7.set (by decide),cv8.set (by decide),cv9.set (by decide),cv10.set (by decide),cv11.set (by decide),Vd.same (by simp),by exact hJ⟩
   case re =>
    rintro ls a' W hall ⟨x34,x35,x36,x37,x38,x39,x40,x41,x42,x43,x44,x45,x46,ha,cv0,cv1,cv2,cv3,cv4,cv5,cv6,cv7,cv8,cv9,cv10,cv11,cv12,hJ⟩ o hop
    simp only [putAll,Act.put,List.setIfInBounds_toArray,List.set_cons_succ,List.set_cons_zero] at ha
    subst ha
    simp at hop;subst hop
    obtain rfl:=(cv0.get (hall 0 (by decide))).symm
    obtain rfl:=(cv1.get (hall 1 (by decide))).symm
    obtain rfl:=(cv2.get (hall 2 (by decide))).symm
    obtain rfl:=(cv3.get (hall 3 (by decide))).symm
    obtain rfl:=(cv4.get (hall 4 (by decide))).symm
    obtain rfl:=(cv5.get (hall 5 (by decide))).symm
    obtain rfl:=(cv6.get (hall 6 (by decide))).symm
    obtain rfl:=(cv7.get (hall 7 (by decide))).symm
    obtain rfl:=(cv8.get (hall 8 (by decide))).symm
    obtain rfl:=(cv9.get (hall 9 (by decide))).symm
    obtain rfl:=(cv10.get (hall 10 (by decide))).symm
    obtain rfl:=(cv11.get (hall 11 (by decide))).symm
    obtain rfl:=(cv12.get (hall 12 (by decide))).symm
    obtain ⟨hD,hgl,⟨z,hz0⟩,hfz⟩:=(HD3.out.below hJ).rg (k:=qr) rfl HRG.out (mv)
    go_simp
    have HD4:=hide hD
    obtain ⟨V4,hV4⟩:∃ V4,V4=W.setCell ⟨gr,qr,none⟩ (.int .i64 (mv)):=⟨_,rfl⟩
    rw [← hV4] at HD4
    simp only [← hV4]
    clear hD hgl hz0 hfz hJ hV4
    have k0:V4.cell? ⟨I,0,none⟩=some (.int .i64 op):=cellH HD4.out.bi (k:=0) rfl
    have k1:V4.cell? ⟨I,1,none⟩=some (.int .i64 (lc:Int)):=cellH HD4.out.bi (k:=1) rfl
    have k2:V4.cell? ⟨I,2,none⟩=some (.int .i64 (rc:Int)):=cellH HD4.out.bi (k:=2) rfl
    have k3:V4.cell? ⟨I,3,none⟩=some (.int .i64 val):=cellH HD4.out.bi (k:=3) rfl
    have kl:=lt_of_cell k0
    go_wp2_with (go_at_call 134;(with_reducible refine (l1Writes_raw _ _ _ _ _).mono ?_);rw [HWO.out];rintro e w6 ⟨rfl,hb6⟩;have HD5:=hide (HD4.out.below hb6);clear hb6;have hD:=HD5.out;have g0:w6.cell? ⟨w1.heap.size,0,none⟩=some (.slice (some ⟨gp,0,none⟩) yp2 yp3):=cellH hD.bo (k:=0) rfl;have g1:w6.cell? ⟨w1.heap.size,1,none⟩=some (.slice (some ⟨gr,0,none⟩) yr2 yr3):=cellH hD.bo (k:=1) rfl;have g2:w6.cell? ⟨w1.heap.size,2,none⟩=some (.slice ym1 ym2 ym3):=cellH hD.bo (k:=2) rfl;have g3:w6.cell? ⟨w1.heap.size,3,none⟩=some (.slice yb1 yb2 yb3):=cellH hD.bo (k:=3) rfl;have gl:=lt_of_cell g0;have r0:w6.cell? ⟨w.heap.size+1,0,none⟩=some (.slice none 0 0):=cellH hD.br (k:=0) rfl;have r1:w6.cell? ⟨w.heap.size+1,1,none⟩=some (.slice none 0 0):=cellH hD.br (k:=1) rfl;have r2:w6.cell? ⟨w.heap.size+1,2,none⟩=some (.slice none 0 0):=cellH hD.br (k:=2) rfl;have r3:w6.cell? ⟨w.heap.size+1,3,none⟩=some (.slice none 0 0):=cellH hD.br (k:=3) rfl;have rfz:=frozH hD.br;have rl:=lt_of_cell r0;clear hD)
    have hS:=HD5.out.st.mono (show w.heap.size≤w.heap.size+2 by omega)
    have t0:TyB 195 w6 (w.heap.size+1):=⟨_,HD5.out.br⟩
    rw [E.out]
    refine bodyPost_ret (v:=.agg #[.slice (some ⟨gp,0,none⟩) yp2 yp3, .slice (some ⟨gr,0,none⟩) yr2 yr3, .slice ym1 ym2 ym3, .slice yb1 yb2 yb3]) (by simp [results,Tryz.results198,go_sem, *]) rfl ⟨⟨⟨some ⟨gp,0,none⟩,yp2,yp3⟩,⟨some ⟨gr,0,none⟩,yr2,yr3⟩,⟨ym1,ym2,ym3⟩,⟨yb1,yb2,yb3⟩⟩,m,rfl, ?_, ?_⟩
    ·exact (((hS.setT (by decide) (by decide) t0).setT (by decide) (by decide) (t0.set _ _ _)).setT (by decide) (by decide) ((t0.set _ _ _).set _ _ _)).setT (by decide) (by decide) (((t0.set _ _ _).set _ _ _).set _ _ _)
    ·exact (((HD5.out.bl.setCell (p:=⟨w.heap.size+1,0,none⟩) (show w.heap.size≤w.heap.size+1 by omega) _).setCell (p:=⟨w.heap.size+1,1,none⟩) (show w.heap.size≤w.heap.size+1 by omega) _).setCell (p:=⟨w.heap.size+1,2,none⟩) (show w.heap.size≤w.heap.size+1 by omega) _).setCell (p:=⟨w.heap.size+1,3,none⟩) (show w.heap.size≤w.heap.size+1 by omega) _
   -- end do5r
  -- end do3r
 -- end do2r
theorem l3Do_w (vp:Value) (p:List (List Ins)) (x:SV) (s:St) (t kn lc rc:Nat) (op val:Int) (r:List Ins) (w:World) (hp:RepP w vp p) (hx:RepSt w x s) (hpc:s.pc[t]? = some (kn:Int)) (hrow:p[t]? = some r) (hins:r[kn]? = some ⟨op,lc,rc,val⟩)
 (hr:isRop op=false) (hw:isWop op=true) (ht:t≤2) (hlc:lc≤2) (hrc:rc≤2) (h1:s.pc.length≤1000) (h2:s.rg.length=s.pc.length * 3) (h3:s.mm.length=3) (h4:s.bf.length≤100) (h5:∀ o∈s.bf,o.length≤1000) (hrl:r.length≤1000) :
 Calls Tryz.prog 198 #[vp, .agg #[.slice x.p.a x.p.n x.p.cap, .slice x.r.a x.r.n x.r.cap, .slice x.m.a x.m.n x.m.cap, .slice x.b.a x.b.n x.b.cap], .int .i64 (t:Int)] w
  (RetSt w ⟨(sqDo s.q t kn ⟨op,lc,rc,val⟩).pc,(sqDo s.q t kn ⟨op,lc,rc,val⟩).rg,(sqDo s.q t kn ⟨op,lc,rc,val⟩).mm,s.bf⟩):=by
 obtain ⟨⟨pa,pn,pk⟩,⟨ra,rn,rk⟩,⟨ma,mn,mk⟩,⟨ba,bn,bk⟩⟩:=x
 obtain ⟨va,vc,rfl,hc1,hc2,hc3,hp⟩:=hp.open
 obtain ⟨b2,o2,qa,qc,rfl,hbl2,q0,q1⟩:=hp.row hrow
 obtain ⟨b3,o3,rfl,hbl3,r0,r1,r2,r3⟩:=q1.ins hins
 have hpt:=(List.getElem?_eq_some_iff.1 hrow).1
 have hkr:=(List.getElem?_eq_some_iff.1 hins).1
 obtain ⟨_,_,hv1, -, -, -, -⟩:=hx.pc.open
 obtain ⟨_,_,hv3, -, -, -, -⟩:=hx.mm.open
 simp only [Slc.v,Value.slice.injEq] at hv1 hv3
 obtain ⟨rfl,hn1,rfl⟩:=hv1
 obtain ⟨rfl,hn3,rfl⟩:=hv3
 obtain ⟨b,o,rfl,hbl,i0⟩:=(show Rep IntE w (.slice pa pn pk) s.pc from hx.pc).int hpc
 obtain ⟨mv,hmv⟩:=get_of_lt (xs:=s.mm) (k:=lc) (by omega)
 obtain ⟨bm,om,rfl,hblm,m0⟩:=(show Rep IntE w (.slice ma mn mk) s.mm from hx.mm).int hmv
 have htl:=(List.getElem?_eq_some_iff.1 hpc).1
 obtain ⟨qr,hqr⟩:∃ qr:Nat,qr=t * 3+rc:=⟨_,rfl⟩
 have HX:=hide hx
 have HREG:=hide (fun w'=>(l3Reg_M t rc w' ht hrc).mono fun e w'' ⟨h1,h2⟩=>(⟨by rw [hqr];exact h1,h2 ▸ Below.refl _ _⟩:e=Ending.returned (.int .i64 (qr:Int))∧Below w'.heap.size w' w''))
 have HRO:=hide hr;have HWO:=hide hw
 have MV:Hid (s.mm.getD lc 0=mv):=hide (by rw [List.getD_eq_getElem?_getD,hmv];rfl)
 have E:Hid (sqDo s.q t kn ⟨op,lc,rc,val⟩=⟨s.pc.set t ((kn:Int)+1),s.rg,s.mm.set lc (sqVal s.q t ⟨op,lc,rc,val⟩)⟩):=hide (by unfold sqDo;simp [hr,hw])
 have hpn:(t:Int) < (pn:Int):=by omega
 have hpn2:(t:Int) < (p.length:Int):=by omega
 have hkn2:(kn:Int) < (r.length:Int):=by omega
 have hmn:(lc:Int) < (mn:Int):=by omega
 have hrg:qr < s.rg.length:=by omega
 have H1:=hide h1;have H2:=hide h2;have H3:=hide h3;have HPC:=hide htl;have HRG:=hide hrg;have HMM:=hide (show lc < s.mm.length by omega)
 have HRL:=hide hrl
 have HVAL:=hide (fun w' (h:RepSt w' ⟨⟨some ⟨b,o,none⟩,pn,pk⟩,⟨ra,rn,rk⟩,⟨some ⟨bm,om,none⟩,mn,mk⟩,⟨ba,bn,bk⟩⟩ s)=>l3Value_any _ s t rc op lc val w' h ht hrc (by omega))
 have hknb:(kn:Int) < 1000:=by omega
 have hkw:IntKind.i64.wrap ((kn:Int)+1)=(kn:Int)+1:=wrapM (by omega) (by omega)
 have HCP:=hide (fun w' (h:RepSt w' ⟨⟨some ⟨b,o,none⟩,pn,pk⟩,⟨ra,rn,rk⟩,⟨some ⟨bm,om,none⟩,mn,mk⟩,⟨ba,bn,bk⟩⟩ s)=>l3Copy_any _ s w' h (by omega) (by omega) (by omega) (by omega) (fun o ho=>by have:=h5 o ho;omega))
 obtain ⟨A0,hA0⟩:∃ A0,A0=(w.alloc (.cells #[.slice (some ⟨b,o,none⟩) pn pk, .slice ra rn rk, .slice (some ⟨bm,om,none⟩) mn mk, .slice ba bn bk] 195)).alloc (.cells #[.slice none 0 0, .slice none 0 0, .slice none 0 0, .slice none 0 0] 195):=⟨_,rfl⟩
 have hz:A0.heap.size=w.heap.size+2:=by rw [hA0];simp
 have HX2:Hid (A0.heap[w.heap.size]? = some (.cells #[.slice (some ⟨b,o,none⟩) pn pk, .slice ra rn rk, .slice (some ⟨bm,om,none⟩) mn mk, .slice ba bn bk] 195 (0,0))):=hide (by
  rw [hA0,heap_alloc_old _ _ (by simp)];exact heap_alloc_new w _)
 have HR2:Hid (A0.heap[w.heap.size+1]? = some (.cells #[.slice none 0 0, .slice none 0 0, .slice none 0 0, .slice none 0 0] 195 (0,0))):=hide (by
  have h:=heap_alloc_new (w.alloc (.cells #[.slice (some ⟨b,o,none⟩) pn pk, .slice ra rn rk, .slice (some ⟨bm,om,none⟩) mn mk, .slice ba bn bk] 195)) (.cells #[.slice none 0 0, .slice none 0 0, .slice none 0 0, .slice none 0 0] 195)
  rw [hA0];simpa using h)
 have HB:Hid (Below w.heap.size w A0):=hide (by rw [hA0];exact (belowAlloc w _).alloc (by simp) _)
 have a0:A0.cell? ⟨w.heap.size,0,none⟩=some (.slice (some ⟨b,o,none⟩) pn pk):=cellH HX2.out (k:=0) rfl
 have a1:A0.cell? ⟨w.heap.size,1,none⟩=some (.slice ra rn rk):=cellH HX2.out (k:=1) rfl
 have a2:A0.cell? ⟨w.heap.size,2,none⟩=some (.slice (some ⟨bm,om,none⟩) mn mk):=cellH HX2.out (k:=2) rfl
 have a3:A0.cell? ⟨w.heap.size,3,none⟩=some (.slice ba bn bk):=cellH HX2.out (k:=3) rfl
 have al:=lt_of_cell a0
 have HA0:=hide hA0
 have HT:=hide ht;have HLC:=hide hlc;have HRC:=hide hrc
 have Q0:=hide q0;have R0:=hide r0;have R1:=hide r1;have R2:=hide r2;have R3:=hide r3;have I0:=hide i0;have M0:=hide m0
 clear hqr hn1 hn3 hx hp q1 hr hw hA0 hpc hrow hins hmv h1 h2 h3 h4 h5 hrl htl hrg q0 r0 r1 r2 r3 i0 m0
 go_enter Tryz.func198,Tryz.ntmps198
 go_wp2_with fail
 rw [← HA0.out]
 go_wp2_with (go_at_call 216;(with_reducible refine (HCP.out _ (HX.out.below HB.out)).mono ?_);rintro e w1 ⟨y,m,rfl,hs1,hb1⟩;have S1:=hide hs1;have B1:=hide hb1;have hsz1:=hb1.size;clear hs1 hb1)
 obtain ⟨V,hV⟩:∃ V,V=w1.alloc (.cells #[.slice y.p.a y.p.n y.p.cap, .slice y.r.a y.r.n y.r.cap, .slice y.m.a y.m.n y.m.cap, .slice y.b.a y.b.n y.b.cap] 195):=⟨_,rfl⟩
 have BV:Hid (Below A0.heap.size A0 V):=hide (by rw [hV];exact B1.out.alloc B1.out.size _)
 have BO:Hid (V.heap[w1.heap.size]? = some (.cells #[.slice y.p.a y.p.n y.p.cap, .slice y.r.a y.r.n y.r.cap, .slice y.m.a y.m.n y.m.cap, .slice y.b.a y.b.n y.b.cap] 195 (0,0))):=hide (by rw [hV];exact heap_alloc_new w1 _)
 have S2:Hid (OwnSt V (w.heap.size+2) m y s):=hide (by have h:=S1.out.below (belowAlloc w1 (.cells #[.slice y.p.a y.p.n y.p.cap, .slice y.r.a y.r.n y.r.cap, .slice y.m.a y.m.n y.m.cap, .slice y.b.a y.b.n y.b.cap] 195));rw [hz] at h;rw [hV];exact h)
 have hzV:V.heap.size=w1.heap.size+1:=by rw [hV];simp
 have hmO:Hid (m≤w1.heap.size):=hide S1.out.lh
 have HV:=hide hV
 rw [← hV]
 clear hV S1 B1
 -- reg do2w
 refine wp_region_inv3 (n:=12) (by kernel_rfl) rfl (by kernel_rfl) (by kernel_rfl) (fun A ls a' W => ∃ (I:Nat) (x11 x12 x13 x14 x15 x16 x17 x18 x19 x20 x21 x8:Value),a'=putAll A [(11,x11),(12,x12),(13,x13),(14,x14),(15,x15),(16,x16),(17,x17),(18,x18),(19,x19),(20,x20),(21,x21),(8,x8)]∧Vd ls 0 [] x11 (.slice (some ⟨b2,o2,none⟩) p.length vc)∧Vd ls 1 [] x12 (.int .i64 (t:Int))∧Vd ls 2 [] x13 (.pointer (some ⟨b2,o2+t,none⟩))∧Vd ls 3 [] x14 (.slice (some ⟨b3,o3,none⟩) r.length qc)∧Vd ls 4 [] x15 (.pointer (some ⟨w.heap.size,0,none⟩))∧Vd ls 5 [] x16 (.slice (some ⟨b,o,none⟩) pn pk)∧Vd ls 6 [] x17 (.int .i64 (t:Int))∧Vd ls 7 [] x18 (.pointer (some ⟨b,o+t,none⟩))∧Vd ls 8 [] x19 (.int .i64 (kn:Int))∧Vd ls 9 [] x20 (.pointer (some ⟨b3,o3+kn * 4,none⟩))∧Vd ls 10 [] x21 (.agg #[.int .i64 op, .int .i64 (lc:Int), .int .i64 (rc:Int), .int .i64 val])∧Vd ls 11 [] x8 (.pointer (some ⟨I,0,none⟩))∧JDo V (fl ls 11) I W) ?r0 ?rs ?re
 case r0 =>
  exact ⟨0,undef,undef,undef,undef,undef,undef,undef,undef,undef,undef,undef,undef,by simp only [putAll,Act.put,List.setIfInBounds_toArray,List.set_cons_succ,List.set_cons_zero],Vd.start,Vd.start,Vd.start,Vd.start,Vd.start,Vd.start,Vd.start,Vd.start,Vd.start,Vd.start,Vd.start,Vd.start,by simp only [fl_start];exact ⟨(Below.refl _ _).drew,fun h=>(nomatch h)⟩⟩
 case rs =>
  rintro ls a' W hs hnl ⟨I,x11,x12,x13,x14,x15,x16,x17,x18,x19,x20,x21,x8,ha,cv0,cv1,cv2,cv3,cv4,cv5,cv6,cv7,cv8,cv9,cv10,cv11,hJ⟩ k o hkn mc K hK
  simp only [putAll,Act.put,List.setIfInBounds_toArray,List.set_cons_succ,List.set_cons_zero] at ha
  subst ha
  have hkc:k=0∨k=1∨k=2∨k=3∨k=4∨k=5∨k=6∨k=7∨k=8∨k=9∨k=10∨k=11:=by omega
  have hop:=mc.op
  have haf:=mc.after
  rcases hkc with rfl | rfl | rfl | rfl | rfl | rfl | rfl | rfl | rfl | rfl | rfl | rfl
  ·simp at hop;subst hop;simp [Region.binds] at haf
   go_simp
   exact hK _ _ ⟨I,_,_,_,_,_,_,_,_,_,_,_,_,by simp only [putAll,Act.put,List.setIfInBounds_toArray,List.set_cons_succ,List.set_cons_zero],Vd.same (by simp),cv1.set (by decide),cv2.set (by decide),cv3.set (by decide),cv4.set (by decide),cv5.set (by decide),cv6.set (by decide),cv7.set (by decide),cv8.set (by decide),cv9.set (by decide),cv10.set (by decide),cv11.set (by decide),by rw [fl_set (show 0≠11 by decide)];exact hJ⟩
  ·simp at hop;subst hop;simp [Region.binds] at haf
   go_simp
   exact hK _ _ ⟨I,_,_,_,_,_,_,_,_,_,_,_,_,by simp only [putAll,Act.put,List.setIfInBounds_toArray,List.set_cons_succ,List.set_cons_zero],cv0.set (by decide),Vd.same (by simp),cv2.set (by decide),cv3.set (by decide),cv4.set (by decide),cv5.set (by decide),cv6.set (by decide),cv7.set (by decide),cv8.set (by decide),cv9.set (by decide),cv10.set (by decide),cv11.set (by decide),by rw [fl_set (show 1≠11 by decide)];exact hJ⟩
  ·simp at hop;subst hop;simp [Region.binds] at haf
   obtain rfl:=(cv0.get (by simp [haf])).symm
   obtain rfl:=(cv1.get (by simp [haf])).symm
   go_simp
   exact hK _ _ ⟨I,_,_,_,_,_,_,_,_,_,_,_,_,by simp only [putAll,Act.put,List.setIfInBounds_toArray,List.set_cons_succ,List.set_cons_zero],cv0.set (by decide),cv1.set (by decide),Vd.same (by simp),cv3.set (by decide),cv4.set (by decide),cv5.set (by decide),cv6.set (by decide),cv7.set (by decide),cv8.set (by decide),cv9.set (by decide),cv10.set (by decide),cv11.set (by decide),by rw [fl_set (show 2≠11 by decide)];exact hJ⟩
  ·simp at hop;subst hop;simp [Region.binds] at haf
   obtain rfl:=(cv2.get (by simp [haf])).symm
   have hbw:=HB.out.trans ((BV.out.trans (hJ.out.mono BV.out.size)).mono HB.out.size)
   have q2:=(hbw.cell (p:=⟨b2,o2+t,none⟩) hbl2).trans Q0.out
   have ql:=lt_of_cell q2
   go_simp
   exact hK _ _ ⟨I,_,_,_,_,_,_,_,_,_,_,_,_,by simp only [putAll,Act.put,List.setIfInBounds_toArray,List.set_cons_succ,List.set_cons_zero],cv0.set (by decide),cv1.set (by decide),cv2.set (by decide),Vd.same (by simp),cv4.set (by decide),cv5.set (by decide),cv6.set (by decide),cv7.set (by decide),cv8.set (by decide),cv9.set (by decide),cv10.set (by decide),cv11.set (by decide),by rw [fl_set (show 3≠11 by decide)];exact hJ⟩
  ·simp at hop;subst hop;simp [Region.binds] at haf
   go_simp
   exact hK _ _ ⟨I,_,_,_,_,_,_,_,_,_,_,_,_,by simp only [putAll,Act.put,List.setIfInBounds_toArray,List.set_cons_succ,List.set_cons_zero],cv0.set (by decide),cv1.set (by decide),cv2.set (by decide),cv3.set (by decide),Vd.same (by simp),cv5.set (by decide),cv6.set (by decide),cv7.set (by decide),cv8.set (by decide),cv9.set (by decide),cv10.set (by decide),cv11.set (by decide),by rw [fl_set (show 4≠11 by decide)];exact hJ⟩
  ·simp at hop;subst hop;simp [Region.binds] at haf
   obtain rfl:=(cv4.get (by simp [haf])).symm
   have d0:W.cell? ⟨w.heap.size,0,none⟩=some (.slice (some ⟨b,o,none⟩) pn pk):=cellH ((hJ.out.block w.heap.size (by omega)).trans ((BV.out.block w.heap.size (by omega)).trans HX2.out)) (k:=0) rfl
   have dl:=lt_of_cell d0
   go_simp
   exact hK _ _ ⟨I,_,_,_,_,_,_,_,_,_,_,_,_,by simp only [putAll,Act.put,List.setIfInBounds_toArray,List.set_cons_succ,List.set_cons_zero],cv0.set (by decide),cv1.set (by decide),cv2.set (by decide),cv3.set (by decide),cv4.set (by decide),Vd.same (by simp),cv6.set (by decide),cv7.set (by decide),cv8.set (by decide),cv9.set (by decide),cv10.set (by decide),cv11.set (by decide),by rw [fl_set (show 5≠11 by decide)];exact hJ⟩
  ·simp at hop;subst hop;simp [Region.binds] at haf
   go_simp
   exact hK _ _ ⟨I,_,_,_,_,_,_,_,_,_,_,_,_,by simp only [putAll,Act.put,List.setIfInBounds_toArray,List.set_cons_succ,List.set_cons_zero],cv0.set (by decide),cv1.set (by decide),cv2.set (by decide),cv3.set (by decide),cv4.set (by decide),cv5.set (by decide),Vd.same (by simp),cv7.set (by decide),cv8.set (by decide),cv9.set (by decide),cv10.set (by decide),cv11.set (by decide),by rw [fl_set (show 6≠11 by decide)];exact hJ⟩
  ·simp at hop;subst hop;simp [Region.binds] at haf
   obtain rfl:=(cv5.get (by simp [haf])).symm
   obtain rfl:=(cv6.get (by simp [haf])).symm
   go_simp
   exact hK _ _ ⟨I,_,_,_,_,_,_,_,_,_,_,_,_,by simp only [putAll,Act.put,List.setIfInBounds_toArray,List.set_cons_succ,List.set_cons_zero],cv0.set (by decide),cv1.set (by decide),cv2.set (by decide),cv3.set (by decide),cv4.set (by decide),cv5.set (by decide),cv6.set (by decide),Vd.same (by simp),cv8.set (by decide),cv9.set (by decide),cv10.set (by decide),cv11.set (by decide),by rw [fl_set (show 7≠11 by decide)];exact hJ⟩
  ·simp at hop;subst hop;simp [Region.binds] at haf
   obtain rfl:=(cv7.get (by simp [haf])).symm
   have hbw:=HB.out.trans ((BV.out.trans (hJ.out.mono BV.out.size)).mono HB.out.size)
   have q2:=(hbw.cell (p:=⟨b,o+t,none⟩) hbl).trans I0.out
   have ql:=lt_of_cell q2
   go_simp
   exact hK _ _ ⟨I,_,_,_,_,_,_,_,_,_,_,_,_,by simp only [putAll,Act.put,List.setIfInBounds_toArray,List.set_cons_succ,List.set_cons_zero],cv0.set (by decide),cv1.set (by decide),cv2.set (by decide),cv3.set (by decide),cv4.set (by decide),cv5.set (by decide),cv6.set (by decide),cv7.set (by decide),Vd.same (by simp),cv9.set (by decide),cv10.set (by decide),cv11.set (by decide),by rw [fl_set (show 8≠11 by decide)];exact hJ⟩
  ·simp at hop;subst hop;simp [Region.binds] at haf
   obtain rfl:=(cv3.get (by simp [haf])).symm
   obtain rfl:=(cv8.get (by simp [haf])).symm
   go_simp
   exact hK _ _ ⟨I,_,_,_,_,_,_,_,_,_,_,_,_,by simp only [putAll,Act.put,List.setIfInBounds_toArray,List.set_cons_succ,List.set_cons_zero],cv0.set (by decide),cv1.set (by decide),cv2.set (by decide),cv3.set (by decide),cv4.set (by decide),cv5.set (by decide),cv6.set (by decide),cv7.set (by decide),cv8.set (by decide),Vd.same (by simp),cv10.set (by decide),cv11.set (by decide),by rw [fl_set (show 9≠11 by decide)];exact hJ⟩
  ·simp at hop;subst hop;simp [Region.binds] at haf
   obtain rfl:=(cv9.get (by simp [haf])).symm
   have hbw:=HB.out.trans ((BV.out.trans (hJ.out.mono BV.out.size)).mono HB.out.size)
   have e0:=(hbw.cell (p:=⟨b3,o3+kn * 4,none⟩) hbl3).trans R0.out
   have e1:=(hbw.cell (p:=⟨b3,o3+kn * 4+1,none⟩) hbl3).trans R1.out
   have e2:=(hbw.cell (p:=⟨b3,o3+kn * 4+2,none⟩) hbl3).trans R2.out
   have e3:=(hbw.cell (p:=⟨b3,o3+kn * 4+3,none⟩) hbl3).trans R3.out
   have ql:=lt_of_cell e0
   go_simp
   exact hK _ _ ⟨I,_,_,_,_,_,_,_,_,_,_,_,_,by simp only [putAll,Act.put,List.setIfInBounds_toArray,List.set_cons_succ,List.set_cons_zero],cv0.set (by decide),cv1.set (by decide),cv2.set (by decide),cv3.set (by decide),cv4.set (by decide),cv5.set (by decide),cv6.set (by decide),cv7.set (by decide),cv8.set (by decide),cv9.set (by decide),Vd.same (by simp),cv11.set (by decide),by rw [fl_set (show 10≠11 by decide)];exact hJ⟩
  ·simp at hop;subst hop;simp [Region.binds] at haf
   have f11:=fl_no mc.new;rw [f11] at hJ
   go_simp
   exact hK _ _ ⟨W.heap.size,_,_,_,_,_,_,_,_,_,_,_,_,by simp only [putAll,Act.put,List.setIfInBounds_toArray,List.set_cons_succ,List.set_cons_zero],cv0.set (by decide),cv1.set (by decide),cv2.set (by decide),cv3.set (by decide),cv4.set (by decide),cv5.set (by decide),cv6.set (by decide),cv7.set (by decide),cv8.set (by decide),cv9.set (by decide),cv10.set (by decide),Vd.same (by simp),by rw [fl_got hs (by decide)];exact ⟨hJ.out.alloc hJ.out.size _,fun _=>⟨heap_alloc_new W _,hJ.out.size⟩⟩⟩
 case re =>
  rintro ls a' W hall ⟨I,x11,x12,x13,x14,x15,x16,x17,x18,x19,x20,x21,x8,ha,cv0,cv1,cv2,cv3,cv4,cv5,cv6,cv7,cv8,cv9,cv10,cv11,hJ⟩ o hop
  simp only [putAll,Act.put,List.setIfInBounds_toArray,List.set_cons_succ,List.set_cons_zero] at ha
  subst ha
  simp at hop;subst hop
  obtain rfl:=(cv0.get (hall 0 (by decide))).symm
  obtain rfl:=(cv1.get (hall 1 (by decide))).symm
  obtain rfl:=(cv2.get (hall 2 (by decide))).symm
  obtain rfl:=(cv3.get (hall 3 (by decide))).symm
  obtain rfl:=(cv4.get (hall 4 (by decide))).symm
  obtain rfl:=(cv5.get (hall 5 (by decide))).symm
  obtain rfl:=(cv6.get (hall 6 (by decide))).symm
  obtain rfl:=(cv7.get (hall 7 (by decide))).symm
  obtain rfl:=(cv8.get (hall 8 (by decide))).symm
  obtain rfl:=(cv9.get (hall 9 (by decide))).symm
  obtain rfl:=(cv10.get (hall 10 (by decide))).symm
  obtain rfl:=(cv11.get (hall 11 (by decide))).symm
  rw [fl_yes (hall 11 (by decide))] at hJ
  obtain ⟨hbi,hIV⟩:=hJ.ob rfl
  have c0:W.cell? ⟨I,0,none⟩=some (.int .i64 0):=cellH hbi (k:=0) rfl
  have c1:W.cell? ⟨I,1,none⟩=some (.int .i64 0):=cellH hbi (k:=1) rfl
  have c2:W.cell? ⟨I,2,none⟩=some (.int .i64 0):=cellH hbi (k:=2) rfl
  have c3:W.cell? ⟨I,3,none⟩=some (.int .i64 0):=cellH hbi (k:=3) rfl
  have cfz:=frozH hbi
  have cl:=lt_of_cell c0
  go_simp
  have hb0:=heap_setCell_same W I 0 _ _ (.int .i64 op) hbi
  have hb1:=heap_setCell_same (W.setCell ⟨I,0,none⟩ (.int .i64 op)) I 1 _ _ (.int .i64 (lc:Int)) hb0
  have hb2:=heap_setCell_same ((W.setCell ⟨I,0,none⟩ (.int .i64 op)).setCell ⟨I,1,none⟩ (.int .i64 (lc:Int))) I 2 _ _ (.int .i64 (rc:Int)) hb1
  have hb3:=heap_setCell_same (((W.setCell ⟨I,0,none⟩ (.int .i64 op)).setCell ⟨I,1,none⟩ (.int .i64 (lc:Int))).setCell ⟨I,2,none⟩ (.int .i64 (rc:Int))) I 3 _ _ (.int .i64 val) hb2
  have hO:=(((hJ.out.setCell (p:=⟨I,0,none⟩) hIV (.int .i64 op)).setCell (p:=⟨I,1,none⟩) hIV (.int .i64 (lc:Int))).setCell (p:=⟨I,2,none⟩) hIV (.int .i64 (rc:Int))).setCell (p:=⟨I,3,none⟩) hIV (.int .i64 val)
  have HD1:=hide (DoS.mk (w:=w) (O:=w1.heap.size) (I:=I) (m:=m) (xs:=[.slice (some ⟨b,o,none⟩) pn pk, .slice ra rn rk, .slice (some ⟨bm,om,none⟩) mn mk, .slice ba bn bk]) (y:=y) (i:=[.int .i64 op, .int .i64 (lc:Int), .int .i64 (rc:Int), .int .i64 val]) (s:=s) ((hO.block w.heap.size (by omega)).trans ((BV.out.block w.heap.size (by omega)).trans HX2.out)) ((hO.block (w.heap.size+1) (by omega)).trans ((BV.out.block (w.heap.size+1) (by omega)).trans HR2.out)) ((hO.block w1.heap.size (by omega)).trans BO.out) hb3 (S2.out.below hO) (HB.out.trans ((BV.out.trans (hO.mono BV.out.size)).mono HB.out.size)) (by omega) (by omega) hmO.out)
  obtain ⟨V1,hV1⟩:∃ V1,V1=(((W.setCell ⟨I,0,none⟩ (.int .i64 op)).setCell ⟨I,1,none⟩ (.int .i64 (lc:Int))).setCell ⟨I,2,none⟩ (.int .i64 (rc:Int))).setCell ⟨I,3,none⟩ (.int .i64 val):=⟨_,rfl⟩
  rw [← hV1] at HD1
  simp only [← hV1]
  clear hb0 hb1 hb2 hb3 hO hJ hbi c0 c1 c2 c3 cfz cl hV1 a0 a1 a2 a3 al hIV
  go_wp2_with fail
  obtain ⟨gp,hgp, -⟩:=HD1.out.st.ln.o1.open1 (get_of_lt HPC.out).choose_spec
  have HGP:=hide hgp
  obtain ⟨⟨yp1,yp2,yp3⟩,⟨yr1,yr2,yr3⟩,⟨ym1,ym2,ym3⟩,⟨yb1,yb2,yb3⟩⟩:=y
  subst hgp
  have hyp2:(t:Int) < (yp2:Int):=by have:=(show yp2=s.pc.length from HD1.out.st.ln.o1.len);have:=HPC.out;omega
  -- reg do3w
  refine wp_region_inv3 (n:=10) (by kernel_rfl) rfl (by kernel_rfl) (by kernel_rfl) (fun A ls a' W => ∃ (x22 x23 x24 x25 x26 x27 x28 x29 x30 x31:Value),a'=putAll A [(22,x22),(23,x23),(24,x24),(25,x25),(26,x26),(27,x27),(28,x28),(29,x29),(30,x30),(31,x31)]∧Vd ls 0 [] x22 (.pointer (some ⟨w1.heap.size,0,none⟩))∧Vd ls 1 [] x23 (.slice (some ⟨gp,0,none⟩) yp2 yp3)∧Vd ls 2 [] x24 (.int .i64 (t:Int))∧Vd ls 3 [] x25 (.pointer (some ⟨w.heap.size,0,none⟩))∧Vd ls 4 [] x26 (.slice (some ⟨b,o,none⟩) pn pk)∧Vd ls 5 [] x27 (.int .i64 (t:Int))∧Vd ls 6 [] x28 (.pointer (some ⟨b,o+t,none⟩))∧Vd ls 7 [] x29 (.int .i64 (kn:Int))∧Vd ls 8 [] x30 (.int .i64 ((kn:Int)+1))∧Vd ls 9 [] x31 (.pointer (some ⟨gp,t,none⟩))∧Below V1.heap.size V1 W) ?r0 ?rs ?re
  case r0 =>
   exact ⟨undef,undef,undef,undef,undef,undef,undef,undef,undef,undef,by simp only [putAll,Act.put,List.setIfInBounds_toArray,List.set_cons_succ,List.set_cons_zero],Vd.start,Vd.start,Vd.start,Vd.start,Vd.start,Vd.start,Vd.start,Vd.start,Vd.start,Vd.start,by exact (Below.refl _ _).drew⟩
  case rs =>
   rintro ls a' W hs hnl ⟨x22,x23,x24,x25,x26,x27,x28,x29,x30,x31,ha,cv0,cv1,cv2,cv3,cv4,cv5,cv6,cv7,cv8,cv9,hJ⟩ k o hkn mc K hK
   simp only [putAll,Act.put,List.setIfInBounds_toArray,List.set_cons_succ,List.set_cons_zero] at ha
   subst ha
   have hkc:k=0∨k=1∨k=2∨k=3∨k=4∨k=5∨k=6∨k=7∨k=8∨k=9:=by omega
   have hop:=mc.op
   have haf:=mc.after
   rcases hkc with rfl | rfl | rfl | rfl | rfl | rfl | rfl | rfl | rfl | rfl
   ·simp at hop;subst hop;simp [Region.binds] at haf
    go_simp
    exact hK _ _ ⟨_,_,_,_,_,_,_,_,_,_,by simp only [putAll,Act.put,List.setIfInBounds_toArray,List.set_cons_succ,List.set_cons_zero],Vd.same (by simp),cv1.set (by decide),cv2.set (by decide),cv3.set (by decide),cv4.set (by decide),cv5.set (by decide),cv6.set (by decide),cv7.set (by decide),cv8.set (by decide),cv9.set (by decide),by exact hJ⟩
   ·simp at hop;subst hop;simp [Region.binds] at haf
    obtain rfl:=(cv0.get (by simp [haf])).symm
    have d0:W.cell? ⟨w1.heap.size,0,none⟩=some (.slice (some ⟨gp,0,none⟩) yp2 yp3):=cellH ((hJ.block w1.heap.size (Array.getElem?_eq_some_iff.1 HD1.out.bo).1).trans HD1.out.bo) (k:=0) rfl
    have dl:=lt_of_cell d0
    go_simp
    exact hK _ _ ⟨_,_,_,_,_,_,_,_,_,_,by simp only [putAll,Act.put,List.setIfInBounds_toArray,List.set_cons_succ,List.set_cons_zero],cv0.set (by decide),Vd.same (by simp),cv2.set (by decide),cv3.set (by decide),cv4.set (by decide),cv5.set (by decide),cv6.set (by decide),cv7.set (by decide),cv8.set (by decide),cv9.set (by decide),by exact hJ⟩
   ·simp at hop;subst hop;simp [Region.binds] at haf
    go_simp
    exact hK _ _ ⟨_,_,_,_,_,_,_,_,_,_,by simp only [putAll,Act.put,List.setIfInBounds_toArray,List.set_cons_succ,List.set_cons_zero],cv0.set (by decide),cv1.set (by decide),Vd.same (by simp),cv3.set (by decide),cv4.set (by decide),cv5.set (by decide),cv6.set (by decide),cv7.set (by decide),cv8.set (by decide),cv9.set (by decide),by exact hJ⟩
   ·simp at hop;subst hop;simp [Region.binds] at haf
    go_simp
    exact hK _ _ ⟨_,_,_,_,_,_,_,_,_,_,by simp only [putAll,Act.put,List.setIfInBounds_toArray,List.set_cons_succ,List.set_cons_zero],cv0.set (by decide),cv1.set (by decide),cv2.set (by decide),Vd.same (by simp),cv4.set (by decide),cv5.set (by decide),cv6.set (by decide),cv7.set (by decide),cv8.set (by decide),cv9.set (by decide),by exact hJ⟩
   ·simp at hop;subst hop;simp [Region.binds] at haf
    obtain rfl:=(cv3.get (by simp [haf])).symm
    have d0:W.cell? ⟨w.heap.size,0,none⟩=some (.slice (some ⟨b,o,none⟩) pn pk):=cellH ((hJ.block w.heap.size (Array.getElem?_eq_some_iff.1 HD1.out.bx).1).trans HD1.out.bx) (k:=0) rfl
    have dl:=lt_of_cell d0
    go_simp
    exact hK _ _ ⟨_,_,_,_,_,_,_,_,_,_,by simp only [putAll,Act.put,List.setIfInBounds_toArray,List.set_cons_succ,List.set_cons_zero],cv0.set (by decide),cv1.set (by decide),cv2.set (by decide),cv3.set (by decide),Vd.same (by simp),cv5.set (by decide),cv6.set (by decide),cv7.set (by decide),cv8.set (by decide),cv9.set (by decide),by exact hJ⟩
   ·simp at hop;subst hop;simp [Region.binds] at haf
    go_simp
    exact hK _ _ ⟨_,_,_,_,_,_,_,_,_,_,by simp only [putAll,Act.put,List.setIfInBounds_toArray,List.set_cons_succ,List.set_cons_zero],cv0.set (by decide),cv1.set (by decide),cv2.set (by decide),cv3.set (by decide),cv4.set (by decide),Vd.same (by simp),cv6.set (by decide),cv7.set (by decide),cv8.set (by decide),cv9.set (by decide),by exact hJ⟩
   ·simp at hop;subst hop;simp [Region.binds] at haf
    obtain rfl:=(cv4.get (by simp [haf])).symm
    obtain rfl:=(cv5.get (by simp [haf])).symm
    go_simp
    exact hK _ _ ⟨_,_,_,_,_,_,_,_,_,_,by simp only [putAll,Act.put,List.setIfInBounds_toArray,List.set_cons_succ,List.set_cons_zero],cv0.set (by decide),cv1.set (by decide),cv2.set (by decide),cv3.set (by decide),cv4.set (by decide),cv5.set (by decide),Vd.same (by simp),cv7.set (by decide),cv8.set (by decide),cv9.set (by decide),by exact hJ⟩
   ·simp at hop;subst hop;simp [Region.binds] at haf
    obtain rfl:=(cv6.get (by simp [haf])).symm
    have hbw:=HD1.out.bl.trans (hJ.mono HD1.out.bl.size)
    have q2:=(hbw.cell (p:=⟨b,o+t,none⟩) hbl).trans I0.out
    have ql:=lt_of_cell q2
    go_simp
    exact hK _ _ ⟨_,_,_,_,_,_,_,_,_,_,by simp only [putAll,Act.put,List.setIfInBounds_toArray,List.set_cons_succ,List.set_cons_zero],cv0.set (by decide),cv1.set (by decide),cv2.set (by decide),cv3.set (by decide),cv4.set (by decide),cv5.set (by decide),cv6.set (by decide),Vd.same (by simp),cv8.set (by decide),cv9.set (by decide),by exact hJ⟩
   ·simp at hop;subst hop;simp [Region.binds] at haf
    obtain rfl:=(cv7.get (by simp [haf])).symm
    go_simp
    exact hK _ _ ⟨_,_,_,_,_,_,_,_,_,_,by simp only [putAll,Act.put,List.setIfInBounds_toArray,List.set_cons_succ,List.set_cons_zero],cv0.set (by decide),cv1.set (by decide),cv2.set (by decide),cv3.set (by decide),cv4.set (by decide),cv5.set (by decide),cv6.set (by decide),cv7.set (by decide),Vd.same (by simp),cv9.set (by decide),by exact hJ⟩
   ·simp at hop;subst hop;simp [Region.binds] at haf
    obtain rfl:=(cv1.get (by simp [haf])).symm
    obtain rfl:=(cv2.get (by simp [haf])).symm
    go_simp
    exact hK _ _ ⟨_,_,_,_,_,_,_,_,_,_,by simp only [putAll,Act.put,List.setIfInBounds_toArray,List.set_cons_succ,List.set_cons_zero],cv0.set (by decide),cv1.set (by decide),cv2.set (by decide),cv3.set (by decide),cv4.set (by decide),cv5.set (by decide),cv6.set (by decide),cv7.set (by decide),cv8.set (by decide),Vd.same (by simp),by exact hJ⟩
  case re =>
   rintro ls a' W hall ⟨x22,x23,x24,x25,x26,x27,x28,x29,x30,x31,ha,cv0,cv1,cv2,cv3,cv4,cv5,cv6,cv7,cv8,cv9,hJ⟩ o hop
   simp only [putAll,Act.put,List.setIfInBounds_toArray,List.set_cons_succ,List.set_cons_zero] at ha
   subst ha
   simp at hop;subst hop
   obtain rfl:=(cv0.get (hall 0 (by decide))).symm
   obtain rfl:=(cv1.get (hall 1 (by decide))).symm
   obtain rfl:=(cv2.get (hall 2 (by decide))).symm
   obtain rfl:=(cv3.get (hall 3 (by decide))).symm
   obtain rfl:=(cv4.get (hall 4 (by decide))).symm
   obtain rfl:=(cv5.get (hall 5 (by decide))).symm
   obtain rfl:=(cv6.get (hall 6 (by decide))).symm
   obtain rfl:=(cv7.get (hall 7 (by decide))).symm
   obtain rfl:=(cv8.get (hall 8 (by decide))).symm
   obtain rfl:=(cv9.get (hall 9 (by decide))).symm
   obtain ⟨hD,hgl,⟨z,hz0⟩,hfz⟩:=(HD1.out.below hJ).pc (k:=t) rfl HPC.out ((kn:Int)+1)
   go_simp
   have HD2:=hide hD
   obtain ⟨V2,hV2⟩:∃ V2,V2=W.setCell ⟨gp,t,none⟩ (.int .i64 ((kn:Int)+1)):=⟨_,rfl⟩
   rw [← hV2] at HD2
   simp only [← hV2]
   clear hD hgl hz0 hfz hJ hV2
   have i0:V2.cell? ⟨I,0,none⟩=some (.int .i64 op):=cellH HD2.out.bi (k:=0) rfl
   have i1:V2.cell? ⟨I,1,none⟩=some (.int .i64 (lc:Int)):=cellH HD2.out.bi (k:=1) rfl
   have i2:V2.cell? ⟨I,2,none⟩=some (.int .i64 (rc:Int)):=cellH HD2.out.bi (k:=2) rfl
   have i3:V2.cell? ⟨I,3,none⟩=some (.int .i64 val):=cellH HD2.out.bi (k:=3) rfl
   have il:=lt_of_cell i0
   go_wp2_with (first | (go_at_call 133;(with_reducible refine (l1Reads_raw _ _ _ _ _).mono ?_);rw [HRO.out];rintro e w4 ⟨rfl,hb4⟩;have HD3:=hide (HD2.out.below hb4);clear hb4;have HD4:=HD3;have k0:w4.cell? ⟨I,0,none⟩=some (.int .i64 op):=cellH HD4.out.bi (k:=0) rfl;have k1:w4.cell? ⟨I,1,none⟩=some (.int .i64 (lc:Int)):=cellH HD4.out.bi (k:=1) rfl;have k2:w4.cell? ⟨I,2,none⟩=some (.int .i64 (rc:Int)):=cellH HD4.out.bi (k:=2) rfl;have k3:w4.cell? ⟨I,3,none⟩=some (.int .i64 val):=cellH HD4.out.bi (k:=3) rfl;have kl:=lt_of_cell k0) | (go_at_call 134;(with_reducible refine (l1Writes_raw _ _ _ _ _).mono ?_);rw [HWO.out];rintro e w6 ⟨rfl,hb6⟩;have HD5:=hide (HD4.out.below hb6);clear hb6))
   obtain ⟨gm,hgm, -⟩:=HD5.out.st.ln.o3.open1 (get_of_lt HMM.out).choose_spec
   subst hgm
   have hym2:(lc:Int) < (ym2:Int):=by have:=(show ym2=s.mm.length from HD5.out.st.ln.o3.len);have:=HMM.out;omega
   -- reg do7w
   refine wp_region_inv3 (n:=9) (by kernel_rfl) rfl (by kernel_rfl) (by kernel_rfl) (fun A ls a' W => ∃ (x49 x50 x51 x52 x53 x54 x55 x56 x57:Value),a'=putAll A [(49,x49),(50,x50),(51,x51),(52,x52),(53,x53),(54,x54),(55,x55),(56,x56),(57,x57)]∧Vd ls 0 [] x49 (.pointer (some ⟨w1.heap.size,2,none⟩))∧Vd ls 1 [] x50 (.slice (some ⟨gm,0,none⟩) ym2 ym3)∧Vd ls 2 [] x51 (.pointer (some ⟨I,1,none⟩))∧Vd ls 3 [] x52 (.int .i64 (lc:Int))∧Vd ls 4 [] x53 (.agg #[.slice (some ⟨b,o,none⟩) pn pk, .slice ra rn rk, .slice (some ⟨bm,om,none⟩) mn mk, .slice ba bn bk])∧Vd ls 5 [] x54 (.int .i64 (t:Int))∧Vd ls 6 [] x55 (.agg #[.int .i64 op, .int .i64 (lc:Int), .int .i64 (rc:Int), .int .i64 val])∧Vd ls 7 [] x56 (.int .i64 (sqVal s.q t ⟨op,lc,rc,val⟩))∧Vd ls 8 [] x57 (.pointer (some ⟨gm,lc,none⟩))∧Below w6.heap.size w6 W) ?r0 ?rs ?re
   case r0 =>
    exact ⟨undef,undef,undef,undef,undef,undef,undef,undef,undef,by simp only [putAll,Act.put,List.setIfInBounds_toArray,List.set_cons_succ,List.set_cons_zero],Vd.start,Vd.start,Vd.start,Vd.start,Vd.start,Vd.start,Vd.start,Vd.start,Vd.start,by exact (Below.refl _ _).drew⟩
   case rs =>
    rintro ls a' W hs hnl ⟨x49,x50,x51,x52,x53,x54,x55,x56,x57,ha,cv0,cv1,cv2,cv3,cv4,cv5,cv6,cv7,cv8,hJ⟩ k o hkn mc K hK
    simp only [putAll,Act.put,List.setIfInBounds_toArray,List.set_cons_succ,List.set_cons_zero] at ha
    subst ha
    have hkc:k=0∨k=1∨k=2∨k=3∨k=4∨k=5∨k=6∨k=7∨k=8:=by omega
    have hop:=mc.op
    have haf:=mc.after
    rcases hkc with rfl | rfl | rfl | rfl | rfl | rfl | rfl | rfl | rfl
    ·simp at hop;subst hop;simp [Region.binds] at haf
     go_simp
     exact hK _ _ ⟨_,_,_,_,_,_,_,_,_,by simp only [putAll,Act.put,List.setIfInBounds_toArray,List.set_cons_succ,List.set_cons_zero],Vd.same (by simp),cv1.set (by decide),cv2.set (by decide),cv3.set (by decide),cv4.set (by decide),cv5.set (by decide),cv6.set (by decide),cv7.set (by decide),cv8.set (by decide),by exact hJ⟩
    ·simp at hop;subst hop;simp [Region.binds] at haf
     obtain rfl:=(cv0.get (by simp [haf])).symm
     have d2:W.cell? ⟨w1.heap.size,2,none⟩=some (.slice (some ⟨gm,0,none⟩) ym2 ym3):=cellH ((hJ.block w1.heap.size (Array.getElem?_eq_some_iff.1 HD5.out.bo).1).trans HD5.out.bo) (k:=2) rfl
     have dl:=lt_of_cell d2
     go_simp
     exact hK _ _ ⟨_,_,_,_,_,_,_,_,_,by simp only [putAll,Act.put,List.setIfInBounds_toArray,List.set_cons_succ,List.set_cons_zero],cv0.set (by decide),Vd.same (by simp),cv2.set (by decide),cv3.set (by decide),cv4.set (by decide),cv5.set (by decide),cv6.set (by decide),cv7.set (by decide),cv8.set (by decide),by exact hJ⟩
    ·simp at hop;subst hop;simp [Region.binds] at haf
     go_simp
     exact hK _ _ ⟨_,_,_,_,_,_,_,_,_,by simp only [putAll,Act.put,List.setIfInBounds_toArray,List.set_cons_succ,List.set_cons_zero],cv0.set (by decide),cv1.set (by decide),Vd.same (by simp),cv3.set (by decide),cv4.set (by decide),cv5.set (by decide),cv6.set (by decide),cv7.set (by decide),cv8.set (by decide),by exact hJ⟩
    ·simp at hop;subst hop;simp [Region.binds] at haf
     obtain rfl:=(cv2.get (by simp [haf])).symm
     have d1:W.cell? ⟨I,1,none⟩=some (.int .i64 (lc:Int)):=cellH ((hJ.block I (Array.getElem?_eq_some_iff.1 HD5.out.bi).1).trans HD5.out.bi) (k:=1) rfl
     have dl:=lt_of_cell d1
     go_simp
     exact hK _ _ ⟨_,_,_,_,_,_,_,_,_,by simp only [putAll,Act.put,List.setIfInBounds_toArray,List.set_cons_succ,List.set_cons_zero],cv0.set (by decide),cv1.set (by decide),cv2.set (by decide),Vd.same (by simp),cv4.set (by decide),cv5.set (by decide),cv6.set (by decide),cv7.set (by decide),cv8.set (by decide),by exact hJ⟩
    ·simp at hop;subst hop;simp [Region.binds] at haf
     have d0:W.cell? ⟨w.heap.size,0,none⟩=some (.slice (some ⟨b,o,none⟩) pn pk):=cellH ((hJ.block w.heap.size (Array.getElem?_eq_some_iff.1 HD5.out.bx).1).trans HD5.out.bx) (k:=0) rfl
     have dl:=lt_of_cell d0
     have d1:W.cell? ⟨w.heap.size,1,none⟩=some (.slice ra rn rk):=cellH ((hJ.block w.heap.size (Array.getElem?_eq_some_iff.1 HD5.out.bx).1).trans HD5.out.bx) (k:=1) rfl
     have dl:=lt_of_cell d1
     have d2:W.cell? ⟨w.heap.size,2,none⟩=some (.slice (some ⟨bm,om,none⟩) mn mk):=cellH ((hJ.block w.heap.size (Array.getElem?_eq_some_iff.1 HD5.out.bx).1).trans HD5.out.bx) (k:=2) rfl
     have dl:=lt_of_cell d2
     have d3:W.cell? ⟨w.heap.size,3,none⟩=some (.slice ba bn bk):=cellH ((hJ.block w.heap.size (Array.getElem?_eq_some_iff.1 HD5.out.bx).1).trans HD5.out.bx) (k:=3) rfl
     have dl:=lt_of_cell d3
     go_simp
     exact hK _ _ ⟨_,_,_,_,_,_,_,_,_,by simp only [putAll,Act.put,List.setIfInBounds_toArray,List.set_cons_succ,List.set_cons_zero],cv0.set (by decide),cv1.set (by decide),cv2.set (by decide),cv3.set (by decide),Vd.same (by simp),cv5.set (by decide),cv6.set (by decide),cv7.set (by decide),cv8.set (by decide),by exact hJ⟩
    ·simp at hop;subst hop;simp [Region.binds] at haf
     go_simp
     exact hK _ _ ⟨_,_,_,_,_,_,_,_,_,by simp only [putAll,Act.put,List.setIfInBounds_toArray,List.set_cons_succ,List.set_cons_zero],cv0.set (by decide),cv1.set (by decide),cv2.set (by decide),cv3.set (by decide),cv4.set (by decide),Vd.same (by simp),cv6.set (by decide),cv7.set (by decide),cv8.set (by decide),by exact hJ⟩
    ·simp at hop;subst hop;simp [Region.binds] at haf
     have d0:W.cell? ⟨I,0,none⟩=some (.int .i64 op):=cellH ((hJ.block I (Array.getElem?_eq_some_iff.1 HD5.out.bi).1).trans HD5.out.bi) (k:=0) rfl
     have dl:=lt_of_cell d0
     have d1:W.cell? ⟨I,1,none⟩=some (.int .i64 (lc:Int)):=cellH ((hJ.block I (Array.getElem?_eq_some_iff.1 HD5.out.bi).1).trans HD5.out.bi) (k:=1) rfl
     have dl:=lt_of_cell d1
     have d2:W.cell? ⟨I,2,none⟩=some (.int .i64 (rc:Int)):=cellH ((hJ.block I (Array.getElem?_eq_some_iff.1 HD5.out.bi).1).trans HD5.out.bi) (k:=2) rfl
     have dl:=lt_of_cell d2
     have d3:W.cell? ⟨I,3,none⟩=some (.int .i64 val):=cellH ((hJ.block I (Array.getElem?_eq_some_iff.1 HD5.out.bi).1).trans HD5.out.bi) (k:=3) rfl
     have dl:=lt_of_cell d3
     go_simp
     exact hK _ _ ⟨_,_,_,_,_,_,_,_,_,by simp only [putAll,Act.put,List.setIfInBounds_toArray,List.set_cons_succ,List.set_cons_zero],cv0.set (by decide),cv1.set (by decide),cv2.set (by decide),cv3.set (by decide),cv4.set (by decide),cv5.set (by decide),Vd.same (by simp),cv7.set (by decide),cv8.set (by decide),by exact hJ⟩
    ·simp at hop;subst hop;simp [Region.binds] at haf
     obtain rfl:=(cv4.get (by simp [haf])).symm
     obtain rfl:=(cv5.get (by simp [haf])).symm
     obtain rfl:=(cv6.get (by simp [haf])).symm
     go_simp
     go_at_call 217
     (with_reducible refine (HVAL.out W (HX.out.below (HD5.out.bl.trans (hJ.mono HD5.out.bl.size)))).mono ?_);rintro e u ⟨rfl,hbu⟩
     exact hK _ _ ⟨_,_,_,_,_,_,_,_,_,by simp only [putAll,Act.put,List.setIfInBounds_toArray,List.set_cons_succ,List.set_cons_zero],cv0.set (by decide),cv1.set (by decide),cv2.set (by decide),cv3.set (by decide),cv4.set (by decide),cv5.set (by decide),cv6.set (by decide),Vd.same (by simp),cv8.set (by decide),by exact hJ.trans (hbu.mono hJ.size)⟩
    ·simp at hop;subst hop;simp [Region.binds] at haf
     obtain rfl:=(cv1.get (by simp [haf])).symm
     obtain rfl:=(cv3.get (by simp [haf])).symm
     go_simp
     exact hK _ _ ⟨_,_,_,_,_,_,_,_,_,by simp only [putAll,Act.put,List.setIfInBounds_toArray,List.set_cons_succ,List.set_cons_zero],cv0.set (by decide),cv1.set (by decide),cv2.set (by decide),cv3.set (by decide),cv4.set (by decide),cv5.set (by decide),cv6.set (by decide),cv7.set (by decide),Vd.same (by simp),by exact hJ⟩
   case re =>
    rintro ls a' W hall ⟨x49,x50,x51,x52,x53,x54,x55,x56,x57,ha,cv0,cv1,cv2,cv3,cv4,cv5,cv6,cv7,cv8,hJ⟩ o hop
    simp only [putAll,Act.put,List.setIfInBounds_toArray,List.set_cons_succ,List.set_cons_zero] at ha
    subst ha
    simp at hop;subst hop
    obtain rfl:=(cv0.get (hall 0 (by decide))).symm
    obtain rfl:=(cv1.get (hall 1 (by decide))).symm
    obtain rfl:=(cv2.get (hall 2 (by decide))).symm
    obtain rfl:=(cv3.get (hall 3 (by decide))).symm
    obtain rfl:=(cv4.get (hall 4 (by decide))).symm
    obtain rfl:=(cv5.get (hall 5 (by decide))).symm
    obtain rfl:=(cv6.get (hall 6 (by decide))).symm
    obtain rfl:=(cv7.get (hall 7 (by decide))).symm
    obtain rfl:=(cv8.get (hall 8 (by decide))).symm
    obtain ⟨hD,hgl,⟨z,hz0⟩,hfz⟩:=(HD5.out.below hJ).mm (k:=lc) rfl HMM.out (sqVal s.q t ⟨op,lc,rc,val⟩)
    go_simp
    have HD6:=hide hD
    obtain ⟨V6,hV6⟩:∃ V6,V6=W.setCell ⟨gm,lc,none⟩ (.int .i64 (sqVal s.q t ⟨op,lc,rc,val⟩)):=⟨_,rfl⟩
    rw [← hV6] at HD6
    simp only [← hV6]
    clear hD hgl hz0 hfz hJ hV6
    have hD:=HD6.out
    have g0:V6.cell? ⟨w1.heap.size,0,none⟩=some (.slice (some ⟨gp,0,none⟩) yp2 yp3):=cellH hD.bo (k:=0) rfl
    have g1:V6.cell? ⟨w1.heap.size,1,none⟩=some (.slice yr1 yr2 yr3):=cellH hD.bo (k:=1) rfl
    have g2:V6.cell? ⟨w1.heap.size,2,none⟩=some (.slice (some ⟨gm,0,none⟩) ym2 ym3):=cellH hD.bo (k:=2) rfl
    have g3:V6.cell? ⟨w1.heap.size,3,none⟩=some (.slice yb1 yb2 yb3):=cellH hD.bo (k:=3) rfl
    have gl:=lt_of_cell g0
    have r0:V6.cell? ⟨w.heap.size+1,0,none⟩=some (.slice none 0 0):=cellH hD.br (k:=0) rfl
    have r1:V6.cell? ⟨w.heap.size+1,1,none⟩=some (.slice none 0 0):=cellH hD.br (k:=1) rfl
    have r2:V6.cell? ⟨w.heap.size+1,2,none⟩=some (.slice none 0 0):=cellH hD.br (k:=2) rfl
    have r3:V6.cell? ⟨w.heap.size+1,3,none⟩=some (.slice none 0 0):=cellH hD.br (k:=3) rfl
    have rfz:=frozH hD.br
    have rl:=lt_of_cell r0
    clear hD
    go_wp2_with fail
    have hS:=HD6.out.st.mono (show w.heap.size≤w.heap.size+2 by omega)
    have t0:TyB 195 V6 (w.heap.size+1):=⟨_,HD6.out.br⟩
    rw [E.out]
    refine bodyPost_ret (v:=.agg #[.slice (some ⟨gp,0,none⟩) yp2 yp3, .slice yr1 yr2 yr3, .slice (some ⟨gm,0,none⟩) ym2 ym3, .slice yb1 yb2 yb3]) (by simp [results,Tryz.results198,go_sem, *]) rfl ⟨⟨⟨some ⟨gp,0,none⟩,yp2,yp3⟩,⟨yr1,yr2,yr3⟩,⟨some ⟨gm,0,none⟩,ym2,ym3⟩,⟨yb1,yb2,yb3⟩⟩,m,rfl, ?_, ?_⟩
    ·exact (((hS.setT (by decide) (by decide) t0).setT (by decide) (by decide) (t0.set _ _ _)).setT (by decide) (by decide) ((t0.set _ _ _).set _ _ _)).setT (by decide) (by decide) (((t0.set _ _ _).set _ _ _).set _ _ _)
    ·exact (((HD6.out.bl.setCell (p:=⟨w.heap.size+1,0,none⟩) (show w.heap.size≤w.heap.size+1 by omega) _).setCell (p:=⟨w.heap.size+1,1,none⟩) (show w.heap.size≤w.heap.size+1 by omega) _).setCell (p:=⟨w.heap.size+1,2,none⟩) (show w.heap.size≤w.heap.size+1 by omega) _).setCell (p:=⟨w.heap.size+1,3,none⟩) (show w.heap.size≤w.heap.size+1 by omega) _
   -- end do7w
  -- end do3w
 -- end do2w
theorem l3Do_b (vp:Value) (p:List (List Ins)) (x:SV) (s:St) (t kn lc rc:Nat) (op val:Int) (r:List Ins) (w:World) (hp:RepP w vp p) (hx:RepSt w x s) (hpc:s.pc[t]? = some (kn:Int)) (hrow:p[t]? = some r) (hins:r[kn]? = some ⟨op,lc,rc,val⟩)
 (hr:isRop op=true) (hw:isWop op=true) (ht:t≤2) (hlc:lc≤2) (hrc:rc≤2) (h1:s.pc.length≤1000) (h2:s.rg.length=s.pc.length * 3) (h3:s.mm.length=3) (h4:s.bf.length≤100) (h5:∀ o∈s.bf,o.length≤1000) (hrl:r.length≤1000) :
 Calls Tryz.prog 198 #[vp, .agg #[.slice x.p.a x.p.n x.p.cap, .slice x.r.a x.r.n x.r.cap, .slice x.m.a x.m.n x.m.cap, .slice x.b.a x.b.n x.b.cap], .int .i64 (t:Int)] w
  (RetSt w ⟨(sqDo s.q t kn ⟨op,lc,rc,val⟩).pc,(sqDo s.q t kn ⟨op,lc,rc,val⟩).rg,(sqDo s.q t kn ⟨op,lc,rc,val⟩).mm,s.bf⟩):=by
 obtain ⟨⟨pa,pn,pk⟩,⟨ra,rn,rk⟩,⟨ma,mn,mk⟩,⟨ba,bn,bk⟩⟩:=x
 obtain ⟨va,vc,rfl,hc1,hc2,hc3,hp⟩:=hp.open
 obtain ⟨b2,o2,qa,qc,rfl,hbl2,q0,q1⟩:=hp.row hrow
 obtain ⟨b3,o3,rfl,hbl3,r0,r1,r2,r3⟩:=q1.ins hins
 have hpt:=(List.getElem?_eq_some_iff.1 hrow).1
 have hkr:=(List.getElem?_eq_some_iff.1 hins).1
 obtain ⟨_,_,hv1, -, -, -, -⟩:=hx.pc.open
 obtain ⟨_,_,hv3, -, -, -, -⟩:=hx.mm.open
 simp only [Slc.v,Value.slice.injEq] at hv1 hv3
 obtain ⟨rfl,hn1,rfl⟩:=hv1
 obtain ⟨rfl,hn3,rfl⟩:=hv3
 obtain ⟨b,o,rfl,hbl,i0⟩:=(show Rep IntE w (.slice pa pn pk) s.pc from hx.pc).int hpc
 obtain ⟨mv,hmv⟩:=get_of_lt (xs:=s.mm) (k:=lc) (by omega)
 obtain ⟨bm,om,rfl,hblm,m0⟩:=(show Rep IntE w (.slice ma mn mk) s.mm from hx.mm).int hmv
 have htl:=(List.getElem?_eq_some_iff.1 hpc).1
 obtain ⟨qr,hqr⟩:∃ qr:Nat,qr=t * 3+rc:=⟨_,rfl⟩
 have HX:=hide hx
 have HREG:=hide (fun w'=>(l3Reg_M t rc w' ht hrc).mono fun e w'' ⟨h1,h2⟩=>(⟨by rw [hqr];exact h1,h2 ▸ Below.refl _ _⟩:e=Ending.returned (.int .i64 (qr:Int))∧Below w'.heap.size w' w''))
 have HRO:=hide hr;have HWO:=hide hw
 have MV:Hid (s.mm.getD lc 0=mv):=hide (by rw [List.getD_eq_getElem?_getD,hmv];rfl)
 have E:Hid (sqDo s.q t kn ⟨op,lc,rc,val⟩=⟨s.pc.set t ((kn:Int)+1),s.rg.set qr mv,s.mm.set lc (sqVal s.q t ⟨op,lc,rc,val⟩)⟩):=hide (by unfold sqDo;simp [hr,hw,hmv,hqr])
 have hpn:(t:Int) < (pn:Int):=by omega
 have hpn2:(t:Int) < (p.length:Int):=by omega
 have hkn2:(kn:Int) < (r.length:Int):=by omega
 have hmn:(lc:Int) < (mn:Int):=by omega
 have hrg:qr < s.rg.length:=by omega
 have H1:=hide h1;have H2:=hide h2;have H3:=hide h3;have HPC:=hide htl;have HRG:=hide hrg;have HMM:=hide (show lc < s.mm.length by omega)
 have HRL:=hide hrl
 have HVAL:=hide (fun w' (h:RepSt w' ⟨⟨some ⟨b,o,none⟩,pn,pk⟩,⟨ra,rn,rk⟩,⟨some ⟨bm,om,none⟩,mn,mk⟩,⟨ba,bn,bk⟩⟩ s)=>l3Value_any _ s t rc op lc val w' h ht hrc (by omega))
 have hknb:(kn:Int) < 1000:=by omega
 have hkw:IntKind.i64.wrap ((kn:Int)+1)=(kn:Int)+1:=wrapM (by omega) (by omega)
 have HCP:=hide (fun w' (h:RepSt w' ⟨⟨some ⟨b,o,none⟩,pn,pk⟩,⟨ra,rn,rk⟩,⟨some ⟨bm,om,none⟩,mn,mk⟩,⟨ba,bn,bk⟩⟩ s)=>l3Copy_any _ s w' h (by omega) (by omega) (by omega) (by omega) (fun o ho=>by have:=h5 o ho;omega))
 obtain ⟨A0,hA0⟩:∃ A0,A0=(w.alloc (.cells #[.slice (some ⟨b,o,none⟩) pn pk, .slice ra rn rk, .slice (some ⟨bm,om,none⟩) mn mk, .slice ba bn bk] 195)).alloc (.cells #[.slice none 0 0, .slice none 0 0, .slice none 0 0, .slice none 0 0] 195):=⟨_,rfl⟩
 have hz:A0.heap.size=w.heap.size+2:=by rw [hA0];simp
 have HX2:Hid (A0.heap[w.heap.size]? = some (.cells #[.slice (some ⟨b,o,none⟩) pn pk, .slice ra rn rk, .slice (some ⟨bm,om,none⟩) mn mk, .slice ba bn bk] 195 (0,0))):=hide (by
  rw [hA0,heap_alloc_old _ _ (by simp)];exact heap_alloc_new w _)
 have HR2:Hid (A0.heap[w.heap.size+1]? = some (.cells #[.slice none 0 0, .slice none 0 0, .slice none 0 0, .slice none 0 0] 195 (0,0))):=hide (by
  have h:=heap_alloc_new (w.alloc (.cells #[.slice (some ⟨b,o,none⟩) pn pk, .slice ra rn rk, .slice (some ⟨bm,om,none⟩) mn mk, .slice ba bn bk] 195)) (.cells #[.slice none 0 0, .slice none 0 0, .slice none 0 0, .slice none 0 0] 195)
  rw [hA0];simpa using h)
 have HB:Hid (Below w.heap.size w A0):=hide (by rw [hA0];exact (belowAlloc w _).alloc (by simp) _)
 have a0:A0.cell? ⟨w.heap.size,0,none⟩=some (.slice (some ⟨b,o,none⟩) pn pk):=cellH HX2.out (k:=0) rfl
 have a1:A0.cell? ⟨w.heap.size,1,none⟩=some (.slice ra rn rk):=cellH HX2.out (k:=1) rfl
 have a2:A0.cell? ⟨w.heap.size,2,none⟩=some (.slice (some ⟨bm,om,none⟩) mn mk):=cellH HX2.out (k:=2) rfl
 have a3:A0.cell? ⟨w.heap.size,3,none⟩=some (.slice ba bn bk):=cellH HX2.out (k:=3) rfl
 have al:=lt_of_cell a0
 have HA0:=hide hA0
 have HT:=hide ht;have HLC:=hide hlc;have HRC:=hide hrc
 have Q0:=hide q0;have R0:=hide r0;have R1:=hide r1;have R2:=hide r2;have R3:=hide r3;have I0:=hide i0;have M0:=hide m0
 clear hqr hn1 hn3 hx hp q1 hr hw hA0 hpc hrow hins hmv h1 h2 h3 h4 h5 hrl htl hrg q0 r0 r1 r2 r3 i0 m0
 go_enter Tryz.func198,Tryz.ntmps198
 go_wp2_with fail
 rw [← HA0.out]
 go_wp2_with (go_at_call 216;(with_reducible refine (HCP.out _ (HX.out.below HB.out)).mono ?_);rintro e w1 ⟨y,m,rfl,hs1,hb1⟩;have S1:=hide hs1;have B1:=hide hb1;have hsz1:=hb1.size;clear hs1 hb1)
 obtain ⟨V,hV⟩:∃ V,V=w1.alloc (.cells #[.slice y.p.a y.p.n y.p.cap, .slice y.r.a y.r.n y.r.cap, .slice y.m.a y.m.n y.m.cap, .slice y.b.a y.b.n y.b.cap] 195):=⟨_,rfl⟩
 have BV:Hid (Below A0.heap.size A0 V):=hide (by rw [hV];exact B1.out.alloc B1.out.size _)
 have BO:Hid (V.heap[w1.heap.size]? = some (.cells #[.slice y.p.a y.p.n y.p.cap, .slice y.r.a y.r.n y.r.cap, .slice y.m.a y.m.n y.m.cap, .slice y.b.a y.b.n y.b.cap] 195 (0,0))):=hide (by rw [hV];exact heap_alloc_new w1 _)
 have S2:Hid (OwnSt V (w.heap.size+2) m y s):=hide (by have h:=S1.out.below (belowAlloc w1 (.cells #[.slice y.p.a y.p.n y.p.cap, .slice y.r.a y.r.n y.r.cap, .slice y.m.a y.m.n y.m.cap, .slice y.b.a y.b.n y.b.cap] 195));rw [hz] at h;rw [hV];exact h)
 have hzV:V.heap.size=w1.heap.size+1:=by rw [hV];simp
 have hmO:Hid (m≤w1.heap.size):=hide S1.out.lh
 have HV:=hide hV
 rw [← hV]
 clear hV S1 B1
 -- reg do2b
 refine wp_region_inv3 (n:=12) (by kernel_rfl) rfl (by kernel_rfl) (by kernel_rfl) (fun A ls a' W => ∃ (I:Nat) (x11 x12 x13 x14 x15 x16 x17 x18 x19 x20 x21 x8:Value),a'=putAll A [(11,x11),(12,x12),(13,x13),(14,x14),(15,x15),(16,x16),(17,x17),(18,x18),(19,x19),(20,x20),(21,x21),(8,x8)]∧Vd ls 0 [] x11 (.slice (some ⟨b2,o2,none⟩) p.length vc)∧Vd ls 1 [] x12 (.int .i64 (t:Int))∧Vd ls 2 [] x13 (.pointer (some ⟨b2,o2+t,none⟩))∧Vd ls 3 [] x14 (.slice (some ⟨b3,o3,none⟩) r.length qc)∧Vd ls 4 [] x15 (.pointer (some ⟨w.heap.size,0,none⟩))∧Vd ls 5 [] x16 (.slice (some ⟨b,o,none⟩) pn pk)∧Vd ls 6 [] x17 (.int .i64 (t:Int))∧Vd ls 7 [] x18 (.pointer (some ⟨b,o+t,none⟩))∧Vd ls 8 [] x19 (.int .i64 (kn:Int))∧Vd ls 9 [] x20 (.pointer (some ⟨b3,o3+kn * 4,none⟩))∧Vd ls 10 [] x21 (.agg #[.int .i64 op, .int .i64 (lc:Int), .int .i64 (rc:Int), .int .i64 val])∧Vd ls 11 [] x8 (.pointer (some ⟨I,0,none⟩))∧JDo V (fl ls 11) I W) ?r0 ?rs ?re
 case r0 =>
  exact ⟨0,undef,undef,undef,undef,undef,undef,undef,undef,undef,undef,undef,undef,by simp only [putAll,Act.put,List.setIfInBounds_toArray,List.set_cons_succ,List.set_cons_zero],Vd.start,Vd.start,Vd.start,Vd.start,Vd.start,Vd.start,Vd.start,Vd.start,Vd.start,Vd.start,Vd.start,Vd.start,by simp only [fl_start];exact ⟨(Below.refl _ _).drew,fun h=>(nomatch h)⟩⟩
 case rs =>
  rintro ls a' W hs hnl ⟨I,x11,x12,x13,x14,x15,x16,x17,x18,x19,x20,x21,x8,ha,cv0,cv1,cv2,cv3,cv4,cv5,cv6,cv7,cv8,cv9,cv10,cv11,hJ⟩ k o hkn mc K hK
  simp only [putAll,Act.put,List.setIfInBounds_toArray,List.set_cons_succ,List.set_cons_zero] at ha
  subst ha
  have hkc:k=0∨k=1∨k=2∨k=3∨k=4∨k=5∨k=6∨k=7∨k=8∨k=9∨k=10∨k=11:=by omega
  have hop:=mc.op
  have haf:=mc.after
  rcases hkc with rfl | rfl | rfl | rfl | rfl | rfl | rfl | rfl | rfl | rfl | rfl | rfl
  ·simp at hop;subst hop;simp [Region.binds] at haf
   go_simp
   exact hK _ _ ⟨I,_,_,_,_,_,_,_,_,_,_,_,_,by simp only [putAll,Act.put,List.setIfInBounds_toArray,List.set_cons_succ,List.set_cons_zero],Vd.same (by simp),cv1.set (by decide),cv2.set (by decide),cv3.set (by decide),cv4.set (by decide),cv5.set (by decide),cv6.set (by decide),cv7.set (by decide),cv8.set (by decide),cv9.set (by decide),cv10.set (by decide),cv11.set (by decide),by rw [fl_set (show 0≠11 by decide)];exact hJ⟩
  ·simp at hop;subst hop;simp [Region.binds] at haf
   go_simp
   exact hK _ _ ⟨I,_,_,_,_,_,_,_,_,_,_,_,_,by simp only [putAll,Act.put,List.setIfInBounds_toArray,List.set_cons_succ,List.set_cons_zero],cv0.set (by decide),Vd.same (by simp),cv2.set (by decide),cv3.set (by decide),cv4.set (by decide),cv5.set (by decide),cv6.set (by decide),cv7.set (by decide),cv8.set (by decide),cv9.set (by decide),cv10.set (by decide),cv11.set (by decide),by rw [fl_set (show 1≠11 by decide)];exact hJ⟩
  ·simp at hop;subst hop;simp [Region.binds] at haf
   obtain rfl:=(cv0.get (by simp [haf])).symm
   obtain rfl:=(cv1.get (by simp [haf])).symm
   go_simp
   exact hK _ _ ⟨I,_,_,_,_,_,_,_,_,_,_,_,_,by simp only [putAll,Act.put,List.setIfInBounds_toArray,List.set_cons_succ,List.set_cons_zero],cv0.set (by decide),cv1.set (by decide),Vd.same (by simp),cv3.set (by decide),cv4.set (by decide),cv5.set (by decide),cv6.set (by decide),cv7.set (by decide),cv8.set (by decide),cv9.set (by decide),cv10.set (by decide),cv11.set (by decide),by rw [fl_set (show 2≠11 by decide)];exact hJ⟩
  ·simp at hop;subst hop;simp [Region.binds] at haf
   obtain rfl:=(cv2.get (by simp [haf])).symm
   have hbw:=HB.out.trans ((BV.out.trans (hJ.out.mono BV.out.size)).mono HB.out.size)
   have q2:=(hbw.cell (p:=⟨b2,o2+t,none⟩) hbl2).trans Q0.out
   have ql:=lt_of_cell q2
   go_simp
   exact hK _ _ ⟨I,_,_,_,_,_,_,_,_,_,_,_,_,by simp only [putAll,Act.put,List.setIfInBounds_toArray,List.set_cons_succ,List.set_cons_zero],cv0.set (by decide),cv1.set (by decide),cv2.set (by decide),Vd.same (by simp),cv4.set (by decide),cv5.set (by decide),cv6.set (by decide),cv7.set (by decide),cv8.set (by decide),cv9.set (by decide),cv10.set (by decide),cv11.set (by decide),by rw [fl_set (show 3≠11 by decide)];exact hJ⟩
  ·simp at hop;subst hop;simp [Region.binds] at haf
   go_simp
   exact hK _ _ ⟨I,_,_,_,_,_,_,_,_,_,_,_,_,by simp only [putAll,Act.put,List.setIfInBounds_toArray,List.set_cons_succ,List.set_cons_zero],cv0.set (by decide),cv1.set (by decide),cv2.set (by decide),cv3.set (by decide),Vd.same (by simp),cv5.set (by decide),cv6.set (by decide),cv7.set (by decide),cv8.set (by decide),cv9.set (by decide),cv10.set (by decide),cv11.set (by decide),by rw [fl_set (show 4≠11 by decide)];exact hJ⟩
  ·simp at hop;subst hop;simp [Region.binds] at haf
   obtain rfl:=(cv4.get (by simp [haf])).symm
   have d0:W.cell? ⟨w.heap.size,0,none⟩=some (.slice (some ⟨b,o,none⟩) pn pk):=cellH ((hJ.out.block w.heap.size (by omega)).trans ((BV.out.block w.heap.size (by omega)).trans HX2.out)) (k:=0) rfl
   have dl:=lt_of_cell d0
   go_simp
   exact hK _ _ ⟨I,_,_,_,_,_,_,_,_,_,_,_,_,by simp only [putAll,Act.put,List.setIfInBounds_toArray,List.set_cons_succ,List.set_cons_zero],cv0.set (by decide),cv1.set (by decide),cv2.set (by decide),cv3.set (by decide),cv4.set (by decide),Vd.same (by simp),cv6.set (by decide),cv7.set (by decide),cv8.set (by decide),cv9.set (by decide),cv10.set (by decide),cv11.set (by decide),by rw [fl_set (show 5≠11 by decide)];exact hJ⟩
  ·simp at hop;subst hop;simp [Region.binds] at haf
   go_simp
   exact hK _ _ ⟨I,_,_,_,_,_,_,_,_,_,_,_,_,by simp only [putAll,Act.put,List.setIfInBounds_toArray,List.set_cons_succ,List.set_cons_zero],cv0.set (by decide),cv1.set (by decide),cv2.set (by decide),cv3.set (by decide),cv4.set (by decide),cv5.set (by decide),Vd.same (by simp),cv7.set (by decide),cv8.set (by decide),cv9.set (by decide),cv10.set (by decide),cv11.set (by decide),by rw [fl_set (show 6≠11 by decide)];exact hJ⟩
  ·simp at hop;subst hop;simp [Region.binds] at haf
   obtain rfl:=(cv5.get (by simp [haf])).symm
   obtain rfl:=(cv6.get (by simp [haf])).symm
   go_simp
   exact hK _ _ ⟨I,_,_,_,_,_,_,_,_,_,_,_,_,by simp only [putAll,Act.put,List.setIfInBounds_toArray,List.set_cons_succ,List.set_cons_zero],cv0.set (by decide),cv1.set (by decide),cv2.set (by decide),cv3.set (by decide),cv4.set (by decide),cv5.set (by decide),cv6.set (by decide),Vd.same (by simp),cv8.set (by decide),cv9.set (by decide),cv10.set (by decide),cv11.set (by decide),by rw [fl_set (show 7≠11 by decide)];exact hJ⟩
  ·simp at hop;subst hop;simp [Region.binds] at haf
   obtain rfl:=(cv7.get (by simp [haf])).symm
   have hbw:=HB.out.trans ((BV.out.trans (hJ.out.mono BV.out.size)).mono HB.out.size)
   have q2:=(hbw.cell (p:=⟨b,o+t,none⟩) hbl).trans I0.out
   have ql:=lt_of_cell q2
   go_simp
   exact hK _ _ ⟨I,_,_,_,_,_,_,_,_,_,_,_,_,by simp only [putAll,Act.put,List.setIfInBounds_toArray,List.set_cons_succ,List.set_cons_zero],cv0.set (by decide),cv1.set (by decide),cv2.set (by decide),cv3.set (by decide),cv4.set (by decide),cv5.set (by decide),cv6.set (by decide),cv7.set (by decide),Vd.same (by simp),cv9.set (by decide),cv10.set (by decide),cv11.set (by decide),by rw [fl_set (show 8≠11 by decide)];exact hJ⟩
  ·simp at hop;subst hop;simp [Region.binds] at haf
   obtain rfl:=(cv3.get (by simp [haf])).symm
   obtain rfl:=(cv8.get (by simp [haf])).symm
   go_simp
   exact hK _ _ ⟨I,_,_,_,_,_,_,_,_,_,_,_,_,by simp only [putAll,Act.put,List.setIfInBounds_toArray,List.set_cons_succ,List.set_cons_zero],cv0.set (by decide),cv1.set (by decide),cv2.set (by decide),cv3.set (by decide),cv4.set (by decide),cv5.set (by decide),cv6.set (by decide),cv7.set (by decide),cv8.set (by decide),Vd.same (by simp),cv10.set (by decide),cv11.set (by decide),by rw [fl_set (show 9≠11 by decide)];exact hJ⟩
  ·simp at hop;subst hop;simp [Region.binds] at haf
   obtain rfl:=(cv9.get (by simp [haf])).symm
   have hbw:=HB.out.trans ((BV.out.trans (hJ.out.mono BV.out.size)).mono HB.out.size)
   have e0:=(hbw.cell (p:=⟨b3,o3+kn * 4,none⟩) hbl3).trans R0.out
   have e1:=(hbw.cell (p:=⟨b3,o3+kn * 4+1,none⟩) hbl3).trans R1.out
   have e2:=(hbw.cell (p:=⟨b3,o3+kn * 4+2,none⟩) hbl3).trans R2.out
   have e3:=(hbw.cell (p:=⟨b3,o3+kn * 4+3,none⟩) hbl3).trans R3.out
   have ql:=lt_of_cell e0
   go_simp
   exact hK _ _ ⟨I,_,_,_,_,_,_,_,_,_,_,_,_,by simp only [putAll,Act.put,List.setIfInBounds_toArray,List.set_cons_succ,List.set_cons_zero],cv0.set (by decide),cv1.set (by decide),cv2.set (by decide),cv3.set (by decide),cv4.set (by decide),cv5.set (by decide),cv6.set (by decide),cv7.set (by decide),cv8.set (by decide),cv9.set (by decide),Vd.same (by simp),cv11.set (by decide),by rw [fl_set (show 10≠11 by decide)];exact hJ⟩
  ·simp at hop;subst hop;simp [Region.binds] at haf
   have f11:=fl_no mc.new;rw [f11] at hJ
   go_simp
   exact hK _ _ ⟨W.heap.size,_,_,_,_,_,_,_,_,_,_,_,_,by simp only [putAll,Act.put,List.setIfInBounds_toArray,List.set_cons_succ,List.set_cons_zero],cv0.set (by decide),cv1.set (by decide),cv2.set (by decide),cv3.set (by decide),cv4.set (by decide),cv5.set (by decide),cv6.set (by decide),cv7.set (by decide),cv8.set (by decide),cv9.set (by decide),cv10.set (by decide),Vd.same (by simp),by rw [fl_got hs (by decide)];exact ⟨hJ.out.alloc hJ.out.size _,fun _=>⟨heap_alloc_new W _,hJ.out.size⟩⟩⟩
 case re =>
  rintro ls a' W hall ⟨I,x11,x12,x13,x14,x15,x16,x17,x18,x19,x20,x21,x8,ha,cv0,cv1,cv2,cv3,cv4,cv5,cv6,cv7,cv8,cv9,cv10,cv11,hJ⟩ o hop
  simp only [putAll,Act.put,List.setIfInBounds_toArray,List.set_cons_succ,List.set_cons_zero] at ha
  subst ha
  simp at hop;subst hop
  obtain rfl:=(cv0.get (hall 0 (by decide))).symm
  obtain rfl:=(cv1.get (hall 1 (by decide))).symm
  obtain rfl:=(cv2.get (hall 2 (by decide))).symm
  obtain rfl:=(cv3.get (hall 3 (by decide))).symm
  obtain rfl:=(cv4.get (hall 4 (by decide))).symm
  obtain rfl:=(cv5.get (hall 5 (by decide))).symm
  obtain rfl:=(cv6.get (hall 6 (by decide))).symm
  obtain rfl:=(cv7.get (hall 7 (by decide))).symm
  obtain rfl:=(cv8.get (hall 8 (by decide))).symm
  obtain rfl:=(cv9.get (hall 9 (by decide))).symm
  obtain rfl:=(cv10.get (hall 10 (by decide))).symm
  obtain rfl:=(cv11.get (hall 11 (by decide))).symm
  rw [fl_yes (hall 11 (by decide))] at hJ
  obtain ⟨hbi,hIV⟩:=hJ.ob rfl
  have c0:W.cell? ⟨I,0,none⟩=some (.int .i64 0):=cellH hbi (k:=0) rfl
  have c1:W.cell? ⟨I,1,none⟩=some (.int .i64 0):=cellH hbi (k:=1) rfl
  have c2:W.cell? ⟨I,2,none⟩=some (.int .i64 0):=cellH hbi (k:=2) rfl
  have c3:W.cell? ⟨I,3,none⟩=some (.int .i64 0):=cellH hbi (k:=3) rfl
  have cfz:=frozH hbi
  have cl:=lt_of_cell c0
  go_simp
  have hb0:=heap_setCell_same W I 0 _ _ (.int .i64 op) hbi
  have hb1:=heap_setCell_same (W.setCell ⟨I,0,none⟩ (.int .i64 op)) I 1 _ _ (.int .i64 (lc:Int)) hb0
  have hb2:=heap_setCell_same ((W.setCell ⟨I,0,none⟩ (.int .i64 op)).setCell ⟨I,1,none⟩ (.int .i64 (lc:Int))) I 2 _ _ (.int .i64 (rc:Int)) hb1
  have hb3:=heap_setCell_same (((W.setCell ⟨I,0,none⟩ (.int .i64 op)).setCell ⟨I,1,none⟩ (.int .i64 (lc:Int))).setCell ⟨I,2,none⟩ (.int .i64 (rc:Int))) I 3 _ _ (.int .i64 val) hb2
  have hO:=(((hJ.out.setCell (p:=⟨I,0,none⟩) hIV (.int .i64 op)).setCell (p:=⟨I,1,none⟩) hIV (.int .i64 (lc:Int))).setCell (p:=⟨I,2,none⟩) hIV (.int .i64 (rc:Int))).setCell (p:=⟨I,3,none⟩) hIV (.int .i64 val)
  have HD1:=hide (DoS.mk (w:=w) (O:=w1.heap.size) (I:=I) (m:=m) (xs:=[.slice (some ⟨b,o,none⟩) pn pk, .slice ra rn rk, .slice (some ⟨bm,om,none⟩) mn mk, .slice ba bn bk]) (y:=y) (i:=[.int .i64 op, .int .i64 (lc:Int), .int .i64 (rc:Int), .int .i64 val]) (s:=s) ((hO.block w.heap.size (by omega)).trans ((BV.out.block w.heap.size (by omega)).trans HX2.out)) ((hO.block (w.heap.size+1) (by omega)).trans ((BV.out.block (w.heap.size+1) (by omega)).trans HR2.out)) ((hO.block w1.heap.size (by omega)).trans BO.out) hb3 (S2.out.below hO) (HB.out.trans ((BV.out.trans (hO.mono BV.out.size)).mono HB.out.size)) (by omega) (by omega) hmO.out)
  obtain ⟨V1,hV1⟩:∃ V1,V1=(((W.setCell ⟨I,0,none⟩ (.int .i64 op)).setCell ⟨I,1,none⟩ (.int .i64 (lc:Int))).setCell ⟨I,2,none⟩ (.int .i64 (rc:Int))).setCell ⟨I,3,none⟩ (.int .i64 val):=⟨_,rfl⟩
  rw [← hV1] at HD1
  simp only [← hV1]
  clear hb0 hb1 hb2 hb3 hO hJ hbi c0 c1 c2 c3 cfz cl hV1 a0 a1 a2 a3 al hIV
  go_wp2_with fail
  obtain ⟨gp,hgp, -⟩:=HD1.out.st.ln.o1.open1 (get_of_lt HPC.out).choose_spec
  have HGP:=hide hgp
  obtain ⟨⟨yp1,yp2,yp3⟩,⟨yr1,yr2,yr3⟩,⟨ym1,ym2,ym3⟩,⟨yb1,yb2,yb3⟩⟩:=y
  subst hgp
  have hyp2:(t:Int) < (yp2:Int):=by have:=(show yp2=s.pc.length from HD1.out.st.ln.o1.len);have:=HPC.out;omega
  -- reg do3b
  refine wp_region_inv3 (n:=10) (by kernel_rfl) rfl (by kernel_rfl) (by kernel_rfl) (fun A ls a' W => ∃ (x22 x23 x24 x25 x26 x27 x28 x29 x30 x31:Value),a'=putAll A [(22,x22),(23,x23),(24,x24),(25,x25),(26,x26),(27,x27),(28,x28),(29,x29),(30,x30),(31,x31)]∧Vd ls 0 [] x22 (.pointer (some ⟨w1.heap.size,0,none⟩))∧Vd ls 1 [] x23 (.slice (some ⟨gp,0,none⟩) yp2 yp3)∧Vd ls 2 [] x24 (.int .i64 (t:Int))∧Vd ls 3 [] x25 (.pointer (some ⟨w.heap.size,0,none⟩))∧Vd ls 4 [] x26 (.slice (some ⟨b,o,none⟩) pn pk)∧Vd ls 5 [] x27 (.int .i64 (t:Int))∧Vd ls 6 [] x28 (.pointer (some ⟨b,o+t,none⟩))∧Vd ls 7 [] x29 (.int .i64 (kn:Int))∧Vd ls 8 [] x30 (.int .i64 ((kn:Int)+1))∧Vd ls 9 [] x31 (.pointer (some ⟨gp,t,none⟩))∧Below V1.heap.size V1 W) ?r0 ?rs ?re
  case r0 =>
   exact ⟨undef,undef,undef,undef,undef,undef,undef,undef,undef,undef,by simp only [putAll,Act.put,List.setIfInBounds_toArray,List.set_cons_succ,List.set_cons_zero],Vd.start,Vd.start,Vd.start,Vd.start,Vd.start,Vd.start,Vd.start,Vd.start,Vd.start,Vd.start,by exact (Below.refl _ _).drew⟩
  case rs =>
   rintro ls a' W hs hnl ⟨x22,x23,x24,x25,x26,x27,x28,x29,x30,x31,ha,cv0,cv1,cv2,cv3,cv4,cv5,cv6,cv7,cv8,cv9,hJ⟩ k o hkn mc K hK
   simp only [putAll,Act.put,List.setIfInBounds_toArray,List.set_cons_succ,List.set_cons_zero] at ha
   subst ha
   have hkc:k=0∨k=1∨k=2∨k=3∨k=4∨k=5∨k=6∨k=7∨k=8∨k=9:=by omega
   have hop:=mc.op
   have haf:=mc.after
   rcases hkc with rfl | rfl | rfl | rfl | rfl | rfl | rfl | rfl | rfl | rfl
   ·simp at hop;subst hop;simp [Region.binds] at haf
    go_simp
    exact hK _ _ ⟨_,_,_,_,_,_,_,_,_,_,by simp only [putAll,Act.put,List.setIfInBounds_toArray,List.set_cons_succ,List.set_cons_zero],Vd.same (by simp),cv1.set (by decide),cv2.set (by decide),cv3.set (by decide),cv4.set (by decide),cv5.set (by decide),cv6.set (by decide),cv7.set (by decide),cv8.set (by decide),cv9.set (by decide),by exact hJ⟩
   ·simp at hop;subst hop;simp [Region.binds] at haf
    obtain rfl:=(cv0.get (by simp [haf])).symm
    have d0:W.cell? ⟨w1.heap.size,0,none⟩=some (.slice (some ⟨gp,0,none⟩) yp2 yp3):=cellH ((hJ.block w1.heap.size (Array.getElem?_eq_some_iff.1 HD1.out.bo).1).trans HD1.out.bo) (k:=0) rfl
    have dl:=lt_of_cell d0
    go_simp
    exact hK _ _ ⟨_,_,_,_,_,_,_,_,_,_,by simp only [putAll,Act.put,List.setIfInBounds_toArray,List.set_cons_succ,List.set_cons_zero],cv0.set (by decide),Vd.same (by simp),cv2.set (by decide),cv3.set (by decide),cv4.set (by decide),cv5.set (by decide),cv6.set (by decide),cv7.set (by decide),cv8.set (by decide),cv9.set (by decide),by exact hJ⟩
   ·simp at hop;subst hop;simp [Region.binds] at haf
    go_simp
    exact hK _ _ ⟨_,_,_,_,_,_,_,_,_,_,by simp only [putAll,Act.put,List.setIfInBounds_toArray,List.set_cons_succ,List.set_cons_zero],cv0.set (by decide),cv1.set (by decide),Vd.same (by simp),cv3.set (by decide),cv4.set (by decide),cv5.set (by decide),cv6.set (by decide),cv7.set (by decide),cv8.set (by decide),cv9.set (by decide),by exact hJ⟩
   ·simp at hop;subst hop;simp [Region.binds] at haf
    go_simp
    exact hK _ _ ⟨_,_,_,_,_,_,_,_,_,_,by simp only [putAll,Act.put,List.setIfInBounds_toArray,List.set_cons_succ,List.set_cons_zero],cv0.set (by decide),cv1.set (by decide),cv2.set (by decide),Vd.same (by simp),cv4.set (by decide),cv5.set (by decide),cv6.set (by decide),cv7.set (by decide),cv8.set (by decide),cv9.set (by decide),by exact hJ⟩
   ·simp at hop;subst hop;simp [Region.binds] at haf
    obtain rfl:=(cv3.get (by simp [haf])).symm
    have d0:W.cell? ⟨w.heap.size,0,none⟩=some (.slice (some ⟨b,o,none⟩) pn pk):=cellH ((hJ.block w.heap.size (Array.getElem?_eq_some_iff.1 HD1.out.bx).1).trans HD1.out.bx) (k:=0) rfl
    have dl:=lt_of_cell d0
    go_simp
    exact hK _ _ ⟨_,_,_,_,_,_,_,_,_,_,by simp only [putAll,Act.put,List.setIfInBounds_toArray,List.set_cons_succ,List.set_cons_zero],cv0.set (by decide),cv1.set (by decide),cv2.set (by decide),cv3.set (by decide),Vd.same (by simp),cv5.set (by decide),cv6.set (by decide),cv7.set (by decide),cv8.set (by decide),cv9.set (by decide),by exact hJ⟩
   ·simp at hop;subst hop;simp [Region.binds] at haf
    go_simp
    exact hK _ _ ⟨_,_,_,_,_,_,_,_,_,_,by simp only [putAll,Act.put,List.setIfInBounds_toArray,List.set_cons_succ,List.set_cons_zero],cv0.set (by decide),cv1.set (by decide),cv2.set (by decide),cv3.set (by decide),cv4.set (by decide),Vd.same (by simp),cv6.set (by decide),cv7.set (by decide),cv8.set (by decide),cv9.set (by decide),by exact hJ⟩
   ·simp at hop;subst hop;simp [Region.binds] at haf
    obtain rfl:=(cv4.get (by simp [haf])).symm
    obtain rfl:=(cv5.get (by simp [haf])).symm
    go_simp
    exact hK _ _ ⟨_,_,_,_,_,_,_,_,_,_,by simp only [putAll,Act.put,List.setIfInBounds_toArray,List.set_cons_succ,List.set_cons_zero],cv0.set (by decide),cv1.set (by decide),cv2.set (by decide),cv3.set (by decide),cv4.set (by decide),cv5.set (by decide),Vd.same (by simp),cv7.set (by decide),cv8.set (by decide),cv9.set (by decide),by exact hJ⟩
   ·simp at hop;subst hop;simp [Region.binds] at haf
    obtain rfl:=(cv6.get (by simp [haf])).symm
    have hbw:=HD1.out.bl.trans (hJ.mono HD1.out.bl.size)
    have q2:=(hbw.cell (p:=⟨b,o+t,none⟩) hbl).trans I0.out
    have ql:=lt_of_cell q2
    go_simp
    exact hK _ _ ⟨_,_,_,_,_,_,_,_,_,_,by simp only [putAll,Act.put,List.setIfInBounds_toArray,List.set_cons_succ,List.set_cons_zero],cv0.set (by decide),cv1.set (by decide),cv2.set (by decide),cv3.set (by decide),cv4.set (by decide),cv5.set (by decide),cv6.set (by decide),Vd.same (by simp),cv8.set (by decide),cv9.set (by decide),by exact hJ⟩
   ·simp at hop;subst hop;simp [Region.binds] at haf
    obtain rfl:=(cv7.get (by simp [haf])).symm
    go_simp
    exact hK _ _ ⟨_,_,_,_,_,_,_,_,_,_,by simp only [putAll,Act.put,List.setIfInBounds_toArray,List.set_cons_succ,List.set_cons_zero],cv0.set (by decide),cv1.set (by decide),cv2.set (by decide),cv3.set (by decide),cv4.set (by decide),cv5.set (by decide),cv6.set (by decide),cv7.set (by decide),Vd.same (by simp),cv9.set (by decide),by exact hJ⟩
   ·simp at hop;subst hop;simp [Region.binds] at haf
    obtain rfl:=(cv1.get (by simp [haf])).symm
    obtain rfl:=(cv2.get (by simp [haf])).symm
    go_simp
    exact hK _ _ ⟨_,_,_,_,_,_,_,_,_,_,by simp only [putAll,Act.put,List.setIfInBounds_toArray,List.set_cons_succ,List.set_cons_zero],cv0.set (by decide),cv1.set (by decide),cv2.set (by decide),cv3.set (by decide),cv4.set (by decide),cv5.set (by decide),cv6.set (by decide),cv7.set (by decide),cv8.set (by decide),Vd.same (by simp),by exact hJ⟩
  case re =>
   rintro ls a' W hall ⟨x22,x23,x24,x25,x26,x27,x28,x29,x30,x31,ha,cv0,cv1,cv2,cv3,cv4,cv5,cv6,cv7,cv8,cv9,hJ⟩ o hop
   simp only [putAll,Act.put,List.setIfInBounds_toArray,List.set_cons_succ,List.set_cons_zero] at ha
   subst ha
   simp at hop;subst hop
   obtain rfl:=(cv0.get (hall 0 (by decide))).symm
   obtain rfl:=(cv1.get (hall 1 (by decide))).symm
   obtain rfl:=(cv2.get (hall 2 (by decide))).symm
   obtain rfl:=(cv3.get (hall 3 (by decide))).symm
   obtain rfl:=(cv4.get (hall 4 (by decide))).symm
   obtain rfl:=(cv5.get (hall 5 (by decide))).symm
   obtain rfl:=(cv6.get (hall 6 (by decide))).symm
   obtain rfl:=(cv7.get (hall 7 (by decide))).symm
   obtain rfl:=(cv8.get (hall 8 (by decide))).symm
   obtain rfl:=(cv9.get (hall 9 (by decide))).symm
   obtain ⟨hD,hgl,⟨z,hz0⟩,hfz⟩:=(HD1.out.below hJ).pc (k:=t) rfl HPC.out ((kn:Int)+1)
   go_simp
   have HD2:=hide hD
   obtain ⟨V2,hV2⟩:∃ V2,V2=W.setCell ⟨gp,t,none⟩ (.int .i64 ((kn:Int)+1)):=⟨_,rfl⟩
   rw [← hV2] at HD2
   simp only [← hV2]
   clear hD hgl hz0 hfz hJ hV2
   have i0:V2.cell? ⟨I,0,none⟩=some (.int .i64 op):=cellH HD2.out.bi (k:=0) rfl
   have i1:V2.cell? ⟨I,1,none⟩=some (.int .i64 (lc:Int)):=cellH HD2.out.bi (k:=1) rfl
   have i2:V2.cell? ⟨I,2,none⟩=some (.int .i64 (rc:Int)):=cellH HD2.out.bi (k:=2) rfl
   have i3:V2.cell? ⟨I,3,none⟩=some (.int .i64 val):=cellH HD2.out.bi (k:=3) rfl
   have il:=lt_of_cell i0
   go_wp2_with (go_at_call 133;(with_reducible refine (l1Reads_raw _ _ _ _ _).mono ?_);rw [HRO.out];rintro e w4 ⟨rfl,hb4⟩;have HD3:=hide (HD2.out.below hb4);clear hb4)
   obtain ⟨gr,hgr, -⟩:=HD3.out.st.ln.o2.open1 (get_of_lt HRG.out).choose_spec
   subst hgr
   have hyr2:(qr:Int) < (yr2:Int):=by have:=(show yr2=s.rg.length from HD3.out.st.ln.o2.len);have:=HRG.out;omega
   -- reg do5b
   refine wp_region_inv3 (n:=13) (by kernel_rfl) rfl (by kernel_rfl) (by kernel_rfl) (fun A ls a' W => ∃ (x34 x35 x36 x37 x38 x39 x40 x41 x42 x43 x44 x45 x46:Value),a'=putAll A [(34,x34),(35,x35),(36,x36),(37,x37),(38,x38),(39,x39),(40,x40),(41,x41),(42,x42),(43,x43),(44,x44),(45,x45),(46,x46)]∧Vd ls 0 [] x34 (.pointer (some ⟨w1.heap.size,1,none⟩))∧Vd ls 1 [] x35 (.slice (some ⟨gr,0,none⟩) yr2 yr3)∧Vd ls 2 [] x36 (.int .i64 (t:Int))∧Vd ls 3 [] x37 (.pointer (some ⟨I,2,none⟩))∧Vd ls 4 [] x38 (.int .i64 (rc:Int))∧Vd ls 5 [] x39 (.int .i64 (qr:Int))∧Vd ls 6 [] x40 (.pointer (some ⟨w.heap.size,2,none⟩))∧Vd ls 7 [] x41 (.slice (some ⟨bm,om,none⟩) mn mk)∧Vd ls 8 [] x42 (.pointer (some ⟨I,1,none⟩))∧Vd ls 9 [] x43 (.int .i64 (lc:Int))∧Vd ls 10 [] x44 (.pointer (some ⟨bm,om+lc,none⟩))∧Vd ls 11 [] x45 (.int .i64 mv)∧Vd ls 12 [] x46 (.pointer (some ⟨gr,qr,none⟩))∧Below w4.heap.size w4 W) ?r0 ?rs ?re
   case r0 =>
    exact ⟨undef,undef,undef,undef,undef,undef,undef,undef,undef,undef,undef,undef,undef,by simp only [putAll,Act.put,List.setIfInBounds_toArray,List.set_cons_succ,List.set_cons_zero],Vd.start,Vd.start,Vd.start,Vd.start,Vd.start,Vd.start,Vd.start,Vd.start,Vd.start,Vd.start,Vd.start,Vd.start,Vd.start,by exact (Below.refl _ _).drew⟩
   case rs =>
    rintro ls a' W hs hnl ⟨x34,x35,x36,x37,x38,x39,x40,x41,x42,x43,x44,x45,x46,ha,cv0,cv1,cv2,cv3,cv4,cv5,cv6,cv7,cv8,cv9,cv10,cv11,cv12,hJ⟩ k o hkn mc K hK
    simp only [putAll,Act.put,List.setIfInBounds_toArray,List.set_cons_succ,List.set_cons_zero] at ha
    subst ha
    have hkc:k=0∨k=1∨k=2∨k=3∨k=4∨k=5∨k=6∨k=7∨k=8∨k=9∨k=10∨k=11∨k=12:=by omega
    have hop:=mc.op
    have haf:=mc.after
    rcases hkc with rfl | rfl | rfl | rfl | rfl | rfl | rfl | rfl | rfl | rfl | rfl | rfl | rfl
    ·simp at hop;subst hop;simp [Region.binds] at haf
     go_simp
     exact hK _ _ ⟨_,_,_,_,_,_,_,_,_,_,_,_,_,by simp only [putAll,Act.put,List.setIfInBounds_toArray,List.set_cons_succ,List.set_cons_zero],Vd.same (by simp),cv1.set (by decide),cv2.set (by decide),cv3.set (by decide),cv4.set (by decide),cv5.set (by decide),cv6.set (by decide),cv7.set (by decide),cv8.set (by decide),cv9.set (by decide),cv10.set (by decide),cv11.set (by decide),cv12.set (by decide),by exact hJ⟩
    ·simp at hop;subst hop;simp [Region.binds] at haf
     obtain rfl:=(cv0.get (by simp [haf])).symm
     have d1:W.cell? ⟨w1.heap.size,1,none⟩=some (.slice (some ⟨gr,0,none⟩) yr2 yr3):=cellH ((hJ.block w1.heap.size (Array.getElem?_eq_some_iff.1 HD3.out.bo).1).trans HD3.out.bo) (k:=1) rfl
     have dl:=lt_of_cell d1
     go_simp
     exact hK _ _ ⟨_,_,_,_,_,_,_,_,_,_,_,_,_,by simp only [putAll,Act.put,List.setIfInBounds_toArray,List.set_cons_succ,List.set_cons_zero],cv0.set (by decide),Vd.same (by simp),cv2.set (by decide),cv3.set (by decide),cv4.set (by decide),cv5.set (by decide),cv6.set (by decide),cv7.set (by decide),cv8.set (by decide),cv9.set (by decide),cv10.set (by decide),cv11.set (by decide),cv12.set (by decide),by exact hJ⟩
    ·simp at hop;subst hop;simp [Region.binds] at haf
     go_simp
     exact hK _ _ ⟨_,_,_,_,_,_,_,_,_,_,_,_,_,by simp only [putAll,Act.put,List.setIfInBounds_toArray,List.set_cons_succ,List.set_cons_zero],cv0.set (by decide),cv1.set (by decide),Vd.same (by simp),cv3.set (by decide),cv4.set (by decide),cv5.set (by decide),cv6.set (by decide),cv7.set (by decide),cv8.set (by decide),cv9.set (by decide),cv10.set (by decide),cv11.set (by decide),cv12.set (by decide),by exact hJ⟩
    ·simp at hop;subst hop;simp [Region.binds] at haf
     go_simp
     exact hK _ _ ⟨_,_,_,_,_,_,_,_,_,_,_,_,_,by simp only [putAll,Act.put,List.setIfInBounds_toArray,List.set_cons_succ,List.set_cons_zero],cv0.set (by decide),cv1.set (by decide),cv2.set (by decide),Vd.same (by simp),cv4.set (by decide),cv5.set (by decide),cv6.set (by decide),cv7.set (by decide),cv8.set (by decide),cv9.set (by decide),cv10.set (by decide),cv11.set (by decide),cv12.set (by decide),by exact hJ⟩
    ·simp at hop;subst hop;simp [Region.binds] at haf
     obtain rfl:=(cv3.get (by simp [haf])).symm
     have d2:W.cell? ⟨I,2,none⟩=some (.int .i64 (rc:Int)):=cellH ((hJ.block I (Array.getElem?_eq_some_iff.1 HD3.out.bi).1).trans HD3.out.bi) (k:=2) rfl
     have dl:=lt_of_cell d2
     go_simp
     exact hK _ _ ⟨_,_,_,_,_,_,_,_,_,_,_,_,_,by simp only [putAll,Act.put,List.setIfInBounds_toArray,List.set_cons_succ,List.set_cons_zero],cv0.set (by decide),cv1.set (by decide),cv2.set (by decide),cv3.set (by decide),Vd.same (by simp),cv5.set (by decide),cv6.set (by decide),cv7.set (by decide),cv8.set (by decide),cv9.set (by decide),cv10.set (by decide),cv11.set (by decide),cv12.set (by decide),by exact hJ⟩
    ·simp at hop;subst hop;simp [Region.binds] at haf
     obtain rfl:=(cv2.get (by simp [haf])).symm
     obtain rfl:=(cv4.get (by simp [haf])).symm
     go_simp
     go_at_call 76
     (with_reducible refine (HREG.out W).mono ?_);rintro e u ⟨rfl,hbu⟩
     exact hK _ _ ⟨_,_,_,_,_,_,_,_,_,_,_,_,_,by simp only [putAll,Act.put,List.setIfInBounds_toArray,List.set_cons_succ,List.set_cons_zero],cv0.set (by decide),cv1.set (by decide),cv2.set (by decide),cv3.set (by decide),cv4.set (by decide),Vd.same (by simp),cv6.set (by decide),cv7.set (by decide),cv8.set (by decide),cv9.set (by decide),cv10.set (by decide),cv11.set (by decide),cv12.set (by decide),by exact hJ.trans (hbu.mono hJ.size)⟩
    ·simp at hop;subst hop;simp [Region.binds] at haf
     go_simp
     exact hK _ _ ⟨_,_,_,_,_,_,_,_,_,_,_,_,_,by simp only [putAll,Act.put,List.setIfInBounds_toArray,List.set_cons_succ,List.set_cons_zero],cv0.set (by decide),cv1.set (by decide),cv2.set (by decide),cv3.set (by decide),cv4.set (by decide),cv5.set (by decide),Vd.same (by simp),cv7.set (by decide),cv8.set (by decide),cv9.set (by decide),cv10.set (by decide),cv11.set (by decide),cv12.set (by decide),by exact hJ⟩
    ·simp at hop;subst hop;simp [Region.binds] at haf
     obtain rfl:=(cv6.get (by simp [haf])).symm
     have d2:W.cell? ⟨w.heap.size,2,none⟩=some (.slice (some ⟨bm,om,none⟩) mn mk):=cellH ((hJ.block w.heap.size (Array.getElem?_eq_some_iff.1 HD3.out.bx).1).trans HD3.out.bx) (k:=2) rfl
     have dl:=lt_of_cell d2
     go_simp
     exact hK _ _ ⟨_,_,_,_,_,_,_,_,_,_,_,_,_,by simp only [putAll,Act.put,List.setIfInBounds_toArray,List.set_cons_succ,List.set_cons_zero],cv0.set (by decide),cv1.set (by decide),cv2.set (by decide),cv3.set (by decide),cv4.set (by decide),cv5.set (by decide),cv6.set (by decide),Vd.same (by simp),cv8.set (by decide),cv9.set (by decide),cv10.set (by decide),cv11.set (by decide),cv12.set (by decide),by exact hJ⟩
    ·simp at hop;subst hop;simp [Region.binds] at haf
     go_simp
     exact hK _ _ ⟨_,_,_,_,_,_,_,_,_,_,_,_,_,by simp only [putAll,Act.put,List.setIfInBounds_toArray,List.set_cons_succ,List.set_cons_zero],cv0.set (by decide),cv1.set (by decide),cv2.set (by decide),cv3.set (by decide),cv4.set (by decide),cv5.set (by decide),cv6.set (by decide),cv7.set (by decide),Vd.same (by simp),cv9.set (by decide),cv10.set (by decide),cv11.set (by decide),cv12.set (by decide),by exact hJ⟩
    ·simp at hop;subst hop;simp [Region.binds] at haf
     obtain rfl:=(cv8.get (by simp [haf])).symm
     have d1:W.cell? ⟨I,1,none⟩=some (.int .i64 (lc:Int)):=cellH ((hJ.block I (Array.getElem?_eq_some_iff.1 HD3.out.bi).1).trans HD3.out.bi) (k:=1) rfl
     have dl:=lt_of_cell d1
     go_simp
     exact hK _ _ ⟨_,_,_,_,_,_,_,_,_,_,_,_,_,by simp only [putAll,Act.put,List.setIfInBounds_toArray,List.set_cons_succ,List.set_cons_zero],cv0.set (by decide),cv1.set (by decide),cv2.set (by decide),cv3.set (by decide),cv4.set (by decide),cv5.set (by decide),cv6.set (by decide),cv7.set (by decide),cv8.set (by decide),Vd.same (by simp),cv10.set (by decide),cv11.set (by decide),cv12.set (by decide),by exact hJ⟩
    ·simp at hop;subst hop;simp [Region.binds] at haf
     obtain rfl:=(cv7.get (by simp [haf])).symm
     obtain rfl:=(cv9.get (by simp [haf])).symm
     go_simp
     exact hK _ _ ⟨_,_,_,_,_,_,_,_,_,_,_,_,_,by simp only [putAll,Act.put,List.setIfInBounds_toArray,List.set_cons_succ,List.set_cons_zero],cv0.set (by decide),cv1.set (by decide),cv2.set (by decide),cv3.set (by decide),cv4.set (by decide),cv5.set (by decide),cv6.set (by decide),cv7.set (by decide),cv8.set (by decide),cv9.set (by decide),Vd.same (by simp),cv11.set (by decide),cv12.set (by decide),by exact hJ⟩
    ·simp at hop;subst hop;simp [Region.binds] at haf
     obtain rfl:=(cv10.get (by simp [haf])).symm
     have hbw:=HD3.out.bl.trans (hJ.mono HD3.out.bl.size)
     have q2:=(hbw.cell (p:=⟨bm,om+lc,none⟩) hblm).trans M0.out
     have ql:=lt_of_cell q2
     go_simp
     exact hK _ _ ⟨_,_,_,_,_,_,_,_,_,_,_,_,_,by simp only [putAll,Act.put,List.setIfInBounds_toArray,List.set_cons_succ,List.set_cons_zero],cv0.set (by decide),cv1.set (by decide),cv2.set (by decide),cv3.set (by decide),cv4.set (by decide),cv5.set (by decide),cv6.set (by decide),cv7.set (by decide),cv8.set (by decide),cv9.set (by decide),cv10.set (by decide),Vd.same (by simp),cv12.set (by decide),by exact hJ⟩
    ·simp at hop;subst hop;simp [Region.binds] at haf
     obtain rfl:=(cv1.get (by simp [haf])).symm
     obtain rfl:=(cv5.get (by simp [haf])).symm
     go_simp
     exact hK _ _ ⟨_,_,_,_,_,_,_,_,_,_,_,_,_,by simp only [putAll,Act.put,List.setIfInBounds_toArray,List.set_cons_succ,List.set_cons_zero],cv0.set (by decide),cv1.set (by decide),cv2.set (by decide),cv3.set (by decide),cv4.set (by decide),cv5.set (by decide),cv6.set (by decide),cv7.set (by decide),cv8.set (by decide),cv9.set (by decide),cv10.set (by decide),cv11.set (by decide),Vd.same (by simp),by exact hJ⟩
   case re =>
    rintro ls a' W hall ⟨x34,x35,x36,x37,x38,x39,x40,x41,x42,x43,x44,x45,x46,ha,cv0,cv1,cv2,cv3,cv4,cv5,cv6,cv7,cv8,cv9,cv10,cv11,cv12,hJ⟩ o hop
    simp only [putAll,Act.put,List.setIfInBounds_toArray,List.set_cons_succ,List.set_cons_zero] at ha
    subst ha
    simp at hop;subst hop
    obtain rfl:=(cv0.get (hall 0 (by decide))).symm
    obtain rfl:=(cv1.get (hall 1 (by decide))).symm
    obtain rfl:=(cv2.get (hall 2 (by decide))).symm
    obtain rfl:=(cv3.get (hall 3 (by decide))).symm
    obtain rfl:=(cv4.get (hall 4 (by decide))).symm
    obtain rfl:=(cv5.get (hall 5 (by decide))).symm
    obtain rfl:=(cv6.get (hall 6 (by decide))).symm
    obtain rfl:=(cv7.get (hall 7 (by decide))).symm
    obtain rfl:=(cv8.get (hall 8 (by decide))).symm
    obtain rfl:=(cv9.get (hall 9 (by decide))).symm
    obtain rfl:=(cv10.get (hall 10 (by decide))).symm
    obtain rfl:=(cv11.get (hall 11 (by decide))).symm
    obtain rfl:=(cv12.get (hall 12 (by decide))).symm
    obtain ⟨hD,hgl,⟨z,hz0⟩,hfz⟩:=(HD3.out.below hJ).rg (k:=qr) rfl HRG.out (mv)
    go_simp
    have HD4:=hide hD
    obtain ⟨V4,hV4⟩:∃ V4,V4=W.setCell ⟨gr,qr,none⟩ (.int .i64 (mv)):=⟨_,rfl⟩
    rw [← hV4] at HD4
    simp only [← hV4]
    clear hD hgl hz0 hfz hJ hV4
    have k0:V4.cell? ⟨I,0,none⟩=some (.int .i64 op):=cellH HD4.out.bi (k:=0) rfl
    have k1:V4.cell? ⟨I,1,none⟩=some (.int .i64 (lc:Int)):=cellH HD4.out.bi (k:=1) rfl
    have k2:V4.cell? ⟨I,2,none⟩=some (.int .i64 (rc:Int)):=cellH HD4.out.bi (k:=2) rfl
    have k3:V4.cell? ⟨I,3,none⟩=some (.int .i64 val):=cellH HD4.out.bi (k:=3) rfl
    have kl:=lt_of_cell k0
    go_wp2_with (go_at_call 134;(with_reducible refine (l1Writes_raw _ _ _ _ _).mono ?_);rw [HWO.out];rintro e w6 ⟨rfl,hb6⟩;have HD5:=hide (HD4.out.below hb6);clear hb6)
    obtain ⟨gm,hgm, -⟩:=HD5.out.st.ln.o3.open1 (get_of_lt HMM.out).choose_spec
    subst hgm
    have hym2:(lc:Int) < (ym2:Int):=by have:=(show ym2=s.mm.length from HD5.out.st.ln.o3.len);have:=HMM.out;omega
    -- reg do7b
    refine wp_region_inv3 (n:=9) (by kernel_rfl) rfl (by kernel_rfl) (by kernel_rfl) (fun A ls a' W => ∃ (x49 x50 x51 x52 x53 x54 x55 x56 x57:Value),a'=putAll A [(49,x49),(50,x50),(51,x51),(52,x52),(53,x53),(54,x54),(55,x55),(56,x56),(57,x57)]∧Vd ls 0 [] x49 (.pointer (some ⟨w1.heap.size,2,none⟩))∧Vd ls 1 [] x50 (.slice (some ⟨gm,0,none⟩) ym2 ym3)∧Vd ls 2 [] x51 (.pointer (some ⟨I,1,none⟩))∧Vd ls 3 [] x52 (.int .i64 (lc:Int))∧Vd ls 4 [] x53 (.agg #[.slice (some ⟨b,o,none⟩) pn pk, .slice ra rn rk, .slice (some ⟨bm,om,none⟩) mn mk, .slice ba bn bk])∧Vd ls 5 [] x54 (.int .i64 (t:Int))∧Vd ls 6 [] x55 (.agg #[.int .i64 op, .int .i64 (lc:Int), .int .i64 (rc:Int), .int .i64 val])∧Vd ls 7 [] x56 (.int .i64 (sqVal s.q t ⟨op,lc,rc,val⟩))∧Vd ls 8 [] x57 (.pointer (some ⟨gm,lc,none⟩))∧Below w6.heap.size w6 W) ?r0 ?rs ?re
    case r0 =>
     exact ⟨undef,undef,undef,undef,undef,undef,undef,undef,undef,by simp only [putAll,Act.put,List.setIfInBounds_toArray,List.set_cons_succ,List.set_cons_zero],Vd.start,Vd.start,Vd.start,Vd.start,Vd.start,Vd.start,Vd.start,Vd.start,Vd.start,by exact (Below.refl _ _).drew⟩
    case rs =>
     rintro ls a' W hs hnl ⟨x49,x50,x51,x52,x53,x54,x55,x56,x57,ha,cv0,cv1,cv2,cv3,cv4,cv5,cv6,cv7,cv8,hJ⟩ k o hkn mc K hK
     simp only [putAll,Act.put,List.setIfInBounds_toArray,List.set_cons_succ,List.set_cons_zero] at ha
     subst ha
     have hkc:k=0∨k=1∨k=2∨k=3∨k=4∨k=5∨k=6∨k=7∨k=8:=by omega
     have hop:=mc.op
     have haf:=mc.after
     rcases hkc with rfl | rfl | rfl | rfl | rfl | rfl | rfl | rfl | rfl
     ·simp at hop;subst hop;simp [Region.binds] at haf
      go_simp
      exact hK _ _ ⟨_,_,_,_,_,_,_,_,_,by simp only [putAll,Act.put,List.setIfInBounds_toArray,List.set_cons_succ,List.set_cons_zero],Vd.same (by simp),cv1.set (by decide),cv2.set (by decide),cv3.set (by decide),cv4.set (by decide),cv5.set (by decide),cv6.set (by decide),cv7.set (by decide),cv8.set (by decide),by exact hJ⟩
     ·simp at hop;subst hop;simp [Region.binds] at haf
      obtain rfl:=(cv0.get (by simp [haf])).symm
      have d2:W.cell? ⟨w1.heap.size,2,none⟩=some (.slice (some ⟨gm,0,none⟩) ym2 ym3):=cellH ((hJ.block w1.heap.size (Array.getElem?_eq_some_iff.1 HD5.out.bo).1).trans HD5.out.bo) (k:=2) rfl
      have dl:=lt_of_cell d2
      go_simp
      exact hK _ _ ⟨_,_,_,_,_,_,_,_,_,by simp only [putAll,Act.put,List.setIfInBounds_toArray,List.set_cons_succ,List.set_cons_zero],cv0.set (by decide),Vd.same (by simp),cv2.set (by decide),cv3.set (by decide),cv4.set (by decide),cv5.set (by decide),cv6.set (by decide),cv7.set (by decide),cv8.set (by decide),by exact hJ⟩
     ·simp at hop;subst hop;simp [Region.binds] at haf
      go_simp
      exact hK _ _ ⟨_,_,_,_,_,_,_,_,_,by simp only [putAll,Act.put,List.setIfInBounds_toArray,List.set_cons_succ,List.set_cons_zero],cv0.set (by decide),cv1.set (by decide),Vd.same (by simp),cv3.set (by decide),cv4.set (by decide),cv5.set (by decide),cv6.set (by decide),cv7.set (by decide),cv8.set (by decide),by exact hJ⟩
     ·simp at hop;subst hop;simp [Region.binds] at haf
      obtain rfl:=(cv2.get (by simp [haf])).symm
      have d1:W.cell? ⟨I,1,none⟩=some (.int .i64 (lc:Int)):=cellH ((hJ.block I (Array.getElem?_eq_some_iff.1 HD5.out.bi).1).trans HD5.out.bi) (k:=1) rfl
      have dl:=lt_of_cell d1
      go_simp
      exact hK _ _ ⟨_,_,_,_,_,_,_,_,_,by simp only [putAll,Act.put,List.setIfInBounds_toArray,List.set_cons_succ,List.set_cons_zero],cv0.set (by decide),cv1.set (by decide),cv2.set (by decide),Vd.same (by simp),cv4.set (by decide),cv5.set (by decide),cv6.set (by decide),cv7.set (by decide),cv8.set (by decide),by exact hJ⟩
     ·simp at hop;subst hop;simp [Region.binds] at haf
      have d0:W.cell? ⟨w.heap.size,0,none⟩=some (.slice (some ⟨b,o,none⟩) pn pk):=cellH ((hJ.block w.heap.size (Array.getElem?_eq_some_iff.1 HD5.out.bx).1).trans HD5.out.bx) (k:=0) rfl
      have dl:=lt_of_cell d0
      have d1:W.cell? ⟨w.heap.size,1,none⟩=some (.slice ra rn rk):=cellH ((hJ.block w.heap.size (Array.getElem?_eq_some_iff.1 HD5.out.bx).1).trans HD5.out.bx) (k:=1) rfl
      have dl:=lt_of_cell d1
      have d2:W.cell? ⟨w.heap.size,2,none⟩=some (.slice (some ⟨bm,om,none⟩) mn mk):=cellH ((hJ.block w.heap.size (Array.getElem?_eq_some_iff.1 HD5.out.bx).1).trans HD5.out.bx) (k:=2) rfl
      have dl:=lt_of_cell d2
      have d3:W.cell? ⟨w.heap.size,3,none⟩=some (.slice ba bn bk):=cellH ((hJ.block w.heap.size (Array.getElem?_eq_some_iff.1 HD5.out.bx).1).trans HD5.out.bx) (k:=3) rfl
      have dl:=lt_of_cell d3
      go_simp
      exact hK _ _ ⟨_,_,_,_,_,_,_,_,_,by simp only [putAll,Act.put,List.setIfInBounds_toArray,List.set_cons_succ,List.set_cons_zero],cv0.set (by decide),cv1.set (by decide),cv2.set (by decide),cv3.set (by decide),Vd.same (by simp),cv5.set (by decide),cv6.set (by decide),cv7.set (by decide),cv8.set (by decide),by exact hJ⟩
     ·simp at hop;subst hop;simp [Region.binds] at haf
      go_simp
      exact hK _ _ ⟨_,_,_,_,_,_,_,_,_,by simp only [putAll,Act.put,List.setIfInBounds_toArray,List.set_cons_succ,List.set_cons_zero],cv0.set (by decide),cv1.set (by decide),cv2.set (by decide),cv3.set (by decide),cv4.set (by decide),Vd.same (by simp),cv6.set (by decide),cv7.set (by decide),cv8.set (by decide),by exact hJ⟩
     ·simp at hop;subst hop;simp [Region.binds] at haf
      have d0:W.cell? ⟨I,0,none⟩=some (.int .i64 op):=cellH ((hJ.block I (Array.getElem?_eq_some_iff.1 HD5.out.bi).1).trans HD5.out.bi) (k:=0) rfl
      have dl:=lt_of_cell d0
      have d1:W.cell? ⟨I,1,none⟩=some (.int .i64 (lc:Int)):=cellH ((hJ.block I (Array.getElem?_eq_some_iff.1 HD5.out.bi).1).trans HD5.out.bi) (k:=1) rfl
      have dl:=lt_of_cell d1
      have d2:W.cell? ⟨I,2,none⟩=some (.int .i64 (rc:Int)):=cellH ((hJ.block I (Array.getElem?_eq_some_iff.1 HD5.out.bi).1).trans HD5.out.bi) (k:=2) rfl
      have dl:=lt_of_cell d2
      have d3:W.cell? ⟨I,3,none⟩=some (.int .i64 val):=cellH ((hJ.block I (Array.getElem?_eq_some_iff.1 HD5.out.bi).1).trans HD5.out.bi) (k:=3) rfl
      have dl:=lt_of_cell d3
      go_simp
      exact hK _ _ ⟨_,_,_,_,_,_,_,_,_,by simp only [putAll,Act.put,List.setIfInBounds_toArray,List.set_cons_succ,List.set_cons_zero],cv0.set (by decide),cv1.set (by decide),cv2.set (by decide),cv3.set (by decide),cv4.set (by decide),cv5.set (by decide),Vd.same (by simp),cv7.set (by decide),cv8.set (by decide),by exact hJ⟩
     ·simp at hop;subst hop;simp [Region.binds] at haf
      obtain rfl:=(cv4.get (by simp [haf])).symm
      obtain rfl:=(cv5.get (by simp [haf])).symm
      obtain rfl:=(cv6.get (by simp [haf])).symm
      go_simp
      go_at_call 217
      (with_reducible refine (HVAL.out W (HX.out.below (HD5.out.bl.trans (hJ.mono HD5.out.bl.size)))).mono ?_);rintro e u ⟨rfl,hbu⟩
      exact hK _ _ ⟨_,_,_,_,_,_,_,_,_,by simp only [putAll,Act.put,List.setIfInBounds_toArray,List.set_cons_succ,List.set_cons_zero],cv0.set (by decide),cv1.set (by decide),cv2.set (by decide),cv3.set (by decide),cv4.set (by decide),cv5.set (by decide),cv6.set (by decide),Vd.same (by simp),cv8.set (by decide),by exact hJ.trans (hbu.mono hJ.size)⟩
     ·simp at hop;subst hop;simp [Region.binds] at haf
      obtain rfl:=(cv1.get (by simp [haf])).symm
      obtain rfl:=(cv3.get (by simp [haf])).symm
      go_simp
      exact hK _ _ ⟨_,_,_,_,_,_,_,_,_,by simp only [putAll,Act.put,List.setIfInBounds_toArray,List.set_cons_succ,List.set_cons_zero],cv0.set (by decide),cv1.set (by decide),cv2.set (by decide),cv3.set (by decide),cv4.set (by decide),cv5.set (by decide),cv6.set (by decide),cv7.set (by decide),Vd.same (by simp),by exact hJ⟩
    case re =>
     rintro ls a' W hall ⟨x49,x50,x51,x52,x53,x54,x55,x56,x57,ha,cv0,cv1,cv2,cv3,cv4,cv5,cv6,cv7,cv8,hJ⟩ o hop
     simp only [putAll,Act.put,List.setIfInBounds_toArray,List.set_cons_succ,List.set_cons_zero] at ha
     subst ha
     simp at hop;subst hop
     obtain rfl:=(cv0.get (hall 0 (by decide))).symm
     obtain rfl:=(cv1.get (hall 1 (by decide))).symm
     obtain rfl:=(cv2.get (hall 2 (by decide))).symm
     obtain rfl:=(cv3.get (hall 3 (by decide))).symm
     obtain rfl:=(cv4.get (hall 4 (by decide))).symm
     obtain rfl:=(cv5.get (hall 5 (by decide))).symm
     obtain rfl:=(cv6.get (hall 6 (by decide))).symm
     obtain rfl:=(cv7.get (hall 7 (by decide))).symm
     obtain rfl:=(cv8.get (hall 8 (by decide))).symm
     obtain ⟨hD,hgl,⟨z,hz0⟩,hfz⟩:=(HD5.out.below hJ).mm (k:=lc) rfl HMM.out (sqVal s.q t ⟨op,lc,rc,val⟩)
     go_simp
     have HD6:=hide hD
     obtain ⟨V6,hV6⟩:∃ V6,V6=W.setCell ⟨gm,lc,none⟩ (.int .i64 (sqVal s.q t ⟨op,lc,rc,val⟩)):=⟨_,rfl⟩
     rw [← hV6] at HD6
     simp only [← hV6]
     clear hD hgl hz0 hfz hJ hV6
     have hD:=HD6.out
     have g0:V6.cell? ⟨w1.heap.size,0,none⟩=some (.slice (some ⟨gp,0,none⟩) yp2 yp3):=cellH hD.bo (k:=0) rfl
     have g1:V6.cell? ⟨w1.heap.size,1,none⟩=some (.slice (some ⟨gr,0,none⟩) yr2 yr3):=cellH hD.bo (k:=1) rfl
     have g2:V6.cell? ⟨w1.heap.size,2,none⟩=some (.slice (some ⟨gm,0,none⟩) ym2 ym3):=cellH hD.bo (k:=2) rfl
     have g3:V6.cell? ⟨w1.heap.size,3,none⟩=some (.slice yb1 yb2 yb3):=cellH hD.bo (k:=3) rfl
     have gl:=lt_of_cell g0
     have r0:V6.cell? ⟨w.heap.size+1,0,none⟩=some (.slice none 0 0):=cellH hD.br (k:=0) rfl
     have r1:V6.cell? ⟨w.heap.size+1,1,none⟩=some (.slice none 0 0):=cellH hD.br (k:=1) rfl
     have r2:V6.cell? ⟨w.heap.size+1,2,none⟩=some (.slice none 0 0):=cellH hD.br (k:=2) rfl
     have r3:V6.cell? ⟨w.heap.size+1,3,none⟩=some (.slice none 0 0):=cellH hD.br (k:=3) rfl
     have rfz:=frozH hD.br
     have rl:=lt_of_cell r0
     clear hD
     go_wp2_with fail
     have hS:=HD6.out.st.mono (show w.heap.size≤w.heap.size+2 by omega)
     have t0:TyB 195 V6 (w.heap.size+1):=⟨_,HD6.out.br⟩
     rw [E.out]
     refine bodyPost_ret (v:=.agg #[.slice (some ⟨gp,0,none⟩) yp2 yp3, .slice (some ⟨gr,0,none⟩) yr2 yr3, .slice (some ⟨gm,0,none⟩) ym2 ym3, .slice yb1 yb2 yb3]) (by simp [results,Tryz.results198,go_sem, *]) rfl ⟨⟨⟨some ⟨gp,0,none⟩,yp2,yp3⟩,⟨some ⟨gr,0,none⟩,yr2,yr3⟩,⟨some ⟨gm,0,none⟩,ym2,ym3⟩,⟨yb1,yb2,yb3⟩⟩,m,rfl, ?_, ?_⟩
     ·exact (((hS.setT (by decide) (by decide) t0).setT (by decide) (by decide) (t0.set _ _ _)).setT (by decide) (by decide) ((t0.set _ _ _).set _ _ _)).setT (by decide) (by decide) (((t0.set _ _ _).set _ _ _).set _ _ _)
     ·exact (((HD6.out.bl.setCell (p:=⟨w.heap.size+1,0,none⟩) (show w.heap.size≤w.heap.size+1 by omega) _).setCell (p:=⟨w.heap.size+1,1,none⟩) (show w.heap.size≤w.heap.size+1 by omega) _).setCell (p:=⟨w.heap.size+1,2,none⟩) (show w.heap.size≤w.heap.size+1 by omega) _).setCell (p:=⟨w.heap.size+1,3,none⟩) (show w.heap.size≤w.heap.size+1 by omega) _
    -- end do7b
   -- end do5b
  -- end do3b
 -- end do2b
end Go.Proofs.YtlddmagfbcomgaaGreat
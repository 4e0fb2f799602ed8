/-
  A state with store buffers after a thread's move: a store. Condition: a state as it can be, a valid instruction.
-/
import Derived.Test.YtngekjpklkjnbaaGreatZu19
set_option maxHeartbeats 6400000
set_option maxRecDepth 100000
namespace Go.Proofs.YtngekjpklkjnbaaGreat
open Go.RowKit
set_option linter.unusedSimpArgs false in
theorem VB (b t:Nat) (vp:Value) (split:Bool) (wv:Zt) (us:List Zt) (p:List (List Ins)) (s s':Bf) (i:Ins) (w:World) (hp:Z5 w vp p) (hx:ZO w b vp split wv s) (hus:Z7 Zw w wv.v us) (hul:us.length=s.bf.length)
 (hrows:∀ (k:Nat) (u:Zt) (r:List (Int × Int)),us[k]? = some u→s.bf[k]? = some r→Z7 Zr w u.v (Z1 r)) (hok:ZE p split s) (hlen:∀ r∈s.bf,r.length≤42) (hpl:p.length≤3) (hpr:∀ r∈p,r.length≤7) (ht:t < p.length) (hi:YV p s.q t=some i) (hv:Zg i=true) (hop:i.op=2) (hd:YR s split t (s.q.pc.getD t 0) i=some s') :
 Calls Tryz.prog 230 #[.pointer (some ⟨b,0,none⟩),.int .i64 (t:Int)] w (UO w vp split s s' us):=by
 obtain⟨va,vc,rfl,hc1,hc2,hc3,hp⟩:=hp.open;obtain⟨wa,wn,wk⟩:=wv;obtain⟨op,loc,ZQ,val⟩:=i;simp only at hop;subst hop;obtain⟨⟨l0,l2⟩,⟨r0,r2⟩,v0,v3⟩:=XS hv;simp only at l0 l2 r0 r2 v0 v3;obtain⟨ln,rfl⟩:∃ ln:Nat,loc=ln:=⟨loc.toNat,Om⟩
 obtain⟨rn,rfl⟩:∃ rn:Nat,ZQ=rn:=⟨ZQ.toNat,Om⟩
 obtain⟨r,hr⟩:=Zd (xs:=p) (k:=t) ht;obtain⟨k,hk⟩:=Zd (xs:=s.q.pc) (k:=t) (by rw[hok.q.lp];exact ht);have hkr:=hok.q.pc t k r hk hr;have hrl:=hpr r (List.mem_of_getElem? hr);obtain⟨kn,rfl⟩:∃ kn:Nat,k=kn:=⟨k.toNat,Om⟩
 have hkd:s.q.pc.getD t 0=(kn:Int):=by rw[List.getD_eq_getElem?_getD,hk];rfl
 have hk7:kn≤7:=Om;have hlb9:s.bf.length≤9:=by
  rw[hok.lb];have:Yj split≤3:=by cases split <;> simp[Yj]
  have:=Nat.mul_le_mul hpl this;omega
 have hlb1:0 < s.bf.length:=by rw[hok.lb];exact Nat.mul_pos Om (by cases split <;> simp[Yj])
 have HP:=Za hp;have HOK:=Za hok;have HPR:=Za hpr;have HKD:=Za hkd;have HI:=Za hi;have HT:=Za ht;have HPL:=Za hpl
 have HLEN:=Za hlen;have HBW:Hid (Vr w ⟨wa,wn,wk⟩ s):=Za ⟨us,by rw[List.length_map];exact hul,hus,fun k u r hu hr=>by
  rw[List.getElem?_map]at hr;obtain⟨r0,h,rfl⟩:=Option.map_eq_some_iff.1 hr;exact hrows k u r0 hu h⟩
 have HVR:=Za (fun ho:ZF 2=true=>Xo (t:=t) hok.q.rg hv ho);rw[hkd]at hd;have HD:=Za hd;have hqs:Zj t (ln:Int) split < s.bf.length:=by rw[hok.lb];exact Xi ht Om
 obtain⟨row,hrow⟩:=Zd (xs:=s.bf) (k:=Zj t (ln:Int) split) hqs;obtain⟨⟨ra,sn,sk⟩,hu⟩:=Zd (xs:=us) (k:=Zj t (ln:Int) split) Om;have HUR:=Za (hrows _ _ _ hu hrow);have HRL:=Za (hlen row (List.mem_of_getElem? hrow));have HRD:=Za (show s.bf.getD (Zj t (ln:Int) split) []=row by rw[List.getD_eq_getElem?_getD,hrow];rfl);obtain⟨wb,wo,hwa,hwl,q0⟩:=Z7.Hf (show Z7 Zw w (.slice wa wn wk) us from hus) hu;subst hwa;obtain⟨q,hq⟩:∃ q,q=Zj t (ln:Int) split:=⟨_,rfl⟩
 rw[← hq]at HRD hu q0 hqs;have HQ:=Za hq;have HU:=Za hu;have HQ0:=Za q0;have HQS:=Za hqs;have HWL:=Za hwl
 clear hlen hd hq hu q0 hqs hwl hrow hrows;have htl:(t:Int) < 3:=Om;have hrn3:(rn:Int) < 3:=Om;have hln3:(ln:Int) < 3:=Om;have ht3:t < 3:=Om;have hl3:ln < 3:=Om;have hr3:rn < 3:=Om;have HUS:=Za hus;have HWN:Hid (wn=us.length):=Za (by obtain⟨_,_,hv1,-⟩:=hus.open;simp only[Zt.v,Value.slice.injEq]at hv1;exact hv1.2.1);have HV:=Za (ZN.ZX hx);have HX:=Za hx;have c0:=HV.out.c0;have bl:=HV.out.lt;have d16:=hx.split;have d17:=hx.waits;obtain⟨d1,d2,d3,d4,d5,d6,d7,d8,d9,d10,d11,d12,d13,d14,d15⟩:=HV.out.BZ;have hsa:=@ZJ;have HUL:=Za hul;have HLB:=Za hlb9
 have hul9:us.length≤9:=Om;have hune:us≠[]:=fun e=>by rw[e]at hul;simp at hul;omega
 have hnt:¬ ((p.length:Int)≤(t:Int)):=Om;clear hp hx hus hul hlb9 hok hpr hkd hi hr hk hkr hrl hv;generalize hn:p.length=n at *;have HN:=Za hn;clear hn;obtain⟨x1,hx1⟩:∃ x,x=s.q.pc.getD 0 0:=⟨_,rfl⟩
 obtain⟨x2,hx2⟩:∃ x,x=s.q.pc.getD 1 0:=⟨_,rfl⟩
 obtain⟨x3,hx3⟩:∃ x,x=s.q.pc.getD 2 0:=⟨_,rfl⟩
 obtain⟨x4,hx4⟩:∃ x,x=s.q.rg.getD 0 0:=⟨_,rfl⟩
 obtain⟨x5,hx5⟩:∃ x,x=s.q.rg.getD 1 0:=⟨_,rfl⟩
 obtain⟨x6,hx6⟩:∃ x,x=s.q.rg.getD 2 0:=⟨_,rfl⟩
 obtain⟨x7,hx7⟩:∃ x,x=s.q.rg.getD 3 0:=⟨_,rfl⟩
 obtain⟨x8,hx8⟩:∃ x,x=s.q.rg.getD 4 0:=⟨_,rfl⟩
 obtain⟨x9,hx9⟩:∃ x,x=s.q.rg.getD 5 0:=⟨_,rfl⟩
 obtain⟨x10,hx10⟩:∃ x,x=s.q.rg.getD 6 0:=⟨_,rfl⟩
 obtain⟨x11,hx11⟩:∃ x,x=s.q.rg.getD 7 0:=⟨_,rfl⟩
 obtain⟨x12,hx12⟩:∃ x,x=s.q.rg.getD 8 0:=⟨_,rfl⟩
 obtain⟨x13,hx13⟩:∃ x,x=s.q.mm.getD 0 0:=⟨_,rfl⟩
 obtain⟨x14,hx14⟩:∃ x,x=s.q.mm.getD 1 0:=⟨_,rfl⟩
 obtain⟨x15,hx15⟩:∃ x,x=s.q.mm.getD 2 0:=⟨_,rfl⟩
 have HA:Hid (ZY (.slice va n vc) s.q ++ #[.bool split,.slice (some ⟨wb,wo,none⟩) wn wk] = #[.slice va n vc,.int .u8 x1,.int .u8 x2,.int .u8 x3,.int .u8 x4,.int .u8 x5,.int .u8 x6,.int .u8 x7,.int .u8 x8,.int .u8 x9,.int .u8 x10,.int .u8 x11,.int .u8 x12,.int .u8 x13,.int .u8 x14,.int .u8 x15,.bool split,.slice (some ⟨wb,wo,none⟩) wn wk]):=Za (by rw[hx1,hx2,hx3,hx4,hx5,hx6,hx7,hx8,hx9,hx10,hx11,hx12,hx13,hx14,hx15];rfl);rw[← hx1]at d1;rw[← hx2]at d2;rw[← hx3]at d3;rw[← hx4]at d4;rw[← hx5]at d5;rw[← hx6]at d6;rw[← hx7]at d7;rw[← hx8]at d8;rw[← hx9]at d9;rw[← hx10]at d10;rw[← hx11]at d11;rw[← hx12]at d12;rw[← hx13]at d13;rw[← hx14]at d14;rw[← hx15]at d15;clear hx1 hx2 hx3 hx4 hx5 hx6 hx7 hx8 hx9 hx10 hx11 hx12 hx13 hx14 hx15;have HLD:Hid (w.rangeAt b 0 [.slice va n vc,.int .u8 x1,.int .u8 x2,.int .u8 x3,.int .u8 x4,.int .u8 x5,.int .u8 x6,.int .u8 x7,.int .u8 x8,.int .u8 x9,.int .u8 x10,.int .u8 x11,.int .u8 x12,.int .u8 x13,.int .u8 x14,.int .u8 x15,.bool split,.slice (some ⟨wb,wo,none⟩) wn wk]):=Za (by
  intro j v hj;have h:w.heap[b]? = some (.cells #[.slice va n vc,.int .u8 x1,.int .u8 x2,.int .u8 x3,.int .u8 x4,.int .u8 x5,.int .u8 x6,.int .u8 x7,.int .u8 x8,.int .u8 x9,.int .u8 x10,.int .u8 x11,.int .u8 x12,.int .u8 x13,.int .u8 x14,.int .u8 x15,.bool split,.slice (some ⟨wb,wo,none⟩) wn wk] 172 (0,0)):=by rw[← HA.out];exact HX.out
  rw[Nat.zero_add];exact Zc h (by simpa using hj))
 have HON:Hid ((#[.slice va n vc,.int .u8 x1,.int .u8 x2,.int .u8 x3,.int .u8 x4,.int .u8 x5,.int .u8 x6,.int .u8 x7,.int .u8 x8,.int .u8 x9,.int .u8 x10,.int .u8 x11,.int .u8 x12,.int .u8 x13,.int .u8 x14,.int .u8 x15,.bool split,.slice (some ⟨wb,wo,none⟩) wn wk]:Array Value).all (fun v=>v.oneCell')=true):=Za (by simp[Value.oneCell']);obtain⟨dB,hUB,hRB⟩:=Jq;have HUB:=Za hUB;have HRB:=Za hRB
 clear hUB hRB;go_enter Tryz.func230,Tryz.ntmps230
 iterate 23 (first | (refine wp_load_mid 172 (.tmp 12) rfl b 0 rfl [.slice va n vc,.int .u8 x1,.int .u8 x2,.int .u8 x3,.int .u8 x4,.int .u8 x5,.int .u8 x6,.int .u8 x7,.int .u8 x8,.int .u8 x9,.int .u8 x10,.int .u8 x11,.int .u8 x12,.int .u8 x13,.int .u8 x14,.int .u8 x15,.bool split,.slice (some ⟨wb,wo,none⟩) wn wk] dB HLD.out HUB.out HRB.out Kr ?_;go_simp) | go_values | go_skip | go_guarded | go_step | go_upon)
 refine YO 172 (.tmp 5) (.tmp 13) rfl _ #[.slice va n vc,.int .u8 x1,.int .u8 x2,.int .u8 x3,.int .u8 x4,.int .u8 x5,.int .u8 x6,.int .u8 x7,.int .u8 x8,.int .u8 x9,.int .u8 x10,.int .u8 x11,.int .u8 x12,.int .u8 x13,.int .u8 x14,.int .u8 x15,.bool split,.slice (some ⟨wb,wo,none⟩) wn wk] rfl rfl Kr rfl HON.out ?_;go_simp;go_wp2_with fail;obtain⟨V1,hV1⟩:∃ V1,V1=w.alloc (.cells #[.slice va n vc,.int .u8 x1,.int .u8 x2,.int .u8 x3,.int .u8 x4,.int .u8 x5,.int .u8 x6,.int .u8 x7,.int .u8 x8,.int .u8 x9,.int .u8 x10,.int .u8 x11,.int .u8 x12,.int .u8 x13,.int .u8 x14,.int .u8 x15,.bool split,.slice (some ⟨wb,wo,none⟩) wn wk] 172):=⟨_,rfl⟩
 have X1:Hid (ZO V1 w.heap.size (.slice va n vc) split ⟨some ⟨wb,wo,none⟩,wn,wk⟩ s):=Za (by rw[hV1];show _=some (Obj.cells (ZY (.slice va n vc) s.q++_) _ _);rw[HA.out];exact heap_alloc_new _ _);have B1:Hid (Below w.heap.size w V1):=Za (by rw[hV1];exact(Below.refl _ _).alloc (Nat.le_refl _) _);simp only[← hV1];clear hV1 d1 d2 d3 d4 d5 d6 d7 d8 d9 d10 d11 d12 d13 d14 d15 HA;have HCL:=Za (YY (.slice (some ⟨wb,wo,none⟩) wn wk) us V1 (HUS.out.below B1.out) Om)
 (with_reducible refine HCL.out.mono ?_);rintro e w2 ⟨vw,rfl,how,hb2⟩
 obtain⟨cg,cc,rfl⟩:=XU how hune;have HOW:=Za how;have hcg:=World.ownsRow.lt how cg rfl;have hlN:w.heap.size < V1.heap.size:=X1.out.lt;have B2:=Za (B1.out.trans (hb2.mono B1.out.size));have X2:=Za (X1.out.below hb2);have hX2:=X2.out;have e17:=hX2.waits;have efz:=Z6 hX2;have el:=hX2.lt;clear hb2 HCL how hX2;have X3:Hid (ZO (w2.setCell ⟨w.heap.size,17,none⟩ (.slice (some ⟨cg,0,none⟩) us.length cc)) w.heap.size (.slice va n vc) split ⟨some ⟨cg,0,none⟩,us.length,cc⟩ s):=Za (heap_setCell_same w2 w.heap.size 17 _ _ (.slice (some ⟨cg,0,none⟩) us.length cc) X2.out);have B3:Hid (Below w.heap.size w (w2.setCell ⟨w.heap.size,17,none⟩ (.slice (some ⟨cg,0,none⟩) us.length cc))):=Za (B2.out.setCell (p:=⟨w.heap.size,17,none⟩) (Nat.le_refl _) _);have g0:=(B3.out.cell (p:=⟨b,0,none⟩) bl).trans c0;have bl2:b < w2.heap.size:=Nat.lt_of_lt_of_le bl B2.out.size;have HCG:=Za hcg;have HLN:=Za hlN
 clear hune d16 d17 c0 hul9 hlN hcg hsa;go_wp2_with fail;clear e17 efz el g0;obtain⟨W3,hW3⟩:∃ W,W=w2.setCell ⟨w.heap.size,17,none⟩ (.slice (some ⟨cg,0,none⟩) us.length cc):=⟨_,rfl⟩
 have hcgne:cg≠w.heap.size:=by have h1:=HCG.out.1;have h2:=HLN.out;omega
 have OW3:Hid (Own Zw 39 W3 V1.heap.size (.slice (some ⟨cg,0,none⟩) us.length cc) us):=Za (by
  rw[hW3];exact HOW.out.K5 fun q hq=>heap_setCell_other w2 ⟨w.heap.size,17,none⟩ q _ (show q≠w.heap.size by simp[Value.ownBlock]at hq;rw[← hq];exact hcgne))
 have HCN:=Za hcgne;clear hcgne;simp only[← hW3]at X3 B3 ⊢;clear hW3 HOW X2 B2 X1 B1 bl2
 (with_reducible refine(XT b t va n vc p s.q W3 (HP.out.below B3.out) (HV.out.below B3.out) HOK.out.q (by rw[HN.out];exact HPL.out) HPR.out (by rw[HN.out];exact HT.out)).mono ?_);rintro e w4 ⟨rfl,hb4⟩
 rw[HI.out];simp only[Fx];have bC:=(Below.refl w4.heap.size w4).alloc (Nat.le_refl _) (.cells #[.int .i64 2,.int .i64 (ln:Int),.int .i64 (rn:Int),.int .i64 val] 44);have X4:=Za (X3.out.below hb4);have B4:=Za (B3.out.trans (hb4.mono B3.out.size));have OW4:=Za (OW3.out.below hb4);have hl4:w.heap.size < w4.heap.size:=X4.out.lt;have X5:=Za (X4.out.below bC);have e1:(w4.alloc (.cells #[.int .i64 2,.int .i64 (ln:Int),.int .i64 (rn:Int),.int .i64 val] 44)).cell? ⟨w.heap.size,1+t,none⟩=some (.int .u8 (kn:Int)):=by have h:=(ZN.ZX X5.out).c1 t ht3;rw[HKD.out]at h;exact h
 have efz:=Z6 X5.out;have el:w.heap.size < w4.heap.size+1:=Om;have hwk:IntKind.u8.wrap ((kn:Int)+1)=(kn:Int)+1:=by rw[IntKind.wrap_u8];omega
 have HL4:=Za hl4;clear hb4 bC hl4 X3 B3 OW3
 go_upto_region 11 with fail
 obtain⟨V6,hV6⟩:∃ V6,V6=(w4.alloc (.cells #[.int .i64 2,.int .i64 (ln:Int),.int .i64 (rn:Int),.int .i64 val] 44)).setCell ⟨w.heap.size,1+t,none⟩ (.int .u8 ((kn:Int)+1)):=⟨_,rfl⟩
 have hX6:ZO V6 w.heap.size (.slice va n vc) split ⟨some ⟨cg,0,none⟩,us.length,cc⟩ ⟨⟨s.q.pc.set t ((kn:Int)+1),s.q.rg,s.q.mm⟩,s.bf⟩:=by
  rw[hV6];have h:=heap_setCell_same (w4.alloc (.cells #[.int .i64 2,.int .i64 (ln:Int),.int .i64 (rn:Int),.int .i64 val] 44)) w.heap.size (1+t) _ _ (Z2 ((kn:Int)+1)) X5.out;rw[YM _ s.q _ Om,XA _ s.q ht3 (by rw[HOK.out.q.lp,HN.out];exact HT.out)]at h;exact h
 have hC6:V6.heap[w4.heap.size]? = some (.cells #[.int .i64 2,.int .i64 (ln:Int),.int .i64 (rn:Int),.int .i64 val] 44 (0,0)):=by
  rw[hV6];exact(heap_setCell_other (w4.alloc (.cells #[.int .i64 2,.int .i64 (ln:Int),.int .i64 (rn:Int),.int .i64 val] 44)) ⟨w.heap.size,1+t,none⟩ w4.heap.size _ (show w4.heap.size≠w.heap.size by have:=HL4.out;omega)).trans (heap_alloc_new w4 _)
 have B6:Hid (Below w.heap.size w V6):=Za (by rw[hV6];exact(B4.out.alloc B4.out.size _).setCell (p:=⟨w.heap.size,1+t,none⟩) (Nat.le_refl _) _);have X6:=Za hX6;have C6:=Za hC6
 have OW6:Hid (Own Zw 39 V6 V1.heap.size (.slice (some ⟨cg,0,none⟩) us.length cc) us):=Za (by rw[hV6];exact(OW4.out.below ((Below.refl _ _).alloc (Nat.le_refl _) _)).Zy (T:=172) (j:=1+t) (u:=Z2 ((kn:Int)+1)) Dc X5.out);rw[← hV6];clear hV6 hX6 e1 efz el X5 B4;have g0:V6.cell? ⟨w4.heap.size,0,none⟩=some (.int .i64 2):=Zc hC6 (k:=0) rfl;have g1:V6.cell? ⟨w4.heap.size,1,none⟩=some (.int .i64 (ln:Int)):=Zc hC6 (k:=1) rfl;have g2:V6.cell? ⟨w4.heap.size,2,none⟩=some (.int .i64 (rn:Int)):=Zc hC6 (k:=2) rfl;have g3:V6.cell? ⟨w4.heap.size,3,none⟩=some (.int .i64 val):=Zc hC6 (k:=3) rfl;have gl:=Zb g0;clear hC6;go_wp2_with fail
 (with_reducible refine(XJ 2 (ln:Int) (rn:Int) val V6).mono ?_);rintro e w7 ⟨rfl,hb7⟩
 have X7:=Za (X6.out.below hb7);have OW7:=Za (OW6.out.below hb7);have C7:=Za ((hb7.block w4.heap.size gl).trans C6.out);have B7:=Za (B6.out.trans (hb7.mono B6.out.size));have k7_0:w7.cell? ⟨w4.heap.size,0,none⟩=some (.int .i64 2):=Zc C7.out (k:=0) rfl;have k7_1:w7.cell? ⟨w4.heap.size,1,none⟩=some (.int .i64 (ln:Int)):=Zc C7.out (k:=1) rfl;have k7_2:w7.cell? ⟨w4.heap.size,2,none⟩=some (.int .i64 (rn:Int)):=Zc C7.out (k:=2) rfl;have k7_3:w7.cell? ⟨w4.heap.size,3,none⟩=some (.int .i64 val):=Zc C7.out (k:=3) rfl;have k7_l:=Zb k7_0;clear hb7 g0 g1 g2 g3 gl X6 OW6 C6 B6;have nl7:w.heap.size < w7.heap.size:=X7.out.lt;have fz7:=Z6 X7.out;have mw7:=(ZN.ZX X7.out).c3 ln hl3;have hr:Z8 2=false:=Dc;simp only[hr]
 go_upto_region 17 with fail
 (with_reducible refine(Q8 b t ln split w7 (HX.out.below B7.out).split Om Om).mono ?_);rintro e u ⟨rfl,rfl⟩
 rw[← HQ.out]
 go_upto_region 17 with fail
 have HDS:=Za (RJ (.inl rfl) HD.out);rw[← HQ.out,HRD.out]at HDS;obtain⟨hR0,hR3⟩:=HVR.out Dc;obtain⟨W1,hW1⟩:∃ W,W=w7.drew:=⟨_,rfl⟩
 have H1:Hid (Below W1.heap.size W1 w7.drew):=Za (by rw[hW1];exact Below.refl _ _);have X1:Hid (ZO W1 w.heap.size (.slice va n vc) split ⟨some ⟨cg,0,none⟩,us.length,cc⟩ ⟨⟨s.q.pc.set t ((kn:Int)+1),s.q.rg,s.q.mm⟩,s.bf⟩):=Za (by rw[hW1];exact X7.out);have OW1:Hid (Own Zw 39 W1 V1.heap.size (.slice (some ⟨cg,0,none⟩) us.length cc) us):=Za (by rw[hW1];exact OW7.out.below (Below.refl _ _).drew);have C1:Hid (W1.heap[w4.heap.size]? = some (.cells #[.int .i64 2,.int .i64 (ln:Int),.int .i64 (rn:Int),.int .i64 val] 44 (0,0))):=Za (by rw[hW1];exact C7.out);have B1:Hid (Below w.heap.size w W1):=Za (by rw[hW1];exact B7.out.drew);obtain⟨R,hR⟩:∃ R,R=ZL s.q t ⟨2,(ln:Int),(rn:Int),val⟩:=⟨_,rfl⟩
 have HST:Hid (∀ W,Below W1.heap.size W1 W→Calls Tryz.prog 198 #[.pointer (some ⟨b,0,none⟩),.int .i64 (t:Int),.agg #[.int .i64 2,.int .i64 (ln:Int),.int .i64 (rn:Int),.int .i64 val]] W fun e w'=>e = .returned (.int .u8 R)∧Below W.heap.size W w'):=Za fun W hW=>by
  rw[hR];exact Us b t rn 2 (ln:Int) val (.slice va n vc) s.q W (HV.out.below (B1.out.trans (hW.mono B1.out.size))) Om Om v0 v3
 have HCLB:Hid (∀ W,Below W1.heap.size W1 W→Calls Tryz.prog 237 #[.slice ra sn sk] W (Xm Zr 5 W (Z1 row))):=Za fun W hW=>VG (.slice ra sn sk) (Z1 row) W (HUR.out.below (B1.out.trans (hW.mono B1.out.size))) (by rw[List.length_map];have:=HRL.out;omega);rw[← hR]at HDS hR0 hR3;have HXL:Hid ((Z1 row).length≤42):=Za (by rw[List.length_map];exact HRL.out);have HER:Hid (Z1 (row++[((ln:Int),R)])=Z1 row++[(ln:Int) * 16+R]):=Za Sm;obtain⟨xs,hxs⟩:∃ xs,xs=Z1 row:=⟨_,rfl⟩
 rw[← hxs]at HCLB HXL HER;have j0:W1.cell? ⟨w4.heap.size,0,none⟩=some (.int .i64 2):=Zc C1.out (k:=0) rfl;have j1:W1.cell? ⟨w4.heap.size,1,none⟩=some (.int .i64 (ln:Int)):=Zc C1.out (k:=1) rfl;have j2:W1.cell? ⟨w4.heap.size,2,none⟩=some (.int .i64 (rn:Int)):=Zc C1.out (k:=2) rfl;have j3:W1.cell? ⟨w4.heap.size,3,none⟩=some (.int .i64 val):=Zc C1.out (k:=3) rfl;have jl:=Zb j1;have s17:W1.cell? ⟨w.heap.size,17,none⟩=some (.slice (some ⟨cg,0,none⟩) us.length cc):=X1.out.waits;have sl:=Zb s17;have b17:=(HX.out.below B1.out).waits;have bl1:=Zb b17;have r17:=(B1.out.cell (p:=⟨wb,wo+q,none⟩) HWL.out).trans HQ0.out;have rl1:=Zb r17;have hqu:(q:Int) < (us.length:Int):=by have h1:=HQS.out;have h2:=HUL.out;omega
 have hqw:(q:Int) < (wn:Int):=by have h1:=HWN.out;omega
 have w1:IntKind.u8.wrap (ln:Int)=(ln:Int):=by rw[IntKind.wrap_u8];omega
 have w2:IntKind.u8.wrap ((ln:Int) * 16)=(ln:Int) * 16:=by rw[IntKind.wrap_u8];omega
 have w3:IntKind.u8.wrap ((ln:Int) * 16+R)=(ln:Int) * 16+R:=by rw[IntKind.wrap_u8];omega
 clear k7_0 k7_1 k7_2 k7_3 k7_l fz7 nl7 mw7 hW1 hR hr X7 OW7 C7 B7 hR0 hR3 hxs
 -- ZQ bf2
 refine Zl (n:=25) Kr rfl Kr Kr (fun A ls a' W => ∃ (f:Zt) (g:Zt) (O:Nat) (x106 x107 x108 x109 x110 x111 x112 x113 x114 x115 x116 x117 x118 x119 x120 x121 x122 x123 x124 x125 x126 x127 x128 x129 x130:Value),a'=Zk A [(106,x106),(107,x107),(108,x108),(109,x109),(110,x110),(111,x111),(112,x112),(113,x113),(114,x114),(115,x115),(116,x116),(117,x117),(118,x118),(119,x119),(120,x120),(121,x121),(122,x122),(123,x123),(124,x124),(125,x125),(126,x126),(127,x127),(128,x128),(129,x129),(130,x130)]∧Vd ls 0 [] x106 (.pointer (some ⟨w.heap.size,17,none⟩))∧Vd ls 1 [] x107 (.slice (some ⟨cg,0,none⟩) us.length cc)∧Vd ls 2 [] x108 (.int .i64 (q:Int))∧Vd ls 3 [] x109 (.pointer (some ⟨b,0,none⟩))∧Vd ls 4 [] x110 (.pointer (some ⟨b,0,none⟩))∧Vd ls 5 [] x111 (.pointer (some ⟨b,17,none⟩))∧Vd ls 6 [] x112 (.slice (some ⟨wb,wo,none⟩) wn wk)∧Vd ls 7 [] x113 (.int .i64 (q:Int))∧Vd ls 8 [] x114 (.pointer (some ⟨wb,wo+q,none⟩))∧Vd ls 9 [] x115 (.slice ra sn sk)∧Vd ls 10 [] x116 (.slice f.a f.n f.cap)∧Vd ls 11 [] x117 (.pointer (some ⟨w4.heap.size,1,none⟩))∧Vd ls 12 [] x118 (.int .i64 (ln:Int))∧Vd ls 13 [] x119 (.int .u8 (ln:Int))∧Vd ls 14 [] x120 (.int .u8 ((ln:Int) * 16))∧Vd ls 15 [] x121 (.pointer (some ⟨b,0,none⟩))∧Vd ls 16 [] x122 (.pointer (some ⟨b,0,none⟩))∧Vd ls 17 [] x123 (.pointer (some ⟨b,0,none⟩))∧Vd ls 18 [] x124 (.int .i64 (t:Int))∧Vd ls 19 [] x125 (.agg #[.int .i64 2,.int .i64 (ln:Int),.int .i64 (rn:Int),.int .i64 val])∧Vd ls 20 [] x126 (.int .u8 R)∧Vd ls 21 [] x127 (.int .u8 ((ln:Int) * 16+R))∧Vd ls 22 [] x128 (.slice (some ⟨O,0,none⟩) 1 1)∧Vd ls 23 [10,22] x129 (.slice g.a g.n g.cap)∧Vd ls 24 [] x130 (.pointer (some ⟨cg,q,none⟩))∧JA W1 xs ((ln:Int) * 16+R) (fl ls 10) (fl ls 22) (fl ls 23) f g O W) ?r0 ?rs ?re
 case r0 =>
  exact⟨⟨none,0,0⟩,⟨none,0,0⟩,0,undef,undef,undef,undef,undef,undef,undef,undef,undef,undef,undef,undef,undef,undef,undef,undef,undef,undef,undef,undef,undef,undef,undef,undef,undef,pA,Vs,Vs,Vs,Vs,Vs,Vs,Vs,Vs,Vs,Vs,Vs,Vs,Vs,Vs,Vs,Vs,Vs,Vs,Vs,Vs,Vs,Vs,Vs,Vs,Vs,by simp only[Ye];exact JA.start W1 xs _ _ _ _ H1.out⟩
 case rs =>
  rintro ls a' W hs hnl ⟨f,g,O,x106,x107,x108,x109,x110,x111,x112,x113,x114,x115,x116,x117,x118,x119,x120,x121,x122,x123,x124,x125,x126,x127,x128,x129,x130,ha,cv0,cv1,cv2,cv3,cv4,cv5,cv6,cv7,cv8,cv9,cv10,cv11,cv12,cv13,cv14,cv15,cv16,cv17,cv18,cv19,cv20,cv21,cv22,cv23,cv24,hJ⟩ k o hkn mc K hK;simp only[Zk,Act.put,List.setIfInBounds_toArray,List.set_cons_succ,List.set_cons_zero]at ha;subst ha;have hkc:k=0∨k=1∨k=2∨k=3∨k=4∨k=5∨k=6∨k=7∨k=8∨k=9∨k=10∨k=11∨k=12∨k=13∨k=14∨k=15∨k=16∨k=17∨k=18∨k=19∨k=20∨k=21∨k=22∨k=23∨k=24:=Om;have hop:=mc.op;have haf:=mc.after;rcases hkc with rfl | rfl | rfl | rfl | rfl | rfl | rfl | rfl | rfl | rfl | rfl | rfl | rfl | rfl | rfl | rfl | rfl | rfl | rfl | rfl | rfl | rfl | rfl | rfl | rfl
  ·simp at hop;subst hop;simp[Region.binds]at haf
   go_simp;exact hK _ _ ⟨f,g,O,_,_,_,_,_,_,_,_,_,_,_,_,_,_,_,_,_,_,_,_,_,_,_,_,_,pA,Ve,cv1.s,cv2.s,cv3.s,cv4.s,cv5.s,cv6.s,cv7.s,cv8.s,cv9.s,cv10.s,cv11.s,cv12.s,cv13.s,cv14.s,cv15.s,cv16.s,cv17.s,cv18.s,cv19.s,cv20.s,cv21.s,cv22.s,cv23.s,cv24.s,by rw[fs 0 10,fs 0 22,fs 0 23];exact hJ⟩
  ·simp at hop;subst hop;simp[Region.binds]at haf
   obtain rfl:=(cv0.get (by simp[haf])).symm;have e17:=(hJ.bw.cell (p:=⟨w.heap.size,17,none⟩) sl).trans s17;have el:=Zb e17;go_simp;exact hK _ _ ⟨f,g,O,_,_,_,_,_,_,_,_,_,_,_,_,_,_,_,_,_,_,_,_,_,_,_,_,_,pA,cv0.s,Ve,cv2.s,cv3.s,cv4.s,cv5.s,cv6.s,cv7.s,cv8.s,cv9.s,cv10.s,cv11.s,cv12.s,cv13.s,cv14.s,cv15.s,cv16.s,cv17.s,cv18.s,cv19.s,cv20.s,cv21.s,cv22.s,cv23.s,cv24.s,by rw[fs 1 10,fs 1 22,fs 1 23];exact hJ⟩
  ·simp at hop;subst hop;simp[Region.binds]at haf
   go_simp;exact hK _ _ ⟨f,g,O,_,_,_,_,_,_,_,_,_,_,_,_,_,_,_,_,_,_,_,_,_,_,_,_,_,pA,cv0.s,cv1.s,Ve,cv3.s,cv4.s,cv5.s,cv6.s,cv7.s,cv8.s,cv9.s,cv10.s,cv11.s,cv12.s,cv13.s,cv14.s,cv15.s,cv16.s,cv17.s,cv18.s,cv19.s,cv20.s,cv21.s,cv22.s,cv23.s,cv24.s,by rw[fs 2 10,fs 2 22,fs 2 23];exact hJ⟩
  ·simp at hop;subst hop;simp[Region.binds]at haf
   go_simp;exact hK _ _ ⟨f,g,O,_,_,_,_,_,_,_,_,_,_,_,_,_,_,_,_,_,_,_,_,_,_,_,_,_,pA,cv0.s,cv1.s,cv2.s,Ve,cv4.s,cv5.s,cv6.s,cv7.s,cv8.s,cv9.s,cv10.s,cv11.s,cv12.s,cv13.s,cv14.s,cv15.s,cv16.s,cv17.s,cv18.s,cv19.s,cv20.s,cv21.s,cv22.s,cv23.s,cv24.s,by rw[fs 3 10,fs 3 22,fs 3 23];exact hJ⟩
  ·simp at hop;subst hop;simp[Region.binds]at haf
   obtain rfl:=(cv3.get (by simp[haf])).symm;have el:=Nat.lt_of_lt_of_le bl1 hJ.bw.size;go_simp;exact hK _ _ ⟨f,g,O,_,_,_,_,_,_,_,_,_,_,_,_,_,_,_,_,_,_,_,_,_,_,_,_,_,pA,cv0.s,cv1.s,cv2.s,cv3.s,Ve,cv5.s,cv6.s,cv7.s,cv8.s,cv9.s,cv10.s,cv11.s,cv12.s,cv13.s,cv14.s,cv15.s,cv16.s,cv17.s,cv18.s,cv19.s,cv20.s,cv21.s,cv22.s,cv23.s,cv24.s,by rw[fs 4 10,fs 4 22,fs 4 23];exact hJ⟩
  ·simp at hop;subst hop;simp[Region.binds]at haf
   obtain rfl:=(cv4.get (by simp[haf])).symm;go_simp;exact hK _ _ ⟨f,g,O,_,_,_,_,_,_,_,_,_,_,_,_,_,_,_,_,_,_,_,_,_,_,_,_,_,pA,cv0.s,cv1.s,cv2.s,cv3.s,cv4.s,Ve,cv6.s,cv7.s,cv8.s,cv9.s,cv10.s,cv11.s,cv12.s,cv13.s,cv14.s,cv15.s,cv16.s,cv17.s,cv18.s,cv19.s,cv20.s,cv21.s,cv22.s,cv23.s,cv24.s,by rw[fs 5 10,fs 5 22,fs 5 23];exact hJ⟩
  ·simp at hop;subst hop;simp[Region.binds]at haf
   obtain rfl:=(cv5.get (by simp[haf])).symm;have e17:=(hJ.bw.cell (p:=⟨b,17,none⟩) bl1).trans b17;have el:=Zb e17;go_simp;exact hK _ _ ⟨f,g,O,_,_,_,_,_,_,_,_,_,_,_,_,_,_,_,_,_,_,_,_,_,_,_,_,_,pA,cv0.s,cv1.s,cv2.s,cv3.s,cv4.s,cv5.s,Ve,cv7.s,cv8.s,cv9.s,cv10.s,cv11.s,cv12.s,cv13.s,cv14.s,cv15.s,cv16.s,cv17.s,cv18.s,cv19.s,cv20.s,cv21.s,cv22.s,cv23.s,cv24.s,by rw[fs 6 10,fs 6 22,fs 6 23];exact hJ⟩
  ·simp at hop;subst hop;simp[Region.binds]at haf
   go_simp;exact hK _ _ ⟨f,g,O,_,_,_,_,_,_,_,_,_,_,_,_,_,_,_,_,_,_,_,_,_,_,_,_,_,pA,cv0.s,cv1.s,cv2.s,cv3.s,cv4.s,cv5.s,cv6.s,Ve,cv8.s,cv9.s,cv10.s,cv11.s,cv12.s,cv13.s,cv14.s,cv15.s,cv16.s,cv17.s,cv18.s,cv19.s,cv20.s,cv21.s,cv22.s,cv23.s,cv24.s,by rw[fs 7 10,fs 7 22,fs 7 23];exact hJ⟩
  ·simp at hop;subst hop;simp[Region.binds]at haf
   obtain rfl:=(cv6.get (by simp[haf])).symm;obtain rfl:=(cv7.get (by simp[haf])).symm;go_simp;exact hK _ _ ⟨f,g,O,_,_,_,_,_,_,_,_,_,_,_,_,_,_,_,_,_,_,_,_,_,_,_,_,_,pA,cv0.s,cv1.s,cv2.s,cv3.s,cv4.s,cv5.s,cv6.s,cv7.s,Ve,cv9.s,cv10.s,cv11.s,cv12.s,cv13.s,cv14.s,cv15.s,cv16.s,cv17.s,cv18.s,cv19.s,cv20.s,cv21.s,cv22.s,cv23.s,cv24.s,by rw[fs 8 10,fs 8 22,fs 8 23];exact hJ⟩
  ·simp at hop;subst hop;simp[Region.binds]at haf
   obtain rfl:=(cv8.get (by simp[haf])).symm;have er:=(hJ.bw.cell (p:=⟨wb,wo+q,none⟩) rl1).trans r17;have el:=Zb er;go_simp;exact hK _ _ ⟨f,g,O,_,_,_,_,_,_,_,_,_,_,_,_,_,_,_,_,_,_,_,_,_,_,_,_,_,pA,cv0.s,cv1.s,cv2.s,cv3.s,cv4.s,cv5.s,cv6.s,cv7.s,cv8.s,Ve,cv10.s,cv11.s,cv12.s,cv13.s,cv14.s,cv15.s,cv16.s,cv17.s,cv18.s,cv19.s,cv20.s,cv21.s,cv22.s,cv23.s,cv24.s,by rw[fs 9 10,fs 9 22,fs 9 23];exact hJ⟩
  ·simp at hop;subst hop;simp[Region.binds]at haf
   obtain rfl:=(cv9.get (by simp[haf])).symm;have f10:=ZV mc.new;rw[f10]at hJ;go_simp;go_at_call 237
   (with_reducible refine(HCLB.out W hJ.bw).mono ?_);rintro e u ⟨vv,rfl,ho,hb⟩
   obtain⟨fa,fc,rfl,-⟩:=ho.rep.open;exact hK _ _ ⟨⟨fa,xs.length,fc⟩,g,O,_,_,_,_,_,_,_,_,_,_,_,_,_,_,_,_,_,_,_,_,_,_,_,_,_,pA,cv0.s,cv1.s,cv2.s,cv3.s,cv4.s,cv5.s,cv6.s,cv7.s,cv8.s,cv9.s,Ve,cv11.s,cv12.s,cv13.s,cv14.s,cv15.s,cv16.s,cv17.s,cv18.s,cv19.s,cv20.s,cv21.s,cv22.s,cv23.void Dc Dc mc.new,cv24.s,by rw[ZD hs Dc,fs 10 22,fs 10 23];exact hJ.clone (f':=⟨fa,xs.length,fc⟩) ho hb⟩
  ·simp at hop;subst hop;simp[Region.binds]at haf
   go_simp;exact hK _ _ ⟨f,g,O,_,_,_,_,_,_,_,_,_,_,_,_,_,_,_,_,_,_,_,_,_,_,_,_,_,pA,cv0.s,cv1.s,cv2.s,cv3.s,cv4.s,cv5.s,cv6.s,cv7.s,cv8.s,cv9.s,cv10.s,Ve,cv12.s,cv13.s,cv14.s,cv15.s,cv16.s,cv17.s,cv18.s,cv19.s,cv20.s,cv21.s,cv22.s,cv23.s,cv24.s,by rw[fs 11 10,fs 11 22,fs 11 23];exact hJ⟩
  ·simp at hop;subst hop;simp[Region.binds]at haf
   obtain rfl:=(cv11.get (by simp[haf])).symm;have BB:=hJ.bw;have e1:W.cell? ⟨w4.heap.size,1,none⟩=some (.int .i64 (ln:Int)):=(BB.cell (p:=⟨w4.heap.size,1,none⟩) jl).trans j1;have el:=Zb e1;go_simp;exact hK _ _ ⟨f,g,O,_,_,_,_,_,_,_,_,_,_,_,_,_,_,_,_,_,_,_,_,_,_,_,_,_,pA,cv0.s,cv1.s,cv2.s,cv3.s,cv4.s,cv5.s,cv6.s,cv7.s,cv8.s,cv9.s,cv10.s,cv11.s,Ve,cv13.s,cv14.s,cv15.s,cv16.s,cv17.s,cv18.s,cv19.s,cv20.s,cv21.s,cv22.s,cv23.s,cv24.s,by rw[fs 12 10,fs 12 22,fs 12 23];exact hJ⟩
  ·simp at hop;subst hop;simp[Region.binds]at haf
   obtain rfl:=(cv12.get (by simp[haf])).symm;go_simp;exact hK _ _ ⟨f,g,O,_,_,_,_,_,_,_,_,_,_,_,_,_,_,_,_,_,_,_,_,_,_,_,_,_,pA,cv0.s,cv1.s,cv2.s,cv3.s,cv4.s,cv5.s,cv6.s,cv7.s,cv8.s,cv9.s,cv10.s,cv11.s,cv12.s,Ve,cv14.s,cv15.s,cv16.s,cv17.s,cv18.s,cv19.s,cv20.s,cv21.s,cv22.s,cv23.s,cv24.s,by rw[fs 13 10,fs 13 22,fs 13 23];exact hJ⟩
  ·simp at hop;subst hop;simp[Region.binds]at haf
   obtain rfl:=(cv13.get (by simp[haf])).symm;go_simp;exact hK _ _ ⟨f,g,O,_,_,_,_,_,_,_,_,_,_,_,_,_,_,_,_,_,_,_,_,_,_,_,_,_,pA,cv0.s,cv1.s,cv2.s,cv3.s,cv4.s,cv5.s,cv6.s,cv7.s,cv8.s,cv9.s,cv10.s,cv11.s,cv12.s,cv13.s,Ve,cv15.s,cv16.s,cv17.s,cv18.s,cv19.s,cv20.s,cv21.s,cv22.s,cv23.s,cv24.s,by rw[fs 14 10,fs 14 22,fs 14 23];exact hJ⟩
  ·simp at hop;subst hop;simp[Region.binds]at haf
   go_simp;exact hK _ _ ⟨f,g,O,_,_,_,_,_,_,_,_,_,_,_,_,_,_,_,_,_,_,_,_,_,_,_,_,_,pA,cv0.s,cv1.s,cv2.s,cv3.s,cv4.s,cv5.s,cv6.s,cv7.s,cv8.s,cv9.s,cv10.s,cv11.s,cv12.s,cv13.s,cv14.s,Ve,cv16.s,cv17.s,cv18.s,cv19.s,cv20.s,cv21.s,cv22.s,cv23.s,cv24.s,by rw[fs 15 10,fs 15 22,fs 15 23];exact hJ⟩
  ·simp at hop;subst hop;simp[Region.binds]at haf
   obtain rfl:=(cv15.get (by simp[haf])).symm;have el:=Nat.lt_of_lt_of_le bl1 hJ.bw.size;go_simp;exact hK _ _ ⟨f,g,O,_,_,_,_,_,_,_,_,_,_,_,_,_,_,_,_,_,_,_,_,_,_,_,_,_,pA,cv0.s,cv1.s,cv2.s,cv3.s,cv4.s,cv5.s,cv6.s,cv7.s,cv8.s,cv9.s,cv10.s,cv11.s,cv12.s,cv13.s,cv14.s,cv15.s,Ve,cv17.s,cv18.s,cv19.s,cv20.s,cv21.s,cv22.s,cv23.s,cv24.s,by rw[fs 16 10,fs 16 22,fs 16 23];exact hJ⟩
  ·simp at hop;subst hop;simp[Region.binds]at haf
   obtain rfl:=(cv16.get (by simp[haf])).symm;go_simp;exact hK _ _ ⟨f,g,O,_,_,_,_,_,_,_,_,_,_,_,_,_,_,_,_,_,_,_,_,_,_,_,_,_,pA,cv0.s,cv1.s,cv2.s,cv3.s,cv4.s,cv5.s,cv6.s,cv7.s,cv8.s,cv9.s,cv10.s,cv11.s,cv12.s,cv13.s,cv14.s,cv15.s,cv16.s,Ve,cv18.s,cv19.s,cv20.s,cv21.s,cv22.s,cv23.s,cv24.s,by rw[fs 17 10,fs 17 22,fs 17 23];exact hJ⟩
  ·simp at hop;subst hop;simp[Region.binds]at haf
   go_simp;exact hK _ _ ⟨f,g,O,_,_,_,_,_,_,_,_,_,_,_,_,_,_,_,_,_,_,_,_,_,_,_,_,_,pA,cv0.s,cv1.s,cv2.s,cv3.s,cv4.s,cv5.s,cv6.s,cv7.s,cv8.s,cv9.s,cv10.s,cv11.s,cv12.s,cv13.s,cv14.s,cv15.s,cv16.s,cv17.s,Ve,cv19.s,cv20.s,cv21.s,cv22.s,cv23.s,cv24.s,by rw[fs 18 10,fs 18 22,fs 18 23];exact hJ⟩
  ·simp at hop;subst hop;simp[Region.binds]at haf
   have BB:=hJ.bw;have e0:W.cell? ⟨w4.heap.size,0,none⟩=some (.int .i64 2):=(BB.cell (p:=⟨w4.heap.size,0,none⟩) jl).trans j0;have e1:W.cell? ⟨w4.heap.size,1,none⟩=some (.int .i64 (ln:Int)):=(BB.cell (p:=⟨w4.heap.size,1,none⟩) jl).trans j1;have e2:W.cell? ⟨w4.heap.size,2,none⟩=some (.int .i64 (rn:Int)):=(BB.cell (p:=⟨w4.heap.size,2,none⟩) jl).trans j2;have e3:W.cell? ⟨w4.heap.size,3,none⟩=some (.int .i64 val):=(BB.cell (p:=⟨w4.heap.size,3,none⟩) jl).trans j3;have el:=Zb e1;go_simp;exact hK _ _ ⟨f,g,O,_,_,_,_,_,_,_,_,_,_,_,_,_,_,_,_,_,_,_,_,_,_,_,_,_,pA,cv0.s,cv1.s,cv2.s,cv3.s,cv4.s,cv5.s,cv6.s,cv7.s,cv8.s,cv9.s,cv10.s,cv11.s,cv12.s,cv13.s,cv14.s,cv15.s,cv16.s,cv17.s,cv18.s,Ve,cv20.s,cv21.s,cv22.s,cv23.s,cv24.s,by rw[fs 19 10,fs 19 22,fs 19 23];exact hJ⟩
  ·simp at hop;subst hop;simp[Region.binds]at haf
   obtain rfl:=(cv17.get (by simp[haf])).symm;obtain rfl:=(cv18.get (by simp[haf])).symm;obtain rfl:=(cv19.get (by simp[haf])).symm;go_simp;go_at_call 198
   (with_reducible refine(HST.out W hJ.bw).mono ?_);rintro e u ⟨rfl,hb⟩
   exact hK _ _ ⟨f,g,O,_,_,_,_,_,_,_,_,_,_,_,_,_,_,_,_,_,_,_,_,_,_,_,_,_,pA,cv0.s,cv1.s,cv2.s,cv3.s,cv4.s,cv5.s,cv6.s,cv7.s,cv8.s,cv9.s,cv10.s,cv11.s,cv12.s,cv13.s,cv14.s,cv15.s,cv16.s,cv17.s,cv18.s,cv19.s,Ve,cv21.s,cv22.s,cv23.s,cv24.s,by rw[fs 20 10,fs 20 22,fs 20 23];exact hJ.step hb⟩
  ·simp at hop;subst hop;simp[Region.binds]at haf
   obtain rfl:=(cv14.get (by simp[haf])).symm;obtain rfl:=(cv20.get (by simp[haf])).symm;go_simp;exact hK _ _ ⟨f,g,O,_,_,_,_,_,_,_,_,_,_,_,_,_,_,_,_,_,_,_,_,_,_,_,_,_,pA,cv0.s,cv1.s,cv2.s,cv3.s,cv4.s,cv5.s,cv6.s,cv7.s,cv8.s,cv9.s,cv10.s,cv11.s,cv12.s,cv13.s,cv14.s,cv15.s,cv16.s,cv17.s,cv18.s,cv19.s,cv20.s,Ve,cv22.s,cv23.s,cv24.s,by rw[fs 21 10,fs 21 22,fs 21 23];exact hJ⟩
  ·simp at hop;subst hop;simp[Region.binds]at haf
   obtain rfl:=(cv21.get (by simp[haf])).symm;have f22:=ZV mc.new;rw[f22]at hJ;go_simp;exact hK _ _ ⟨f,g,W.heap.size,_,_,_,_,_,_,_,_,_,_,_,_,_,_,_,_,_,_,_,_,_,_,_,_,_,pA,cv0.s,cv1.s,cv2.s,cv3.s,cv4.s,cv5.s,cv6.s,cv7.s,cv8.s,cv9.s,cv10.s,cv11.s,cv12.s,cv13.s,cv14.s,cv15.s,cv16.s,cv17.s,cv18.s,cv19.s,cv20.s,cv21.s,Ve,cv23.void Dc Dc mc.new,cv24.s,by rw[fs 22 10,ZD hs Dc,fs 22 23];exact hJ.lit⟩
  ·simp at hop;subst hop;simp[Region.binds]at haf
   obtain rfl:=(cv10.get (by simp[haf])).symm;obtain rfl:=(cv22.get (by simp[haf])).symm;have f23:=ZV mc.new;rw[f23]at hJ;have f10:=Zz (show ls[10]? = some true by simp[haf]);rw[f10]at hJ;have f22:=Zz (show ls[22]? = some true by simp[haf]);rw[f22]at hJ;refine ZT Zr 5 Tryz.XG rfl Tryz.underlying39 W1.heap.size f xs [(ln:Int) * 16+R] _ (hJ.cl rfl rfl) (Ra (hJ.lt rfl rfl)) Dc (by have:=HXL.out;simp;omega) hJ.bw.size Rf _ _ Rf Rf Rf ?_;intro g6 w6 hown6 hgr6 hat6;exact hK _ _ ⟨f,g6,O,_,_,_,_,_,_,_,_,_,_,_,_,_,_,_,_,_,_,_,_,_,_,_,_,_,pA,cv0.s,cv1.s,cv2.s,cv3.s,cv4.s,cv5.s,cv6.s,cv7.s,cv8.s,cv9.s,cv10.s,cv11.s,cv12.s,cv13.s,cv14.s,cv15.s,cv16.s,cv17.s,cv18.s,cv19.s,cv20.s,cv21.s,cv22.s,Vd.same (by simp[haf]),cv24.s,by rw[fs 23 10,fs 23 22,ZD hs Dc,f10,f22];exact hJ.app hown6 hgr6⟩
  ·simp at hop;subst hop;simp[Region.binds]at haf
   obtain rfl:=(cv1.get (by simp[haf])).symm;obtain rfl:=(cv2.get (by simp[haf])).symm;go_simp;exact hK _ _ ⟨f,g,O,_,_,_,_,_,_,_,_,_,_,_,_,_,_,_,_,_,_,_,_,_,_,_,_,_,pA,cv0.s,cv1.s,cv2.s,cv3.s,cv4.s,cv5.s,cv6.s,cv7.s,cv8.s,cv9.s,cv10.s,cv11.s,cv12.s,cv13.s,cv14.s,cv15.s,cv16.s,cv17.s,cv18.s,cv19.s,cv20.s,cv21.s,cv22.s,cv23.s,Ve,by rw[fs 24 10,fs 24 22,fs 24 23];exact hJ⟩
 case re =>
  rintro ls a' W hall ⟨f,g,O,x106,x107,x108,x109,x110,x111,x112,x113,x114,x115,x116,x117,x118,x119,x120,x121,x122,x123,x124,x125,x126,x127,x128,x129,x130,ha,cv0,cv1,cv2,cv3,cv4,cv5,cv6,cv7,cv8,cv9,cv10,cv11,cv12,cv13,cv14,cv15,cv16,cv17,cv18,cv19,cv20,cv21,cv22,cv23,cv24,hJ⟩ o hop;simp only[Zk,Act.put,List.setIfInBounds_toArray,List.set_cons_succ,List.set_cons_zero]at ha;subst ha;simp at hop;subst hop;obtain rfl:=cv0.ga hall;obtain rfl:=cv1.ga hall;obtain rfl:=cv2.ga hall;obtain rfl:=cv3.ga hall;obtain rfl:=cv4.ga hall;obtain rfl:=cv5.ga hall;obtain rfl:=cv6.ga hall;obtain rfl:=cv7.ga hall;obtain rfl:=cv8.ga hall;obtain rfl:=cv9.ga hall;obtain rfl:=cv10.ga hall;obtain rfl:=cv11.ga hall;obtain rfl:=cv12.ga hall;obtain rfl:=cv13.ga hall;obtain rfl:=cv14.ga hall;obtain rfl:=cv15.ga hall;obtain rfl:=cv16.ga hall;obtain rfl:=cv17.ga hall;obtain rfl:=cv18.ga hall
  obtain rfl:=cv19.ga hall;obtain rfl:=cv20.ga hall;obtain rfl:=cv21.ga hall;obtain rfl:=cv22.ga hall;obtain rfl:=cv23.ga hall;obtain rfl:=cv24.ga hall;rw[Zz (hall 10 Dc)]at hJ;rw[Zz (hall 22 Dc)]at hJ;rw[Zz (hall 23 Dc)]at hJ;have OWW:=OW1.out.below hJ.bw;have ck:W.cell? ⟨cg,q,none⟩=some (.slice ra sn sk):=by have:=OWW.cell HU.out (j:=0) rfl;simpa[Zw] using this
  have cl:=Zb ck;have fk:=OWW.frozen;go_simp;have hg:=hJ.ap rfl;have hbw:=hJ.bw;obtain⟨W9,hW9⟩:∃ V,V=W.setCell ⟨cg,q,none⟩ (.slice g.a g.n g.cap):=⟨_,rfl⟩
  have OW9:Hid (Own Zw 39 W9 V1.heap.size (.slice (some ⟨cg,0,none⟩) us.length cc) (us.set q g)):=Za (by
   rw[hW9];have:=OWW.set (i:=q) (j:=0) g (u:=.slice g.a g.n g.cap) Dc HU.out rfl;simp only[Zw,Nat.mul_one,Nat.add_zero]at this;exact this)
  have X9:Hid (ZO W9 w.heap.size (.slice va n vc) split ⟨some ⟨cg,0,none⟩,us.length,cc⟩ s'):=Za (by
   rw[hW9,HDS.out];exact(heap_setCell_other W ⟨cg,q,none⟩ w.heap.size _ (fun e=>HCN.out e.symm)).trans (X1.out.below hbw))
  have OG9:Hid (Own Zr 5 W9 W1.heap.size g.v (xs++[(ln:Int) * 16+R])):=Za (by
   rw[hW9];obtain⟨a,ha⟩:=OWW.Xa (g:=cg) rfl;exact hg.Zy (T:=39) Dc ha)
  have B9:Hid (Below w.heap.size w W9):=Za (by
   rw[hW9];exact(B1.out.trans (hbw.mono B1.out.size)).setCell (p:=⟨cg,q,none⟩) (by have h1:=HCG.out.1;have h2:=HLN.out;show w.heap.size≤cg;omega) _)
  rw[← hW9];clear hW9 hg hbw OWW ck cl fk hJ;go_wp2_with fail;go_ret;exact⟨w.heap.size,⟨some ⟨cg,0,none⟩,us.length,cc⟩,rfl,X9.out,Nat.le_refl _,B9.out,.inr ⟨q,row++[((ln:Int),R)],g,by rw[HDS.out],OW9.out.mono (Nat.le_of_lt HLN.out),by rw[HER.out];exact OG9.out.mono B1.out.size⟩⟩
 -- end bf2
end Go.Proofs.YtngekjpklkjnbaaGreat
/-
  A state with store buffers after a thread's move: a copy. Condition: a state as it can be, a valid instruction.
-/
import Derived.Test.YtlddmagfbcomgaaGreatZq16
set_option maxHeartbeats 6400000
set_option maxRecDepth 100000
namespace Go.Proofs.YtlddmagfbcomgaaGreat
open Go.RowKit
set_option linter.unusedSimpArgs false in
theorem bufThread3_any (b t:Nat) (vp:Value) (split:Bool) (wv:Slc) (us:List Slc) (p:List (List Ins)) (s s':Bf) (i:Ins) (w:World) (hp:RepP w vp p) (hx:BufB w b vp split wv s) (hus:Rep SlcE w wv.v us) (hul:us.length=s.bf.length)
 (hrows:∀ (k:Nat) (u:Slc) (r:List (Int × Int)),us[k]? = some u→s.bf[k]? = some r→Rep ByteE w u.v (encR2 r)) (hok:BfOk p split s) (hlen:∀ r∈s.bf,r.length≤42) (hpl:p.length≤3) (hpr:∀ r∈p,r.length≤7) (ht:t < p.length) (hi:sqIns p s.q t=some i) (hv:insValid i=true) (hop:i.op=3) (hd:bfDo s split t (s.q.pc.getD t 0) i=some s') :
 Calls Tryz.prog 250 #[.pointer (some ⟨b,0,none⟩), .int .i64 (t:Int)] w (RetTh w vp split s s' us):=by
 obtain ⟨va,vc,rfl,hc1,hc2,hc3,hp⟩:=hp.open
 obtain ⟨wa,wn,wk⟩:=wv
 obtain ⟨op,loc,reg,val⟩:=i
 simp only at hop
 subst hop
 obtain ⟨⟨l0,l2⟩,⟨r0,r2⟩,v0,v3⟩:=ins_ranges hv
 simp only at l0 l2 r0 r2 v0 v3
 obtain ⟨ln,rfl⟩:∃ ln:Nat,loc=ln:=⟨loc.toNat,by omega⟩
 obtain ⟨rn,rfl⟩:∃ rn:Nat,reg=rn:=⟨reg.toNat,by omega⟩
 obtain ⟨r,hr⟩:=get_of_lt (xs:=p) (k:=t) ht
 obtain ⟨k,hk⟩:=get_of_lt (xs:=s.q.pc) (k:=t) (by rw [hok.q.lp];exact ht)
 have hkr:=hok.q.pc t k r hk hr
 have hrl:=hpr r (List.mem_of_getElem? hr)
 obtain ⟨kn,rfl⟩:∃ kn:Nat,k=kn:=⟨k.toNat,by omega⟩
 have hkd:s.q.pc.getD t 0=(kn:Int):=by rw [List.getD_eq_getElem?_getD,hk];rfl
 have hk7:kn≤7:=by omega
 have hlb9:s.bf.length≤9:=by
  rw [hok.lb]
  have:bfN split≤3:=by cases split <;> simp [bfN]
  have:=Nat.mul_le_mul hpl this
  omega
 have hlb1:0 < s.bf.length:=by rw [hok.lb];exact Nat.mul_pos (by omega) (by cases split <;> simp [bfN])
 have HP:=hide hp;have HOK:=hide hok;have HPR:=hide hpr;have HKD:=hide hkd;have HI:=hide hi;have HT:=hide ht;have HPL:=hide hpl
 have HLEN:=hide hlen;have HBW:Hid (BufW w ⟨wa,wn,wk⟩ s):=hide ⟨us,by rw [List.length_map];exact hul,hus,fun k u r hu hr=>by
  rw [List.getElem?_map] at hr
  obtain ⟨r0,h,rfl⟩:=Option.map_eq_some_iff.1 hr
  exact hrows k u r0 hu h⟩
 have HVR:=hide (fun ho:isWop 3=true=>val_range (t:=t) hok.q.rg hv ho)
 rw [hkd] at hd
 have HD:=hide hd
 have hqs:bfPlace t (ln:Int) split < s.bf.length:=by rw [hok.lb];exact place_in ht (by omega)
 obtain ⟨row,hrow⟩:=get_of_lt (xs:=s.bf) (k:=bfPlace t (ln:Int) split) hqs
 obtain ⟨⟨ra,sn,sk⟩,hu⟩:=get_of_lt (xs:=us) (k:=bfPlace t (ln:Int) split) (by omega)
 have HUR:=hide (hrows _ _ _ hu hrow)
 have HRL:=hide (hlen row (List.mem_of_getElem? hrow))
 have HRD:=hide (show s.bf.getD (bfPlace t (ln:Int) split) []=row by rw [List.getD_eq_getElem?_getD,hrow];rfl)
 obtain ⟨wb,wo,hwa,hwl,q0⟩:=Rep.slc (show Rep SlcE w (.slice wa wn wk) us from hus) hu
 subst hwa
 obtain ⟨q,hq⟩:∃ q,q=bfPlace t (ln:Int) split:=⟨_,rfl⟩
 rw [← hq] at HRD hu q0 hqs
 have HQ:=hide hq;have HU:=hide hu;have HQ0:=hide q0;have HQS:=hide hqs;have HWL:=hide hwl
 clear hlen hd hq hu q0 hqs hwl hrow hrows
 have htl:(t:Int) < 3:=by omega
 have hrn3:(rn:Int) < 3:=by omega
 have hln3:(ln:Int) < 3:=by omega
 have ht3:t < 3:=by omega
 have hl3:ln < 3:=by omega
 have hr3:rn < 3:=by omega
 have HUS:=hide hus
 have HWN:Hid (wn=us.length):=hide (by obtain ⟨_,_,hv1, -⟩:=hus.open;simp only [Slc.v,Value.slice.injEq] at hv1;exact hv1.2.1)
 have HV:=hide (ValAt.ofMore hx)
 have HX:=hide hx
 have c0:=HV.out.c0
 have bl:=HV.out.lt
 have d16:=hx.split
 have d17:=hx.waits
 obtain ⟨d1,d2,d3,d4,d5,d6,d7,d8,d9,d10,d11,d12,d13,d14,d15⟩:=HV.out.regs
 have hsa:=@setCell_alloc
 have HUL:=hide hul;have HLB:=hide hlb9
 have hul9:us.length≤9:=by omega
 have hune:us≠[]:=fun e=>by rw [e] at hul;simp at hul;omega
 have hnt:¬ ((p.length:Int)≤(t:Int)):=by omega
 clear hp hx hus hul hlb9 hok hpr hkd hi hr hk hkr hrl hv
 generalize hn:p.length=n at *
 have HN:=hide hn
 clear hn
 obtain ⟨x1,hx1⟩:∃ x,x=s.q.pc.getD 0 0:=⟨_,rfl⟩
 obtain ⟨x2,hx2⟩:∃ x,x=s.q.pc.getD 1 0:=⟨_,rfl⟩
 obtain ⟨x3,hx3⟩:∃ x,x=s.q.pc.getD 2 0:=⟨_,rfl⟩
 obtain ⟨x4,hx4⟩:∃ x,x=s.q.rg.getD 0 0:=⟨_,rfl⟩
 obtain ⟨x5,hx5⟩:∃ x,x=s.q.rg.getD 1 0:=⟨_,rfl⟩
 obtain ⟨x6,hx6⟩:∃ x,x=s.q.rg.getD 2 0:=⟨_,rfl⟩
 obtain ⟨x7,hx7⟩:∃ x,x=s.q.rg.getD 3 0:=⟨_,rfl⟩
 obtain ⟨x8,hx8⟩:∃ x,x=s.q.rg.getD 4 0:=⟨_,rfl⟩
 obtain ⟨x9,hx9⟩:∃ x,x=s.q.rg.getD 5 0:=⟨_,rfl⟩
 obtain ⟨x10,hx10⟩:∃ x,x=s.q.rg.getD 6 0:=⟨_,rfl⟩
 obtain ⟨x11,hx11⟩:∃ x,x=s.q.rg.getD 7 0:=⟨_,rfl⟩
 obtain ⟨x12,hx12⟩:∃ x,x=s.q.rg.getD 8 0:=⟨_,rfl⟩
 obtain ⟨x13,hx13⟩:∃ x,x=s.q.mm.getD 0 0:=⟨_,rfl⟩
 obtain ⟨x14,hx14⟩:∃ x,x=s.q.mm.getD 1 0:=⟨_,rfl⟩
 obtain ⟨x15,hx15⟩:∃ x,x=s.q.mm.getD 2 0:=⟨_,rfl⟩
 have HA:Hid (valsA (.slice va n vc) s.q ++ #[.bool split, .slice (some ⟨wb,wo,none⟩) wn wk] = #[.slice va n vc, .int .u8 x1, .int .u8 x2, .int .u8 x3, .int .u8 x4, .int .u8 x5, .int .u8 x6, .int .u8 x7, .int .u8 x8, .int .u8 x9, .int .u8 x10, .int .u8 x11, .int .u8 x12, .int .u8 x13, .int .u8 x14, .int .u8 x15, .bool split, .slice (some ⟨wb,wo,none⟩) wn wk]):=hide (by rw [hx1,hx2,hx3,hx4,hx5,hx6,hx7,hx8,hx9,hx10,hx11,hx12,hx13,hx14,hx15];rfl)
 rw [← hx1] at d1;rw [← hx2] at d2;rw [← hx3] at d3;rw [← hx4] at d4;rw [← hx5] at d5;rw [← hx6] at d6;rw [← hx7] at d7;rw [← hx8] at d8;rw [← hx9] at d9;rw [← hx10] at d10;rw [← hx11] at d11;rw [← hx12] at d12;rw [← hx13] at d13;rw [← hx14] at d14;rw [← hx15] at d15
 clear hx1 hx2 hx3 hx4 hx5 hx6 hx7 hx8 hx9 hx10 hx11 hx12 hx13 hx14 hx15
 have HLD:Hid (w.rangeAt b 0 [.slice va n vc, .int .u8 x1, .int .u8 x2, .int .u8 x3, .int .u8 x4, .int .u8 x5, .int .u8 x6, .int .u8 x7, .int .u8 x8, .int .u8 x9, .int .u8 x10, .int .u8 x11, .int .u8 x12, .int .u8 x13, .int .u8 x14, .int .u8 x15, .bool split, .slice (some ⟨wb,wo,none⟩) wn wk]):=hide (by
  intro j v hj
  have h:w.heap[b]? = some (.cells #[.slice va n vc, .int .u8 x1, .int .u8 x2, .int .u8 x3, .int .u8 x4, .int .u8 x5, .int .u8 x6, .int .u8 x7, .int .u8 x8, .int .u8 x9, .int .u8 x10, .int .u8 x11, .int .u8 x12, .int .u8 x13, .int .u8 x14, .int .u8 x15, .bool split, .slice (some ⟨wb,wo,none⟩) wn wk] 167 (0,0)):=by rw [← HA.out];exact HX.out
  rw [Nat.zero_add]
  exact cellH h (by simpa using hj))
 have HON:Hid ((#[.slice va n vc, .int .u8 x1, .int .u8 x2, .int .u8 x3, .int .u8 x4, .int .u8 x5, .int .u8 x6, .int .u8 x7, .int .u8 x8, .int .u8 x9, .int .u8 x10, .int .u8 x11, .int .u8 x12, .int .u8 x13, .int .u8 x14, .int .u8 x15, .bool split, .slice (some ⟨wb,wo,none⟩) wn wk]:Array Value).all (fun v=>v.oneCell')=true):=hide (by simp [Value.oneCell'])
 obtain ⟨dB,hUB,hRB⟩:=rowBufs
 have HUB:=hide hUB;have HRB:=hide hRB
 clear hUB hRB
 go_enter Tryz.func250,Tryz.ntmps250
 iterate 23 (first | (refine wp_load_mid 167 (.tmp 12) rfl b 0 rfl [.slice va n vc, .int .u8 x1, .int .u8 x2, .int .u8 x3, .int .u8 x4, .int .u8 x5, .int .u8 x6, .int .u8 x7, .int .u8 x8, .int .u8 x9, .int .u8 x10, .int .u8 x11, .int .u8 x12, .int .u8 x13, .int .u8 x14, .int .u8 x15, .bool split, .slice (some ⟨wb,wo,none⟩) wn wk] dB HLD.out HUB.out HRB.out (by kernel_rfl) ?_;go_simp) | go_values | go_skip | go_guarded | go_step | go_upon)
 refine wp_store_new 167 (.tmp 5) (.tmp 13) rfl _ #[.slice va n vc, .int .u8 x1, .int .u8 x2, .int .u8 x3, .int .u8 x4, .int .u8 x5, .int .u8 x6, .int .u8 x7, .int .u8 x8, .int .u8 x9, .int .u8 x10, .int .u8 x11, .int .u8 x12, .int .u8 x13, .int .u8 x14, .int .u8 x15, .bool split, .slice (some ⟨wb,wo,none⟩) wn wk] rfl rfl (by kernel_rfl) rfl HON.out ?_
 go_simp
 go_wp2_with fail
 obtain ⟨V1,hV1⟩:∃ V1,V1=w.alloc (.cells #[.slice va n vc, .int .u8 x1, .int .u8 x2, .int .u8 x3, .int .u8 x4, .int .u8 x5, .int .u8 x6, .int .u8 x7, .int .u8 x8, .int .u8 x9, .int .u8 x10, .int .u8 x11, .int .u8 x12, .int .u8 x13, .int .u8 x14, .int .u8 x15, .bool split, .slice (some ⟨wb,wo,none⟩) wn wk] 167):=⟨_,rfl⟩
 have X1:Hid (BufB V1 w.heap.size (.slice va n vc) split ⟨some ⟨wb,wo,none⟩,wn,wk⟩ s):=hide (by rw [hV1];show _=some (Obj.cells (valsA (.slice va n vc) s.q++_) _ _);rw [HA.out];exact heap_alloc_new _ _)
 have B1:Hid (Below w.heap.size w V1):=hide (by rw [hV1];exact (Below.refl _ _).alloc (Nat.le_refl _) _)
 simp only [← hV1]
 clear hV1 d1 d2 d3 d4 d5 d6 d7 d8 d9 d10 d11 d12 d13 d14 d15 HA
 have HCL:=hide (cloneBB_any (.slice (some ⟨wb,wo,none⟩) wn wk) us V1 (HUS.out.below B1.out) (by omega))
 (with_reducible refine HCL.out.mono ?_);rintro e w2 ⟨vw,rfl,how,hb2⟩
 obtain ⟨cg,cc,rfl⟩:=own_some how hune
 have HOW:=hide how
 have hcg:=World.ownsRow.lt how cg rfl
 have hlN:w.heap.size < V1.heap.size:=X1.out.lt
 have B2:=hide (B1.out.trans (hb2.mono B1.out.size))
 have X2:=hide (X1.out.below hb2)
 have hX2:=X2.out
 have e17:=hX2.waits
 have efz:=frozH hX2
 have el:=hX2.lt
 clear hb2 HCL how hX2
 have X3:Hid (BufB (w2.setCell ⟨w.heap.size,17,none⟩ (.slice (some ⟨cg,0,none⟩) us.length cc)) w.heap.size (.slice va n vc) split ⟨some ⟨cg,0,none⟩,us.length,cc⟩ s):=hide (heap_setCell_same w2 w.heap.size 17 _ _ (.slice (some ⟨cg,0,none⟩) us.length cc) X2.out)
 have B3:Hid (Below w.heap.size w (w2.setCell ⟨w.heap.size,17,none⟩ (.slice (some ⟨cg,0,none⟩) us.length cc))):=hide (B2.out.setCell (p:=⟨w.heap.size,17,none⟩) (Nat.le_refl _) _)
 have g0:=(B3.out.cell (p:=⟨b,0,none⟩) bl).trans c0
 have bl2:b < w2.heap.size:=Nat.lt_of_lt_of_le bl B2.out.size
 have HCG:=hide hcg;have HLN:=hide hlN
 clear hune d16 d17 c0 hul9 hlN hcg hsa
 go_wp2_with fail
 clear e17 efz el g0
 obtain ⟨W3,hW3⟩:∃ W,W=w2.setCell ⟨w.heap.size,17,none⟩ (.slice (some ⟨cg,0,none⟩) us.length cc):=⟨_,rfl⟩
 have hcgne:cg≠w.heap.size:=by have h1:=HCG.out.1;have h2:=HLN.out;omega
 have OW3:Hid (Own SlcE 22 W3 V1.heap.size (.slice (some ⟨cg,0,none⟩) us.length cc) us):=hide (by
  rw [hW3]
  exact HOW.out.sameV0 fun q hq=>heap_setCell_other w2 ⟨w.heap.size,17,none⟩ q _ (show q≠w.heap.size by simp [Value.ownBlock] at hq;rw [← hq];exact hcgne))
 have HCN:=hide hcgne
 clear hcgne
 simp only [← hW3] at X3 B3 ⊢
 clear hW3 HOW X2 B2 X1 B1 bl2
 (with_reducible refine (next_any b t va n vc p s.q W3 (HP.out.below B3.out) (HV.out.below B3.out) HOK.out.q (by rw [HN.out];exact HPL.out) HPR.out (by rw [HN.out];exact HT.out)).mono ?_);rintro e w4 ⟨rfl,hb4⟩
 rw [HI.out]
 simp only [nxT]
 have bC:=(Below.refl w4.heap.size w4).alloc (Nat.le_refl _) (.cells #[.int .i64 3, .int .i64 (ln:Int), .int .i64 (rn:Int), .int .i64 val] 74)
 have X4:=hide (X3.out.below hb4)
 have B4:=hide (B3.out.trans (hb4.mono B3.out.size))
 have OW4:=hide (OW3.out.below hb4)
 have hl4:w.heap.size < w4.heap.size:=X4.out.lt
 have X5:=hide (X4.out.below bC)
 have e1:(w4.alloc (.cells #[.int .i64 3, .int .i64 (ln:Int), .int .i64 (rn:Int), .int .i64 val] 74)).cell? ⟨w.heap.size,1+t,none⟩=some (.int .u8 (kn:Int)):=by have h:=(ValAt.ofMore X5.out).c1 t ht3;rw [HKD.out] at h;exact h
 have efz:=frozH X5.out
 have el:w.heap.size < w4.heap.size+1:=by omega
 have hwk:IntKind.u8.wrap ((kn:Int)+1)=(kn:Int)+1:=by rw [IntKind.wrap_u8];omega
 have HL4:=hide hl4
 clear hb4 bC hl4 X3 B3 OW3
 go_upto_region 11 with fail
 obtain ⟨V6,hV6⟩:∃ V6,V6=(w4.alloc (.cells #[.int .i64 3, .int .i64 (ln:Int), .int .i64 (rn:Int), .int .i64 val] 74)).setCell ⟨w.heap.size,1+t,none⟩ (.int .u8 ((kn:Int)+1)):=⟨_,rfl⟩
 have hX6:BufB V6 w.heap.size (.slice va n vc) split ⟨some ⟨cg,0,none⟩,us.length,cc⟩ ⟨⟨s.q.pc.set t ((kn:Int)+1),s.q.rg,s.q.mm⟩,s.bf⟩:=by
  rw [hV6]
  have h:=heap_setCell_same (w4.alloc (.cells #[.int .i64 3, .int .i64 (ln:Int), .int .i64 (rn:Int), .int .i64 val] 74)) w.heap.size (1+t) _ _ (u8V ((kn:Int)+1)) X5.out
  rw [valsA_moreL _ s.q _ (by omega),valsA_setPc _ s.q ht3 (by rw [HOK.out.q.lp,HN.out];exact HT.out)] at h
  exact h
 have hC6:V6.heap[w4.heap.size]? = some (.cells #[.int .i64 3, .int .i64 (ln:Int), .int .i64 (rn:Int), .int .i64 val] 74 (0,0)):=by
  rw [hV6]
  exact (heap_setCell_other (w4.alloc (.cells #[.int .i64 3, .int .i64 (ln:Int), .int .i64 (rn:Int), .int .i64 val] 74)) ⟨w.heap.size,1+t,none⟩ w4.heap.size _ (show w4.heap.size≠w.heap.size by have:=HL4.out;omega)).trans (heap_alloc_new w4 _)
 have B6:Hid (Below w.heap.size w V6):=hide (by rw [hV6];exact (B4.out.alloc B4.out.size _).setCell (p:=⟨w.heap.size,1+t,none⟩) (Nat.le_refl _) _)
 have X6:=hide hX6;have C6:=hide hC6
 have OW6:Hid (Own SlcE 22 V6 V1.heap.size (.slice (some ⟨cg,0,none⟩) us.length cc) us):=hide (by rw [hV6];exact (OW4.out.below ((Below.refl _ _).alloc (Nat.le_refl _) _)).setOther (T:=167) (j:=1+t) (u:=u8V ((kn:Int)+1)) (by decide) X5.out)
 rw [← hV6]
 clear hV6 hX6 e1 efz el X5 B4
 have g0:V6.cell? ⟨w4.heap.size,0,none⟩=some (.int .i64 3):=cellH hC6 (k:=0) rfl
 have g1:V6.cell? ⟨w4.heap.size,1,none⟩=some (.int .i64 (ln:Int)):=cellH hC6 (k:=1) rfl
 have g2:V6.cell? ⟨w4.heap.size,2,none⟩=some (.int .i64 (rn:Int)):=cellH hC6 (k:=2) rfl
 have g3:V6.cell? ⟨w4.heap.size,3,none⟩=some (.int .i64 val):=cellH hC6 (k:=3) rfl
 have gl:=lt_of_cell g0
 clear hC6
 go_wp2_with fail
 (with_reducible refine (reads_raw 3 (ln:Int) (rn:Int) val V6).mono ?_);rintro e w7 ⟨rfl,hb7⟩
 have X7:=hide (X6.out.below hb7)
 have OW7:=hide (OW6.out.below hb7)
 have C7:=hide ((hb7.block w4.heap.size gl).trans C6.out)
 have B7:=hide (B6.out.trans (hb7.mono B6.out.size))
 have k7_0:w7.cell? ⟨w4.heap.size,0,none⟩=some (.int .i64 3):=cellH C7.out (k:=0) rfl
 have k7_1:w7.cell? ⟨w4.heap.size,1,none⟩=some (.int .i64 (ln:Int)):=cellH C7.out (k:=1) rfl
 have k7_2:w7.cell? ⟨w4.heap.size,2,none⟩=some (.int .i64 (rn:Int)):=cellH C7.out (k:=2) rfl
 have k7_3:w7.cell? ⟨w4.heap.size,3,none⟩=some (.int .i64 val):=cellH C7.out (k:=3) rfl
 have k7_l:=lt_of_cell k7_0
 clear hb7 g0 g1 g2 g3 gl X6 OW6 C6 B6
 have nl7:w.heap.size < w7.heap.size:=X7.out.lt
 have fz7:=frozH X7.out
 have mw7:=(ValAt.ofMore X7.out).c3 ln hl3
 have hr:isRop 3=false:=by decide
 simp only [hr]
 go_upto_region 17 with fail
 (with_reducible refine (buffer_any b t ln split w7 (HX.out.below B7.out).split (by omega) (by omega)).mono ?_);rintro e u ⟨rfl,rfl⟩
 rw [← HQ.out]
 go_upto_region 17 with fail
 have HDS:=hide (bfDo_put (.inr rfl) HD.out)
 rw [← HQ.out,HRD.out] at HDS
 obtain ⟨hR0,hR3⟩:=HVR.out (by decide)
 obtain ⟨W1,hW1⟩:∃ W,W=w7.drew:=⟨_,rfl⟩
 have H1:Hid (Below W1.heap.size W1 w7.drew):=hide (by rw [hW1];exact Below.refl _ _)
 have X1:Hid (BufB W1 w.heap.size (.slice va n vc) split ⟨some ⟨cg,0,none⟩,us.length,cc⟩ ⟨⟨s.q.pc.set t ((kn:Int)+1),s.q.rg,s.q.mm⟩,s.bf⟩):=hide (by rw [hW1];exact X7.out)
 have OW1:Hid (Own SlcE 22 W1 V1.heap.size (.slice (some ⟨cg,0,none⟩) us.length cc) us):=hide (by rw [hW1];exact OW7.out.below (Below.refl _ _).drew)
 have C1:Hid (W1.heap[w4.heap.size]? = some (.cells #[.int .i64 3, .int .i64 (ln:Int), .int .i64 (rn:Int), .int .i64 val] 74 (0,0))):=hide (by rw [hW1];exact C7.out)
 have B1:Hid (Below w.heap.size w W1):=hide (by rw [hW1];exact B7.out.drew)
 obtain ⟨R,hR⟩:∃ R,R=sqVal s.q t ⟨3,(ln:Int),(rn:Int),val⟩:=⟨_,rfl⟩
 have HST:Hid (∀ W,Below W1.heap.size W1 W→Calls Tryz.prog 248 #[.pointer (some ⟨b,0,none⟩), .int .i64 (t:Int), .agg #[.int .i64 3, .int .i64 (ln:Int), .int .i64 (rn:Int), .int .i64 val]] W fun e w'=>e = .returned (.int .u8 R)∧Below W.heap.size W w'):=hide fun W hW=>by
  rw [hR]
  exact stored_any b t rn 3 (ln:Int) val (.slice va n vc) s.q W (HV.out.below (B1.out.trans (hW.mono B1.out.size))) (by omega) (by omega) v0 v3
 have HCLB:Hid (∀ W,Below W1.heap.size W1 W→Calls Tryz.prog 257 #[.slice ra sn sk] W (RetOwn ByteE 5 W (encR2 row))):=hide fun W hW=>cloneB_any (.slice ra sn sk) (encR2 row) W (HUR.out.below (B1.out.trans (hW.mono B1.out.size))) (by rw [List.length_map];have:=HRL.out;omega)
 rw [← hR] at HDS hR0 hR3
 have HXL:Hid ((encR2 row).length≤42):=hide (by rw [List.length_map];exact HRL.out)
 have HER:Hid (encR2 (row++[((ln:Int),R)])=encR2 row++[(ln:Int) * 16+R]):=hide (by simp)
 obtain ⟨xs,hxs⟩:∃ xs,xs=encR2 row:=⟨_,rfl⟩
 rw [← hxs] at HCLB HXL HER
 have j0:W1.cell? ⟨w4.heap.size,0,none⟩=some (.int .i64 3):=cellH C1.out (k:=0) rfl
 have j1:W1.cell? ⟨w4.heap.size,1,none⟩=some (.int .i64 (ln:Int)):=cellH C1.out (k:=1) rfl
 have j2:W1.cell? ⟨w4.heap.size,2,none⟩=some (.int .i64 (rn:Int)):=cellH C1.out (k:=2) rfl
 have j3:W1.cell? ⟨w4.heap.size,3,none⟩=some (.int .i64 val):=cellH C1.out (k:=3) rfl
 have jl:=lt_of_cell j1
 have s17:W1.cell? ⟨w.heap.size,17,none⟩=some (.slice (some ⟨cg,0,none⟩) us.length cc):=X1.out.waits
 have sl:=lt_of_cell s17
 have b17:=(HX.out.below B1.out).waits
 have bl1:=lt_of_cell b17
 have r17:=(B1.out.cell (p:=⟨wb,wo+q,none⟩) HWL.out).trans HQ0.out
 have rl1:=lt_of_cell r17
 have hqu:(q:Int) < (us.length:Int):=by have h1:=HQS.out;have h2:=HUL.out;omega
 have hqw:(q:Int) < (wn:Int):=by have h1:=HWN.out;omega
 have w1:IntKind.u8.wrap (ln:Int)=(ln:Int):=by rw [IntKind.wrap_u8];omega
 have w2:IntKind.u8.wrap ((ln:Int) * 16)=(ln:Int) * 16:=by rw [IntKind.wrap_u8];omega
 have w3:IntKind.u8.wrap ((ln:Int) * 16+R)=(ln:Int) * 16+R:=by rw [IntKind.wrap_u8];omega
 clear k7_0 k7_1 k7_2 k7_3 k7_l fz7 nl7 mw7 hW1 hR hr X7 OW7 C7 B7 hR0 hR3 hxs
 -- reg bf3
 refine wp_region_inv3 (n:=25) (by kernel_rfl) rfl (by kernel_rfl) (by kernel_rfl) (fun A ls a' W => ∃ (f:Slc) (g:Slc) (O:Nat) (x106 x107 x108 x109 x110 x111 x112 x113 x114 x115 x116 x117 x118 x119 x120 x121 x122 x123 x124 x125 x126 x127 x128 x129 x130:Value),a'=putAll A [(106,x106),(107,x107),(108,x108),(109,x109),(110,x110),(111,x111),(112,x112),(113,x113),(114,x114),(115,x115),(116,x116),(117,x117),(118,x118),(119,x119),(120,x120),(121,x121),(122,x122),(123,x123),(124,x124),(125,x125),(126,x126),(127,x127),(128,x128),(129,x129),(130,x130)]∧Vd ls 0 [] x106 (.pointer (some ⟨w.heap.size,17,none⟩))∧Vd ls 1 [] x107 (.slice (some ⟨cg,0,none⟩) us.length cc)∧Vd ls 2 [] x108 (.int .i64 (q:Int))∧Vd ls 3 [] x109 (.pointer (some ⟨b,0,none⟩))∧Vd ls 4 [] x110 (.pointer (some ⟨b,0,none⟩))∧Vd ls 5 [] x111 (.pointer (some ⟨b,17,none⟩))∧Vd ls 6 [] x112 (.slice (some ⟨wb,wo,none⟩) wn wk)∧Vd ls 7 [] x113 (.int .i64 (q:Int))∧Vd ls 8 [] x114 (.pointer (some ⟨wb,wo+q,none⟩))∧Vd ls 9 [] x115 (.slice ra sn sk)∧Vd ls 10 [] x116 (.slice f.a f.n f.cap)∧Vd ls 11 [] x117 (.pointer (some ⟨w4.heap.size,1,none⟩))∧Vd ls 12 [] x118 (.int .i64 (ln:Int))∧Vd ls 13 [] x119 (.int .u8 (ln:Int))∧Vd ls 14 [] x120 (.int .u8 ((ln:Int) * 16))∧Vd ls 15 [] x121 (.pointer (some ⟨b,0,none⟩))∧Vd ls 16 [] x122 (.pointer (some ⟨b,0,none⟩))∧Vd ls 17 [] x123 (.pointer (some ⟨b,0,none⟩))∧Vd ls 18 [] x124 (.int .i64 (t:Int))∧Vd ls 19 [] x125 (.agg #[.int .i64 3, .int .i64 (ln:Int), .int .i64 (rn:Int), .int .i64 val])∧Vd ls 20 [] x126 (.int .u8 R)∧Vd ls 21 [] x127 (.int .u8 ((ln:Int) * 16+R))∧Vd ls 22 [] x128 (.slice (some ⟨O,0,none⟩) 1 1)∧Vd ls 23 [10,22] x129 (.slice g.a g.n g.cap)∧Vd ls 24 [] x130 (.pointer (some ⟨cg,q,none⟩))∧JA W1 xs ((ln:Int) * 16+R) (fl ls 10) (fl ls 22) (fl ls 23) f g O W) ?r0 ?rs ?re
 case r0 =>
  exact ⟨⟨none,0,0⟩,⟨none,0,0⟩,0,undef,undef,undef,undef,undef,undef,undef,undef,undef,undef,undef,undef,undef,undef,undef,undef,undef,undef,undef,undef,undef,undef,undef,undef,undef,by simp only [putAll,Act.put,List.setIfInBounds_toArray,List.set_cons_succ,List.set_cons_zero],Vd.start,Vd.start,Vd.start,Vd.start,Vd.start,Vd.start,Vd.start,Vd.start,Vd.start,Vd.start,Vd.start,Vd.start,Vd.start,Vd.start,Vd.start,Vd.start,Vd.start,Vd.start,Vd.start,Vd.start,Vd.start,Vd.start,Vd.start,Vd.start,Vd.start,by simp only [fl_start];exact JA.start W1 xs _ _ _ _ H1.out⟩
 case rs =>
  rintro ls a' W hs hnl ⟨f,g,O,x106,x107,x108,x109,x110,x111,x112,x113,x114,x115,x116,x117,x118,x119,x120,x121,x122,x123,x124,x125,x126,x127,x128,x129,x130,ha,cv0,cv1,cv2,cv3,cv4,cv5,cv6,cv7,cv8,cv9,cv10,cv11,cv12,cv13,cv14,cv15,cv16,cv17,cv18,cv19,cv20,cv21,cv22,cv23,cv24,hJ⟩ k o hkn mc K hK
  simp only [putAll,Act.put,List.setIfInBounds_toArray,List.set_cons_succ,List.set_cons_zero] at ha
  subst ha
  have hkc:k=0∨k=1∨k=2∨k=3∨k=4∨k=5∨k=6∨k=7∨k=8∨k=9∨k=10∨k=11∨k=12∨k=13∨k=14∨k=15∨k=16∨k=17∨k=18∨k=19∨k=20∨k=21∨k=22∨k=23∨k=24:=by omega
  have hop:=mc.op
  have haf:=mc.after
  rcases hkc with rfl | rfl | rfl | rfl | rfl | rfl | rfl | rfl | rfl | rfl | rfl | rfl | rfl | rfl | rfl | rfl | rfl | rfl | rfl | rfl | rfl | rfl | rfl | rfl | rfl
  ·simp at hop;subst hop;simp [Region.binds] at haf
   go_simp
   exact hK _ _ ⟨f,g,O,_,_,_,_,_,_,_,_,_,_,_,_,_,_,_,_,_,_,_,_,_,_,_,_,_,by simp only [putAll,Act.put,List.setIfInBounds_toArray,List.set_cons_succ,List.set_cons_zero],Vd.same (by simp),cv1.set (by decide),cv2.set (by decide),cv3.set (by decide),cv4.set (by decide),cv5.set (by decide),cv6.set (by decide),cv7.set (by decide),cv8.set (by decide),cv9.set (by decide),cv10.set (by decide),cv11.set (by decide),cv12.set (by decide),cv13.set (by decide),cv14.set (by decide),cv15.set (by decide),cv16.set (by decide),cv17.set (by decide),cv18.set (by decide),cv19.set (by decide),cv20.set (by decide),cv21.set (by decide),cv22.set (by decide),cv23.set (by decide),cv24.set (by decide),by rw [fl_set (show 0≠10 by decide),fl_set (show 0≠22 by decide),fl_set (show 0≠23 by decide)];exact hJ⟩
  ·simp at hop;subst hop;simp [Region.binds] at haf
   obtain rfl:=(cv0.get (by simp [haf])).symm
   have e17:=(hJ.bw.cell (p:=⟨w.heap.size,17,none⟩) sl).trans s17
   have el:=lt_of_cell e17
   go_simp
   exact hK _ _ ⟨f,g,O,_,_,_,_,_,_,_,_,_,_,_,_,_,_,_,_,_,_,_,_,_,_,_,_,_,by simp only [putAll,Act.put,List.setIfInBounds_toArray,List.set_cons_succ,List.set_cons_zero],cv0.set (by decide),Vd.same (by simp),cv2.set (by decide),cv3.set (by decide),cv4.set (by decide),cv5.set (by decide),cv6.set (by decide),cv7.set (by decide),cv8.set (by decide),cv9.set (by decide),cv10.set (by decide),cv11.set (by decide),cv12.set (by decide),cv13.set (by decide),cv14.set (by decide),cv15.set (by decide),cv16.set (by decide),cv17.set (by decide),cv18.set (by decide),cv19.set (by decide),cv20.set (by decide),cv21.set (by decide),cv22.set (by decide),cv23.set (by decide),cv24.set (by decide),by rw [fl_set (show 1≠10 by decide),fl_set (show 1≠22 by decide),fl_set (show 1≠23 by decide)];exact hJ⟩
  ·simp at hop;subst hop;simp [Region.binds] at haf
   go_simp
   exact hK _ _ ⟨f,g,O,_,_,_,_,_,_,_,_,_,_,_,_,_,_,_,_,_,_,_,_,_,_,_,_,_,by simp only [putAll,Act.put,List.setIfInBounds_toArray,List.set_cons_succ,List.set_cons_zero],cv0.set (by decide),cv1.set (by decide),Vd.same (by simp),cv3.set (by decide),cv4.set (by decide),cv5.set (by decide),cv6.set (by decide),cv7.set (by decide),cv8.set (by decide),cv9.set (by decide),cv10.set (by decide),cv11.set (by decide),cv12.set (by decide),cv13.set (by decide),cv14.set (by decide),cv15.set (by decide),cv16.set (by decide),cv17.set (by decide),cv18.set (by decide),cv19.set (by decide),cv20.set (by decide),cv21.set (by decide),cv22.set (by decide),cv23.set (by decide),cv24.set (by decide),by rw [fl_set (show 2≠10 by decide),fl_set (show 2≠22 by decide),fl_set (show 2≠23 by decide)];exact hJ⟩
  ·simp at hop;subst hop;simp [Region.binds] at haf
   go_simp
   exact hK _ _ ⟨f,g,O,_,_,_,_,_,_,_,_,_,_,_,_,_,_,_,_,_,_,_,_,_,_,_,_,_,by simp only [putAll,Act.put,List.setIfInBounds_toArray,List.set_cons_succ,List.set_cons_zero],cv0.set (by decide),cv1.set (by decide),cv2.set (by decide),Vd.same (by simp),cv4.set (by decide),cv5.set (by decide),cv6.set (by decide),cv7.set (by decide),cv8.set (by decide),cv9.set (by decide),cv10.set (by decide),cv11.set (by decide),cv12.set (by decide),cv13.set (by decide),cv14.set (by decide),cv15.set (by decide),cv16.set (by decide),cv17.set (by decide),cv18.set (by decide),cv19.set (by decide),cv20.set (by decide),cv21.set (by decide),cv22.set (by decide),cv23.set (by decide),cv24.set (by decide),by rw [fl_set (show 3≠10 by decide),fl_set (show 3≠22 by decide),fl_set (show 3≠23 by decide)];exact hJ⟩
  ·simp at hop;subst hop;simp [Region.binds] at haf
   obtain rfl:=(cv3.get (by simp [haf])).symm
   have el:=Nat.lt_of_lt_of_le bl1 hJ.bw.size
   go_simp
   exact hK _ _ ⟨f,g,O,_,_,_,_,_,_,_,_,_,_,_,_,_,_,_,_,_,_,_,_,_,_,_,_,_,by simp only [putAll,Act.put,List.setIfInBounds_toArray,List.set_cons_succ,List.set_cons_zero],cv0.set (by decide),cv1.set (by decide),cv2.set (by decide),cv3.set (by decide),Vd.same (by simp),cv5.set (by decide),cv6.set (by decide),cv7.set (by decide),cv8.set (by decide),cv9.set (by decide),cv10.set (by decide),cv11.set (by decide),cv12.set (by decide),cv13.set (by decide),cv14.set (by decide),cv15.set (by decide),cv16.set (by decide),cv17.set (by decide),cv18.set (by decide),cv19.set (by decide),cv20.set (by decide),cv21.set (by decide),cv22.set (by decide),cv23.set (by decide),cv24.set (by decide),by rw [fl_set (show 4≠10 by decide),fl_set (show 4≠22 by decide),fl_set (show 4≠23 by decide)];exact hJ⟩
  ·simp at hop;subst hop;simp [Region.binds] at haf
   obtain rfl:=(cv4.get (by simp [haf])).symm
   go_simp
   exact hK _ _ ⟨f,g,O,_,_,_,_,_,_,_,_,_,_,_,_,_,_,_,_,_,_,_,_,_,_,_,_,_,by simp only [putAll,Act.put,List.setIfInBounds_toArray,List.set_cons_succ,List.set_cons_zero],cv0.set (by decide),cv1.set (by decide),cv2.set (by decide),cv3.set (by decide),cv4.set (by decide),Vd.same (by simp),cv6.set (by decide),cv7.set (by decide),cv8.set (by decide),cv9.set (by decide),cv10.set (by decide),cv11.set (by decide),cv12.set (by decide),cv13.set (by decide),cv14.set (by decide),cv15.set (by decide),cv16.set (by decide),cv17.set (by decide),cv18.set (by decide),cv19.set (by decide),cv20.set (by decide),cv21.set (by decide),cv22.set (by decide),cv23.set (by decide),cv24.set (by decide),by rw [fl_set (show 5≠10 by decide),fl_set (show 5≠22 by decide),fl_set (show 5≠23 by decide)];exact hJ⟩
  ·simp at hop;subst hop;simp [Region.binds] at haf
   obtain rfl:=(cv5.get (by simp [haf])).symm
   have e17:=(hJ.bw.cell (p:=⟨b,17,none⟩) bl1).trans b17
   have el:=lt_of_cell e17
   go_simp
   exact hK _ _ ⟨f,g,O,_,_,_,_,_,_,_,_,_,_,_,_,_,_,_,_,_,_,_,_,_,_,_,_,_,by simp only [putAll,Act.put,List.setIfInBounds_toArray,List.set_cons_succ,List.set_cons_zero],cv0.set (by decide),cv1.set (by decide),cv2.set (by decide),cv3.set (by decide),cv4.set (by decide),cv5.set (by decide),Vd.same (by simp),cv7.set (by decide),cv8.set (by decide),cv9.set (by decide),cv10.set (by decide),cv11.set (by decide),cv12.set (by decide),cv13.set (by decide),cv14.set (by decide),cv15.set (by decide),cv16.set (by decide),cv17.set (by decide),cv18.set (by decide),cv19.set (by decide),cv20.set (by decide),cv21.set (by decide),cv22.set (by decide),cv23.set (by decide),cv24.set (by decide),by rw [fl_set (show 6≠10 by decide),fl_set (show 6≠22 by decide),fl_set (show 6≠23 by decide)];exact hJ⟩
  ·simp at hop;subst hop;simp [Region.binds] at haf
   go_simp
   exact hK _ _ ⟨f,g,O,_,_,_,_,_,_,_,_,_,_,_,_,_,_,_,_,_,_,_,_,_,_,_,_,_,by simp only [putAll,Act.put,List.setIfInBounds_toArray,List.set_cons_succ,List.set_cons_zero],cv0.set (by decide),cv1.set (by decide),cv2.set (by decide),cv3.set (by decide),cv4.set (by decide),cv5.set (by decide),cv6.set (by decide),Vd.same (by simp),cv8.set (by decide),cv9.set (by decide),cv10.set (by decide),cv11.set (by decide),cv12.set (by decide),cv13.set (by decide),cv14.set (by decide),cv15.set (by decide),cv16.set (by decide),cv17.set (by decide),cv18.set (by decide),cv19.set (by decide),cv20.set (by decide),cv21.set (by decide),cv22.set (by decide),cv23.set (by decide),cv24.set (by decide),by rw [fl_set (show 7≠10 by decide),fl_set (show 7≠22 by decide),fl_set (show 7≠23 by decide)];exact hJ⟩
  ·simp at hop;subst hop;simp [Region.binds] at haf
   obtain rfl:=(cv6.get (by simp [haf])).symm
   obtain rfl:=(cv7.get (by simp [haf])).symm
   go_simp
   exact hK _ _ ⟨f,g,O,_,_,_,_,_,_,_,_,_,_,_,_,_,_,_,_,_,_,_,_,_,_,_,_,_,by simp only [putAll,Act.put,List.setIfInBounds_toArray,List.set_cons_succ,List.set_cons_zero],cv0.set (by decide),cv1.set (by decide),cv2.set (by decide),cv3.set (by decide),cv4.set (by decide),cv5.set (by decide),cv6.set (by decide),cv7.set (by decide),Vd.same (by simp),cv9.set (by decide),cv10.set (by decide),cv11.set (by decide),cv12.set (by decide),cv13.set (by decide),cv14.set (by decide),cv15.set (by decide),cv16.set (by decide),cv17.set (by decide),cv18.set (by decide),cv19.set (by decide),cv20.set (by decide),cv21.set (by decide),cv22.set (by decide),cv23.set (by decide),cv24.set (by decide),by rw [fl_set (show 8≠10 by decide),fl_set (show 8≠22 by decide),fl_set (show 8≠23 by decide)];exact hJ⟩
  ·simp at hop;subst hop;simp [Region.binds] at haf
   obtain rfl:=(cv8.get (by simp [haf])).symm
   have er:=(hJ.bw.cell (p:=⟨wb,wo+q,none⟩) rl1).trans r17
   have el:=lt_of_cell er
   go_simp
   exact hK _ _ ⟨f,g,O,_,_,_,_,_,_,_,_,_,_,_,_,_,_,_,_,_,_,_,_,_,_,_,_,_,by simp only [putAll,Act.put,List.setIfInBounds_toArray,List.set_cons_succ,List.set_cons_zero],cv0.set (by decide),cv1.set (by decide),cv2.set (by decide),cv3.set (by decide),cv4.set (by decide),cv5.set (by decide),cv6.set (by decide),cv7.set (by decide),cv8.set (by decide),Vd.same (by simp),cv10.set (by decide),cv11.set (by decide),cv12.set (by decide),cv13.set (by decide),cv14.set (by decide),cv15.set (by decide),cv16.set (by decide),cv17.set (by decide),cv18.set (by decide),cv19.set (by decide),cv20.set (by decide),cv21.set (by decide),cv22.set (by decide),cv23.set (by decide),cv24.set (by decide),by rw [fl_set (show 9≠10 by decide),fl_set (show 9≠22 by decide),fl_set (show 9≠23 by decide)];exact hJ⟩
  ·simp at hop;subst hop;simp [Region.binds] at haf
   obtain rfl:=(cv9.get (by simp [haf])).symm
   have f10:=fl_no mc.new;rw [f10] at hJ
   go_simp
   go_at_call 257
   (with_reducible refine (HCLB.out W hJ.bw).mono ?_);rintro e u ⟨vv,rfl,ho,hb⟩
   obtain ⟨fa,fc,rfl, -⟩:=ho.rep.open
   exact hK _ _ ⟨⟨fa,xs.length,fc⟩,g,O,_,_,_,_,_,_,_,_,_,_,_,_,_,_,_,_,_,_,_,_,_,_,_,_,_,by simp only [putAll,Act.put,List.setIfInBounds_toArray,List.set_cons_succ,List.set_cons_zero],cv0.set (by decide),cv1.set (by decide),cv2.set (by decide),cv3.set (by decide),cv4.set (by decide),cv5.set (by decide),cv6.set (by decide),cv7.set (by decide),cv8.set (by decide),cv9.set (by decide),Vd.same (by simp),cv11.set (by decide),cv12.set (by decide),cv13.set (by decide),cv14.set (by decide),cv15.set (by decide),cv16.set (by decide),cv17.set (by decide),cv18.set (by decide),cv19.set (by decide),cv20.set (by decide),cv21.set (by decide),cv22.set (by decide),cv23.void (by decide) (by decide) mc.new,cv24.set (by decide),by rw [fl_got hs (by decide),fl_set (show 10≠22 by decide),fl_set (show 10≠23 by decide)];exact hJ.clone (f':=⟨fa,xs.length,fc⟩) ho hb⟩
  ·simp at hop;subst hop;simp [Region.binds] at haf
   go_simp
   exact hK _ _ ⟨f,g,O,_,_,_,_,_,_,_,_,_,_,_,_,_,_,_,_,_,_,_,_,_,_,_,_,_,by simp only [putAll,Act.put,List.setIfInBounds_toArray,List.set_cons_succ,List.set_cons_zero],cv0.set (by decide),cv1.set (by decide),cv2.set (by decide),cv3.set (by decide),cv4.set (by decide),cv5.set (by decide),cv6.set (by decide),cv7.set (by decide),cv8.set (by decide),cv9.set (by decide),cv10.set (by decide),Vd.same (by simp),cv12.set (by decide),cv13.set (by decide),cv14.set (by decide),cv15.set (by decide),cv16.set (by decide),cv17.set (by decide),cv18.set (by decide),cv19.set (by decide),cv20.set (by decide),cv21.set (by decide),cv22.set (by decide),cv23.set (by decide),cv24.set (by decide),by rw [fl_set (show 11≠10 by decide),fl_set (show 11≠22 by decide),fl_set (show 11≠23 by decide)];exact hJ⟩
  ·simp at hop;subst hop;simp [Region.binds] at haf
   obtain rfl:=(cv11.get (by simp [haf])).symm
   have BB:=hJ.bw
   have e1:W.cell? ⟨w4.heap.size,1,none⟩=some (.int .i64 (ln:Int)):=(BB.cell (p:=⟨w4.heap.size,1,none⟩) jl).trans j1
   have el:=lt_of_cell e1
   go_simp
   exact hK _ _ ⟨f,g,O,_,_,_,_,_,_,_,_,_,_,_,_,_,_,_,_,_,_,_,_,_,_,_,_,_,by simp only [putAll,Act.put,List.setIfInBounds_toArray,List.set_cons_succ,List.set_cons_zero],cv0.set (by decide),cv1.set (by decide),cv2.set (by decide),cv3.set (by decide),cv4.set (by decide),cv5.set (by decide),cv6.set (by decide),cv7.set (by decide),cv8.set (by decide),cv9.set (by decide),cv10.set (by decide),cv11.set (by decide),Vd.same (by simp),cv13.set (by decide),cv14.set (by decide),cv15.set (by decide),cv16.set (by decide),cv17.set (by decide),cv18.set (by decide),cv19.set (by decide),cv20.set (by decide),cv21.set (by decide),cv22.set (by decide),cv23.set (by decide),cv24.set (by decide),by rw [fl_set (show 12≠10 by decide),fl_set (show 12≠22 by decide),fl_set (show 12≠23 by decide)];exact hJ⟩
  ·simp at hop;subst hop;simp [Region.binds] at haf
   obtain rfl:=(cv12.get (by simp [haf])).symm
   go_simp
   exact hK _ _ ⟨f,g,O,_,_,_,_,_,_,_,_,_,_,_,_,_,_,_,_,_,_,_,_,_,_,_,_,_,by simp only [putAll,Act.put,List.setIfInBounds_toArray,List.set_cons_succ,List.set_cons_zero],cv0.set (by decide),cv1.set (by decide),cv2.set (by decide),cv3.set (by decide),cv4.set (by decide),cv5.set (by decide),cv6.set (by decide),cv7.set (by decide),cv8.set (by decide),cv9.set (by decide),cv10.set (by decide),cv11.set (by decide),cv12.set (by decide),Vd.same (by simp),cv14.set (by decide),cv15.set (by decide),cv16.set (by decide),cv17.set (by decide),cv18.set (by decide),cv19.set (by decide),cv20.set (by decide),cv21.set (by decide),cv22.set (by decide),cv23.set (by decide),cv24.set (by decide),by rw [fl_set (show 13≠10 by decide),fl_set (show 13≠22 by decide),fl_set (show 13≠23 by decide)];exact hJ⟩
  ·simp at hop;subst hop;simp [Region.binds] at haf
   obtain rfl:=(cv13.get (by simp [haf])).symm
   go_simp
   exact hK _ _ ⟨f,g,O,_,_,_,_,_,_,_,_,_,_,_,_,_,_,_,_,_,_,_,_,_,_,_,_,_,by simp only [putAll,Act.put,List.setIfInBounds_toArray,List.set_cons_succ,List.set_cons_zero],cv0.set (by decide),cv1.set (by decide),cv2.set (by decide),cv3.set (by decide),cv4.set (by decide),cv5.set (by decide),cv6.set (by decide),cv7.set (by decide),cv8.set (by decide),cv9.set (by decide),cv10.set (by decide),cv11.set (by decide),cv12.set (by decide),cv13.set (by decide),Vd.same (by simp),cv15.set (by decide),cv16.set (by decide),cv17.set (by decide),cv18.set (by decide),cv19.set (by decide),cv20.set (by decide),cv21.set (by decide),cv22.set (by decide),cv23.set (by decide),cv24.set (by decide),by rw [fl_set (show 14≠10 by decide),fl_set (show 14≠22 by decide),fl_set (show 14≠23 by decide)];exact hJ⟩
  ·simp at hop;subst hop;simp [Region.binds] at haf
   go_simp
   exact hK _ _ ⟨f,g,O,_,_,_,_,_,_,_,_,_,_,_,_,_,_,_,_,_,_,_,_,_,_,_,_,_,by simp only [putAll,Act.put,List.setIfInBounds_toArray,List.set_cons_succ,List.set_cons_zero],cv0.set (by decide),cv1.set (by decide),cv2.set (by decide),cv3.set (by decide),cv4.set (by decide),cv5.set (by decide),cv6.set (by decide),cv7.set (by decide),cv8.set (by decide),cv9.set (by decide),cv10.set (by decide),cv11.set (by decide),cv12.set (by decide),cv13.set (by decide),cv14.set (by decide),Vd.same (by simp),cv16.set (by decide),cv17.set (by decide),cv18.set (by decide),cv19.set (by decide),cv20.set (by decide),cv21.set (by decide),cv22.set (by decide),cv23.set (by decide),cv24.set (by decide),by rw [fl_set (show 15≠10 by decide),fl_set (show 15≠22 by decide),fl_set (show 15≠23 by decide)];exact hJ⟩
  ·simp at hop;subst hop;simp [Region.binds] at haf
   obtain rfl:=(cv15.get (by simp [haf])).symm
   have el:=Nat.lt_of_lt_of_le bl1 hJ.bw.size
   go_simp
   exact hK _ _ ⟨f,g,O,_,_,_,_,_,_,_,_,_,_,_,_,_,_,_,_,_,_,_,_,_,_,_,_,_,by simp only [putAll,Act.put,List.setIfInBounds_toArray,List.set_cons_succ,List.set_cons_zero],cv0.set (by decide),cv1.set (by decide),cv2.set (by decide),cv3.set (by decide),cv4.set (by decide),cv5.set (by decide),cv6.set (by decide),cv7.set (by decide),cv8.set (by decide),cv9.set (by decide),cv10.set (by decide),cv11.set (by decide),cv12.set (by decide),cv13.set (by decide),cv14.set (by decide),cv15.set (by decide),Vd.same (by simp),cv17.set (by decide),cv18.set (by decide),cv19.set (by decide),cv20.set (by decide),cv21.set (by decide),cv22.set (by decide),cv23.set (by decide),cv24.set (by decide),by rw [fl_set (show 16≠10 by decide),fl_set (show 16≠22 by decide),fl_set (show 16≠23 by decide)];exact hJ⟩
  ·simp at hop;subst hop;simp [Region.binds] at haf
   obtain rfl:=(cv16.get (by simp [haf])).symm
   go_simp
   exact hK _ _ ⟨f,g,O,_,_,_,_,_,_,_,_,_,_,_,_,_,_,_,_,_,_,_,_,_,_,_,_,_,by simp only [putAll,Act.put,List.setIfInBounds_toArray,List.set_cons_succ,List.set_cons_zero],cv0.set (by decide),cv1.set (by decide),cv2.set (by decide),cv3.set (by decide),cv4.set (by decide),cv5.set (by decide),cv6.set (by decide),cv7.set (by decide),cv8.set (by decide),cv9.set (by decide),cv10.set (by decide),cv11.set (by decide),cv12.set (by decide),cv13.set (by decide),cv14.set (by decide),cv15.set (by decide),cv16.set (by decide),Vd.same (by simp),cv18.set (by decide),cv19.set (by decide),cv20.set (by decide),cv21.set (by decide),cv22.set (by decide),cv23.set (by decide),cv24.set (by decide),by rw [fl_set (show 17≠10 by decide),fl_set (show 17≠22 by decide),fl_set (show 17≠23 by decide)];exact hJ⟩
  ·simp at hop;subst hop;simp [Region.binds] at haf
   go_simp
   exact hK _ _ ⟨f,g,O,_,_,_,_,_,_,_,_,_,_,_,_,_,_,_,_,_,_,_,_,_,_,_,_,_,by simp only [putAll,Act.put,List.setIfInBounds_toArray,List.set_cons_succ,List.set_cons_zero],cv0.set (by decide),cv1.set (by decide),cv2.set (by decide),cv3.set (by decide),cv4.set (by decide),cv5.set (by decide),cv6.set (by decide),cv7.set (by decide),cv8.set (by decide),cv9.set (by decide),cv10.set (by decide),cv11.set (by decide),cv12.set (by decide),cv13.set (by decide),cv14.set (by decide),cv15.set (by decide),cv16.set (by decide),cv17.set (by decide),Vd.same (by simp),cv19.set (by decide),cv20.set (by decide),cv21.set (by decide),cv22.set (by decide),cv23.set (by decide),cv24.set (by decide),by rw [fl_set (show 18≠10 by decide),fl_set (show 18≠22 by decide),fl_set (show 18≠23 by decide)];exact hJ⟩
  ·simp at hop;subst hop;simp [Region.binds] at haf
   have BB:=hJ.bw
   have e0:W.cell? ⟨w4.heap.size,0,none⟩=some (.int .i64 3):=(BB.cell (p:=⟨w4.heap.size,0,none⟩) jl).trans j0
   have e1:W.cell? ⟨w4.heap.size,1,none⟩=some (.int .i64 (ln:Int)):=(BB.cell (p:=⟨w4.heap.size,1,none⟩) jl).trans j1
   have e2:W.cell? ⟨w4.heap.size,2,none⟩=some (.int .i64 (rn:Int)):=(BB.cell (p:=⟨w4.heap.size,2,none⟩) jl).trans j2
   have e3:W.cell? ⟨w4.heap.size,3,none⟩=some (.int .i64 val):=(BB.cell (p:=⟨w4.heap.size,3,none⟩) jl).trans j3
   have el:=lt_of_cell e1
   go_simp
   exact hK _ _ ⟨f,g,O,_,_,_,_,_,_,_,_,_,_,_,_,_,_,_,_,_,_,_,_,_,_,_,_,_,by simp only [putAll,Act.put,List.setIfInBounds_toArray,List.set_cons_succ,List.set_cons_zero],cv0.set (by decide),cv1.set (by decide),cv2.set (by decide),cv3.set (by decide),cv4.set (by decide),cv5.set (by decide),cv6.set (by decide),cv7.set (by decide),cv8.set (by decide),cv9.set (by decide),cv10.set (by decide),cv11.set (by decide),cv12.set (by decide),cv13.set (by decide),cv14.set (by decide),cv15.set (by decide),cv16.set (by decide),cv17.set (by decide),cv18.set (by decide),Vd.same (by simp),cv20.set (by decide),cv21.set (by decide),cv22.set (by decide),cv23.set (by decide),cv24.set (by decide),by rw [fl_set (show 19≠10 by decide),fl_set (show 19≠22 by decide),fl_set (show 19≠23 by decide)];exact hJ⟩
  ·simp at hop;subst hop;simp [Region.binds] at haf
   obtain rfl:=(cv17.get (by simp [haf])).symm
   obtain rfl:=(cv18.get (by simp [haf])).symm
   obtain rfl:=(cv19.get (by simp [haf])).symm
   go_simp
   go_at_call 248
   (with_reducible refine (HST.out W hJ.bw).mono ?_);rintro e u ⟨rfl,hb⟩
   exact hK _ _ ⟨f,g,O,_,_,_,_,_,_,_,_,_,_,_,_,_,_,_,_,_,_,_,_,_,_,_,_,_,by simp only [putAll,Act.put,List.setIfInBounds_toArray,List.set_cons_succ,List.set_cons_zero],cv0.set (by decide),cv1.set (by decide),cv2.set (by decide),cv3.set (by decide),cv4.set (by decide),cv5.set (by decide),cv6.set (by decide),cv7.set (by decide),cv8.set (by decide),cv9.set (by decide),cv10.set (by decide),cv11.set (by decide),cv12.set (by decide),cv13.set (by decide),cv14.set (by decide),cv15.set (by decide),cv16.set (by decide),cv17.set (by decide),cv18.set (by decide),cv19.set (by decide),Vd.same (by simp),cv21.set (by decide),cv22.set (by decide),cv23.set (by decide),cv24.set (by decide),by rw [fl_set (show 20≠10 by decide),fl_set (show 20≠22 by decide),fl_set (show 20≠23 by decide)];exact hJ.step hb⟩
  ·simp at hop;subst hop;simp [Region.binds] at haf
   obtain rfl:=(cv14.get (by simp [haf])).symm
   obtain rfl:=(cv20.get (by simp [haf])).symm
   go_simp
   exact hK _ _ ⟨f,g,O,_,_,_,_,_,_,_,_,_,_,_,_,_,_,_,_,_,_,_,_,_,_,_,_,_,by simp only [putAll,Act.put,List.setIfInBounds_toArray,List.set_cons_succ,List.set_cons_zero],cv0.set (by decide),cv1.set (by decide),cv2.set (by decide),cv3.set (by decide),cv4.set (by decide),cv5.set (by decide),cv6.set (by decide),cv7.set (by decide),cv8.set (by decide),cv9.set (by decide),cv10.set (by decide),cv11.set (by decide),cv12.set (by decide),cv13.set (by decide),cv14.set (by decide),cv15.set (by decide),cv16.set (by decide),cv17.set (by decide),cv18.set (by decide),cv19.set (by decide),cv20.set (by decide),Vd.same (by simp),cv22.set (by decide),cv23.set (by decide),cv24.set (by decide),by rw [fl_set (show 21≠10 by decide),fl_set (show 21≠22 by decide),fl_set (show 21≠23 by decide)];exact hJ⟩
  ·simp at hop;subst hop;simp [Region.binds] at haf
   obtain rfl:=(cv21.get (by simp [haf])).symm
   have f22:=fl_no mc.new;rw [f22] at hJ
   go_simp
   exact hK _ _ ⟨f,g,W.heap.size,_,_,_,_,_,_,_,_,_,_,_,_,_,_,_,_,_,_,_,_,_,_,_,_,_,by simp only [putAll,Act.put,List.setIfInBounds_toArray,List.set_cons_succ,List.set_cons_zero],cv0.set (by decide),cv1.set (by decide),cv2.set (by decide),cv3.set (by decide),cv4.set (by decide),cv5.set (by decide),cv6.set (by decide),cv7.set (by decide),cv8.set (by decide),cv9.set (by decide),cv10.set (by decide),cv11.set (by decide),cv12.set (by decide),cv13.set (by decide),cv14.set (by decide),cv15.set (by decide),cv16.set (by decide),cv17.set (by decide),cv18.set (by decide),cv19.set (by decide),cv20.set (by decide),cv21.set (by decide),Vd.same (by simp),cv23.void (by decide) (by decide) mc.new,cv24.set (by decide),by rw [fl_set (show 22≠10 by decide),fl_got hs (by decide),fl_set (show 22≠23 by decide)];exact hJ.lit⟩
  ·simp at hop;subst hop;simp [Region.binds] at haf
   obtain rfl:=(cv10.get (by simp [haf])).symm
   obtain rfl:=(cv22.get (by simp [haf])).symm
   have f23:=fl_no mc.new;rw [f23] at hJ
   have f10:=fl_yes (show ls[10]? = some true by simp [haf]);rw [f10] at hJ
   have f22:=fl_yes (show ls[22]? = some true by simp [haf]);rw [f22] at hJ
   refine step_appSAtM ByteE 5 Tryz.infoU8I rfl Tryz.underlying22 W1.heap.size f xs [(ln:Int) * 16+R] _ (hJ.cl rfl rfl) (one_rep (hJ.lt rfl rfl)) (by decide) (by have:=HXL.out;simp;omega) hJ.bw.size (by rfl) _ _ (by rfl) (by rfl) (by rfl) ?_;intro g6 w6 hown6 hgr6 hat6
   exact hK _ _ ⟨f,g6,O,_,_,_,_,_,_,_,_,_,_,_,_,_,_,_,_,_,_,_,_,_,_,_,_,_,by simp only [putAll,Act.put,List.setIfInBounds_toArray,List.set_cons_succ,List.set_cons_zero],cv0.set (by decide),cv1.set (by decide),cv2.set (by decide),cv3.set (by decide),cv4.set (by decide),cv5.set (by decide),cv6.set (by decide),cv7.set (by decide),cv8.set (by decide),cv9.set (by decide),cv10.set (by decide),cv11.set (by decide),cv12.set (by decide),cv13.set (by decide),cv14.set (by decide),cv15.set (by decide),cv16.set (by decide),cv17.set (by decide),cv18.set (by decide),cv19.set (by decide),cv20.set (by decide),cv21.set (by decide),cv22.set (by decide),Vd.same (by simp [haf]),cv24.set (by decide),by rw [fl_set (show 23≠10 by decide),fl_set (show 23≠22 by decide),fl_got hs (by decide),f10,f22];exact hJ.app hown6 hgr6⟩
  ·simp at hop;subst hop;simp [Region.binds] at haf
   obtain rfl:=(cv1.get (by simp [haf])).symm
   obtain rfl:=(cv2.get (by simp [haf])).symm
   go_simp
   exact hK _ _ ⟨f,g,O,_,_,_,_,_,_,_,_,_,_,_,_,_,_,_,_,_,_,_,_,_,_,_,_,_,by simp only [putAll,Act.put,List.setIfInBounds_toArray,List.set_cons_succ,List.set_cons_zero],cv0.set (by decide),cv1.set (by decide),cv2.set (by decide),cv3.set (by decide),cv4.set (by decide),cv5.set (by decide),cv6.set (by decide),cv7.set (by decide),cv8.set (by decide),cv9.set (by decide),cv10.set (by decide),cv11.set (by decide),cv12.set (by decide),cv13.set (by decide),cv14.set (by decide),cv15.set (by decide),cv16.set (by decide),cv17.set (by decide),cv18.set (by decide),cv19.set (by decide),cv20.set (by decide),cv21.set (by decide),cv22.set (by decide),cv23.set (by decide),Vd.same (by simp),by rw [fl_set (show 24≠10 by decide),fl_set (show 24≠22 by decide),fl_set (show 24≠23 by decide)];exact hJ⟩
 case re =>
  rintro ls a' W hall ⟨f,g,O,x106,x107,x108,x109,x110,x111,x112,x113,x114,x115,x116,x117,x118,x119,x120,x121,x122,x123,x124,x125,x126,x127,x128,x129,x130,ha,cv0,cv1,cv2,cv3,cv4,cv5,cv6,cv7,cv8,cv9,cv10,cv11,cv12,cv13,cv14,cv15,cv16,cv17,cv18,cv19,cv20,cv21,cv22,cv23,cv24,hJ⟩ o hop
  simp only [putAll,Act.put,List.setIfInBounds_toArray,List.set_cons_succ,List.set_cons_zero] at ha
  subst ha
  simp at hop;subst hop
  obtain rfl:=(cv0.get (hall 0 (by decide))).symm
  obtain rfl:=(cv1.get (hall 1 (by decide))).symm
  obtain rfl:=(cv2.get (hall 2 (by decide))).symm
  obtain rfl:=(cv3.get (hall 3 (by decide))).symm
  obtain rfl:=(cv4.get (hall 4 (by decide))).symm
  obtain rfl:=(cv5.get (hall 5 (by decide))).symm
  obtain rfl:=(cv6.get (hall 6 (by decide))).symm
  obtain rfl:=(cv7.get (hall 7 (by decide))).symm
  obtain rfl:=(cv8.get (hall 8 (by decide))).symm
  obtain rfl:=(cv9.get (hall 9 (by decide))).symm
  obtain rfl:=(cv10.get (hall 10 (by decide))).symm
  obtain rfl:=(cv11.get (hall 11 (by decide))).symm
  obtain rfl:=(cv12.get (hall 12 (by decide))).symm
  obtain rfl:=(cv13.get (hall 13 (by decide))).symm
  obtain rfl:=(cv14.get (hall 14 (by decide))).symm
  obtain rfl:=(cv15.get (hall 15 (by decide))).symm
  obtain rfl:=(cv16.get (hall 16 (by decide))).symm
  obtain rfl:=(cv17.get (hall 17 (by decide))).symm
  obtain rfl:=(cv18.get (hall 18 (by decide))).symm
  obtain rfl:=(cv19.get (hall 19 (by decide))).symm
  obtain rfl:=(cv20.get (hall 20 (by decide))).symm
  obtain rfl:=(cv21.get (hall 21 (by decide))).symm
  obtain rfl:=(cv22.get (hall 22 (by decide))).symm
  obtain rfl:=(cv23.get (hall 23 (by decide))).symm
  obtain rfl:=(cv24.get (hall 24 (by decide))).symm
  rw [fl_yes (hall 10 (by decide))] at hJ
  rw [fl_yes (hall 22 (by decide))] at hJ
  rw [fl_yes (hall 23 (by decide))] at hJ
  have OWW:=OW1.out.below hJ.bw
  have ck:W.cell? ⟨cg,q,none⟩=some (.slice ra sn sk):=by have:=OWW.cell HU.out (j:=0) rfl;simpa [SlcE] using this
  have cl:=lt_of_cell ck
  have fk:=OWW.frozen
  go_simp
  have hg:=hJ.ap rfl
  have hbw:=hJ.bw
  obtain ⟨W9,hW9⟩:∃ V,V=W.setCell ⟨cg,q,none⟩ (.slice g.a g.n g.cap):=⟨_,rfl⟩
  have OW9:Hid (Own SlcE 22 W9 V1.heap.size (.slice (some ⟨cg,0,none⟩) us.length cc) (us.set q g)):=hide (by
   rw [hW9]
   have:=OWW.set (i:=q) (j:=0) g (u:=.slice g.a g.n g.cap) (by decide) HU.out rfl
   simp only [SlcE,Nat.mul_one,Nat.add_zero] at this
   exact this)
  have X9:Hid (BufB W9 w.heap.size (.slice va n vc) split ⟨some ⟨cg,0,none⟩,us.length,cc⟩ s'):=hide (by
   rw [hW9,HDS.out]
   exact (heap_setCell_other W ⟨cg,q,none⟩ w.heap.size _ (fun e=>HCN.out e.symm)).trans (X1.out.below hbw))
  have OG9:Hid (Own ByteE 5 W9 W1.heap.size g.v (xs++[(ln:Int) * 16+R])):=hide (by
   rw [hW9]
   obtain ⟨a,ha⟩:=OWW.typeT (g:=cg) rfl
   exact hg.setOther (T:=22) (by decide) ha)
  have B9:Hid (Below w.heap.size w W9):=hide (by
   rw [hW9]
   exact (B1.out.trans (hbw.mono B1.out.size)).setCell (p:=⟨cg,q,none⟩) (by have h1:=HCG.out.1;have h2:=HLN.out;show w.heap.size≤cg;omega) _)
  rw [← hW9]
  clear hW9 hg hbw OWW ck cl fk hJ
  go_wp2_with fail
  go_ret
  exact ⟨w.heap.size,⟨some ⟨cg,0,none⟩,us.length,cc⟩,rfl,X9.out,Nat.le_refl _,B9.out, .inr ⟨q,row++[((ln:Int),R)],g,by rw [HDS.out],OW9.out.mono (Nat.le_of_lt HLN.out),by rw [HER.out];exact OG9.out.mono B1.out.size⟩⟩
 -- end bf3
end Go.Proofs.YtlddmagfbcomgaaGreat
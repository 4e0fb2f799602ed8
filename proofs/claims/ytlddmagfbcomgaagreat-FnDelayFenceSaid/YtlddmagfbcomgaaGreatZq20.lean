/-
  A state with store buffers after a thread's move: a swap. Condition: a state as it can be, a valid instruction.
-/
import Derived.Test.YtlddmagfbcomgaaGreatZq16
set_option maxHeartbeats 6400000
set_option maxRecDepth 100000
namespace Go.Proofs.YtlddmagfbcomgaaGreat
open Go.RowKit
set_option linter.unusedSimpArgs false in
theorem bufThread5_any (b t:Nat) (vp:Value) (split:Bool) (wv:Slc) (us:List Slc) (p:List (List Ins)) (s s':Bf) (i:Ins) (w:World) (hp:RepP w vp p) (hx:BufB w b vp split wv s) (hus:Rep SlcE w wv.v us) (hul:us.length=s.bf.length)
 (hrows:∀ (k:Nat) (u:Slc) (r:List (Int × Int)),us[k]? = some u→s.bf[k]? = some r→Rep ByteE w u.v (encR2 r)) (hok:BfOk p split s) (hlen:∀ r∈s.bf,r.length≤42) (hpl:p.length≤3) (hpr:∀ r∈p,r.length≤7) (ht:t < p.length) (hi:sqIns p s.q t=some i) (hv:insValid i=true) (hop:i.op=5) (hd:bfDo s split t (s.q.pc.getD t 0) i=some s') :
 Calls Tryz.prog 250 #[.pointer (some ⟨b,0,none⟩), .int .i64 (t:Int)] w (RetTh w vp split s s' us):=by
 obtain ⟨va,vc,rfl,hc1,hc2,hc3,hp⟩:=hp.open
 obtain ⟨wa,wn,wk⟩:=wv
 obtain ⟨op,loc,reg,val⟩:=i
 simp only at hop
 subst hop
 obtain ⟨⟨l0,l2⟩,⟨r0,r2⟩,v0,v3⟩:=ins_ranges hv
 simp only at l0 l2 r0 r2 v0 v3
 obtain ⟨ln,rfl⟩:∃ ln:Nat,loc=ln:=⟨loc.toNat,by omega⟩
 obtain ⟨rn,rfl⟩:∃ rn:Nat,reg=rn:=⟨reg.toNat,by omega⟩
 obtain ⟨r,hr⟩:=get_of_lt (xs:=p) (k:=t) ht
 obtain ⟨k,hk⟩:=get_of_lt (xs:=s.q.pc) (k:=t) (by rw [hok.q.lp];exact ht)
 have hkr:=hok.q.pc t k r hk hr
 have hrl:=hpr r (List.mem_of_getElem? hr)
 obtain ⟨kn,rfl⟩:∃ kn:Nat,k=kn:=⟨k.toNat,by omega⟩
 have hkd:s.q.pc.getD t 0=(kn:Int):=by rw [List.getD_eq_getElem?_getD,hk];rfl
 have hk7:kn≤7:=by omega
 have hlb9:s.bf.length≤9:=by
  rw [hok.lb]
  have:bfN split≤3:=by cases split <;> simp [bfN]
  have:=Nat.mul_le_mul hpl this
  omega
 have hlb1:0 < s.bf.length:=by rw [hok.lb];exact Nat.mul_pos (by omega) (by cases split <;> simp [bfN])
 have HP:=hide hp;have HOK:=hide hok;have HPR:=hide hpr;have HKD:=hide hkd;have HI:=hide hi;have HT:=hide ht;have HPL:=hide hpl
 have HLEN:=hide hlen;have HBW:Hid (BufW w ⟨wa,wn,wk⟩ s):=hide ⟨us,by rw [List.length_map];exact hul,hus,fun k u r hu hr=>by
  rw [List.getElem?_map] at hr
  obtain ⟨r0,h,rfl⟩:=Option.map_eq_some_iff.1 hr
  exact hrows k u r0 hu h⟩
 have HVR:=hide (fun ho:isWop 5=true=>val_range (t:=t) hok.q.rg hv ho)
 rw [hkd] at hd
 have HD:=hide hd
 have hqs:bfPlace t (ln:Int) split < s.bf.length:=by rw [hok.lb];exact place_in ht (by omega)
 obtain ⟨row,hrow⟩:=get_of_lt (xs:=s.bf) (k:=bfPlace t (ln:Int) split) hqs
 obtain ⟨⟨ra,sn,sk⟩,hu⟩:=get_of_lt (xs:=us) (k:=bfPlace t (ln:Int) split) (by omega)
 have HUR:=hide (hrows _ _ _ hu hrow)
 have HRL:=hide (hlen row (List.mem_of_getElem? hrow))
 have HRD:=hide (show s.bf.getD (bfPlace t (ln:Int) split) []=row by rw [List.getD_eq_getElem?_getD,hrow];rfl)
 obtain ⟨wb,wo,hwa,hwl,q0⟩:=Rep.slc (show Rep SlcE w (.slice wa wn wk) us from hus) hu
 subst hwa
 obtain ⟨q,hq⟩:∃ q,q=bfPlace t (ln:Int) split:=⟨_,rfl⟩
 rw [← hq] at HRD hu q0 hqs
 have HQ:=hide hq;have HU:=hide hu;have HQ0:=hide q0;have HQS:=hide hqs;have HWL:=hide hwl
 clear hlen hd hq hu q0 hqs hwl hrow hrows
 have htl:(t:Int) < 3:=by omega
 have hrn3:(rn:Int) < 3:=by omega
 have hln3:(ln:Int) < 3:=by omega
 have ht3:t < 3:=by omega
 have hl3:ln < 3:=by omega
 have hr3:rn < 3:=by omega
 have HUS:=hide hus
 have HWN:Hid (wn=us.length):=hide (by obtain ⟨_,_,hv1, -⟩:=hus.open;simp only [Slc.v,Value.slice.injEq] at hv1;exact hv1.2.1)
 have HV:=hide (ValAt.ofMore hx)
 have HX:=hide hx
 have c0:=HV.out.c0
 have bl:=HV.out.lt
 have d16:=hx.split
 have d17:=hx.waits
 obtain ⟨d1,d2,d3,d4,d5,d6,d7,d8,d9,d10,d11,d12,d13,d14,d15⟩:=HV.out.regs
 have hsa:=@setCell_alloc
 have HUL:=hide hul;have HLB:=hide hlb9
 have hul9:us.length≤9:=by omega
 have hune:us≠[]:=fun e=>by rw [e] at hul;simp at hul;omega
 have hnt:¬ ((p.length:Int)≤(t:Int)):=by omega
 clear hp hx hus hul hlb9 hok hpr hkd hi hr hk hkr hrl hv
 generalize hn:p.length=n at *
 have HN:=hide hn
 clear hn
 obtain ⟨x1,hx1⟩:∃ x,x=s.q.pc.getD 0 0:=⟨_,rfl⟩
 obtain ⟨x2,hx2⟩:∃ x,x=s.q.pc.getD 1 0:=⟨_,rfl⟩
 obtain ⟨x3,hx3⟩:∃ x,x=s.q.pc.getD 2 0:=⟨_,rfl⟩
 obtain ⟨x4,hx4⟩:∃ x,x=s.q.rg.getD 0 0:=⟨_,rfl⟩
 obtain ⟨x5,hx5⟩:∃ x,x=s.q.rg.getD 1 0:=⟨_,rfl⟩
 obtain ⟨x6,hx6⟩:∃ x,x=s.q.rg.getD 2 0:=⟨_,rfl⟩
 obtain ⟨x7,hx7⟩:∃ x,x=s.q.rg.getD 3 0:=⟨_,rfl⟩
 obtain ⟨x8,hx8⟩:∃ x,x=s.q.rg.getD 4 0:=⟨_,rfl⟩
 obtain ⟨x9,hx9⟩:∃ x,x=s.q.rg.getD 5 0:=⟨_,rfl⟩
 obtain ⟨x10,hx10⟩:∃ x,x=s.q.rg.getD 6 0:=⟨_,rfl⟩
 obtain ⟨x11,hx11⟩:∃ x,x=s.q.rg.getD 7 0:=⟨_,rfl⟩
 obtain ⟨x12,hx12⟩:∃ x,x=s.q.rg.getD 8 0:=⟨_,rfl⟩
 obtain ⟨x13,hx13⟩:∃ x,x=s.q.mm.getD 0 0:=⟨_,rfl⟩
 obtain ⟨x14,hx14⟩:∃ x,x=s.q.mm.getD 1 0:=⟨_,rfl⟩
 obtain ⟨x15,hx15⟩:∃ x,x=s.q.mm.getD 2 0:=⟨_,rfl⟩
 have HA:Hid (valsA (.slice va n vc) s.q ++ #[.bool split, .slice (some ⟨wb,wo,none⟩) wn wk] = #[.slice va n vc, .int .u8 x1, .int .u8 x2, .int .u8 x3, .int .u8 x4, .int .u8 x5, .int .u8 x6, .int .u8 x7, .int .u8 x8, .int .u8 x9, .int .u8 x10, .int .u8 x11, .int .u8 x12, .int .u8 x13, .int .u8 x14, .int .u8 x15, .bool split, .slice (some ⟨wb,wo,none⟩) wn wk]):=hide (by rw [hx1,hx2,hx3,hx4,hx5,hx6,hx7,hx8,hx9,hx10,hx11,hx12,hx13,hx14,hx15];rfl)
 rw [← hx1] at d1;rw [← hx2] at d2;rw [← hx3] at d3;rw [← hx4] at d4;rw [← hx5] at d5;rw [← hx6] at d6;rw [← hx7] at d7;rw [← hx8] at d8;rw [← hx9] at d9;rw [← hx10] at d10;rw [← hx11] at d11;rw [← hx12] at d12;rw [← hx13] at d13;rw [← hx14] at d14;rw [← hx15] at d15
 clear hx1 hx2 hx3 hx4 hx5 hx6 hx7 hx8 hx9 hx10 hx11 hx12 hx13 hx14 hx15
 have HLD:Hid (w.rangeAt b 0 [.slice va n vc, .int .u8 x1, .int .u8 x2, .int .u8 x3, .int .u8 x4, .int .u8 x5, .int .u8 x6, .int .u8 x7, .int .u8 x8, .int .u8 x9, .int .u8 x10, .int .u8 x11, .int .u8 x12, .int .u8 x13, .int .u8 x14, .int .u8 x15, .bool split, .slice (some ⟨wb,wo,none⟩) wn wk]):=hide (by
  intro j v hj
  have h:w.heap[b]? = some (.cells #[.slice va n vc, .int .u8 x1, .int .u8 x2, .int .u8 x3, .int .u8 x4, .int .u8 x5, .int .u8 x6, .int .u8 x7, .int .u8 x8, .int .u8 x9, .int .u8 x10, .int .u8 x11, .int .u8 x12, .int .u8 x13, .int .u8 x14, .int .u8 x15, .bool split, .slice (some ⟨wb,wo,none⟩) wn wk] 167 (0,0)):=by rw [← HA.out];exact HX.out
  rw [Nat.zero_add]
  exact cellH h (by simpa using hj))
 have HON:Hid ((#[.slice va n vc, .int .u8 x1, .int .u8 x2, .int .u8 x3, .int .u8 x4, .int .u8 x5, .int .u8 x6, .int .u8 x7, .int .u8 x8, .int .u8 x9, .int .u8 x10, .int .u8 x11, .int .u8 x12, .int .u8 x13, .int .u8 x14, .int .u8 x15, .bool split, .slice (some ⟨wb,wo,none⟩) wn wk]:Array Value).all (fun v=>v.oneCell')=true):=hide (by simp [Value.oneCell'])
 obtain ⟨dB,hUB,hRB⟩:=rowBufs
 have HUB:=hide hUB;have HRB:=hide hRB
 clear hUB hRB
 go_enter Tryz.func250,Tryz.ntmps250
 iterate 23 (first | (refine wp_load_mid 167 (.tmp 12) rfl b 0 rfl [.slice va n vc, .int .u8 x1, .int .u8 x2, .int .u8 x3, .int .u8 x4, .int .u8 x5, .int .u8 x6, .int .u8 x7, .int .u8 x8, .int .u8 x9, .int .u8 x10, .int .u8 x11, .int .u8 x12, .int .u8 x13, .int .u8 x14, .int .u8 x15, .bool split, .slice (some ⟨wb,wo,none⟩) wn wk] dB HLD.out HUB.out HRB.out (by kernel_rfl) ?_;go_simp) | go_values | go_skip | go_guarded | go_step | go_upon)
 refine wp_store_new 167 (.tmp 5) (.tmp 13) rfl _ #[.slice va n vc, .int .u8 x1, .int .u8 x2, .int .u8 x3, .int .u8 x4, .int .u8 x5, .int .u8 x6, .int .u8 x7, .int .u8 x8, .int .u8 x9, .int .u8 x10, .int .u8 x11, .int .u8 x12, .int .u8 x13, .int .u8 x14, .int .u8 x15, .bool split, .slice (some ⟨wb,wo,none⟩) wn wk] rfl rfl (by kernel_rfl) rfl HON.out ?_
 go_simp
 go_wp2_with fail
 obtain ⟨V1,hV1⟩:∃ V1,V1=w.alloc (.cells #[.slice va n vc, .int .u8 x1, .int .u8 x2, .int .u8 x3, .int .u8 x4, .int .u8 x5, .int .u8 x6, .int .u8 x7, .int .u8 x8, .int .u8 x9, .int .u8 x10, .int .u8 x11, .int .u8 x12, .int .u8 x13, .int .u8 x14, .int .u8 x15, .bool split, .slice (some ⟨wb,wo,none⟩) wn wk] 167):=⟨_,rfl⟩
 have X1:Hid (BufB V1 w.heap.size (.slice va n vc) split ⟨some ⟨wb,wo,none⟩,wn,wk⟩ s):=hide (by rw [hV1];show _=some (Obj.cells (valsA (.slice va n vc) s.q++_) _ _);rw [HA.out];exact heap_alloc_new _ _)
 have B1:Hid (Below w.heap.size w V1):=hide (by rw [hV1];exact (Below.refl _ _).alloc (Nat.le_refl _) _)
 simp only [← hV1]
 clear hV1 d1 d2 d3 d4 d5 d6 d7 d8 d9 d10 d11 d12 d13 d14 d15 HA
 have HCL:=hide (cloneBB_any (.slice (some ⟨wb,wo,none⟩) wn wk) us V1 (HUS.out.below B1.out) (by omega))
 (with_reducible refine HCL.out.mono ?_);rintro e w2 ⟨vw,rfl,how,hb2⟩
 obtain ⟨cg,cc,rfl⟩:=own_some how hune
 have HOW:=hide how
 have hcg:=World.ownsRow.lt how cg rfl
 have hlN:w.heap.size < V1.heap.size:=X1.out.lt
 have B2:=hide (B1.out.trans (hb2.mono B1.out.size))
 have X2:=hide (X1.out.below hb2)
 have hX2:=X2.out
 have e17:=hX2.waits
 have efz:=frozH hX2
 have el:=hX2.lt
 clear hb2 HCL how hX2
 have X3:Hid (BufB (w2.setCell ⟨w.heap.size,17,none⟩ (.slice (some ⟨cg,0,none⟩) us.length cc)) w.heap.size (.slice va n vc) split ⟨some ⟨cg,0,none⟩,us.length,cc⟩ s):=hide (heap_setCell_same w2 w.heap.size 17 _ _ (.slice (some ⟨cg,0,none⟩) us.length cc) X2.out)
 have B3:Hid (Below w.heap.size w (w2.setCell ⟨w.heap.size,17,none⟩ (.slice (some ⟨cg,0,none⟩) us.length cc))):=hide (B2.out.setCell (p:=⟨w.heap.size,17,none⟩) (Nat.le_refl _) _)
 have g0:=(B3.out.cell (p:=⟨b,0,none⟩) bl).trans c0
 have bl2:b < w2.heap.size:=Nat.lt_of_lt_of_le bl B2.out.size
 have HCG:=hide hcg;have HLN:=hide hlN
 clear hune d16 d17 c0 hul9 hlN hcg hsa
 go_wp2_with fail
 clear e17 efz el g0
 obtain ⟨W3,hW3⟩:∃ W,W=w2.setCell ⟨w.heap.size,17,none⟩ (.slice (some ⟨cg,0,none⟩) us.length cc):=⟨_,rfl⟩
 have hcgne:cg≠w.heap.size:=by have h1:=HCG.out.1;have h2:=HLN.out;omega
 have OW3:Hid (Own SlcE 22 W3 V1.heap.size (.slice (some ⟨cg,0,none⟩) us.length cc) us):=hide (by
  rw [hW3]
  exact HOW.out.sameV0 fun q hq=>heap_setCell_other w2 ⟨w.heap.size,17,none⟩ q _ (show q≠w.heap.size by simp [Value.ownBlock] at hq;rw [← hq];exact hcgne))
 have HCN:=hide hcgne
 clear hcgne
 simp only [← hW3] at X3 B3 ⊢
 clear hW3 HOW X2 B2 X1 B1 bl2
 (with_reducible refine (next_any b t va n vc p s.q W3 (HP.out.below B3.out) (HV.out.below B3.out) HOK.out.q (by rw [HN.out];exact HPL.out) HPR.out (by rw [HN.out];exact HT.out)).mono ?_);rintro e w4 ⟨rfl,hb4⟩
 rw [HI.out]
 simp only [nxT]
 have bC:=(Below.refl w4.heap.size w4).alloc (Nat.le_refl _) (.cells #[.int .i64 5, .int .i64 (ln:Int), .int .i64 (rn:Int), .int .i64 val] 74)
 have X4:=hide (X3.out.below hb4)
 have B4:=hide (B3.out.trans (hb4.mono B3.out.size))
 have OW4:=hide (OW3.out.below hb4)
 have hl4:w.heap.size < w4.heap.size:=X4.out.lt
 have X5:=hide (X4.out.below bC)
 have e1:(w4.alloc (.cells #[.int .i64 5, .int .i64 (ln:Int), .int .i64 (rn:Int), .int .i64 val] 74)).cell? ⟨w.heap.size,1+t,none⟩=some (.int .u8 (kn:Int)):=by have h:=(ValAt.ofMore X5.out).c1 t ht3;rw [HKD.out] at h;exact h
 have efz:=frozH X5.out
 have el:w.heap.size < w4.heap.size+1:=by omega
 have hwk:IntKind.u8.wrap ((kn:Int)+1)=(kn:Int)+1:=by rw [IntKind.wrap_u8];omega
 have HL4:=hide hl4
 clear hb4 bC hl4 X3 B3 OW3
 go_upto_region 11 with fail
 obtain ⟨V6,hV6⟩:∃ V6,V6=(w4.alloc (.cells #[.int .i64 5, .int .i64 (ln:Int), .int .i64 (rn:Int), .int .i64 val] 74)).setCell ⟨w.heap.size,1+t,none⟩ (.int .u8 ((kn:Int)+1)):=⟨_,rfl⟩
 have hX6:BufB V6 w.heap.size (.slice va n vc) split ⟨some ⟨cg,0,none⟩,us.length,cc⟩ ⟨⟨s.q.pc.set t ((kn:Int)+1),s.q.rg,s.q.mm⟩,s.bf⟩:=by
  rw [hV6]
  have h:=heap_setCell_same (w4.alloc (.cells #[.int .i64 5, .int .i64 (ln:Int), .int .i64 (rn:Int), .int .i64 val] 74)) w.heap.size (1+t) _ _ (u8V ((kn:Int)+1)) X5.out
  rw [valsA_moreL _ s.q _ (by omega),valsA_setPc _ s.q ht3 (by rw [HOK.out.q.lp,HN.out];exact HT.out)] at h
  exact h
 have hC6:V6.heap[w4.heap.size]? = some (.cells #[.int .i64 5, .int .i64 (ln:Int), .int .i64 (rn:Int), .int .i64 val] 74 (0,0)):=by
  rw [hV6]
  exact (heap_setCell_other (w4.alloc (.cells #[.int .i64 5, .int .i64 (ln:Int), .int .i64 (rn:Int), .int .i64 val] 74)) ⟨w.heap.size,1+t,none⟩ w4.heap.size _ (show w4.heap.size≠w.heap.size by have:=HL4.out;omega)).trans (heap_alloc_new w4 _)
 have B6:Hid (Below w.heap.size w V6):=hide (by rw [hV6];exact (B4.out.alloc B4.out.size _).setCell (p:=⟨w.heap.size,1+t,none⟩) (Nat.le_refl _) _)
 have X6:=hide hX6;have C6:=hide hC6
 have OW6:Hid (Own SlcE 22 V6 V1.heap.size (.slice (some ⟨cg,0,none⟩) us.length cc) us):=hide (by rw [hV6];exact (OW4.out.below ((Below.refl _ _).alloc (Nat.le_refl _) _)).setOther (T:=167) (j:=1+t) (u:=u8V ((kn:Int)+1)) (by decide) X5.out)
 rw [← hV6]
 clear hV6 hX6 e1 efz el X5 B4
 have g0:V6.cell? ⟨w4.heap.size,0,none⟩=some (.int .i64 5):=cellH hC6 (k:=0) rfl
 have g1:V6.cell? ⟨w4.heap.size,1,none⟩=some (.int .i64 (ln:Int)):=cellH hC6 (k:=1) rfl
 have g2:V6.cell? ⟨w4.heap.size,2,none⟩=some (.int .i64 (rn:Int)):=cellH hC6 (k:=2) rfl
 have g3:V6.cell? ⟨w4.heap.size,3,none⟩=some (.int .i64 val):=cellH hC6 (k:=3) rfl
 have gl:=lt_of_cell g0
 clear hC6
 go_wp2_with fail
 (with_reducible refine (reads_raw 5 (ln:Int) (rn:Int) val V6).mono ?_);rintro e w7 ⟨rfl,hb7⟩
 have X7:=hide (X6.out.below hb7)
 have OW7:=hide (OW6.out.below hb7)
 have C7:=hide ((hb7.block w4.heap.size gl).trans C6.out)
 have B7:=hide (B6.out.trans (hb7.mono B6.out.size))
 have k7_0:w7.cell? ⟨w4.heap.size,0,none⟩=some (.int .i64 5):=cellH C7.out (k:=0) rfl
 have k7_1:w7.cell? ⟨w4.heap.size,1,none⟩=some (.int .i64 (ln:Int)):=cellH C7.out (k:=1) rfl
 have k7_2:w7.cell? ⟨w4.heap.size,2,none⟩=some (.int .i64 (rn:Int)):=cellH C7.out (k:=2) rfl
 have k7_3:w7.cell? ⟨w4.heap.size,3,none⟩=some (.int .i64 val):=cellH C7.out (k:=3) rfl
 have k7_l:=lt_of_cell k7_0
 clear hb7 g0 g1 g2 g3 gl X6 OW6 C6 B6
 have nl7:w.heap.size < w7.heap.size:=X7.out.lt
 have fz7:=frozH X7.out
 have mw7:=(ValAt.ofMore X7.out).c3 ln hl3
 have hr:isRop 5=true:=by decide
 simp only [hr]
 go_upto_region 12 with fail
 have hnt2:decide (n≤t)=false:=decide_eq_false (by omega)
 try simp only [hnt2]
 clear hnt2
 have HDS:=hide (bfDo_swap hl3 HD.out)
 obtain ⟨W1,hW1⟩:∃ W,W=w7.drew:=⟨_,rfl⟩
 have H1:Hid (Below W1.heap.size W1 w7.drew):=hide (by rw [hW1];exact Below.refl _ _)
 have X1:Hid (BufB W1 w.heap.size (.slice va n vc) split ⟨some ⟨cg,0,none⟩,us.length,cc⟩ ⟨⟨s.q.pc.set t ((kn:Int)+1),s.q.rg,s.q.mm⟩,s.bf⟩):=hide (by rw [hW1];exact X7.out)
 have OW1:Hid (Own SlcE 22 W1 V1.heap.size (.slice (some ⟨cg,0,none⟩) us.length cc) us):=hide (by rw [hW1];exact OW7.out.below (Below.refl _ _).drew)
 have C1:Hid (W1.heap[w4.heap.size]? = some (.cells #[.int .i64 5, .int .i64 (ln:Int), .int .i64 (rn:Int), .int .i64 val] 74 (0,0))):=hide (by rw [hW1];exact C7.out)
 have B1:Hid (Below w.heap.size w W1):=hide (by rw [hW1];exact B7.out.drew)
 obtain ⟨R,hR⟩:∃ R,R=bfSeen s t (ln:Int) split:=⟨_,rfl⟩
 have HRD2:Hid (∀ W,Below W1.heap.size W1 W→Calls Tryz.prog 255 #[.pointer (some ⟨b,0,none⟩), .int .i64 (t:Int), .int .i64 (ln:Int)] W fun e w'=>e = .returned (.int .u8 R)∧Below W.heap.size W w'):=hide fun W hW=>by
  have hbW:=B1.out.trans (hW.mono B1.out.size)
  rw [hR]
  exact bufRead_any b t ln (.slice va n vc) split ⟨some ⟨wb,wo,none⟩,wn,wk⟩ p s W (HX.out.below hbW) (HBW.out.below hbW) HOK.out (by rw [HN.out];exact HT.out) (by rw [HN.out];exact HPL.out) (by omega) (fun r hr=>Nat.le_trans (HLEN.out r hr) (by decide))
 rw [← hR] at HDS
 have j1:W1.cell? ⟨w4.heap.size,1,none⟩=some (.int .i64 (ln:Int)):=cellH C1.out (k:=1) rfl
 have j2:W1.cell? ⟨w4.heap.size,2,none⟩=some (.int .i64 (rn:Int)):=cellH C1.out (k:=2) rfl
 have jl:=lt_of_cell j1
 clear k7_0 k7_1 k7_2 k7_3 k7_l fz7 nl7 mw7 hW1 hR hr X7 OW7 C7 B7
 -- reg rd5
 refine wp_region_inv3 (n:=12) (by kernel_rfl) rfl (by kernel_rfl) (by kernel_rfl) (fun A ls a' W => ∃ (x84 x85 x86 x87 x88 x89 x90 x91 x92 x93 x94 x95:Value),a'=putAll A [(84,x84),(85,x85),(86,x86),(87,x87),(88,x88),(89,x89),(90,x90),(91,x91),(92,x92),(93,x93),(94,x94),(95,x95)]∧Vd ls 0 [] x84 (.int .i64 (t:Int))∧Vd ls 1 [] x85 (.pointer (some ⟨w4.heap.size,2,none⟩))∧Vd ls 2 [] x86 (.int .i64 (rn:Int))∧Vd ls 3 [] x87 (.pointer (some ⟨b,0,none⟩))∧Vd ls 4 [] x88 (.int .i64 (t:Int))∧Vd ls 5 [] x89 (.pointer (some ⟨w4.heap.size,1,none⟩))∧Vd ls 6 [] x90 (.int .i64 (ln:Int))∧Vd ls 7 [] x91 (.int .u8 R)∧Vd ls 8 [] x92 (.pointer (some ⟨w.heap.size,0,none⟩))∧Vd ls 9 [] x93 (.pointer (some ⟨w.heap.size,4,none⟩))∧Vd ls 10 [] x94 (.pointer (some ⟨w.heap.size,4+t * 3,none⟩))∧Vd ls 11 [] x95 (.pointer (some ⟨w.heap.size,4+t * 3+rn,none⟩))∧Below W1.heap.size W1 W) ?r0 ?rs ?re
 case r0 =>
  exact ⟨undef,undef,undef,undef,undef,undef,undef,undef,undef,undef,undef,undef,by simp only [putAll,Act.put,List.setIfInBounds_toArray,List.set_cons_succ,List.set_cons_zero],Vd.start,Vd.start,Vd.start,Vd.start,Vd.start,Vd.start,Vd.start,Vd.start,Vd.start,Vd.start,Vd.start,Vd.start,by exact H1.out⟩
 case rs =>
  rintro ls a' W hs hnl ⟨x84,x85,x86,x87,x88,x89,x90,x91,x92,x93,x94,x95,ha,cv0,cv1,cv2,cv3,cv4,cv5,cv6,cv7,cv8,cv9,cv10,cv11,hJ⟩ k o hkn mc K hK
  simp only [putAll,Act.put,List.setIfInBounds_toArray,List.set_cons_succ,List.set_cons_zero] at ha
  subst ha
  have hkc:k=0∨k=1∨k=2∨k=3∨k=4∨k=5∨k=6∨k=7∨k=8∨k=9∨k=10∨k=11:=by omega
  have hop:=mc.op
  have haf:=mc.after
  rcases hkc with rfl | rfl | rfl | rfl | rfl | rfl | rfl | rfl | rfl | rfl | rfl | rfl
  ·simp at hop;subst hop;simp [Region.binds] at haf
   go_simp
   exact hK _ _ ⟨_,_,_,_,_,_,_,_,_,_,_,_,by simp only [putAll,Act.put,List.setIfInBounds_toArray,List.set_cons_succ,List.set_cons_zero],Vd.same (by simp),cv1.set (by decide),cv2.set (by decide),cv3.set (by decide),cv4.set (by decide),cv5.set (by decide),cv6.set (by decide),cv7.set (by decide),cv8.set (by decide),cv9.set (by decide),cv10.set (by decide),cv11.set (by decide),by exact hJ⟩
  ·simp at hop;subst hop;simp [Region.binds] at haf
   go_simp
   exact hK _ _ ⟨_,_,_,_,_,_,_,_,_,_,_,_,by simp only [putAll,Act.put,List.setIfInBounds_toArray,List.set_cons_succ,List.set_cons_zero],cv0.set (by decide),Vd.same (by simp),cv2.set (by decide),cv3.set (by decide),cv4.set (by decide),cv5.set (by decide),cv6.set (by decide),cv7.set (by decide),cv8.set (by decide),cv9.set (by decide),cv10.set (by decide),cv11.set (by decide),by exact hJ⟩
  ·simp at hop;subst hop;simp [Region.binds] at haf
   obtain rfl:=(cv1.get (by simp [haf])).symm
   have BB:=hJ
   have e2:W.cell? ⟨w4.heap.size,2,none⟩=some (.int .i64 (rn:Int)):=(BB.cell (p:=⟨w4.heap.size,2,none⟩) jl).trans j2
   have el:=lt_of_cell e2
   go_simp
   exact hK _ _ ⟨_,_,_,_,_,_,_,_,_,_,_,_,by simp only [putAll,Act.put,List.setIfInBounds_toArray,List.set_cons_succ,List.set_cons_zero],cv0.set (by decide),cv1.set (by decide),Vd.same (by simp),cv3.set (by decide),cv4.set (by decide),cv5.set (by decide),cv6.set (by decide),cv7.set (by decide),cv8.set (by decide),cv9.set (by decide),cv10.set (by decide),cv11.set (by decide),by exact hJ⟩
  ·simp at hop;subst hop;simp [Region.binds] at haf
   go_simp
   exact hK _ _ ⟨_,_,_,_,_,_,_,_,_,_,_,_,by simp only [putAll,Act.put,List.setIfInBounds_toArray,List.set_cons_succ,List.set_cons_zero],cv0.set (by decide),cv1.set (by decide),cv2.set (by decide),Vd.same (by simp),cv4.set (by decide),cv5.set (by decide),cv6.set (by decide),cv7.set (by decide),cv8.set (by decide),cv9.set (by decide),cv10.set (by decide),cv11.set (by decide),by exact hJ⟩
  ·simp at hop;subst hop;simp [Region.binds] at haf
   go_simp
   exact hK _ _ ⟨_,_,_,_,_,_,_,_,_,_,_,_,by simp only [putAll,Act.put,List.setIfInBounds_toArray,List.set_cons_succ,List.set_cons_zero],cv0.set (by decide),cv1.set (by decide),cv2.set (by decide),cv3.set (by decide),Vd.same (by simp),cv5.set (by decide),cv6.set (by decide),cv7.set (by decide),cv8.set (by decide),cv9.set (by decide),cv10.set (by decide),cv11.set (by decide),by exact hJ⟩
  ·simp at hop;subst hop;simp [Region.binds] at haf
   go_simp
   exact hK _ _ ⟨_,_,_,_,_,_,_,_,_,_,_,_,by simp only [putAll,Act.put,List.setIfInBounds_toArray,List.set_cons_succ,List.set_cons_zero],cv0.set (by decide),cv1.set (by decide),cv2.set (by decide),cv3.set (by decide),cv4.set (by decide),Vd.same (by simp),cv6.set (by decide),cv7.set (by decide),cv8.set (by decide),cv9.set (by decide),cv10.set (by decide),cv11.set (by decide),by exact hJ⟩
  ·simp at hop;subst hop;simp [Region.binds] at haf
   obtain rfl:=(cv5.get (by simp [haf])).symm
   have BB:=hJ
   have e1:W.cell? ⟨w4.heap.size,1,none⟩=some (.int .i64 (ln:Int)):=(BB.cell (p:=⟨w4.heap.size,1,none⟩) jl).trans j1
   have el:=lt_of_cell e1
   go_simp
   exact hK _ _ ⟨_,_,_,_,_,_,_,_,_,_,_,_,by simp only [putAll,Act.put,List.setIfInBounds_toArray,List.set_cons_succ,List.set_cons_zero],cv0.set (by decide),cv1.set (by decide),cv2.set (by decide),cv3.set (by decide),cv4.set (by decide),cv5.set (by decide),Vd.same (by simp),cv7.set (by decide),cv8.set (by decide),cv9.set (by decide),cv10.set (by decide),cv11.set (by decide),by exact hJ⟩
  ·simp at hop;subst hop;simp [Region.binds] at haf
   obtain rfl:=(cv3.get (by simp [haf])).symm
   obtain rfl:=(cv4.get (by simp [haf])).symm
   obtain rfl:=(cv6.get (by simp [haf])).symm
   go_simp
   go_at_call 255
   (with_reducible refine (HRD2.out W hJ).mono ?_);rintro e u ⟨rfl,hb⟩
   exact hK _ _ ⟨_,_,_,_,_,_,_,_,_,_,_,_,by simp only [putAll,Act.put,List.setIfInBounds_toArray,List.set_cons_succ,List.set_cons_zero],cv0.set (by decide),cv1.set (by decide),cv2.set (by decide),cv3.set (by decide),cv4.set (by decide),cv5.set (by decide),cv6.set (by decide),Vd.same (by simp),cv8.set (by decide),cv9.set (by decide),cv10.set (by decide),cv11.set (by decide),by exact hJ.trans (hb.mono hJ.size)⟩
  ·simp at hop;subst hop;simp [Region.binds] at haf
   go_simp
   exact hK _ _ ⟨_,_,_,_,_,_,_,_,_,_,_,_,by simp only [putAll,Act.put,List.setIfInBounds_toArray,List.set_cons_succ,List.set_cons_zero],cv0.set (by decide),cv1.set (by decide),cv2.set (by decide),cv3.set (by decide),cv4.set (by decide),cv5.set (by decide),cv6.set (by decide),cv7.set (by decide),Vd.same (by simp),cv9.set (by decide),cv10.set (by decide),cv11.set (by decide),by exact hJ⟩
  ·simp at hop;subst hop;simp [Region.binds] at haf
   obtain rfl:=(cv8.get (by simp [haf])).symm
   go_simp
   exact hK _ _ ⟨_,_,_,_,_,_,_,_,_,_,_,_,by simp only [putAll,Act.put,List.setIfInBounds_toArray,List.set_cons_succ,List.set_cons_zero],cv0.set (by decide),cv1.set (by decide),cv2.set (by decide),cv3.set (by decide),cv4.set (by decide),cv5.set (by decide),cv6.set (by decide),cv7.set (by decide),cv8.set (by decide),Vd.same (by simp),cv10.set (by decide),cv11.set (by decide),by exact hJ⟩
  ·simp at hop;subst hop;simp [Region.binds] at haf
   obtain rfl:=(cv9.get (by simp [haf])).symm
   obtain rfl:=(cv0.get (by simp [haf])).symm
   go_simp
   exact hK _ _ ⟨_,_,_,_,_,_,_,_,_,_,_,_,by simp only [putAll,Act.put,List.setIfInBounds_toArray,List.set_cons_succ,List.set_cons_zero],cv0.set (by decide),cv1.set (by decide),cv2.set (by decide),cv3.set (by decide),cv4.set (by decide),cv5.set (by decide),cv6.set (by decide),cv7.set (by decide),cv8.set (by decide),cv9.set (by decide),Vd.same (by simp),cv11.set (by decide),by exact hJ⟩
  ·simp at hop;subst hop;simp [Region.binds] at haf
   obtain rfl:=(cv10.get (by simp [haf])).symm
   obtain rfl:=(cv2.get (by simp [haf])).symm
   go_simp
   exact hK _ _ ⟨_,_,_,_,_,_,_,_,_,_,_,_,by simp only [putAll,Act.put,List.setIfInBounds_toArray,List.set_cons_succ,List.set_cons_zero],cv0.set (by decide),cv1.set (by decide),cv2.set (by decide),cv3.set (by decide),cv4.set (by decide),cv5.set (by decide),cv6.set (by decide),cv7.set (by decide),cv8.set (by decide),cv9.set (by decide),cv10.set (by decide),Vd.same (by simp),by exact hJ⟩
 case re =>
  rintro ls a' W hall ⟨x84,x85,x86,x87,x88,x89,x90,x91,x92,x93,x94,x95,ha,cv0,cv1,cv2,cv3,cv4,cv5,cv6,cv7,cv8,cv9,cv10,cv11,hJ⟩ o hop
  simp only [putAll,Act.put,List.setIfInBounds_toArray,List.set_cons_succ,List.set_cons_zero] at ha
  subst ha
  simp at hop;subst hop
  obtain rfl:=(cv0.get (hall 0 (by decide))).symm
  obtain rfl:=(cv1.get (hall 1 (by decide))).symm
  obtain rfl:=(cv2.get (hall 2 (by decide))).symm
  obtain rfl:=(cv3.get (hall 3 (by decide))).symm
  obtain rfl:=(cv4.get (hall 4 (by decide))).symm
  obtain rfl:=(cv5.get (hall 5 (by decide))).symm
  obtain rfl:=(cv6.get (hall 6 (by decide))).symm
  obtain rfl:=(cv7.get (hall 7 (by decide))).symm
  obtain rfl:=(cv8.get (hall 8 (by decide))).symm
  obtain rfl:=(cv9.get (hall 9 (by decide))).symm
  obtain rfl:=(cv10.get (hall 10 (by decide))).symm
  obtain rfl:=(cv11.get (hall 11 (by decide))).symm
  have hbx:=X1.out.below hJ
  have c2:=(ValAt.ofMore hbx).c2 t ht3 rn hr3
  have cl:=lt_of_cell c2
  have cfz:=frozH hbx
  go_simp
  have h6:=heap_setCell_same W w.heap.size (4+t * 3+rn) _ _ (u8V R) hbx
  rw [valsA_moreL _ _ _ (by omega),valsA_setRg _ _ ht3 hr3 (by show t * 3+rn < s.q.rg.length;rw [HOK.out.q.lr,HN.out];have:=HT.out;omega)] at h6
  have CW:=(hJ.block w4.heap.size jl).trans C1.out
  obtain ⟨V8,hV8⟩:∃ V,V=W.setCell ⟨w.heap.size,4+t * 3+rn,none⟩ (.int .u8 R):=⟨_,rfl⟩
  have X8:Hid (BufB V8 w.heap.size (.slice va n vc) split ⟨some ⟨cg,0,none⟩,us.length,cc⟩ ⟨⟨s.q.pc.set t ((kn:Int)+1),s.q.rg.set (t * 3+rn) R,s.q.mm⟩,s.bf⟩):=hide (by rw [hV8];exact h6)
  have OW8:Hid (Own SlcE 22 V8 V1.heap.size (.slice (some ⟨cg,0,none⟩) us.length cc) us):=hide (by rw [hV8];exact (OW1.out.below hJ).setOther (T:=167) (by decide) hbx)
  have C8:Hid (V8.heap[w4.heap.size]? = some (.cells #[.int .i64 5, .int .i64 (ln:Int), .int .i64 (rn:Int), .int .i64 val] 74 (0,0))):=hide (by rw [hV8];exact (heap_setCell_other W ⟨w.heap.size,4+t * 3+rn,none⟩ w4.heap.size _ (show w4.heap.size≠w.heap.size by have:=HL4.out;omega)).trans CW)
  have B8:Hid (Below w.heap.size w V8):=hide (by rw [hV8];exact (B1.out.trans (hJ.mono B1.out.size)).setCell (p:=⟨w.heap.size,4+t * 3+rn,none⟩) (Nat.le_refl _) _)
  rw [← hV8]
  clear hV8 h6 CW hbx c2 cl cfz hJ j1 j2 jl X1 OW1 C1 B1
  have k8_0:V8.cell? ⟨w4.heap.size,0,none⟩=some (.int .i64 5):=cellH C8.out (k:=0) rfl
  have k8_1:V8.cell? ⟨w4.heap.size,1,none⟩=some (.int .i64 (ln:Int)):=cellH C8.out (k:=1) rfl
  have k8_3:V8.cell? ⟨w4.heap.size,3,none⟩=some (.int .i64 val):=cellH C8.out (k:=3) rfl
  have k8_l:=lt_of_cell k8_0
  have nl8:=X8.out.lt
  have fz8:=frozH X8.out
  have mw8:=(ValAt.ofMore X8.out).c3 ln hl3
  have wv:IntKind.u8.wrap val=val:=by rw [IntKind.wrap_u8];omega
  go_wp2_with fail
  have h8:=heap_setCell_same V8 w.heap.size (13+ln) _ _ (u8V val) X8.out
  rw [valsA_more _ _ _ hl3,valsA_setMm _ _ hl3 (by show ln < s.q.mm.length;rw [HOK.out.q.lm];exact hl3)] at h8
  have FX:Hid (BufB (V8.setCell ⟨w.heap.size,13+ln,none⟩ (u8V val)) w.heap.size (.slice va n vc) split ⟨some ⟨cg,0,none⟩,us.length,cc⟩ s'):=hide (by rw [HDS.out];exact h8)
  have FO:=hide ((OW8.out.setOther (T:=167) (j:=13+ln) (u:=u8V val) (by decide) X8.out).mono (Nat.le_of_lt HLN.out))
  have FW:=hide (B8.out.setCell (p:=⟨w.heap.size,13+ln,none⟩) (Nat.le_refl _) (u8V val))
  clear h8
  go_ret
  exact ⟨w.heap.size,⟨some ⟨cg,0,none⟩,us.length,cc⟩,rfl,FX.out,Nat.le_refl _,FW.out, .inl ⟨by rw [HDS.out],FO.out⟩⟩
 -- end rd5
end Go.Proofs.YtlddmagfbcomgaaGreat
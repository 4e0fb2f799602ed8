/-
  The key of a state with store buffers. Condition: bounds on lengths.
-/
import Derived.Test.YtngekjpklkjnbaaGreatZp09
import Derived.Lib.ConvBytes
import Derived.Test.YtngekjpklkjnbaaGreatZp02
set_option maxHeartbeats 6400000
set_option maxRecDepth 100000
namespace Go.Proofs.YtngekjpklkjnbaaGreat
open Go.RowKit
theorem Hh {l:List Int}{k:Nat}(h:k * 3+2 < l.length):l.take ((k+1) * 3)=l.take (k * 3)++[l.getD (k * 3) 0]++[l.getD (k * 3+1) 0]++[l.getD (k * 3+2) 0]:=by
 rw[Nat.add_mul,Nat.one_mul,show k * 3+3=k * 3+1+1+1 by omega,List.take_add_one,List.take_add_one,List.take_add_one];rw[List.getD_eq_getElem?_getD,List.getD_eq_getElem?_getD,List.getD_eq_getElem?_getD];have h0:k * 3 < l.length:=Om;have h1:k * 3+1 < l.length:=Om;simp[h0,h1,h]
theorem FK {l:List Int}(h:l.length=3):l=[l.getD 0 0,l.getD 1 0,l.getD 2 0]:=by
 match l,h with
 | [a,b,c],_=>rfl
theorem UZ (b:Nat) (vp:Value) (p:List (List Ins)) (s:Sq) (w:World) (hp:Z9 w vp p) (hx:ZD w b vp s) (hok:Y2 p s) (hpl:p.length≤3) :
 Calls Tryz.prog 196 #[.pointer (some ⟨b,0,none⟩)] w (Xs Zq 3 w (YN s)):=by
 obtain⟨va,vc,rfl,hc1,hc2,hc3,hp⟩:=hp.open;have HX:=Za hx;have HOK:=Za hok
 have hsa:=@ZP;have bl:=hx.lt;have c0:=hx.c0;have HRG:=Za (fun k=>Ye hok.rg k);have HMM:=Za (fun k=>Ye hok.mm k);have HL3:=Za (FK hok.lm);have HLR:=Za hok.lr;clear hp hx hok;generalize hn:p.length=n at *;have HN:=Za hn;clear hn;go_enter Tryz.func196,Tryz.ntmps196;go_wp2_with fail
 go_loopw [3,14] (fun v i wr => ∃ k:Nat,k≤n∧i = .int .i64 k∧Own Zq 3 wr w.heap.size v (s.rg.take (k * 3))∧Below w.heap.size w wr) (fun _ i _=>n - (intOf i).toNat)
 case atStart=>exact⟨0,Nat.zero_le _,rfl,by rw[Nat.zero_mul,List.take_zero];exact Own.nil _ _ _,Below.refl _ _⟩
 case round =>
  obtain⟨k,hk,rfl,ho,hb⟩:=hrel;have HB:=Za hb;by_cases hlt:k < n
  ·have hlt':=Zh hlt
   have hk3:(k:Int) < 3:=Om;have x0:=(HX.out.below hb).c2 k Om 0 Om;have x1:=(HX.out.below hb).c2 k Om 1 Om;have x2:=(HX.out.below hb).c2 k Om 2 Om;have xl:=(HX.out.below hb).lt;have TK:=Za (Hh (l:=s.rg) (k:=k) (by rw[HLR.out];omega));have hlp:(s.rg.take (k * 3)).length≤1000:=by rw[List.length_take];omega
   have w0:IntKind.i64.wrap (s.rg.getD (k * 3) 0)=s.rg.getD (k * 3) 0:=by have:=HRG.out (k * 3);exact Jb Om Om
   have w1:IntKind.i64.wrap (s.rg.getD (k * 3+1) 0)=s.rg.getD (k * 3+1) 0:=by have:=HRG.out (k * 3+1);exact Jb Om Om
   have w2:IntKind.i64.wrap (s.rg.getD (k * 3+2) 0)=s.rg.getD (k * 3+2) 0:=by have:=HRG.out (k * 3+2);exact Jb Om Om
   rw[Nat.add_zero]at x0;rw[Nat.add_zero]at x0;clear hb;generalize s.rg.getD (k * 3) 0=y0 at *;generalize s.rg.getD (k * 3+1) 0=y1 at *;generalize s.rg.getD (k * 3+2) 0=y2 at *;generalize s.rg.take (k * 3)=PP at *;have HO:=Za ho;clear ho;go_wp2_with fail
   go_loopw [3,23] (fun v i wr=>((i = .int .i64 0∧Own Zq 3 wr w.heap.size v (PP))∨(i = .int .i64 1∧Own Zq 3 wr w.heap.size v (PP++[y0]))∨(i = .int .i64 2∧Own Zq 3 wr w.heap.size v (PP++[y0]++[y1]))∨(i = .int .i64 3∧Own Zq 3 wr w.heap.size v (PP++[y0]++[y1]++[y2])))∧Below w.heap.size w wr) (fun _ i _=>3 - (intOf i).toNat)
   case atStart=>exact⟨.inl ⟨rfl,HO.out⟩,HB.out⟩
   case round =>
    obtain⟨hc,hb⟩:=hrel;have HB2:=Za hb;have hbs:=hb.size
    clear hb x0 x1 x2 xl;rcases hc with⟨rfl,ho⟩ | ⟨rfl,ho⟩ | ⟨rfl,ho⟩ | ⟨rfl,ho⟩
    ·have HO2:=Za ho
     have hix:∀ w',(Instr.index 122 (.agg #[Z1 y0,Z1 y1,Z1 y2]) (.int .i64 0)).run Tryz.prog w' = .ok (Z1 y0) w':=fun _=>by kernel_rfl
     clear ho;go_wp2_with (at_builtin;refine Z8 Zq 3 Tryz.Yi rfl Tryz.underlying66 w.heap.size _ (PP) y0 (HO2.out.alloc _) Dc (by (try simp only[List.length_append,List.length_singleton]);omega) So rfl _ _ rfl rfl _ 0 1 rfl Zk ?_;intro v5 w5 hown5 hgr5 hat5);have HF:=Za hown5;have HW5:=Za ((HB2.out.alloc HB2.out.size _).grown hgr5 So (fun q hq=>(World.ownsRow.lt HO2.out q hq).1));clear hown5 hgr5 hat5;go_wp2_with fail;go_roundw
     case rel=>exact⟨.inr (.inl ⟨Gn,HF.out⟩),HW5.out⟩
     case measure=>simp[intOf]
    ·have HO2:=Za ho
     have hix:∀ w',(Instr.index 122 (.agg #[Z1 y0,Z1 y1,Z1 y2]) (.int .i64 1)).run Tryz.prog w' = .ok (Z1 y1) w':=fun _=>by kernel_rfl
     clear ho;go_wp2_with (at_builtin;refine Z8 Zq 3 Tryz.Yi rfl Tryz.underlying66 w.heap.size _ (PP++[y0]) y1 (HO2.out.alloc _) Dc (by (try simp only[List.length_append,List.length_singleton]);omega) So rfl _ _ rfl rfl _ 0 1 rfl Zk ?_;intro v5 w5 hown5 hgr5 hat5);have HF:=Za hown5;have HW5:=Za ((HB2.out.alloc HB2.out.size _).grown hgr5 So (fun q hq=>(World.ownsRow.lt HO2.out q hq).1));clear hown5 hgr5 hat5;go_wp2_with fail;go_roundw
     case rel=>exact⟨.inr (.inr (.inl ⟨Gn,HF.out⟩)),HW5.out⟩
     case measure=>simp[intOf]
    ·have HO2:=Za ho
     have hix:∀ w',(Instr.index 122 (.agg #[Z1 y0,Z1 y1,Z1 y2]) (.int .i64 2)).run Tryz.prog w' = .ok (Z1 y2) w':=fun _=>by kernel_rfl
     clear ho;go_wp2_with (at_builtin;refine Z8 Zq 3 Tryz.Yi rfl Tryz.underlying66 w.heap.size _ (PP++[y0]++[y1]) y2 (HO2.out.alloc _) Dc (by (try simp only[List.length_append,List.length_singleton]);omega) So rfl _ _ rfl rfl _ 0 1 rfl Zk ?_;intro v5 w5 hown5 hgr5 hat5);have HF:=Za hown5;have HW5:=Za ((HB2.out.alloc HB2.out.size _).grown hgr5 So (fun q hq=>(World.ownsRow.lt HO2.out q hq).1));clear hown5 hgr5 hat5;go_wp2_with fail;go_roundw
     case rel=>exact⟨.inr (.inr (.inr ⟨Gn,HF.out⟩)),HW5.out⟩
     case measure=>simp[intOf]
    ·have HO2:=Za ho
     clear ho;go_wp2_with fail;go_roundw
     case rel=>exact⟨k+1,Om,Gn,by rw[TK.out];exact HO2.out,HB2.out⟩
     case measure=>simp[intOf];omega
  ·obtain rfl:k=n:=Om
   rw[List.take_of_length_le (by rw[HLR.out];exact Nat.le_refl _)]at ho;have x0:=(HX.out.below hb).c3 0 Om;have x1:=(HX.out.below hb).c3 1 Om;have x2:=(HX.out.below hb).c3 2 Om;have xl:=(HX.out.below hb).lt;have hlp:s.rg.length≤1000:=by rw[HLR.out];omega
   have w0:IntKind.i64.wrap (s.mm.getD 0 0)=s.mm.getD 0 0:=by have:=HMM.out 0;exact Jb Om Om
   have w1:IntKind.i64.wrap (s.mm.getD 1 0)=s.mm.getD 1 0:=by have:=HMM.out 1;exact Jb Om Om
   have w2:IntKind.i64.wrap (s.mm.getD 2 0)=s.mm.getD 2 0:=by have:=HMM.out 2;exact Jb Om Om
   have E:Hid (YN s=s.rg++[s.mm.getD 0 0]++[s.mm.getD 1 0]++[s.mm.getD 2 0]):=Za (by
    show s.rg++s.mm=_
    conv=>lhs;rw[HL3.out]
    simp)
   clear hb;generalize s.mm.getD 0 0=y0 at *;generalize s.mm.getD 1 0=y1 at *;generalize s.mm.getD 2 0=y2 at *;generalize s.rg=PP at *;have HO:=Za ho;clear ho;go_wp2_with fail
   go_loopw [3,37] (fun v i wr=>((i = .int .i64 0∧Own Zq 3 wr w.heap.size v (PP))∨(i = .int .i64 1∧Own Zq 3 wr w.heap.size v (PP++[y0]))∨(i = .int .i64 2∧Own Zq 3 wr w.heap.size v (PP++[y0]++[y1]))∨(i = .int .i64 3∧Own Zq 3 wr w.heap.size v (PP++[y0]++[y1]++[y2])))∧Below w.heap.size w wr) (fun _ i _=>3 - (intOf i).toNat)
   case atStart=>exact⟨.inl ⟨rfl,HO.out⟩,HB.out⟩
   case round =>
    obtain⟨hc,hb⟩:=hrel;have HB2:=Za hb;have hbs:=hb.size
    clear hb x0 x1 x2 xl;rcases hc with⟨rfl,ho⟩ | ⟨rfl,ho⟩ | ⟨rfl,ho⟩ | ⟨rfl,ho⟩
    ·have HO2:=Za ho
     have hix:∀ w',(Instr.index 122 (.agg #[Z1 y0,Z1 y1,Z1 y2]) (.int .i64 0)).run Tryz.prog w' = .ok (Z1 y0) w':=fun _=>by kernel_rfl
     clear ho;go_wp2_with (at_builtin;refine Z8 Zq 3 Tryz.Yi rfl Tryz.underlying66 w.heap.size _ (PP) y0 (HO2.out.alloc _) Dc (by (try simp only[List.length_append,List.length_singleton]);omega) So rfl _ _ rfl rfl _ 0 1 rfl Zk ?_;intro v5 w5 hown5 hgr5 hat5);have HF:=Za hown5;have HW5:=Za ((HB2.out.alloc HB2.out.size _).grown hgr5 So (fun q hq=>(World.ownsRow.lt HO2.out q hq).1));clear hown5 hgr5 hat5;go_wp2_with fail;go_roundw
     case rel=>exact⟨.inr (.inl ⟨Gn,HF.out⟩),HW5.out⟩
     case measure=>simp[intOf]
    ·have HO2:=Za ho
     have hix:∀ w',(Instr.index 122 (.agg #[Z1 y0,Z1 y1,Z1 y2]) (.int .i64 1)).run Tryz.prog w' = .ok (Z1 y1) w':=fun _=>by kernel_rfl
     clear ho;go_wp2_with (at_builtin;refine Z8 Zq 3 Tryz.Yi rfl Tryz.underlying66 w.heap.size _ (PP++[y0]) y1 (HO2.out.alloc _) Dc (by (try simp only[List.length_append,List.length_singleton]);omega) So rfl _ _ rfl rfl _ 0 1 rfl Zk ?_;intro v5 w5 hown5 hgr5 hat5);have HF:=Za hown5;have HW5:=Za ((HB2.out.alloc HB2.out.size _).grown hgr5 So (fun q hq=>(World.ownsRow.lt HO2.out q hq).1));clear hown5 hgr5 hat5;go_wp2_with fail;go_roundw
     case rel=>exact⟨.inr (.inr (.inl ⟨Gn,HF.out⟩)),HW5.out⟩
     case measure=>simp[intOf]
    ·have HO2:=Za ho
     have hix:∀ w',(Instr.index 122 (.agg #[Z1 y0,Z1 y1,Z1 y2]) (.int .i64 2)).run Tryz.prog w' = .ok (Z1 y2) w':=fun _=>by kernel_rfl
     clear ho;go_wp2_with (at_builtin;refine Z8 Zq 3 Tryz.Yi rfl Tryz.underlying66 w.heap.size _ (PP++[y0]++[y1]) y2 (HO2.out.alloc _) Dc (by (try simp only[List.length_append,List.length_singleton]);omega) So rfl _ _ rfl rfl _ 0 1 rfl Zk ?_;intro v5 w5 hown5 hgr5 hat5);have HF:=Za hown5;have HW5:=Za ((HB2.out.alloc HB2.out.size _).grown hgr5 So (fun q hq=>(World.ownsRow.lt HO2.out q hq).1));clear hown5 hgr5 hat5;go_wp2_with fail;go_roundw
     case rel=>exact⟨.inr (.inr (.inr ⟨Gn,HF.out⟩)),HW5.out⟩
     case measure=>simp[intOf]
    ·have HO2:=Za ho
     clear ho;go_wp2_with fail;go_ret;exact⟨_,rfl,by rw[E.out];exact HO2.out,HB2.out⟩
theorem Qg {x:Ins}(h:Zi x=true):(0≤x.loc∧x.loc≤2)∧(0≤x.Ya∧x.Ya≤2)∧0≤x.val∧x.val≤3:=by
 unfold Zi VX at h
 repeat' split at h
 all_goals (simp at h;try omega)
abbrev KV (w:World) (b:Nat) (vp:Value) (s:Sq):Prop:=w.heap[b]? = some (.cells (ZV vp s) 127 (0,0))
set_option linter.unusedSimpArgs false in
theorem CP (b t:Nat) (vp:Value) (p:List (List Ins)) (s:Sq) (i:Ins) (w:World) (hp:Z9 w vp p) (hx:KV w b vp s) (hok:Y2 p s) (hpl:p.length≤3) (hpr:∀ r∈p,r.length≤7) (ht:t < p.length)
 (hi:ZW p s t=some i) (hv:Zi i=true) :
 Calls Tryz.prog 191 #[.pointer (some ⟨b,0,none⟩),.int .i64 (t:Int)] w fun e w' => ∃ b',e = .returned (AZ 121 b')∧w.heap.size≤b'∧KV w' b' vp (ZN s t (s.pc.getD t 0) i)∧Below w.heap.size w w':=by
 obtain⟨va,vc,rfl,hc1,hc2,hc3,hp⟩:=hp.open;obtain⟨op,loc,Ya,val⟩:=i;obtain⟨⟨l0,l2⟩,⟨r0,r2⟩,v0,v3⟩:=Qg hv;simp only at l0 l2 r0 r2 v0 v3;obtain⟨ln,rfl⟩:∃ ln:Nat,loc=ln:=⟨loc.toNat,Om⟩
 obtain⟨rn,rfl⟩:∃ rn:Nat,Ya=rn:=⟨Ya.toNat,Om⟩
 obtain⟨r,hr⟩:=Zd (xs:=p) (k:=t) ht;obtain⟨k,hk⟩:=Zd (xs:=s.pc) (k:=t) (by rw[hok.lp];exact ht);have hkr:=hok.pc t k r hk hr;have hrl:=hpr r (List.mem_of_getElem? hr);obtain⟨kn,rfl⟩:∃ kn:Nat,k=kn:=⟨k.toNat,Om⟩
 have hkd:s.pc.getD t 0=(kn:Int):=by rw[List.getD_eq_getElem?_getD,hk];rfl
 have hk7:kn≤7:=Om;have HP:=Za hp;have HX:=Za hx;have HOK:=Za hok;have HPR:=Za hpr;have HKD:=Za hkd;have HI:=Za hi
 have HT:=Za ht;have HPL:=Za hpl
 have htl:(t:Int) < 3:=Om;have hln:(ln:Int) < 3:=Om;have hrn:(rn:Int) < 3:=Om;have ht3:t < 3:=Om;have hl3:ln < 3:=Om;have hr3:rn < 3:=Om;have hsa:=@ZP;have HV:Hid (ZD w b (.slice va p.length vc) s):=Za (ZD.of hx);have c0:=HV.out.c0;have bl:=HV.out.lt;obtain⟨d1,d2,d3,d4,d5,d6,d7,d8,d9,d10,d11,d12,d13,d14,d15⟩:=HV.out.EF;clear hp hx hok hpr hkd hi hr hk hkr hrl hv;generalize hn:p.length=n at *;have HN:=Za hn;clear hn;obtain⟨x1,hx1⟩:∃ x,x=s.pc.getD 0 0:=⟨_,rfl⟩
 obtain⟨x2,hx2⟩:∃ x,x=s.pc.getD 1 0:=⟨_,rfl⟩
 obtain⟨x3,hx3⟩:∃ x,x=s.pc.getD 2 0:=⟨_,rfl⟩
 obtain⟨x4,hx4⟩:∃ x,x=s.rg.getD 0 0:=⟨_,rfl⟩
 obtain⟨x5,hx5⟩:∃ x,x=s.rg.getD 1 0:=⟨_,rfl⟩
 obtain⟨x6,hx6⟩:∃ x,x=s.rg.getD 2 0:=⟨_,rfl⟩
 obtain⟨x7,hx7⟩:∃ x,x=s.rg.getD 3 0:=⟨_,rfl⟩
 obtain⟨x8,hx8⟩:∃ x,x=s.rg.getD 4 0:=⟨_,rfl⟩
 obtain⟨x9,hx9⟩:∃ x,x=s.rg.getD 5 0:=⟨_,rfl⟩
 obtain⟨x10,hx10⟩:∃ x,x=s.rg.getD 6 0:=⟨_,rfl⟩
 obtain⟨x11,hx11⟩:∃ x,x=s.rg.getD 7 0:=⟨_,rfl⟩
 obtain⟨x12,hx12⟩:∃ x,x=s.rg.getD 8 0:=⟨_,rfl⟩
 obtain⟨x13,hx13⟩:∃ x,x=s.mm.getD 0 0:=⟨_,rfl⟩
 obtain⟨x14,hx14⟩:∃ x,x=s.mm.getD 1 0:=⟨_,rfl⟩
 obtain⟨x15,hx15⟩:∃ x,x=s.mm.getD 2 0:=⟨_,rfl⟩
 have HA:Hid (ZV (.slice va n vc) s = #[.slice va n vc,Z1 x1,Z1 x2,Z1 x3,Z1 x4,Z1 x5,Z1 x6,Z1 x7,Z1 x8,Z1 x9,Z1 x10,Z1 x11,Z1 x12,Z1 x13,Z1 x14,Z1 x15]):=Za (by rw[hx1,hx2,hx3,hx4,hx5,hx6,hx7,hx8,hx9,hx10,hx11,hx12,hx13,hx14,hx15]);rw[← hx1]at d1;rw[← hx2]at d2;rw[← hx3]at d3;rw[← hx4]at d4;rw[← hx5]at d5;rw[← hx6]at d6;rw[← hx7]at d7;rw[← hx8]at d8;rw[← hx9]at d9;rw[← hx10]at d10;rw[← hx11]at d11;rw[← hx12]at d12;rw[← hx13]at d13;rw[← hx14]at d14;rw[← hx15]at d15;clear hx1 hx2 hx3 hx4 hx5 hx6 hx7 hx8 hx9 hx10 hx11 hx12 hx13 hx14 hx15;go_enter Tryz.func191,Tryz.ntmps191;go_wp2_with fail;obtain⟨V1,hV1⟩:∃ V1,V1=w.alloc (.cells #[.slice va n vc,Z1 x1,Z1 x2,Z1 x3,Z1 x4,Z1 x5,Z1 x6,Z1 x7,Z1 x8,Z1 x9,Z1 x10,Z1 x11,Z1 x12,Z1 x13,Z1 x14,Z1 x15] 127):=⟨_,rfl⟩
 have X1:Hid (KV V1 w.heap.size (.slice va n vc) s):=Za (by rw[hV1];show _=some (Obj.cells (ZV (.slice va n vc) s) _ _);rw[HA.out];exact heap_alloc_new _ _);have B1:Hid (Below w.heap.size w V1):=Za (by rw[hV1];exact(Below.refl _ _).alloc (Nat.le_refl _) _);simp only[← hV1];clear hV1 d1 d2 d3 d4 d5 d6 d7 d8 d9 d10 d11 d12 d13 d14 d15 HA
 (with_reducible refine(XT b t va n vc p s V1 (HP.out.below B1.out) (HV.out.below B1.out) HOK.out (by rw[HN.out];exact HPL.out) HPR.out (by rw[HN.out];exact HT.out)).mono ?_);rintro e w2 ⟨rfl,hb2⟩
 rw[HI.out];simp only[IH];have bC:=(Below.refl w2.heap.size w2).alloc (Nat.le_refl _) (.cells #[.int .i64 op,.int .i64 (ln:Int),.int .i64 (rn:Int),.int .i64 val] 44);have hlN:w.heap.size < V1.heap.size:=(Array.getElem?_eq_some_iff.1 X1.out).1;have X2w:Hid (KV w2 w.heap.size (.slice va n vc) s):=Za ((hb2.block w.heap.size hlN).trans X1.out);have B2w:Hid (Below w.heap.size w w2):=Za (B1.out.trans (hb2.mono B1.out.size));have X2:Hid (KV (w2.alloc (.cells #[.int .i64 op,.int .i64 (ln:Int),.int .i64 (rn:Int),.int .i64 val] 44)) w.heap.size (.slice va n vc) s):=Za ((bC.block w.heap.size (Nat.lt_of_lt_of_le hlN hb2.size)).trans ((hb2.block w.heap.size hlN).trans X1.out));have B2:Hid (Below w.heap.size w (w2.alloc (.cells #[.int .i64 op,.int .i64 (ln:Int),.int .i64 (rn:Int),.int .i64 val] 44))):=Za ((B1.out.trans (hb2.mono B1.out.size)).trans (bC.mono (Nat.le_trans B1.out.size hb2.size)));have e1:(w2.alloc (.cells #[.int .i64 op,.int .i64 (ln:Int),.int .i64 (rn:Int),.int .i64 val] 44)).cell? ⟨w.heap.size,1+t,none⟩=some (.int .u8 (kn:Int)):=by have h:=(ZD.of X2.out).c1 t ht3;rw[HKD.out]at h;exact h
 have efz:=Z7 X2.out;have el:w.heap.size < w2.heap.size+1:=by have:=hb2.size;omega
 have hN2:w.heap.size < w2.heap.size:=Nat.lt_of_lt_of_le hlN hb2.size;have hwk:IntKind.u8.wrap ((kn:Int)+1)=(kn:Int)+1:=by rw[IntKind.wrap_u8];omega
 clear hb2 bC hlN;go_wp2_with fail;obtain⟨V3,hV3⟩:∃ V3,V3=(w2.setCell ⟨w.heap.size,1+t,none⟩ (.int .u8 ((kn:Int)+1))).alloc (.cells #[.int .i64 op,.int .i64 (ln:Int),.int .i64 (rn:Int),.int .i64 val] 44):=⟨_,rfl⟩
 have hX3:KV V3 w.heap.size (.slice va n vc) ⟨s.pc.set t ((kn:Int)+1),s.rg,s.mm⟩:=by
  rw[hV3];have h:=heap_setCell_same w2 w.heap.size (1+t) _ _ (Z1 ((kn:Int)+1)) X2w.out;rw[XK _ s ht3 (by rw[HOK.out.lp,HN.out];exact HT.out)]at h;exact(heap_alloc_old _ _ (by simpa using hN2)).trans h
 have hC3:V3.heap[w2.heap.size]? = some (.cells #[.int .i64 op,.int .i64 (ln:Int),.int .i64 (rn:Int),.int .i64 val] 44 (0,0)):=by
  rw[hV3];have h:=heap_alloc_new (w2.setCell ⟨w.heap.size,1+t,none⟩ (.int .u8 ((kn:Int)+1))) (.cells #[.int .i64 op,.int .i64 (ln:Int),.int .i64 (rn:Int),.int .i64 val] 44);simpa using h
 have B3:Hid (Below w.heap.size w V3):=Za (by rw[hV3];exact(B2w.out.setCell (p:=⟨w.heap.size,1+t,none⟩) (Nat.le_refl _) _).alloc (by simpa using B2w.out.size) _);have X3:=Za hX3;have C3:=Za hC3
 rw[← hV3];clear hV3 hX3 e1 efz el X2 B2 X1 B1 X2w B2w;have g0:V3.cell? ⟨w2.heap.size,0,none⟩=some (.int .i64 op):=Zc hC3 (k:=0) rfl;have g1:V3.cell? ⟨w2.heap.size,1,none⟩=some (.int .i64 (ln:Int)):=Zc hC3 (k:=1) rfl;have g2:V3.cell? ⟨w2.heap.size,2,none⟩=some (.int .i64 (rn:Int)):=Zc hC3 (k:=2) rfl;have g3:V3.cell? ⟨w2.heap.size,3,none⟩=some (.int .i64 val):=Zc hC3 (k:=3) rfl;have gl:=Zb g0;have HS:=Za (fun x:BW V3=>VK b t rn op ln val (.slice va n vc) s x.val (HV.out.below (B3.out.trans (x.prop.mono B3.out.size))) Om Om v0 v3);clear hC3;refine Zo Kr Kr ?_
 repeat (go_big_quiet_step ((go_at_call 198;(with_reducible exact Calls.bw (HS.out _)))))
 refine wpQuiet_nil ?_;intro w4 hw4;have X4:=Za ((hw4.block w.heap.size (Array.getElem?_eq_some_iff.1 X3.out).1).trans X3.out);have C4:=Za ((hw4.block w2.heap.size gl).trans C3.out);have B4:=Za (B3.out.trans (hw4.mono B3.out.size));have k4_0:w4.cell? ⟨w2.heap.size,0,none⟩=some (.int .i64 op):=Zc C4.out (k:=0) rfl;have k4_1:w4.cell? ⟨w2.heap.size,1,none⟩=some (.int .i64 (ln:Int)):=Zc C4.out (k:=1) rfl;have k4_2:w4.cell? ⟨w2.heap.size,2,none⟩=some (.int .i64 (rn:Int)):=Zc C4.out (k:=2) rfl;have k4_3:w4.cell? ⟨w2.heap.size,3,none⟩=some (.int .i64 val):=Zc C4.out (k:=3) rfl;have k4_l:=Zb k4_0;clear hw4 g0 g1 g2 g3 gl X3 C3 B3 HS;obtain⟨m,hm⟩:∃ m,m=s.mm.getD ln 0:=⟨_,rfl⟩
 obtain⟨R,hR⟩:∃ R,R=Yb s t ⟨op,ln,rn,val⟩:=⟨_,rfl⟩
 simp only[← hR];have HRR:=Za hR;have HMM:=Za hm
 clear hR hm;cases hr:ZG op <;> cases hw:ZR op
 ·go_wp2_with (first | (go_at_call 96;(with_reducible refine(Xa op (ln:Int) (rn:Int) val w4).mono ?_);rintro e w5 ⟨rfl,hb5⟩;have X5:=Za ((hb5.block w.heap.size (Array.getElem?_eq_some_iff.1 X4.out).1).trans X4.out);have C5:=Za ((hb5.block w2.heap.size (Array.getElem?_eq_some_iff.1 C4.out).1).trans C4.out);have B5:=Za (B4.out.trans (hb5.mono B4.out.size));have k5_0:w5.cell? ⟨w2.heap.size,0,none⟩=some (.int .i64 op):=Zc C5.out (k:=0) rfl;have k5_1:w5.cell? ⟨w2.heap.size,1,none⟩=some (.int .i64 (ln:Int)):=Zc C5.out (k:=1) rfl;have k5_2:w5.cell? ⟨w2.heap.size,2,none⟩=some (.int .i64 (rn:Int)):=Zc C5.out (k:=2) rfl;have k5_3:w5.cell? ⟨w2.heap.size,3,none⟩=some (.int .i64 val):=Zc C5.out (k:=3) rfl;have k5_l:=Zb k5_0;have fz5:=Z7 X5.out;have nl5:=(Array.getElem?_eq_some_iff.1 X5.out).1;have mw5:=(ZD.of X5.out).c3 ln hl3;clear hb5) | (go_at_call 97;(with_reducible refine(Jc op (ln:Int) (rn:Int) val w5).mono ?_);rintro e w7 ⟨rfl,hb7⟩;have X7:=Za ((hb7.block w.heap.size (Array.getElem?_eq_some_iff.1 X5.out).1).trans X5.out);have C7:=Za ((hb7.block w2.heap.size (Array.getElem?_eq_some_iff.1 C5.out).1).trans C5.out);have B7:=Za (B5.out.trans (hb7.mono B5.out.size));have k7_0:w7.cell? ⟨w2.heap.size,0,none⟩=some (.int .i64 op):=Zc C7.out (k:=0) rfl;have k7_1:w7.cell? ⟨w2.heap.size,1,none⟩=some (.int .i64 (ln:Int)):=Zc C7.out (k:=1) rfl;have k7_2:w7.cell? ⟨w2.heap.size,2,none⟩=some (.int .i64 (rn:Int)):=Zc C7.out (k:=2) rfl;have k7_3:w7.cell? ⟨w2.heap.size,3,none⟩=some (.int .i64 val):=Zc C7.out (k:=3) rfl;have k7_l:=Zb k7_0;have fz7:=Z7 X7.out;have nl7:=(Array.getElem?_eq_some_iff.1 X7.out).1;have mw7:=(ZD.of X7.out).c3 ln hl3;clear hb7))
  have F:Hid (KV w7 w.heap.size (.slice va n vc) (ZN s t (s.pc.getD t 0) ⟨op,ln,rn,val⟩)):=Za (by
   rw[HKD.out];unfold ZN;simp only[hr,hw,if_true,Bool.false_eq_true,if_false,Int.toNat_natCast,← HMM.out,← HRR.out];exact X7.out)
  go_ret;exact⟨_,rfl,Nat.le_refl _,F.out,B7.out⟩
 ·go_wp2_with (first | (go_at_call 96;(with_reducible refine(Xa op (ln:Int) (rn:Int) val w4).mono ?_);rintro e w5 ⟨rfl,hb5⟩;have X5:=Za ((hb5.block w.heap.size (Array.getElem?_eq_some_iff.1 X4.out).1).trans X4.out);have C5:=Za ((hb5.block w2.heap.size (Array.getElem?_eq_some_iff.1 C4.out).1).trans C4.out);have B5:=Za (B4.out.trans (hb5.mono B4.out.size));have k5_0:w5.cell? ⟨w2.heap.size,0,none⟩=some (.int .i64 op):=Zc C5.out (k:=0) rfl;have k5_1:w5.cell? ⟨w2.heap.size,1,none⟩=some (.int .i64 (ln:Int)):=Zc C5.out (k:=1) rfl;have k5_2:w5.cell? ⟨w2.heap.size,2,none⟩=some (.int .i64 (rn:Int)):=Zc C5.out (k:=2) rfl;have k5_3:w5.cell? ⟨w2.heap.size,3,none⟩=some (.int .i64 val):=Zc C5.out (k:=3) rfl;have k5_l:=Zb k5_0;have fz5:=Z7 X5.out;have nl5:=(Array.getElem?_eq_some_iff.1 X5.out).1;have mw5:=(ZD.of X5.out).c3 ln hl3;clear hb5) | (go_at_call 97;(with_reducible refine(Jc op (ln:Int) (rn:Int) val w5).mono ?_);rintro e w7 ⟨rfl,hb7⟩;have X7:=Za ((hb7.block w.heap.size (Array.getElem?_eq_some_iff.1 X5.out).1).trans X5.out);have C7:=Za ((hb7.block w2.heap.size (Array.getElem?_eq_some_iff.1 C5.out).1).trans C5.out);have B7:=Za (B5.out.trans (hb7.mono B5.out.size));have k7_0:w7.cell? ⟨w2.heap.size,0,none⟩=some (.int .i64 op):=Zc C7.out (k:=0) rfl;have k7_1:w7.cell? ⟨w2.heap.size,1,none⟩=some (.int .i64 (ln:Int)):=Zc C7.out (k:=1) rfl;have k7_2:w7.cell? ⟨w2.heap.size,2,none⟩=some (.int .i64 (rn:Int)):=Zc C7.out (k:=2) rfl;have k7_3:w7.cell? ⟨w2.heap.size,3,none⟩=some (.int .i64 val):=Zc C7.out (k:=3) rfl;have k7_l:=Zb k7_0;have fz7:=Z7 X7.out;have nl7:=(Array.getElem?_eq_some_iff.1 X7.out).1;have mw7:=(ZD.of X7.out).c3 ln hl3;clear hb7))
  have h8:=heap_setCell_same w7 w.heap.size (13+ln) _ _ (Z1 R) X7.out;rw[Jy _ _ hl3 (by show ln < s.mm.length;rw[HOK.out.lm];exact hl3)]at h8;have B8:=Za (B7.out.setCell (p:=⟨w.heap.size,13+ln,none⟩) (Nat.le_refl _) (Z1 R));have X8:=Za h8;clear h8;have F:Hid (KV (w7.setCell ⟨w.heap.size,13+ln,none⟩ (Z1 R)) w.heap.size (.slice va n vc) (ZN s t (s.pc.getD t 0) ⟨op,ln,rn,val⟩)):=Za (by
   rw[HKD.out];unfold ZN;simp only[hr,hw,if_true,Bool.false_eq_true,if_false,Int.toNat_natCast,← HMM.out,← HRR.out];exact X8.out)
  go_ret;exact⟨_,rfl,Nat.le_refl _,F.out,B8.out⟩
 ·go_wp2_with (go_at_call 96;(with_reducible refine(Xa op (ln:Int) (rn:Int) val w4).mono ?_);rintro e w5 ⟨rfl,hb5⟩;have X5:=Za ((hb5.block w.heap.size (Array.getElem?_eq_some_iff.1 X4.out).1).trans X4.out);have C5:=Za ((hb5.block w2.heap.size (Array.getElem?_eq_some_iff.1 C4.out).1).trans C4.out);have B5:=Za (B4.out.trans (hb5.mono B4.out.size));have k5_0:w5.cell? ⟨w2.heap.size,0,none⟩=some (.int .i64 op):=Zc C5.out (k:=0) rfl;have k5_1:w5.cell? ⟨w2.heap.size,1,none⟩=some (.int .i64 (ln:Int)):=Zc C5.out (k:=1) rfl;have k5_2:w5.cell? ⟨w2.heap.size,2,none⟩=some (.int .i64 (rn:Int)):=Zc C5.out (k:=2) rfl;have k5_3:w5.cell? ⟨w2.heap.size,3,none⟩=some (.int .i64 val):=Zc C5.out (k:=3) rfl;have k5_l:=Zb k5_0;have fz5:=Z7 X5.out;have nl5:=(Array.getElem?_eq_some_iff.1 X5.out).1;have mw5:=(ZD.of X5.out).c3 ln hl3;clear hb5)
  have m13:w5.cell? ⟨b,13+ln,none⟩=some (.int .u8 m):=by rw[HMM.out];exact(HV.out.below B5.out).c3 ln hl3
  have bl5:=Zb m13;have m5:=(ZD.of X5.out).c2 t ht3 rn hr3
  go_region
  have h6:=heap_setCell_same w5 w.heap.size (4+t * 3+rn) _ _ (Z1 m) X5.out;rw[Jz _ _ ht3 hr3 (by show t * 3+rn < s.rg.length;rw[HOK.out.lr,HN.out];have:=HT.out;omega)]at h6;obtain⟨V6,hV6⟩:∃ V6,V6=(w5.setCell ⟨w.heap.size,4+t * 3+rn,none⟩ (.int .u8 m)).drew:=⟨_,rfl⟩
  have X6:Hid (KV V6 w.heap.size (.slice va n vc) ⟨s.pc.set t ((kn:Int)+1),s.rg.set (t * 3+rn) m,s.mm⟩):=Za (by rw[hV6];exact h6);have C6:Hid (V6.heap[w2.heap.size]? = some (.cells #[.int .i64 op,.int .i64 (ln:Int),.int .i64 (rn:Int),.int .i64 val] 44 (0,0))):=Za (by rw[hV6];exact(heap_setCell_other w5 ⟨w.heap.size,4+t * 3+rn,none⟩ w2.heap.size _ (show w2.heap.size≠w.heap.size by omega)).trans C5.out);have B6:Hid (Below w.heap.size w V6):=Za (by rw[hV6];exact(B5.out.setCell (p:=⟨w.heap.size,4+t * 3+rn,none⟩) (Nat.le_refl _) _).drew);have k6_0:V6.cell? ⟨w2.heap.size,0,none⟩=some (.int .i64 op):=Zc C6.out (k:=0) rfl;have k6_1:V6.cell? ⟨w2.heap.size,1,none⟩=some (.int .i64 (ln:Int)):=Zc C6.out (k:=1) rfl;have k6_2:V6.cell? ⟨w2.heap.size,2,none⟩=some (.int .i64 (rn:Int)):=Zc C6.out (k:=2) rfl;have k6_3:V6.cell? ⟨w2.heap.size,3,none⟩=some (.int .i64 val):=Zc C6.out (k:=3) rfl;have k6_l:=Zb k6_0
  rw[← hV6];clear hV6 h6 m13 m5 mw5 bl5 k5_0 k5_1 k5_2 k5_3 k5_l fz5 nl5 X5 C5;go_wp2_with (go_at_call 97;(with_reducible refine(Jc op (ln:Int) (rn:Int) val V6).mono ?_);rintro e w7 ⟨rfl,hb7⟩;have X7:=Za ((hb7.block w.heap.size (Array.getElem?_eq_some_iff.1 X6.out).1).trans X6.out);have C7:=Za ((hb7.block w2.heap.size (Array.getElem?_eq_some_iff.1 C6.out).1).trans C6.out);have B7:=Za (B6.out.trans (hb7.mono B6.out.size));have k7_0:w7.cell? ⟨w2.heap.size,0,none⟩=some (.int .i64 op):=Zc C7.out (k:=0) rfl;have k7_1:w7.cell? ⟨w2.heap.size,1,none⟩=some (.int .i64 (ln:Int)):=Zc C7.out (k:=1) rfl;have k7_2:w7.cell? ⟨w2.heap.size,2,none⟩=some (.int .i64 (rn:Int)):=Zc C7.out (k:=2) rfl;have k7_3:w7.cell? ⟨w2.heap.size,3,none⟩=some (.int .i64 val):=Zc C7.out (k:=3) rfl;have k7_l:=Zb k7_0;have fz7:=Z7 X7.out;have nl7:=(Array.getElem?_eq_some_iff.1 X7.out).1;have mw7:=(ZD.of X7.out).c3 ln hl3;clear hb7);have F:Hid (KV w7 w.heap.size (.slice va n vc) (ZN s t (s.pc.getD t 0) ⟨op,ln,rn,val⟩)):=Za (by
   rw[HKD.out];unfold ZN;simp only[hr,hw,if_true,Bool.false_eq_true,if_false,Int.toNat_natCast,← HMM.out,← HRR.out];exact X7.out)
  go_ret;exact⟨_,rfl,Nat.le_refl _,F.out,B7.out⟩
 ·go_wp2_with (go_at_call 96;(with_reducible refine(Xa op (ln:Int) (rn:Int) val w4).mono ?_);rintro e w5 ⟨rfl,hb5⟩;have X5:=Za ((hb5.block w.heap.size (Array.getElem?_eq_some_iff.1 X4.out).1).trans X4.out);have C5:=Za ((hb5.block w2.heap.size (Array.getElem?_eq_some_iff.1 C4.out).1).trans C4.out);have B5:=Za (B4.out.trans (hb5.mono B4.out.size));have k5_0:w5.cell? ⟨w2.heap.size,0,none⟩=some (.int .i64 op):=Zc C5.out (k:=0) rfl;have k5_1:w5.cell? ⟨w2.heap.size,1,none⟩=some (.int .i64 (ln:Int)):=Zc C5.out (k:=1) rfl;have k5_2:w5.cell? ⟨w2.heap.size,2,none⟩=some (.int .i64 (rn:Int)):=Zc C5.out (k:=2) rfl;have k5_3:w5.cell? ⟨w2.heap.size,3,none⟩=some (.int .i64 val):=Zc C5.out (k:=3) rfl;have k5_l:=Zb k5_0;have fz5:=Z7 X5.out;have nl5:=(Array.getElem?_eq_some_iff.1 X5.out).1;have mw5:=(ZD.of X5.out).c3 ln hl3;clear hb5)
  have m13:w5.cell? ⟨b,13+ln,none⟩=some (.int .u8 m):=by rw[HMM.out];exact(HV.out.below B5.out).c3 ln hl3
  have bl5:=Zb m13;have m5:=(ZD.of X5.out).c2 t ht3 rn hr3
  go_region
  have h6:=heap_setCell_same w5 w.heap.size (4+t * 3+rn) _ _ (Z1 m) X5.out;rw[Jz _ _ ht3 hr3 (by show t * 3+rn < s.rg.length;rw[HOK.out.lr,HN.out];have:=HT.out;omega)]at h6;obtain⟨V6,hV6⟩:∃ V6,V6=(w5.setCell ⟨w.heap.size,4+t * 3+rn,none⟩ (.int .u8 m)).drew:=⟨_,rfl⟩
  have X6:Hid (KV V6 w.heap.size (.slice va n vc) ⟨s.pc.set t ((kn:Int)+1),s.rg.set (t * 3+rn) m,s.mm⟩):=Za (by rw[hV6];exact h6);have C6:Hid (V6.heap[w2.heap.size]? = some (.cells #[.int .i64 op,.int .i64 (ln:Int),.int .i64 (rn:Int),.int .i64 val] 44 (0,0))):=Za (by rw[hV6];exact(heap_setCell_other w5 ⟨w.heap.size,4+t * 3+rn,none⟩ w2.heap.size _ (show w2.heap.size≠w.heap.size by omega)).trans C5.out);have B6:Hid (Below w.heap.size w V6):=Za (by rw[hV6];exact(B5.out.setCell (p:=⟨w.heap.size,4+t * 3+rn,none⟩) (Nat.le_refl _) _).drew);have k6_0:V6.cell? ⟨w2.heap.size,0,none⟩=some (.int .i64 op):=Zc C6.out (k:=0) rfl;have k6_1:V6.cell? ⟨w2.heap.size,1,none⟩=some (.int .i64 (ln:Int)):=Zc C6.out (k:=1) rfl;have k6_2:V6.cell? ⟨w2.heap.size,2,none⟩=some (.int .i64 (rn:Int)):=Zc C6.out (k:=2) rfl;have k6_3:V6.cell? ⟨w2.heap.size,3,none⟩=some (.int .i64 val):=Zc C6.out (k:=3) rfl;have k6_l:=Zb k6_0
  rw[← hV6];clear hV6 h6 m13 m5 mw5 bl5 k5_0 k5_1 k5_2 k5_3 k5_l fz5 nl5 X5 C5;go_wp2_with (go_at_call 97;(with_reducible refine(Jc op (ln:Int) (rn:Int) val V6).mono ?_);rintro e w7 ⟨rfl,hb7⟩;have X7:=Za ((hb7.block w.heap.size (Array.getElem?_eq_some_iff.1 X6.out).1).trans X6.out);have C7:=Za ((hb7.block w2.heap.size (Array.getElem?_eq_some_iff.1 C6.out).1).trans C6.out);have B7:=Za (B6.out.trans (hb7.mono B6.out.size));have k7_0:w7.cell? ⟨w2.heap.size,0,none⟩=some (.int .i64 op):=Zc C7.out (k:=0) rfl;have k7_1:w7.cell? ⟨w2.heap.size,1,none⟩=some (.int .i64 (ln:Int)):=Zc C7.out (k:=1) rfl;have k7_2:w7.cell? ⟨w2.heap.size,2,none⟩=some (.int .i64 (rn:Int)):=Zc C7.out (k:=2) rfl;have k7_3:w7.cell? ⟨w2.heap.size,3,none⟩=some (.int .i64 val):=Zc C7.out (k:=3) rfl;have k7_l:=Zb k7_0;have fz7:=Z7 X7.out;have nl7:=(Array.getElem?_eq_some_iff.1 X7.out).1;have mw7:=(ZD.of X7.out).c3 ln hl3;clear hb7);have h8:=heap_setCell_same w7 w.heap.size (13+ln) _ _ (Z1 R) X7.out;rw[Jy _ _ hl3 (by show ln < s.mm.length;rw[HOK.out.lm];exact hl3)]at h8;have B8:=Za (B7.out.setCell (p:=⟨w.heap.size,13+ln,none⟩) (Nat.le_refl _) (Z1 R));have X8:=Za h8
  clear h8;have F:Hid (KV (w7.setCell ⟨w.heap.size,13+ln,none⟩ (Z1 R)) w.heap.size (.slice va n vc) (ZN s t (s.pc.getD t 0) ⟨op,ln,rn,val⟩)):=Za (by
   rw[HKD.out];unfold ZN;simp only[hr,hw,if_true,Bool.false_eq_true,if_false,Int.toNat_natCast,← HMM.out,← HRR.out];exact X8.out)
  go_ret;exact⟨_,rfl,Nat.le_refl _,F.out,B8.out⟩
theorem Bc:∀ (N:Nat) (l:List Nat),l.Nodup→(∀ x∈l,x < N)→l.length≤N:=by
 intro N
 induction N with
 | zero =>
  intro l _ h;cases l with
  | nil=>simp
  | cons x l=>exact absurd (h x Sm) (Nat.not_lt_zero _)
 | succ N ih =>
  intro l hn h;by_cases hm:N∈l
  ·have h1:=ih (l.erase N) (hn.erase N) fun x hx=>by
    have h2:=(hn.mem_erase_iff).1 hx;have:=h x h2.2;have:=h2.1;omega
   rw[List.length_erase_of_mem hm]at h1;have:=List.length_pos_of_mem hm;omega
  ·have h1:=ih l hn fun x hx=>by
    have:=h x hx;have:x≠N:=fun e=>hm (e ▸ hx);omega
   omega
theorem LP {a b:List Int}(hl:a.length=b.length) (ha:∀ x∈a,0≤x∧x≤3) (hb:∀ x∈b,0≤x∧x≤3) (e:Aw a=Aw b):a=b:=by
 rcases JU a b with h | h | h
 ·have:=DK hl ha hb h;omega
 ·exact(Cu hl).1 h
 ·have h2:=Ux a b
  have:=DK hl.symm hb ha Om;omega
theorem Re {S:Type}{out:S→List Int}{n:Nat}{l:List S}(hn:l.Nodup) (ho:∀ s∈l,(out s).length=n∧∀ x∈out s,0≤x∧x≤3) (hi:∀ a∈l,∀ b∈l,out a=out b→a=b):l.length≤4 ^ n:=by
 have h1:(l.map fun s=>Aw (out s)).Nodup:=by
  unfold List.Nodup;rw[List.pairwise_map];refine List.Pairwise.imp_of_mem ?_ hn;intro a b ha hb hab e;exact hab (hi a ha b hb (LP ((ho a ha).1.trans (ho b hb).1.symm) (ho a ha).2 (ho b hb).2 e))
 have h2:=Bc (4 ^ n) _ h1 fun x hx=>by
  obtain⟨s,hs,rfl⟩:=List.mem_map.1 hx;have:=Hr (ho s hs).2;rw[(ho s hs).1]at this;exact this
 simpa using h2
section
variable (vp : Value) (p : List (List Ins)) (B : Nat)
def J7 (W:World) (b:Nat) (s:Sq):Prop:=KV W b vp s∧(∀ W',Below B W W'→Z9 W' vp p)∧B≤W.heap.size∧Y2 p s
def Vu (s:Sq) (t:Nat):Sq:=match ZW p s t with
 | some i=>ZN s t (s.pc.getD t 0) i
 | none=>s
end
theorem E3 {p:List (List Ins)}{s:Sq}{t:Nat}:t∈AB p s↔t < p.length∧(ZW p s t).isSome:=by simp[AB]
theorem Bn {p:List (List Ins)}{s:Sq}(t:Nat):t∈AB p s↔(ZO p s t).isSome:=by
 rw[E3,Aj];constructor
 ·exact fun h=>h.2
 ·intro h
  refine⟨?_,h⟩;unfold ZW at h;cases hr:p[t]? with
  | none=>rw[hr]at h;simp at h
  | some r=>exact(List.getElem?_eq_some_iff.1 hr).1
theorem VJ {p:List (List Ins)}{s s':Sq}{t:Nat}(h:ZO p s t=some s'):Vu p s t=s':=by
 unfold Vu;have h1:(ZW p s t).isSome:=by rw[← Aj,h];rfl
 obtain⟨i,hi⟩:=Option.isSome_iff_exists.1 h1;rw[hi];have:=Ai hi;rw[h]at this;simpa using this.symm
theorem EK (b:Nat) (vp:Value) (p:List (List Ins)) (s:Sq) (w:World) (hp:Z9 w vp p) (hx:ZD w b vp s) (hok:Y2 p s) (hpl:p.length≤3) (hpr:∀ r∈p,r.length≤7) :
 Calls Tryz.prog 193 #[.pointer (some ⟨b,0,none⟩)] w fun e w'=>e = .returned (.bool (ZU p s))∧Below w.heap.size w w':=by
 have H:=Za (UF b vp p s w hp hx hok hpl hpr);have bl:=hx.lt;clear hp hx hok hpr;go_enter Tryz.func193,Tryz.ntmps193;go_wp2_with (go_at_call 192;(with_reducible refine H.out.mono ?_);rintro e w1 ⟨rfl,hb1⟩);go_ret;exact⟨rfl,hb1⟩
theorem Hc (b:Nat) (vp:Value) (s:Sq) (w:World) (hx:ZD w b vp s) :
 Calls Tryz.prog 194 #[.pointer (some ⟨b,0,none⟩)] w fun e w'=>e = .returned (.string (strOfNums (IY s)))∧Below w.heap.size w w':=by
 have H:=Za (EP b vp s w hx);have bl:=hx.lt;clear hx;go_enter Tryz.func194,Tryz.ntmps194;go_wp2_with (go_at_call 199;(with_reducible refine H.out.mono ?_);rintro e w1 ⟨rfl,hb1⟩);go_ret;exact⟨rfl,hb1⟩
theorem J7.Yf {vp:Value}{p:List (List Ins)}{B:Nat}{w w':World}{b b':Nat}{s s':Sq}(h:J7 vp p B w b s) (hb:Below B w w') (hx:KV w' b' vp s') (hok:Y2 p s'):J7 vp p B w' b' s':=
 ⟨hx,fun W' hW=>h.2.1 W' (hb.trans hW),Nat.le_trans h.2.2.1 hb.size,hok⟩
theorem J7.loc {vp:Value}{p:List (List Ins)}{B:Nat}{w:World}{b:Nat}{s:Sq}(h:J7 vp p B w b s):XM LM B w (fun W=>J7 vp p B W b s):=by
 refine⟨h,fun w' k=>h.Yf (k.below h.2.2.1) ?_ h.2.2.2⟩;exact k.block b _ _ _ h.1 Dc
def Su (vp:Value) (p:List (List Ins)) (B:Nat) (hv:Zg p=true):MK LM B Sq where
 T:=121
 raw:=J7 vp p B
 done:=ZU p
 out:=YN
 mv:=AB p
 af:=Vu p
 key:=fun s=>strOfNums (IY s)
 fD:=193
 fO:=196
 fM:=195
 fA:=191
 fK:=194
 mD:=fun _ _=>by kernel_rfl
 mO:=fun _ _=>by kernel_rfl
 mM:=fun _ _=>by kernel_rfl
 mA:=fun _ _=>by kernel_rfl
 mK:=fun _ _=>by kernel_rfl
 cD:=fun _ _=>by kernel_rfl
 cO:=fun _ _=>by kernel_rfl
 cM:=fun _ _=>by kernel_rfl
 cA:=fun _ _=>by kernel_rfl
 cK:=fun _ _=>by kernel_rfl
 hD:=fun w b s h=>EK b vp p s w (h.2.1 w (Below.refl _ _)) (ZD.of h.1) h.2.2.2 (Zv hv).1 (fun r hr=>((Zv hv).2.2.1 r hr).1)
 hO:=fun w b s h=>UZ b vp p s w (h.2.1 w (Below.refl _ _)) (ZD.of h.1) h.2.2.2 (Zv hv).1
 hM:=fun w b s h=>CQ b vp p s w (h.2.1 w (Below.refl _ _)) (ZD.of h.1) h.2.2.2 (Zv hv).1 (fun r hr=>((Zv hv).2.2.1 r hr).1)
 hK:=fun w b s h=>Hc b vp s w (ZD.of h.1)
 hA:=fun w b s m hB hl hm=>by
  have h:=hl.now;obtain⟨h1,h2⟩:=E3.1 hm;obtain⟨i,hi⟩:=Option.isSome_iff_exists.1 h2;have hiv:Zi i=true:=by
   have hn:=Ai hi;obtain⟨r,k,x,hr,hk,hx,e⟩:=XW hn;have hi2:=hi;unfold ZW at hi2;rw[hr,hk]at hi2;simp only[Option.bind_some]at hi2;exact ZB hv r (List.mem_of_getElem? hr) i (List.mem_of_getElem? hi2)
  have hok:Y2 p (Vu p s m):=by
   have hn:=Ai hi;rw[VJ hn];exact h.2.2.2.next (ZB hv) hn
  refine(CP b m vp p s i w (h.2.1 w (Below.refl _ _)) h.1 h.2.2.2 (Zv hv).1 (fun r hr=>((Zv hv).2.2.1 r hr).1) h1 hi hiv).mono ?_;rintro e w' ⟨b',rfl,hb',hx',hbl⟩;refine⟨b',rfl,(h.Yf (hbl.mono hB) ?_ hok).loc,hbl⟩;have:Vu p s m=ZN s m (s.pc.getD m 0) i:=by unfold Vu;rw[hi]
  rw[this];exact hx'
theorem J8 (vp:Value) {p:List (List Ins)}:ZV vp (Zw p) = #[vp,Z1 0,Z1 0,Z1 0,Z1 0,Z1 0,Z1 0,Z1 0,Z1 0,Z1 0,Z1 0,Z1 0,Z1 0,Z1 0,Z1 0,Z1 0]:=by
 have e:∀ n k,(List.replicate n (0:Int)).getD k 0=0:=fun n k=>by
  rw[List.getD_eq_getElem?_getD,List.getElem?_replicate];split <;> rfl
 unfold Zw;simp only[ZV,e]
theorem FN (va:Option Addr) (n vc:Nat) (p:List (List Ins)) (w:World) :
 Calls Tryz.prog 81 #[.slice va n vc] w fun e w' => ∃ b,e = .returned (AZ 121 b)∧KV w' b (.slice va n vc) (Zw p)∧Below w.heap.size w w':=by
 have h:=Za (heap_alloc_new w (.cells (ZV (.slice va n vc) (Zw p)) 127));have hb:=Za ((Below.refl w.heap.size w).alloc (Nat.le_refl _) (.cells (ZV (.slice va n vc) (Zw p)) 127));rw[J8]at h hb;have E:=Za (J8 (.slice va n vc) (p:=p));go_enter Tryz.func81,Tryz.ntmps81;go_wp2_with fail;go_ret;refine⟨_,rfl,?_,hb.out⟩;show _=some (Obj.cells (ZV _ _) _ _);rw[E.out];exact h.out
abbrev ZA (r:List (Int × Int)):List Int:=r.map fun e=>e.1 * 16+e.2
abbrev Yc (w:World) (b:Nat) (vp:Value) (split:Bool) (wv:Zs) (s:Bf):Prop:=w.heap[b]? = some (.cells (ZV vp s.q ++ #[.bool split,.slice wv.a wv.n wv.cap]) 172 (0,0))
abbrev GC (w:World) (wv:Zs) (s:Bf):Prop:=YV Zu w wv.v (s.bf.map ZA)
theorem Yc.split {w:World}{b:Nat}{vp:Value}{split:Bool}{wv:Zs}{s:Bf}(h:Yc w b vp split wv s):w.cell? ⟨b,16,none⟩=some (.bool split):=Zc h (k:=16) rfl
theorem Yc.waits {w:World}{b:Nat}{vp:Value}{split:Bool}{wv:Zs}{s:Bf}(h:Yc w b vp split wv s):w.cell? ⟨b,17,none⟩=some (.slice wv.a wv.n wv.cap):=Zc h (k:=17) rfl
theorem Yc.lt {w:World}{b:Nat}{vp:Value}{split:Bool}{wv:Zs}{s:Bf}(h:Yc w b vp split wv s):b < w.heap.size:=(Array.getElem?_eq_some_iff.1 h).1
theorem Yc.below {w w':World}{b:Nat}{vp:Value}{split:Bool}{wv:Zs}{s:Bf}(h:Yc w b vp split wv s) (hb:Below w.heap.size w w'):Yc w' b vp split wv s:=(hb.block b h.lt).trans h
theorem JR (b t loc:Nat) (split:Bool) (w:World) (h16:w.cell? ⟨b,16,none⟩=some (.bool split)) (ht:t≤2) (hl:loc≤2) :
 Calls Tryz.prog 236 #[.pointer (some ⟨b,0,none⟩),.int .i64 (t:Int),.int .i64 (loc:Int)] w fun e w'=>e = .returned (.int .i64 ((Zj t loc split:Nat):Int))∧w=w':=by
 have bl:=Zb h16;cases split
 ·go_enter Tryz.func236,Tryz.ntmps236
  go_wp2_with fail;go_ret;exact⟨rfl,rfl⟩
 ·have E:Zj t loc true=t * 3+loc:=by simp[Zj]
  have HE:=Za E;clear E;go_enter Tryz.func236,Tryz.ntmps236;go_wp2_with fail;go_ret;rw[HE.out];exact⟨congrArg Ending.returned (congrArg (Value.int .i64) Om),rfl⟩
theorem Vh (s:Bf) (t:Nat) (split:Bool):Yg s t split=(List.range 3).all fun i=>(s.bf.getD (Zj t i split) []).isEmpty:=by
 cases split
 ·simp[Yg,Yw,Zj,List.range_succ]
 ·simp[Yg,Yw,Zj,List.range_succ]
theorem XU {p:List (List Ins)}{split:Bool}{t i:Nat}(ht:t < p.length) (hi:i < 3):Zj t i split < p.length * Yw split:=by
 have:=Ms (p:=p) (split:=split) (loc:=(i:Int)) ht Om Om;exact this
theorem Ec (b t:Nat) (vp:Value) (split:Bool) (wv:Zs) (p:List (List Ins)) (s:Bf) (w:World) (hx:Yc w b vp split wv s) (hw:GC w wv s) (hok:ZT p split s) (ht:t < p.length) (hpl:p.length≤3) :
 Calls Tryz.prog 240 #[.pointer (some ⟨b,0,none⟩),.int .i64 (t:Int)] w fun e w'=>e = .returned (.bool (Yg s t split))∧Below w.heap.size w w':=by
 obtain⟨wa,wn,wk⟩:=wv;have HX:=Za hx;have HW:=Za hw;have HLB:=Za hok.lb
 have h16:=hx.split;have h17:=hx.waits;have bl:=hx.lt;have ht2:t≤2:=Om;obtain⟨_,_,hv,-,hcn,-,-⟩:=hw.open;simp only[Zs.v,Value.slice.injEq]at hv;obtain⟨rfl,hwn,rfl⟩:=hv;rw[List.length_map]at hwn;have HWN:=Za hwn;have HE:=Za (Vh s t split);have HP:=Za (fun i (hi:i < 3)=>XU (p:=p) (split:=split) (i:=i) ht hi);obtain⟨R,hR⟩:∃ R,R=Yg s t split:=⟨_,rfl⟩
 have HR:=Za hR;rw[← hR];clear hx hw hok hR hwn hcn;go_enter Tryz.func240,Tryz.ntmps240;go_wp2_with fail
 go_loopw [6] (fun i wr => ∃ k:Nat,k≤3∧i = .int .i64 k∧Hid (∀ j < k,(s.bf.getD (Zj t j split) []).isEmpty=true)∧Below w.heap.size w wr) (fun i _=>3 - (intOf i).toNat)
 case atStart=>exact⟨0,Nat.zero_le _,rfl,Za (fun t h=>absurd h (Nat.not_lt_zero t)),Below.refl _ _⟩
 case round =>
  obtain⟨k,hk,rfl,hno,hb⟩:=hrel;have HB:=Za hb;by_cases hlt:k < 3
  ·have hlt':(k:Int) < 3:=Om
   have hk2:k≤2:=Om;have e16:=(hb.cell (p:=⟨b,16,none⟩) bl).trans h16;have e17:=(hb.cell (p:=⟨b,17,none⟩) bl).trans h17;have bl2:=Zb e16;obtain⟨q,hq⟩:∃ q,q=Zj t k split:=⟨_,rfl⟩
   have hqs:q < s.bf.length:=by rw[hq,HLB.out];exact HP.out k hlt
   have hqn:(q:Int) < (wn:Int):=by rw[HWN.out];omega
   obtain⟨row,hrow⟩:=Zd (xs:=s.bf) (k:=q) hqs;have hrow2:(s.bf.map ZA)[q]? = some (ZA row):=by rw[List.getElem?_map,hrow];rfl
   obtain⟨b2,o2,ra,rc,rfl,hbl2,q0,-⟩:=YV.row (HW.out.below hb) hrow2;rw[List.length_map]at q0;have HBU:=Za (fun X:BW wr=>JR b t k split X.val ((X.prop.cell (p:=⟨b,16,none⟩) bl2).trans e16) ht2 hk2);simp only[← hq]at HBU;have HROW:=Za hrow;have HQ:=Za hq
   clear hb hrow hrow2 hq;by_cases hne:row.length > 0
   ·have hne':(row.length:Int) > 0:=Om
    have E:Hid (R=false):=Za (by
     rw[HR.out,HE.out,List.all_eq_false];refine⟨k,List.mem_range.2 hlt,?_⟩;rw[← HQ.out,List.getD_eq_getElem?_getD,HROW.out];cases row with
     | nil=>simp at hne
     | cons x r=>simp)
    go_wp2_with fail;refine Zo Kr Kr ?_
    repeat (go_big_quiet_step ((go_at_call 236;(with_reducible exact Calls.Gx (HBU.out _)))))
    refine wpQuiet_nil ?_;intro w1 hw1;go_wp2_with fail;go_ret;rw[E.out];exact⟨rfl,HB.out.trans (hw1.mono HB.out.size)⟩
   ·have hne':¬ (row.length:Int) > 0:=Om
    have NO:Hid (∀ j < k+1,(s.bf.getD (Zj t j split) []).isEmpty=true):=Za fun j hj=>by
     by_cases e:j=k
     ·subst e
      rw[← HQ.out,List.getD_eq_getElem?_getD,HROW.out];cases row with
      | nil=>rfl
      | cons x r=>simp at hne
     ·exact hno.out j Om
    go_wp2_with fail;refine Zo Kr Kr ?_
    repeat (go_big_quiet_step ((go_at_call 236;(with_reducible exact Calls.Gx (HBU.out _)))))
    refine wpQuiet_nil ?_;intro w1 hw1;have B1:=Za (HB.out.trans (hw1.mono HB.out.size));clear hw1;go_wp2_with fail;go_roundw
    case rel=>exact⟨k+1,Om,Gn,NO,B1.out⟩
    case measure=>simp[intOf];omega
  ·obtain rfl:k=3:=Om
   have E:Hid (R=true):=Za (by
    rw[HR.out,HE.out,List.all_eq_true];exact fun j hj=>hno.out j (List.mem_range.1 hj))
   go_wp2_with fail;go_ret;rw[E.out];exact⟨rfl,HB.out⟩
def YW (p:List (List Ins)) (split:Bool) (s:Bf) (t:Nat):Bool:=match ZW p s.q t with
 | none=>false
 | some i=>if i.op=4∨i.op=5 then Yg s t split else true
def Qq (s:Bf) (k:Nat):Bool:=decide (0 < (s.bf.getD k []).length)
def Uo (p:List (List Ins)) (split:Bool) (s:Bf):List Nat:=((List.range p.length).filter fun t=>YW p split s t)++((List.range s.bf.length).filter fun k=>Qq s k).map fun k=>p.length+k
theorem UP (f:Nat→Bool) (k:Nat):(List.range (k+1)).filter f=(List.range k).filter f++(if f k=true then [k] else []):=by
 rw[List.range_succ,List.filter_append]
 congr 1
 cases h:f k <;> simp[h]
theorem QO (f:Nat→Bool) (k:Nat):((List.range k).filter f).length≤k:=Nat.le_trans (List.length_filter_le _ _) Sm
theorem ID (A L:List Nat) (k j:Nat):((A++(L++[j]).map fun x=>k+x).map fun (m:Nat)=>(m:Int))=((A++L.map fun x=>k+x).map fun (m:Nat)=>(m:Int))++[(k:Int)+(j:Int)]:=by simp
theorem BU (b:Nat) (vp:Value) (split:Bool) (wv:Zs) (p:List (List Ins)) (s:Bf) (w:World) (hp:Z9 w vp p) (hx:Yc w b vp split wv s) (hw:GC w wv s) (hok:ZT p split s) (hpl:p.length≤3) (hpr:∀ r∈p,r.length≤7) :
 Calls Tryz.prog 233 #[.pointer (some ⟨b,0,none⟩)] w (Xs Zq 3 w ((Uo p split s).map fun (m:Nat)=>(m:Int))):=by
 obtain⟨va,vc,rfl,hc1,hc2,hc3,hp⟩:=hp.open;obtain⟨wa,wn,wk⟩:=wv;have HP:=Za hp;have HX:=Za hx;have HW:=Za hw;have HOK:=Za hok;have HPR:=Za hpr
 have HV:=Za (ZD.Yp hx);have c0:=HV.out.c0;have bl:=HV.out.lt;obtain⟨_,_,hv,-,hcn,-,-⟩:=hw.open;simp only[Zs.v,Value.slice.injEq]at hv;obtain⟨rfl,hwn,rfl⟩:=hv;rw[List.length_map]at hwn;have hwn9:wn≤9:=by
  rw[hwn,hok.lb];have:Yw split≤3:=by cases split <;> simp[Yw]
  have:=Nat.mul_le_mul hpl this;omega
 have HWN:=Za hwn;have HMV:Hid (Uo p split s=((List.range p.length).filter fun t=>YW p split s t)++((List.range s.bf.length).filter fun k=>Qq s k).map fun k=>p.length+k):=Za rfl;clear hp hx hw hok hpr hwn hcn;generalize hn:p.length=n at *;have HN:=Za hn;clear hn;have hsa:=@ZP;go_enter Tryz.func233,Tryz.ntmps233;go_wp2_with fail
 go_loopw [3,15] (fun v i wr => ∃ k:Nat,k≤n∧i = .int .i64 k∧Own Zq 3 wr w.heap.size v (((List.range k).filter fun t=>YW p split s t).map fun (m:Nat)=>(m:Int))∧Below w.heap.size w wr) (fun _ i _=>n - (intOf i).toNat)
 case atStart=>exact⟨0,Nat.zero_le _,rfl,Own.nil _ _ _,Below.refl _ _⟩
 case round =>
  obtain⟨k,hk,rfl,hown,hb⟩:=hrel;have HB:=Za hb;have HO:=Za hown
  have hbs:=hb.size;have hlen:((((List.range k).filter fun t=>YW p split s t).map fun (m:Nat)=>(m:Int))).length≤68719476736:=by
   rw[List.length_map];have:=QO (fun t=>YW p split s t) k;omega
  by_cases hlt:k < n
  ·have hlt':=Zh hlt
   have HNX:=Za (XT b k va n vc p s.q wr (HP.out.below hb) (HV.out.below hb) HOK.out.q (by rw[HN.out];exact hpl) HPR.out (by rw[HN.out];exact hlt));have HEM:=Za (fun (W:World) (hW:Below w.heap.size w W)=>Ec b k (.slice va n vc) split ⟨wa,wn,wk⟩ p s W (HX.out.below hW) (HW.out.below hW) HOK.out (by rw[HN.out];exact hlt) (by rw[HN.out];exact hpl));have SN:=Za (UP (fun t=>YW p split s t) k);clear hb hown;go_wp2_with fail
   (with_reducible refine HNX.out.mono ?_);rintro e w1 ⟨rfl,hb1⟩
   have HB1:=Za (HB.out.trans (hb1.mono HB.out.size));have HO1:=Za (HO.out.below hb1);have hs1:w.heap.size≤w1.heap.size:=Nat.le_trans hbs hb1.size;clear hb1 HNX;cases hi:ZW p s.q k with
   | none =>
    have hc:YW p split s k=false:=by unfold YW;rw[hi]
    rw[hc,if_neg Sm,List.append_nil]at SN;clear hi hc;simp only[IH];go_wp2_with fail;go_roundw
    case rel=>exact⟨k+1,Om,Gn,by rw[SN.out];exact HO1.out.alloc _,HB1.out.alloc HB1.out.size _⟩
    case measure=>simp[intOf];omega
   | some i =>
    obtain⟨op,loc,Ya,val⟩:=i;have HBA:=Za (HB1.out.alloc HB1.out.size (.cells #[.int .i64 op,.int .i64 loc,.int .i64 Ya,.int .i64 val] 44));have HOA:=Za (HO1.out.alloc (.cells #[.int .i64 op,.int .i64 loc,.int .i64 Ya,.int .i64 val] 44));simp only[IH];by_cases h45:op=4∨op=5
    ·have hc:YW p split s k=Yg s k split:=by unfold YW;rw[hi];simp only[h45,if_true]
     rw[hc]at SN;clear hi hc;rcases h45 with rfl | rfl
     all_goals
      cases hE:Yg s k split
      ·rw[hE,if_neg Sm,List.append_nil]at SN
       have HE0:=Za hE;clear hE;go_wp2_with (go_at_call 240;(with_reducible refine(HEM.out _ HBA.out).mono ?_);rintro e w3 ⟨rfl,hb3⟩;rw[HE0.out];have HB3:=Za (HBA.out.trans (hb3.mono HBA.out.size));have HO3:=Za (HOA.out.below hb3);clear hb3);go_roundw
       case rel=>exact⟨k+1,Om,Gn,by rw[SN.out];exact HO3.out,HB3.out⟩
       case measure=>simp[intOf];omega
      ·rw[hE,if_pos rfl]at SN
       have HE0:=Za hE;clear hE;go_wp2_with (first
        | (go_at_call 240;(with_reducible refine(HEM.out _ HBA.out).mono ?_);rintro e w3 ⟨rfl,hb3⟩;rw[HE0.out];have HB3:=Za (HBA.out.trans (hb3.mono HBA.out.size));have HO3:=Za (HOA.out.below hb3);have hs3:=HB3.out.size;clear hb3)
        | (at_builtin;refine Z8 Zq 3 Tryz.Yi rfl Tryz.underlying66 w.heap.size _ _ (k:Int) (HO3.out.alloc _) Dc hlen So rfl _ _ rfl rfl _ 0 1 rfl Zk ?_;intro v5 w5 hown5 hgr5 hat5))
       have HF:=Za (show Own Zq 3 w5 w.heap.size v5 (((List.range (k+1)).filter fun t=>YW p split s t).map fun (m:Nat)=>(m:Int)) by rw[SN.out,List.map_append];exact hown5);have HW5:=Za ((HB3.out.alloc HB3.out.size (.cells #[.int .i64 (k:Int)] 3)).grown hgr5 So (fun q hq=>(World.ownsRow.lt HO.out q hq).1));clear hown5 hgr5 hat5;go_wp2_with fail;go_roundw
       case rel=>exact⟨k+1,Om,Gn,HF.out,HW5.out⟩
       case measure=>simp[intOf];omega
    ·have hc:YW p split s k=true:=by unfold YW;rw[hi];simp only[h45,if_false]
     rw[hc,if_pos rfl]at SN;have h4:(op==4)=false:=So;have h5:(op==5)=false:=So;have h4':¬ op=4:=Om;have h5':¬ op=5:=Om;clear hi hc h45;go_wp2_with (first
      | (at_builtin;refine Z8 Zq 3 Tryz.Yi rfl Tryz.underlying66 w.heap.size _ _ (k:Int) (HOA.out.alloc _) Dc hlen So rfl _ _ rfl rfl _ 0 1 rfl (UY Sm) ?_;intro v5 w5 hown5 hgr5 hat5))
     have HF:=Za (show Own Zq 3 w5 w.heap.size v5 (((List.range (k+1)).filter fun t=>YW p split s t).map fun (m:Nat)=>(m:Int)) by rw[SN.out,List.map_append];exact hown5);have HW5:=Za ((HBA.out.alloc HBA.out.size (.cells #[.int .i64 (k:Int)] 3)).grown hgr5 So (fun q hq=>(World.ownsRow.lt HO.out q hq).1));clear hown5 hgr5 hat5;go_wp2_with fail;go_roundw
     case rel=>exact⟨k+1,Om,Gn,HF.out,HW5.out⟩
     case measure=>simp[intOf];omega
  ·obtain rfl:k=n:=Om
   have hbb:=HX.out.below hb;have h17:=hbb.waits;have c1:=(hb.cell (p:=⟨b,0,none⟩) bl).trans c0;have bl1:=Zb c1;clear hb hown hbb;have HO0:=Za (show Own Zq 3 wr w.heap.size _ ((((List.range k).filter fun t=>YW p split s t)++((List.range 0).filter fun j=>Qq s j).map fun j=>k+j).map fun (m:Nat)=>(m:Int)) by rw[List.range_zero,List.filter_nil,List.map_nil,List.append_nil];exact HO.out);go_wp2_with fail;clear h17 c1 bl1 hbs hlen hlt
   go_loopw [3,52] (fun v i wr => ∃ j:Nat,j≤wn∧i = .int .i64 j∧Own Zq 3 wr w.heap.size v ((((List.range k).filter fun t=>YW p split s t)++((List.range j).filter fun j=>Qq s j).map fun j=>k+j).map fun (m:Nat)=>(m:Int))∧Below w.heap.size w wr) (fun _ i _=>wn - (intOf i).toNat)
   case atStart=>exact⟨0,Nat.zero_le _,rfl,HO0.out,HB.out⟩
   case round =>
    obtain⟨j,hj,rfl,hown,hb⟩:=hrel;have HB1:=Za hb;have HO1:=Za hown
    have hbs:=hb.size;by_cases hlt:j < wn
    ·have hlt':=Zh hlt
     have hlen:(((((List.range k).filter fun t=>YW p split s t)++((List.range j).filter fun j=>Qq s j).map fun j=>k+j).map fun (m:Nat)=>(m:Int))).length≤68719476736:=by
      have h1:=QO (fun t=>YW p split s t) k;have h2:=QO (fun t=>Qq s t) j;simp only[List.length_map,List.length_append];omega
     obtain⟨row,hrow⟩:=Zd (xs:=s.bf) (k:=j) (by rw[← HWN.out];exact hlt);have hrow2:(s.bf.map ZA)[j]? = some (ZA row):=by rw[List.getElem?_map,hrow];rfl
     obtain⟨b2,o2,ra,rc,rfl,hbl2,q0,-⟩:=YV.row (HW.out.below hb) hrow2;rw[List.length_map]at q0;have c1:=(hb.cell (p:=⟨b,0,none⟩) bl).trans c0;have bl1:=Zb c1;have SN:=Za (UP (fun j=>Qq s j) j);have hwa:IntKind.i64.wrap ((k:Int)+(j:Int))=(k:Int)+(j:Int):=Jb Om Om;by_cases hne:row.length > 0
     ·have hne':(row.length:Int) > 0:=Om
      have hc:Qq s j=true:=by unfold Qq;rw[List.getD_eq_getElem?_getD,hrow];simpa using hne
      rw[hc,if_pos rfl]at SN;clear hb hown hrow hrow2 hc;go_wp2_with (first
       | (at_builtin;refine Z8 Zq 3 Tryz.Yi rfl Tryz.underlying66 w.heap.size _ _ ((k:Int)+(j:Int)) (HO1.out.alloc _) Dc hlen So rfl _ _ rfl rfl _ 0 1 rfl Zk ?_;intro v5 w5 hown5 hgr5 hat5))
      have HF:=Za (show Own Zq 3 w5 w.heap.size v5 ((((List.range k).filter fun t=>YW p split s t)++((List.range (j+1)).filter fun j=>Qq s j).map fun j=>k+j).map fun (m:Nat)=>(m:Int)) by
       rw[SN.out,ID];exact hown5)
      have HW5:=Za ((HB1.out.alloc HB1.out.size (.cells #[.int .i64 ((k:Int)+(j:Int))] 3)).grown hgr5 So (fun q hq=>(World.ownsRow.lt HO1.out q hq).1));clear hown5 hgr5 hat5;go_wp2_with fail;go_roundw
      case rel=>exact⟨j+1,Om,Gn,HF.out,HW5.out⟩
      case measure=>simp[intOf];omega
     ·have hne':¬ (row.length:Int) > 0:=Om
      have hc:Qq s j=false:=by unfold Qq;rw[List.getD_eq_getElem?_getD,hrow];simpa using hne
      rw[hc,if_neg Sm,List.append_nil]at SN;clear hb hown hrow hrow2 hc;go_wp2_with fail;go_roundw
      case rel=>exact⟨j+1,Om,Gn,by rw[SN.out];exact HO1.out,HB1.out⟩
      case measure=>simp[intOf];omega
    ·obtain rfl:j=wn:=Om
     have E:Hid (Uo p split s=((List.range k).filter fun t=>YW p split s t)++((List.range j).filter fun j=>Qq s j).map fun j=>k+j):=Za (by rw[HMV.out,← HWN.out]);go_wp2_with fail;go_ret;exact⟨_,rfl,by rw[E.out];exact HO1.out,HB1.out⟩
theorem F6 (a:Option Addr) (n c:Nat) (w:World):Calls Tryz.prog 239 #[.slice a n c] w fun e w'=>e = .returned (.bool (decide (0 < n)))∧w=w':=by
 go_enter Tryz.func239,Tryz.ntmps239;go_wp2_with fail;go_ret;exact⟨Sm,rfl⟩
theorem F7 (v:Value) (rows:List (List Int)) (w:World) (hw:YV Zu w v rows) (hn:rows.length≤1000) :
 Calls Tryz.prog 242 #[v,.func (.func 239) #[] #[]] w fun e w' => ∃ r:Int,e = .returned (.int .i64 r)∧((0≤r)↔(rows.any fun x => !x.isEmpty)=true)∧w=w':=by
 obtain⟨va,vc,rfl,hc1,hc2,hc3,hw⟩:=hw.open;have HW:=Za hw;clear hw hc1 hc3;generalize hm:rows.length=m at *;have HM:=Za hm;clear hm;go_enter Tryz.func242,Tryz.ntmps242;go_wp2_with fail
 go_loopw [8] (fun i wr => ∃ k:Nat,k≤m∧i = .int .i64 k∧Hid (∀ x∈rows.take k,x=[])∧w=wr) (fun i _=>m - (intOf i).toNat)
 case atStart=>exact⟨0,Nat.zero_le _,rfl,Za (fun x h=>by simp at h),rfl⟩
 case round =>
  obtain⟨k,hk,rfl,hno,rfl⟩:=hrel;by_cases hlt:k < m
  ·have hlt':=Zh hlt
   obtain⟨row,hrow⟩:=Zd (xs:=rows) (k:=k) (by rw[HM.out];exact hlt);obtain⟨b2,o2,ra,rc,rfl,hbl2,q0,-⟩:=YV.row HW.out hrow;have HROW:=Za hrow;clear hrow;have HC:=Za (F6 ra row.length rc w);by_cases hne:0 < row.length
   ·have E:Hid ((0≤(k:Int))↔(rows.any fun x => !x.isEmpty)=true):=Za (by
     refine⟨fun _ => ?_,fun _=>by omega⟩;rw[List.any_eq_true];refine⟨row,List.mem_of_getElem? HROW.out,?_⟩;cases row with
     | nil=>simp at hne
     | cons x r=>rfl)
    have hd:decide (0 < row.length)=true:=by simpa using hne
    rw[hd]at HC;clear hno;go_wp2_with (go_at_call 239;(with_reducible refine HC.out.mono ?_);rintro e w1 ⟨rfl,rfl⟩);go_ret;exact⟨_,rfl,E.out,rfl⟩
   ·have hd:decide (0 < row.length)=false:=by simpa using hne
    rw[hd]at HC;have NO:Hid (∀ x∈rows.take (k+1),x=[]):=Za fun x hx=>by
     rw[List.take_add_one,HROW.out]at hx;rcases List.mem_append.1 hx with h | h
     ·exact hno.out x h
     ·simp at h;subst h
      exact List.eq_nil_of_length_eq_zero Om
    go_wp2_with (go_at_call 239;(with_reducible refine HC.out.mono ?_);rintro e w1 ⟨rfl,rfl⟩);go_roundw
    case rel=>exact⟨k+1,Om,Gn,NO,trivial⟩
    case measure=>simp[intOf];omega
  ·obtain rfl:k=m:=Om
   have E:Hid ((0≤(-1:Int))↔(rows.any fun x => !x.isEmpty)=true):=Za (by
    refine⟨fun h=>by omega,fun h => ?_⟩;rw[List.any_eq_true]at h;obtain⟨x,hx,hxe⟩:=h;have:=hno.out x (by rw[List.take_of_length_le (by rw[HM.out];exact Nat.le_refl _)];exact hx);rw[this]at hxe;simp at hxe)
   go_wp2_with fail;go_ret;exact⟨_,rfl,E.out,rfl⟩
theorem F5 (v:Value) (rows:List (List Int)) (w:World) (hw:YV Zu w v rows) (hn:rows.length≤1000) :
 Calls Tryz.prog 238 #[v,.func (.func 239) #[] #[]] w fun e w'=>e = .returned (.bool (rows.any fun x => !x.isEmpty))∧w=w':=by
 have H:=Za (F7 v rows w hw hn);clear hw;generalize (rows.any fun x => !x.isEmpty)=D at *;go_enter Tryz.func238,Tryz.ntmps238;go_wp2_with fail
 (with_reducible refine H.out.mono ?_);rintro e w1 ⟨r,rfl,hr,rfl⟩
 have HR:=Za hr;clear hr;go_wp2_with fail;go_ret;refine⟨congrArg Ending.returned (congrArg Value.bool ?_),rfl⟩;have:=HR.out;cases D <;> simp_all
theorem DB (b:Nat) (vp:Value) (split:Bool) (wv:Zs) (p:List (List Ins)) (s:Bf) (w:World) (hp:Z9 w vp p) (hx:Yc w b vp split wv s) (hw:GC w wv s) (hok:ZT p split s) (hpl:p.length≤3) (hpr:∀ r∈p,r.length≤7) :
 Calls Tryz.prog 231 #[.pointer (some ⟨b,0,none⟩)] w fun e w'=>e = .returned (.bool (Y3 p s))∧Below w.heap.size w w':=by
 obtain⟨wa,wn,wk⟩:=wv;have H1:=Za (UF b vp p s.q w hp (ZD.Yp hx) hok.q hpl hpr);have hl9:(s.bf.map ZA).length≤1000:=by
  rw[List.length_map,hok.lb];have:Yw split≤3:=by cases split <;> simp[Yw]
  have:=Nat.mul_le_mul hpl this;omega
 have H2:=Za (fun (W:World) (hW:Below w.heap.size w W)=>F5 (.slice wa wn wk) (s.bf.map ZA) W (hw.below hW) hl9);have h17:=hx.waits;have bl:=hx.lt;have HE:Hid (Y3 p s=(!((s.bf.map ZA).any fun x => !x.isEmpty)&&ZU p s.q)):=Za (by
  unfold Y3
  congr 1
  rw[List.any_map,Bool.eq_iff_iff,List.all_eq_true,Bool.not_eq_true',List.any_eq_false];simp[ZA])
 have HX:=Za hx;clear hp hx hw hok hpr hl9;generalize ((s.bf.map ZA).any fun x => !x.isEmpty)=D at *;cases hd:ZU p s.q
 ·rw[hd]at H1 HE
  clear hd;go_enter Tryz.func231,Tryz.ntmps231;go_wp2_with (go_at_call 192;(with_reducible refine H1.out.mono ?_);rintro e w1 ⟨rfl,hb1⟩);go_ret;rw[HE.out];exact⟨Sm,hb1⟩
 ·rw[hd]at H1 HE
  clear hd;go_enter Tryz.func231,Tryz.ntmps231;go_wp2_with (first
   | (go_at_call 192;(with_reducible refine H1.out.mono ?_);rintro e w1 ⟨rfl,hb1⟩;have B1:=Za hb1;have g17:=(hb1.cell (p:=⟨b,17,none⟩) bl).trans h17;have gl:=Zb g17;clear hb1)
   | (go_at_call 238;(with_reducible refine(H2.out _ B1.out).mono ?_);rintro e w2 ⟨rfl,rfl⟩))
  go_ret;rw[HE.out];exact⟨Sm,B1.out⟩
def Qp (w:World) (base:Nat) (v:Value) (xs:List Int):Prop:=
 ∃ (g cap:Nat) (cur:Array Value) (fz:Nat × Nat),v = .slice (some ⟨g,0,none⟩) xs.length cap∧base≤g∧w.heap[g]? = some (.cells cur 5 fz)∧(fz.2=0∨cur.size≤fz.1)∧xs.length≤cap∧cap≤maxLen∧cur.size=cap∧cur.toList.take xs.length=xs.map Z1
theorem JM (P:Program) (g o:Nat) (t:TypeId) (fz:Nat × Nat):∀ (vs:List Value) (i:Nat) (cur:Array Value) (w:World),w.heap[g]? = some (.cells cur t fz)→(fz.2=0∨cur.size≤fz.1)→o+i+vs.length≤cur.size→(∀ v∈vs,v.oneCell'=true) →
 (storeCells ⟨g,o,none⟩ vs i).run P w = .ok () (w.setRow g (cur.toList.take (o+i)++vs++cur.toList.drop (o+i+vs.length)).toArray)
 | [],i,cur,w,hg,_,_,_=>by
  simp only[storeCells,List.append_nil,List.length_nil,Nat.add_zero,List.take_append_drop,Array.toArray_toList];rw[setRow_self w g cur t fz hg];rfl
 | v :: rest,i,cur,w,hg,hfz,hl,h1=>by
  have hi:o+i < cur.size:=by simp at hl;omega
  have hadd:(⟨g,o,none⟩:Addr).add i=⟨g,o+i,none⟩:=by unfold Addr.add;split <;> simp_all
  have hcell:w.cell? ⟨g,o+i,none⟩=some cur[o+i]:=by simp[World.cell?,hg,hi]
  have hfro:w.frozen? ⟨g,o+i,none⟩=false:=by
   obtain⟨lo,hi'⟩:=fz;simp only[World.frozen?,hg,Bool.and_eq_false_iff,decide_eq_false_iff_not];simp only at hfz;rcases hfz with hfz | hfz
   ·right;omega
   ·left;omega
  have hst:(store ((⟨g,o,none⟩:Addr).add i) v).run P w = .ok () (w.setRow g (cur.setIfInBounds (o+i) v)):=by
   rw[hadd,run_store P w _ v _ (h1 v Sm),hcell];simp[hfro,setCell_eq_setRow w g (o+i) cur t fz v hg]
  have ih:=JM P g o t fz rest (i+1) (cur.setIfInBounds (o+i) v) (w.setRow g (cur.setIfInBounds (o+i) v)) (setRow_heap w g cur _ t _ hg) (by simpa using hfz) (by simp at hl ⊢;omega) (fun x hx=>h1 x (by simp[hx]));simp only[storeCells,Sem.run_bind,hst,Result.andThen_ok,ih,setRow_setRow]
  congr 3
  have e:=list_seg_step cur.toList (o+i) v rest (by simp at hl ⊢;omega);simpa[Array.toList_setIfInBounds,Nat.add_assoc] using e
theorem Qp.lt {w:World}{base:Nat}{v:Value}{xs:List Int}(h:Qp w base v xs):∀ q,v.ownBlock=some q→base≤q∧q < w.heap.size:=by
 obtain⟨g,cap,cur,fz,rfl,h1,h2,-⟩:=h;intro q hq;simp[Value.ownBlock]at hq;subst hq;exact⟨h1,(Array.getElem?_eq_some_iff.1 h2).1⟩
theorem Qp.below {w w':World}{base:Nat}{v:Value}{xs:List Int}(h:Qp w base v xs) (hb:Below w.heap.size w w'):Qp w' base v xs:=by
 obtain⟨g,cap,cur,fz,rfl,h1,h2,h3⟩:=h;exact⟨g,cap,cur,fz,rfl,h1,(hb.block g (Array.getElem?_eq_some_iff.1 h2).1).trans h2,h3⟩
theorem Qp.alloc {w:World}{base:Nat}{v:Value}{xs:List Int}(h:Qp w base v xs) (o:Obj):Qp (w.alloc o) base v xs:=h.below ((Below.refl _ _).alloc (Nat.le_refl _) o)
theorem Pq (l:List Int):∀ u∈l.map Z1,u.oneCell'=true:=fun u hu=>by
 obtain⟨x,-,rfl⟩:=List.mem_map.1 hu;rfl
theorem Qp.app {w:World}{base:Nat}{v u:Value}{xs ys:List Int}(h:Qp w base v xs) (hr:ZC Zu w u ys) (hn:xs.length+ys.length≤68719476736) (hb:base≤w.heap.size) (ty:TypeId) :
 ∃ v' w',(Builtin.append_ #[39,39] ty #[v,u]).run Tryz.prog w = .ok v' w'∧Qp w' base v' (xs++ys)∧w.grownBy w' v.ownBlock:=by
 obtain⟨it,hi,hz0,hz1,hz2⟩:=info_parts Tryz.QA;have ht:Tryz.prog.underlying 39=some (.slice 5):=Tryz.underlying39;obtain⟨g,cap,cur,fz,rfl,h1,h2,h3,h4,h5,h6,h7⟩:=h;obtain⟨ad,c,rfl,hc1,hc2,hcell⟩:=hr;cases ad with
 | none =>
  have hys:ys=[]:=by
   cases ys with
   | nil=>rfl
   | cons y ys=>obtain⟨b,o,hb,_⟩:=hcell 0 y rfl;cases hb
  subst hys;refine⟨.slice (some ⟨g,0,none⟩) xs.length cap,w,?_,⟨g,cap,cur,fz,?_,h1,h2,h3,?_,h5,h6,?_⟩,World.grownBy.refl _ _⟩
  ·simp[Builtin.append_,run_underlying ht,sizeOf,typeInfo,hi,Builtin.lenOf,Builtin.firstCells,h4,storeCells]
  ·simp
  ·simpa using h4
  ·simpa using h7
 | some a =>
  have hnews:∀ j u,(ys.map Z1)[j]? = some u→w.cell? (a.add j)=some u:=fun j u hu=>by
   rw[List.getElem?_map]at hu;cases hy:ys[j]? with
   | none=>rw[hy]at hu;cases hu
   | some y =>
    rw[hy]at hu;obtain⟨b,o,hb,hk⟩:=hcell j y hy;simp only[Option.some.injEq]at hb;subst hb;have:=hk 0 (Z1 y) rfl;simp only[Zu,Nat.mul_one,Nat.add_zero]at this;rw[Addr.add_lit];simp only[Option.map_some,Option.some.injEq]at hu;rw[← hu];exact this
  have hl:(ys.map Z1).length=ys.length * it.size:=by rw[hz1];simp
  by_cases hroom:xs.length+ys.length≤cap
  ·have hf:=run_firstCells_some (P:=Tryz.prog) w it.size ys.length a ys.length c (ys.map Z1) hl hnews
   have hst:=JM Tryz.prog g xs.length 5 fz (ys.map Z1) 0 cur w h2 h3 So (Pq ys);simp only[Nat.add_zero]at hst;obtain⟨X,hX⟩:∃ X:Array Value,X=(cur.toList.take xs.length++ys.map Z1++cur.toList.drop (xs.length+(ys.map Z1).length)).toArray:=⟨_,rfl⟩
   rw[← hX]at hst;have hXs:X.size=cur.size:=by
    rw[hX];simp only[List.size_toArray,List.length_append,List.length_take,List.length_drop,Array.length_toList,List.length_map];omega
   refine⟨.slice (some ⟨g,0,none⟩) (xs.length+ys.length) cap,w.setRow g X,?_,⟨g,cap,X,fz,Sm,h1,setRow_heap w g cur _ _ _ h2,?_,by simpa using hroom,h5,by rw[hXs];exact h6,?_⟩,⟨rfl,rfl,rfl,Sm,fun k _ hk=>setRow_other w g k _ (fun e=>hk (by simp[Value.ownBlock,e]))⟩⟩
   ·rw[hz1]at hf
    simp[Builtin.append_,run_underlying ht,sizeOf,typeInfo,hi,hz1,Builtin.lenOf,hroom,hf,Addr.add_lit,hst]
   ·rw[hXs];exact h3
   ·rw[hX,h7,List.length_append,List.map_append]
    exact List.take_left' Sm
  ·have holds:∀ j u,(xs.map Z1)[j]? = some u→w.cell? ((⟨g,0,none⟩:Addr).add j)=some u:=fun j u hu=>by
    rw[← h7,List.getElem?_take]at hu;split at hu
    ·rw[Addr.add_lit]
     simp only[Nat.zero_add];exact Zc h2 (by simpa using hu)
    ·cases hu
   have hr:=run_append_grow (P:=Tryz.prog) w 39 ty 5 it _ ht hi hz0 ⟨g,0,none⟩ xs.length cap (xs.map Z1) (by rw[hz1];simp) holds a ys.length c (ys.map Z1) hl hnews Om Om (growslice_fits Om (by rw[hz2];omega));refine⟨_,_,hr,⟨w.heap.size,grownCap w (xs.length+ys.length) cap 5,_,(0,0),Sm,hb,heap_alloc_new w.drew _,.inl rfl,?_,?_,?_,?_⟩,⟨rfl,rfl,rfl,Sm,fun k hk _=>heap_alloc_old w.drew _ hk⟩⟩
   ·rw[List.length_append];exact grownCap_ge _ _ _ _
   ·exact grownCap_le_maxLen _ _ _ _ (by unfold maxLen;omega)
   ·have:=grownCap_ge w (xs.length+ys.length) cap 5
    have hz:(Value.int IntKind.u8 0).cells.size=1:=rfl;simp only[Array.size_append,List.size_toArray,List.length_map,size_zeroCells,hz];omega
   ·rw[Array.toList_append,Array.toList_append,List.length_append]
    simp only[List.map_append];exact List.take_left' Sm
theorem Ge {w:World}{ops:Array Oper}{rest:List Oper}{o:Oper}{a:Act}{Q:Exit→Act→World→Prop}(base:Nat) (v u:Value) (xs ys:List Int) (hown:Qp w base v xs) (hr:ZC Zu w u ys) (hn:xs.length+ys.length≤68719476736) (hb:base≤w.heap.size)
 (hg:o.guard=none) (s y:Operand) (hop:o.op = .call { callee:=.builtin .append,args:=#[s,y],argTypes:=#[39,39] }) (hs:a.eval s=v) (hy:a.eval y=u)
 (hK:∀ v' w',Qp w' base v' (xs++ys)→w.grownBy w' v.ownBlock→wpList Tryz.prog ops Q rest (a.put o.dst v') w') :
 wpList Tryz.prog ops Q (o :: rest) a w:=by
 refine wpList_plain hg fun K hK' => ?_;obtain⟨v',w',hrun,h1,h2⟩:=hown.app hr hn hb o.type;unfold Oper.wp;simp[execOp,hop,resolve,invoke,builtin,hs,hy,hrun,Result.andThen];exact hK' _ _ (hK v' w' h1 h2)
theorem DC (w:World) (e:TypeId) (s:ByteArray):Below w.heap.size w (Lib.bytesWorld w e s):=
 ⟨rfl,rfl,rfl,by rw[Lib.bytesWorld_size];omega,fun k hk=>Lib.bytesWorld_at_old w e s k hk⟩
theorem Ip (w:World) {l:List Int}(hl:∀ x∈l,0≤x∧x≤255) (hn:l.length≤1000):Qp (Lib.bytesWorld w 5 (strOfNums l)) w.heap.size (.slice (some ⟨w.heap.size,0,none⟩) (strOfNums l).size (grownCap w (strOfNums l).size 0 5)) l:=by
 have hz:(strOfNums l).size=l.length:=strOfNums_size l;have hge:=grownCap_ge w l.length 0 5;refine⟨w.heap.size,grownCap w l.length 0 5,_,_,by rw[hz],Nat.le_refl _,Lib.bytesWorld_at_new w _ _,.inr (Nat.le_refl _),hge,grownCap_le_maxLen _ _ _ _ (by unfold maxLen;omega),?_,?_⟩
 ·have h2:(strOfNums l).data.size=l.length:=hz
  simp only[Lib.bytesCells,Array.size_append,Array.size_map,Array.size_replicate,hz,h2];omega
 ·have e:(strOfNums l).data.toList=l.map fun n=>UInt8.ofNat n.toNat:=strOfNums_data l
  simp only[Lib.bytesCells,Array.toList_append,Array.toList_map,e,List.map_map];rw[List.take_left' Sm];apply List.map_congr_left;intro x hx;have:=hl x hx;simp only[Function.comp_apply,UInt8.toNat_ofNat'];rw[Nat.mod_eq_of_lt Om,show ((x.toNat:Nat):Int)=x by omega]
theorem Iu {w:World}{base:Nat}{v:Value}{xs:List Int}(h:Qp w base v xs):(convert 39 9 v).run Tryz.prog w = .ok (.string (strOfNums xs)) w:=by
 obtain⟨g,cap,cur,fz,rfl,h1,h2,h3,h4,h5,h6,h7⟩:=h;exact run_convert_bytes_arg (P:=Tryz.prog) w 39 5 Tryz.underlying39 Tryz.underlying5 g 0 xs.length cap xs rfl (fun i hi=>by
  obtain⟨y,hy⟩:=Zd (xs:=xs) (k:=i) hi;have hc:cur[i]? = some (Z1 y):=by
   have:=congrArg (fun t:List Value=>t[i]?) h7;simp only[List.getElem?_take,hi,if_true,List.getElem?_map,hy,Option.map_some]at this;simpa using this
  rw[Nat.zero_add,Zc h2 hc,List.getD_eq_getElem?_getD,hy];rfl) 9 Tryz.underlying9
theorem YH.mono {w:World}{base base':Nat}{v:Value}{outs:List (List Int)}(h:YH w base v outs) (hb:base'≤base):YH w base' v outs:=by
 obtain⟨us,h1,h2,h3⟩:=h;exact⟨us,h1,h2.mono hb,fun i u o hu ho=>(h3 i u o hu ho).mono hb⟩
def Xg (n:Nat) (φ:List Int→Prop) (w:World) (e:Ending) (w':World):Prop:=
 ∃ v l,e = .returned v∧YH w' w.heap.size v l∧Xr n l∧(∀ o,o∈l↔φ o)∧Below w.heap.size w w'
def IX (p:List (List Ins)) (o:List Int):Prop:=Zg p=true∧∃ s,Zt (Zw p) (ZO p) s∧ZU p s=true∧YN s=o
theorem EO {p:List (List Ins)}(hv:Zg p=true) (s:Sq):Zt (Zw p) (Kf (AB p) (Vu p)) s↔Zt (Zw p) (ZO p) s:=
 Ae (ok:=Y2 p) (Y2.start p) (fun _ _ _ h hn=>h.next (ZB hv) hn) (fun _ _ i=>Bn i) (fun _ _ _ _ h=>VJ h) s
theorem KS {p:List (List Ins)}{s:Sq}(h:Y2 p s) (hpr:∀ r∈p,r.length≤7):∀ x∈IY s,0≤x∧x≤255:=by
 have h1:∀ k,0≤s.pc.getD k 0∧s.pc.getD k 0≤255:=fun k=>by
  rw[List.getD_eq_getElem?_getD];cases hk:s.pc[k]? with
  | none=>simp
  | some c =>
   obtain⟨r,hr⟩:=Zd (xs:=p) (k:=k) (by rw[← h.lp];exact(List.getElem?_eq_some_iff.1 hk).1);have h2:=h.pc k c r hk hr;have h3:=hpr r (List.mem_of_getElem? hr);simp only[Option.getD_some];omega
 have h2:∀ k,0≤s.rg.getD k 0∧s.rg.getD k 0≤255:=fun k=>by have:=Ye h.rg k;omega
 have h3:∀ k,0≤s.mm.getD k 0∧s.mm.getD k 0≤255:=fun k=>by have:=Ye h.mm k;omega
 intro x hx;simp only[IY,List.cons_append,List.nil_append,List.mem_cons,List.not_mem_nil,or_false]at hx;rcases hx with rfl | rfl | rfl | rfl | rfl | rfl | rfl | rfl | rfl | rfl | rfl | rfl | rfl | rfl | rfl
 all_goals first | exact h1 _ | exact h2 _ | exact h3 _
theorem Gd {l l':List Int}(h:∀ x∈l,0≤x∧x≤255) (h':∀ x∈l',0≤x∧x≤255) (e:strOfNums l=strOfNums l'):l=l':=by
 have e1:(l.map fun x=>UInt8.ofNat x.toNat)=l'.map fun x=>UInt8.ofNat x.toNat:=by
  have:=congrArg (fun b:ByteArray=>b.data.toList) e;simpa[strOfNums] using this
 clear e
 induction l generalizing l' with
 | nil=>cases l' with
  | nil=>rfl
  | cons y l'=>simp at e1
 | cons x l ih =>
  cases l' with
  | nil=>simp at e1
  | cons y l' =>
   simp only[List.map_cons,List.cons.injEq]at e1;have h1:=h x Sm;have h2:=h' y Sm;have e2:=congrArg UInt8.toNat e1.1;simp only[UInt8.toNat_ofNat']at e2;rw[Nat.mod_eq_of_lt Om,Nat.mod_eq_of_lt Om]at e2;rw[ih (fun z hz=>h z (by simp[hz])) (fun z hz=>h' z (by simp[hz])) e1.2,show x=y by omega]
theorem Ak {p:List (List Ins)}{a b:Sq}(ha:Y2 p a) (hb:Y2 p b) (da:ZU p a=true) (db:ZU p b=true) (e:YN a=YN b):a=b:=by
 have h1:a.rg=b.rg∧a.mm=b.mm:=List.append_inj e (by rw[ha.lr,hb.lr]);have h2:a.pc=b.pc:=by
  apply List.ext_getElem (by rw[ha.lp,hb.lp]);intro i h1 h2;have hp:i < p.length:=by rw[← ha.lp];exact h1
  unfold ZU at da db;rw[List.all_eq_true]at da db;have k1:=da i (List.mem_range.2 hp);have k2:=db i (List.mem_range.2 hp);have g1:=ha.pc i a.pc[i] p[i] (List.getElem?_eq_getElem h1) (List.getElem?_eq_getElem hp);have g2:=hb.pc i b.pc[i] p[i] (List.getElem?_eq_getElem h2) (List.getElem?_eq_getElem hp);simp[List.getD_eq_getElem?_getD,h1,h2,hp]at k1 k2;omega
 cases a;cases b;simp only[Sq.mk.injEq];exact⟨h2,h1.1,h1.2⟩
theorem CS (vp:Value) (p:List (List Ins)) (hv:Zg p=true) (b0 B:Nat) (w:World) (hB:B≤w.heap.size) (hraw:J7 vp p B w b0 (Zw p)) (hsort : @Ji (p.length * 3+3) 16777216) :
 Calls Tryz.prog 80 #[AZ 121 b0] w (KF (p.length * 3+3) (Zw p) (AB p) (Vu p) (ZU p) YN w):=by
 have hpr:=fun r hr=>((Zv hv).2.2.1 r hr).1;have hpl:=(Zv hv).1;have hok:∀ s,Zt (Zw p) (Kf (AB p) (Vu p)) s→Y2 p s:=fun s h=>Y2.reach (ZB hv) ((EO hv s).1 h);refine Bi (Su vp p B hv) 3 (p.length * 3+3) 16777216 (Yt p) (Zw p) b0 w hB (J7.loc hraw) (fun s _ => ?_) Dc ?_ (fun s hs m hm => ?_) (fun a b ha hb e => ?_) (fun l hn hl => ?_) Dc (fun s hs => ?_) hsort
 ·show (AB p s).length≤3
  exact Nat.le_trans (List.length_filter_le _ _) (by simpa using hpl)
 ·have:=UB hv (Zw p)
  omega
 ·show Yt p (Vu p s m) < Yt p s
  obtain⟨s',hs'⟩:=Option.isSome_iff_exists.1 ((Bn m).1 hm);rw[VJ hs'];exact Qw (hok s hs) hs'
 ·exact HJ (hok a ha) (hok b hb) hpl (Gd (KS (hok a ha) hpr) (KS (hok b hb) hpr) e)
 ·have h1:=Re (out:=YN) (n:=p.length * 3+3) hn (fun s hs=>⟨XX (hok s (hl s hs).1),fun x hx => ?_⟩) fun a ha b hb e=>Ak (hok a (hl a ha).1) (hok b (hl b hb).1) (hl a ha).2 (hl b hb).2 e
  ·refine Nat.le_trans h1 ?_
   have:4 ^ (p.length * 3+3)≤4 ^ 12:=Nat.pow_le_pow_right Dc Om;exact Nat.le_trans this Dc
  ·have k:=hok s (hl s hs).1
   rcases List.mem_append.1 hx with h | h
   ·exact k.rg x h
   ·exact k.mm x h
 ·exact XX (hok s hs)
theorem Fh (vp:Value) (p:List (List Ins)) (w:World) (hp:Z9 w vp p) (hl:p.flatten.length≤1048576) (hsort : @Ji (p.length * 3+3) 16777216) :
 Calls Tryz.prog 49 #[vp] w (Xg (p.length * 3+3) (IX p) w):=by
 obtain⟨va,vc,rfl,hc1,hc2,hc3,hp⟩:=hp.open;have HP:=Za hp;have HV:=Za (fun w' h=>Yz (.slice va p.length vc) p w' h hl);have HS:=Za hsort;clear hp hsort;cases hv:Zg p
 ·have B:=Za hv
  have F:Hid (∀ w1,Below w.heap.size w w1→Xg (p.length * 3+3) (IX p) w (.returned (.slice none 0 0)) w1):=Za fun w1 hb=>⟨_,[],rfl,.nil _ _,⟨fun o h=>by simp at h,.nil⟩,fun o=>by simp[IX,B.out],hb⟩
  clear hv;generalize p.length=n at *;go_enter Tryz.func49,Tryz.ntmps49;go_wp2_with (go_at_call 34;(with_reducible refine(HV.out _ HP.out).mono ?_);rintro e w1 ⟨rfl,hb1⟩;have B1:=Za hb1;rw[B.out];clear hb1);go_ret;exact F.out _ B1.out
 ·have B:=Za hv
  have HR:=Za (fun b0 B0 W hB0 hr=>CS (.slice va p.length vc) p B.out b0 B0 W hB0 hr HS.out);have HRE:=Za (fun s=>EO B.out s);have HRW:Hid (∀ b0 W,KV W b0 (.slice va p.length vc) (Zw p)→Below w.heap.size w W→J7 (.slice va p.length vc) p w.heap.size W b0 (Zw p)):=Za fun b0 W h hb=>⟨h,fun W' hW=>HP.out.below (hb.trans hW),hb.size,Y2.start p⟩
  clear hv;generalize hn:p.length=n at *;have HN:=Za hn;clear hn;go_enter Tryz.func49,Tryz.ntmps49;go_wp2_with (first
   | (go_at_call 34;(with_reducible refine(HV.out _ HP.out).mono ?_);rintro e w1 ⟨rfl,hb1⟩;have B1:=Za hb1;rw[B.out];clear hb1)
   | (go_at_call 81;(with_reducible refine(FN va n vc p w1).mono ?_);rintro e w2 ⟨b0,rfl,hx2,hb2⟩;have X2:=Za hx2;have B2:=Za (B1.out.trans (hb2.mono B1.out.size));clear hx2 hb2)
   | (go_at_call 80;(with_reducible refine(HR.out b0 w.heap.size w2 B2.out.size (HRW.out b0 w2 X2.out B2.out)).mono ?_);rintro e w3 ⟨cn,v,l,rfl,ho,hk,hm,hb3⟩;have F:Hid (Xg (n * 3+3) (IX p) w (.returned v) w3):=Za ⟨v,l,rfl,ho.mono B2.out.size,hk,fun o=>(hm o).trans ⟨fun ⟨s,h1,h2,h3⟩=>⟨B.out,s,(HRE.out s).1 h1,h2,h3⟩,fun ⟨_,s,h1,h2,h3⟩=>⟨s,(HRE.out s).2 h1,h2,h3⟩⟩,B2.out.trans (hb3.mono B2.out.size)⟩;clear ho hk hm hb3))
  go_ret;exact F.out
def XA (ls:List (List Int)):List Int:=ls.flatMap fun r=>(r.length:Int) :: r
def Dz (s:Bf):List Int:=IY s.q++XA (s.bf.map ZA)
theorem FY (ls:List (List Int)) (r:List Int):XA (ls++[r])=XA ls++[(r.length:Int)]++r:=by simp[XA]
theorem MC {ls:List (List Int)}{m:Nat}(h:∀ r∈ls,r.length≤m):(XA ls).length≤ls.length * (m+1):=by
 induction ls with
 | nil=>simp[XA]
 | cons r ls ih =>
  have h1:=ih fun x hx=>h x (by simp[hx]);have h2:=h r Sm;simp only[XA,List.flatMap_cons,List.length_append,List.length_cons,Nat.add_mul,Nat.one_mul]at h1 ⊢;omega
theorem CA {w:World}{g:Nat}{x:Int}{T:TypeId}(h:w.heap[g]? = some (.cells #[.int .u8 x] T (0,0))):ZC Zu w (.slice (some ⟨g,0,none⟩) 1 1) [x]:=by
 refine⟨some ⟨g,0,none⟩,1,rfl,Sm,by unfold maxLen;omega,fun i y hy=>⟨g,0,rfl,fun j u hu => ?_⟩⟩;have hi:i=0:=by have:=(List.getElem?_eq_some_iff.1 hy).1;simpa using this
 have hj:j=0:=by have:=(List.getElem?_eq_some_iff.1 hu).1;simpa[Zu] using this
 subst hi;subst hj;simp at hy;subst hy;simp[Zu]at hu;subst hu;exact Zc h (k:=0) rfl
theorem Fu (b:Nat) (vp:Value) (split:Bool) (wv:Zs) (p:List (List Ins)) (s:Bf) (w:World) (hx:Yc w b vp split wv s) (hw:GC w wv s) (hok:ZT p split s) (hpl:p.length≤3) (hpr:∀ r∈p,r.length≤7) (hr:∀ r∈s.bf,r.length≤100) :
 Calls Tryz.prog 232 #[.pointer (some ⟨b,0,none⟩)] w fun e w'=>e = .returned (.string (strOfNums (Dz s)))∧Below w.heap.size w w':=by
 obtain⟨wa,wn,wk⟩:=wv;have H1:=Za (EP b vp s.q w (ZD.Yp hx));have HBY:=Za (KS hok.q hpr);have bl:=hx.lt;have h17:=hx.waits;have HW:Hid (YV Zu w (.slice wa wn wk) (s.bf.map ZA)):=Za hw;obtain⟨_,_,hv,-,hcn,-,-⟩:=hw.open;simp only[Zs.v,Value.slice.injEq]at hv;obtain⟨rfl,hwn,rfl⟩:=hv;have hwn9:wn≤9:=by
  rw[hwn,List.length_map,hok.lb];have:Yw split≤3:=by cases split <;> simp[Yw]
  have:=Nat.mul_le_mul hpl this;omega
 have HRL:=Za (fun (r:List Int) (h:r∈s.bf.map ZA)=>(by
  obtain⟨r',h1,rfl⟩:=List.mem_map.1 h;rw[List.length_map];exact hr r' h1:r.length≤100))
 have HWN:=Za hwn;have HK:Hid (Dz s=IY s.q++XA (s.bf.map ZA)):=Za rfl;have hl15:(IY s.q).length=15:=rfl;clear hx hw hok hr hwn hcn;generalize Dz s=KK at *;generalize hL:IY s.q=L at *;generalize s.bf.map ZA=RR at *;clear hL;have hcv:=fun (w':World)=>Lib.run_convert_string_bytes (P:=Tryz.prog) w' 9 39 5 (strOfNums L) Tryz.underlying9 Tryz.underlying39 Tryz.underlying5;go_enter Tryz.func232,Tryz.ntmps232;go_wp2_with fail
 (with_reducible refine H1.out.mono ?_);rintro e w1 ⟨rfl,hb1⟩
 have hE:=Za (Ip w1 HBY.out Om);have hBB:=DC w1 5 (strOfNums L);have B2:=Za (hb1.trans (hBB.mono hb1.size));have g17:=(B2.out.cell (p:=⟨b,17,none⟩) bl).trans h17;have gl:=Zb g17;have hs1:=hb1.size;clear hBB hb1;go_wp2_with fail;obtain⟨V,hV⟩:∃ V,V=Lib.bytesWorld w1 5 (strOfNums L):=⟨_,rfl⟩
 rw[← hV]at hE B2 ⊢;have E0:Hid (Qp V w.heap.size _ (L++XA (RR.take 0))):=Za (by
  obtain⟨g,cap,cur,fz,h1,h2,h3⟩:=hE.out;rw[List.take_zero,show XA []=[] from rfl,List.append_nil];exact⟨g,cap,cur,fz,h1,Nat.le_trans hs1 h2,h3⟩)
 clear hV g17 gl hE hs1 hcv H1
 go_loopw [3,16] (fun v i wr => ∃ k:Nat,k≤wn∧i = .int .i64 k∧Qp wr w.heap.size v (L++XA (RR.take k))∧Below w.heap.size w wr) (fun _ i _=>wn - (intOf i).toNat)
 case atStart=>exact⟨0,Nat.zero_le _,rfl,E0.out,B2.out⟩
 case round =>
  obtain⟨k,hk,rfl,ho,hb⟩:=hrel;have HO:=Za ho;have HB:=Za hb
  have hbs:=hb.size;by_cases hlt:k < wn
  ·have hlt':=Zh hlt
   obtain⟨row,hrow⟩:=Zd (xs:=RR) (k:=k) (by rw[← HWN.out];exact hlt);obtain⟨b2,o2,ra,rc,rfl,hbl2,q0,q1⟩:=YV.row HW.out hrow;have q2:=(hb.cell (p:=⟨b2,o2+k,none⟩) hbl2).trans q0;have ql:=Zb q2;clear q0;have hr100:=HRL.out row (List.mem_of_getElem? hrow);have TK:Hid (L++XA (RR.take (k+1))=(L++XA (RR.take k))++[(row.length:Int)]++row):=Za (by
    rw[List.take_add_one,hrow];show L++XA (RR.take k++[row])=_;rw[FY];simp only[List.append_assoc])
   have hPL:(L++XA (RR.take k)).length≤2000:=by
    have h1:=MC (ls:=RR.take k) (m:=100) fun r hr=>HRL.out r (List.mem_of_mem_take hr);have h2:(RR.take k).length≤9:=by rw[List.length_take];omega
    have h3:=Nat.mul_le_mul_right (100+1) h2;rw[List.length_append,hl15];omega
   have Q1:=Za q1;have hwu:IntKind.u8.wrap (row.length:Int)=(row.length:Int):=by rw[IntKind.wrap_u8];omega
   clear ho hb hrow q1;generalize L++XA (RR.take k)=PP at *;go_wp2_with (first
    | (at_builtin;refine Ge w.heap.size _ _ PP [(row.length:Int)] (HO.out.alloc _) (CA (heap_alloc_new wr _)) So So rfl _ _ rfl rfl rfl ?_;intro v5 w5 hown5 hgr5;have O5:=Za hown5;have B5:=Za ((HB.out.alloc HB.out.size (.cells #[.int .u8 (row.length:Int)] 5)).grown hgr5 So (fun q hq=>(HO.out.lt q hq).1));have hs5:=B5.out.size;clear hown5 hgr5)
    | (at_builtin;refine Ge w.heap.size _ _ (PP++[(row.length:Int)]) row O5.out (Q1.out.below B5.out) So hs5 rfl _ _ rfl rfl rfl ?_;intro v6 w6 hown6 hgr6;have O6:=Za hown6;have B6:=Za (B5.out.grown hgr6 hs5 (fun q hq=>(O5.out.lt q hq).1));clear hown6 hgr6))
   go_roundw
   case rel=>exact⟨k+1,Om,Gn,by rw[TK.out];exact O6.out,B6.out⟩
   case measure=>simp[intOf];omega
  ·obtain rfl:k=wn:=Om
   have E:Hid (KK=L++XA (RR.take k)):=Za (by rw[HK.out,List.take_of_length_le (by rw[← HWN.out];exact Nat.le_refl _)]);have kc:=Iu ho;rw[← E.out]at kc;clear ho;go_wp2_with fail;go_ret;exact⟨rfl,HB.out⟩
end Go.Proofs.YtngekjpklkjnbaaGreat
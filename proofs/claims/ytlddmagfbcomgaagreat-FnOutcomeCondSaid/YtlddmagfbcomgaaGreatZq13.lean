/-
  RunSeq: its outcomes are those of the final states that can be reached. How outcomes are sorted is a hypothesis here.
-/
import Derived.Test.YtlddmagfbcomgaaGreatZq08
import Derived.Test.YtlddmagfbcomgaaGreatZq05
import Derived.Lib.ConvBytes
import Derived.Lib.FrozenHead
import Derived.Test.YtlddmagfbcomgaaGreatZq02
set_option maxHeartbeats 6400000
set_option maxRecDepth 100000
namespace Go.Proofs.YtlddmagfbcomgaaGreat
open Go.RowKit
theorem take_three {l:List Int} {k:Nat} (h:k * 3+2 < l.length):l.take ((k+1) * 3)=l.take (k * 3)++[l.getD (k * 3) 0]++[l.getD (k * 3+1) 0]++[l.getD (k * 3+2) 0]:=by
 rw [Nat.add_mul,Nat.one_mul,show k * 3+3=k * 3+1+1+1 by omega,List.take_add_one,List.take_add_one,List.take_add_one]
 rw [List.getD_eq_getElem?_getD,List.getD_eq_getElem?_getD,List.getD_eq_getElem?_getD]
 have h0:k * 3 < l.length:=by omega
 have h1:k * 3+1 < l.length:=by omega
 simp [h0,h1,h]
theorem list_three {l:List Int} (h:l.length=3):l=[l.getD 0 0,l.getD 1 0,l.getD 2 0]:=by
 match l,h with
 | [a,b,c],_=>rfl
theorem outcome_any (b:Nat) (vp:Value) (p:List (List Ins)) (s:Sq) (w:World) (hp:RepP w vp p) (hx:ValAt w b vp s) (hok:SqOk p s) (hpl:p.length≤3) :
 Calls Tryz.prog 246 #[.pointer (some ⟨b,0,none⟩)] w (RetOwn IntE 3 w (sqOut s)):=by
 obtain ⟨va,vc,rfl,hc1,hc2,hc3,hp⟩:=hp.open
 have HX:=hide hx;have HOK:=hide hok
 have hsa:=@setCell_alloc
 have bl:=hx.lt
 have c0:=hx.c0
 have HRG:=hide (fun k=>getD_range hok.rg k)
 have HMM:=hide (fun k=>getD_range hok.mm k)
 have HL3:=hide (list_three hok.lm)
 have HLR:=hide hok.lr
 clear hp hx hok
 generalize hn:p.length=n at *
 have HN:=hide hn
 clear hn
 go_enter Tryz.func246,Tryz.ntmps246
 go_wp2_with fail
 go_loopw [3,14] (fun v i wr => ∃ k:Nat,k≤n∧i = .int .i64 k∧Own IntE 3 wr w.heap.size v (s.rg.take (k * 3))∧Below w.heap.size w wr) (fun _ i _=>n - (intOf i).toNat)
 case atStart=>exact ⟨0,Nat.zero_le _,rfl,by rw [Nat.zero_mul,List.take_zero];exact Own.nil _ _ _,Below.refl _ _⟩
 case round =>
  obtain ⟨k,hk,rfl,ho,hb⟩:=hrel
  have HB:=hide hb
  by_cases hlt:k < n
  ·have hlt':=nat_of_lt hlt
   have hk3:(k:Int) < 3:=by omega
   have x0:=(HX.out.below hb).c2 k (by omega) 0 (by omega)
   have x1:=(HX.out.below hb).c2 k (by omega) 1 (by omega)
   have x2:=(HX.out.below hb).c2 k (by omega) 2 (by omega)
   have xl:=(HX.out.below hb).lt
   have TK:=hide (take_three (l:=s.rg) (k:=k) (by rw [HLR.out];omega))
   have hlp:(s.rg.take (k * 3)).length≤1000:=by rw [List.length_take];omega
   have w0:IntKind.i64.wrap (s.rg.getD (k * 3) 0)=s.rg.getD (k * 3) 0:=by have:=HRG.out (k * 3);exact wrapM (by omega) (by omega)
   have w1:IntKind.i64.wrap (s.rg.getD (k * 3+1) 0)=s.rg.getD (k * 3+1) 0:=by have:=HRG.out (k * 3+1);exact wrapM (by omega) (by omega)
   have w2:IntKind.i64.wrap (s.rg.getD (k * 3+2) 0)=s.rg.getD (k * 3+2) 0:=by have:=HRG.out (k * 3+2);exact wrapM (by omega) (by omega)
   rw [Nat.add_zero] at x0
   rw [Nat.add_zero] at x0
   clear hb
   generalize s.rg.getD (k * 3) 0=y0 at *
   generalize s.rg.getD (k * 3+1) 0=y1 at *
   generalize s.rg.getD (k * 3+2) 0=y2 at *
   generalize s.rg.take (k * 3)=PP at *
   have HO:=hide ho
   clear ho
   go_wp2_with fail
   go_loopw [3,23] (fun v i wr=>((i = .int .i64 0∧Own IntE 3 wr w.heap.size v (PP))∨(i = .int .i64 1∧Own IntE 3 wr w.heap.size v (PP++[y0]))∨(i = .int .i64 2∧Own IntE 3 wr w.heap.size v (PP++[y0]++[y1]))∨(i = .int .i64 3∧Own IntE 3 wr w.heap.size v (PP++[y0]++[y1]++[y2])))∧Below w.heap.size w wr) (fun _ i _=>3 - (intOf i).toNat)
   case atStart=>exact ⟨.inl ⟨rfl,HO.out⟩,HB.out⟩
   case round =>
    obtain ⟨hc,hb⟩:=hrel
    have HB2:=hide hb;have hbs:=hb.size
    clear hb x0 x1 x2 xl
    rcases hc with ⟨rfl,ho⟩ | ⟨rfl,ho⟩ | ⟨rfl,ho⟩ | ⟨rfl,ho⟩
    ·have HO2:=hide ho
     have hix:∀ w',(Instr.index 135 (.agg #[u8V y0,u8V y1,u8V y2]) (.int .i64 0)).run Tryz.prog w' = .ok (u8V y0) w':=fun _=>by kernel_rfl
     clear ho
     go_wp2_with (at_builtin;refine wpList_appAt IntE 3 Tryz.infoInt rfl Tryz.underlying40 w.heap.size _ (PP) y0 (HO2.out.alloc _) (by decide) (by (try simp only [List.length_append,List.length_singleton]);omega) (by simp;omega) rfl _ _ rfl rfl _ 0 1 rfl news_alloc ?_;intro v5 w5 hown5 hgr5 hat5)
     have HF:=hide hown5
     have HW5:=hide ((HB2.out.alloc HB2.out.size _).grown hgr5 (by simp;omega) (fun q hq=>(World.ownsRow.lt HO2.out q hq).1))
     clear hown5 hgr5 hat5
     go_wp2_with fail
     go_roundw
     case rel=>exact ⟨.inr (.inl ⟨by go_num,HF.out⟩),HW5.out⟩
     case measure=>simp [intOf]
    ·have HO2:=hide ho
     have hix:∀ w',(Instr.index 135 (.agg #[u8V y0,u8V y1,u8V y2]) (.int .i64 1)).run Tryz.prog w' = .ok (u8V y1) w':=fun _=>by kernel_rfl
     clear ho
     go_wp2_with (at_builtin;refine wpList_appAt IntE 3 Tryz.infoInt rfl Tryz.underlying40 w.heap.size _ (PP++[y0]) y1 (HO2.out.alloc _) (by decide) (by (try simp only [List.length_append,List.length_singleton]);omega) (by simp;omega) rfl _ _ rfl rfl _ 0 1 rfl news_alloc ?_;intro v5 w5 hown5 hgr5 hat5)
     have HF:=hide hown5
     have HW5:=hide ((HB2.out.alloc HB2.out.size _).grown hgr5 (by simp;omega) (fun q hq=>(World.ownsRow.lt HO2.out q hq).1))
     clear hown5 hgr5 hat5
     go_wp2_with fail
     go_roundw
     case rel=>exact ⟨.inr (.inr (.inl ⟨by go_num,HF.out⟩)),HW5.out⟩
     case measure=>simp [intOf]
    ·have HO2:=hide ho
     have hix:∀ w',(Instr.index 135 (.agg #[u8V y0,u8V y1,u8V y2]) (.int .i64 2)).run Tryz.prog w' = .ok (u8V y2) w':=fun _=>by kernel_rfl
     clear ho
     go_wp2_with (at_builtin;refine wpList_appAt IntE 3 Tryz.infoInt rfl Tryz.underlying40 w.heap.size _ (PP++[y0]++[y1]) y2 (HO2.out.alloc _) (by decide) (by (try simp only [List.length_append,List.length_singleton]);omega) (by simp;omega) rfl _ _ rfl rfl _ 0 1 rfl news_alloc ?_;intro v5 w5 hown5 hgr5 hat5)
     have HF:=hide hown5
     have HW5:=hide ((HB2.out.alloc HB2.out.size _).grown hgr5 (by simp;omega) (fun q hq=>(World.ownsRow.lt HO2.out q hq).1))
     clear hown5 hgr5 hat5
     go_wp2_with fail
     go_roundw
     case rel=>exact ⟨.inr (.inr (.inr ⟨by go_num,HF.out⟩)),HW5.out⟩
     case measure=>simp [intOf]
    ·have HO2:=hide ho
     clear ho
     go_wp2_with fail
     go_roundw
     case rel=>exact ⟨k+1,by omega,by go_num,by rw [TK.out];exact HO2.out,HB2.out⟩
     case measure=>simp [intOf];omega
  ·obtain rfl:k=n:=by omega
   rw [List.take_of_length_le (by rw [HLR.out];exact Nat.le_refl _)] at ho
   have x0:=(HX.out.below hb).c3 0 (by omega)
   have x1:=(HX.out.below hb).c3 1 (by omega)
   have x2:=(HX.out.below hb).c3 2 (by omega)
   have xl:=(HX.out.below hb).lt
   have hlp:s.rg.length≤1000:=by rw [HLR.out];omega
   have w0:IntKind.i64.wrap (s.mm.getD 0 0)=s.mm.getD 0 0:=by have:=HMM.out 0;exact wrapM (by omega) (by omega)
   have w1:IntKind.i64.wrap (s.mm.getD 1 0)=s.mm.getD 1 0:=by have:=HMM.out 1;exact wrapM (by omega) (by omega)
   have w2:IntKind.i64.wrap (s.mm.getD 2 0)=s.mm.getD 2 0:=by have:=HMM.out 2;exact wrapM (by omega) (by omega)
   have E:Hid (sqOut s=s.rg++[s.mm.getD 0 0]++[s.mm.getD 1 0]++[s.mm.getD 2 0]):=hide (by
    show s.rg++s.mm=_
    conv=>lhs;rw [HL3.out]
    simp)
   clear hb
   generalize s.mm.getD 0 0=y0 at *
   generalize s.mm.getD 1 0=y1 at *
   generalize s.mm.getD 2 0=y2 at *
   generalize s.rg=PP at *
   have HO:=hide ho
   clear ho
   go_wp2_with fail
   go_loopw [3,37] (fun v i wr=>((i = .int .i64 0∧Own IntE 3 wr w.heap.size v (PP))∨(i = .int .i64 1∧Own IntE 3 wr w.heap.size v (PP++[y0]))∨(i = .int .i64 2∧Own IntE 3 wr w.heap.size v (PP++[y0]++[y1]))∨(i = .int .i64 3∧Own IntE 3 wr w.heap.size v (PP++[y0]++[y1]++[y2])))∧Below w.heap.size w wr) (fun _ i _=>3 - (intOf i).toNat)
   case atStart=>exact ⟨.inl ⟨rfl,HO.out⟩,HB.out⟩
   case round =>
    obtain ⟨hc,hb⟩:=hrel
    have HB2:=hide hb;have hbs:=hb.size
    clear hb x0 x1 x2 xl
    rcases hc with ⟨rfl,ho⟩ | ⟨rfl,ho⟩ | ⟨rfl,ho⟩ | ⟨rfl,ho⟩
    ·have HO2:=hide ho
     have hix:∀ w',(Instr.index 135 (.agg #[u8V y0,u8V y1,u8V y2]) (.int .i64 0)).run Tryz.prog w' = .ok (u8V y0) w':=fun _=>by kernel_rfl
     clear ho
     go_wp2_with (at_builtin;refine wpList_appAt IntE 3 Tryz.infoInt rfl Tryz.underlying40 w.heap.size _ (PP) y0 (HO2.out.alloc _) (by decide) (by (try simp only [List.length_append,List.length_singleton]);omega) (by simp;omega) rfl _ _ rfl rfl _ 0 1 rfl news_alloc ?_;intro v5 w5 hown5 hgr5 hat5)
     have HF:=hide hown5
     have HW5:=hide ((HB2.out.alloc HB2.out.size _).grown hgr5 (by simp;omega) (fun q hq=>(World.ownsRow.lt HO2.out q hq).1))
     clear hown5 hgr5 hat5
     go_wp2_with fail
     go_roundw
     case rel=>exact ⟨.inr (.inl ⟨by go_num,HF.out⟩),HW5.out⟩
     case measure=>simp [intOf]
    ·have HO2:=hide ho
     have hix:∀ w',(Instr.index 135 (.agg #[u8V y0,u8V y1,u8V y2]) (.int .i64 1)).run Tryz.prog w' = .ok (u8V y1) w':=fun _=>by kernel_rfl
     clear ho
     go_wp2_with (at_builtin;refine wpList_appAt IntE 3 Tryz.infoInt rfl Tryz.underlying40 w.heap.size _ (PP++[y0]) y1 (HO2.out.alloc _) (by decide) (by (try simp only [List.length_append,List.length_singleton]);omega) (by simp;omega) rfl _ _ rfl rfl _ 0 1 rfl news_alloc ?_;intro v5 w5 hown5 hgr5 hat5)
     have HF:=hide hown5
     have HW5:=hide ((HB2.out.alloc HB2.out.size _).grown hgr5 (by simp;omega) (fun q hq=>(World.ownsRow.lt HO2.out q hq).1))
     clear hown5 hgr5 hat5
     go_wp2_with fail
     go_roundw
     case rel=>exact ⟨.inr (.inr (.inl ⟨by go_num,HF.out⟩)),HW5.out⟩
     case measure=>simp [intOf]
    ·have HO2:=hide ho
     have hix:∀ w',(Instr.index 135 (.agg #[u8V y0,u8V y1,u8V y2]) (.int .i64 2)).run Tryz.prog w' = .ok (u8V y2) w':=fun _=>by kernel_rfl
     clear ho
     go_wp2_with (at_builtin;refine wpList_appAt IntE 3 Tryz.infoInt rfl Tryz.underlying40 w.heap.size _ (PP++[y0]++[y1]) y2 (HO2.out.alloc _) (by decide) (by (try simp only [List.length_append,List.length_singleton]);omega) (by simp;omega) rfl _ _ rfl rfl _ 0 1 rfl news_alloc ?_;intro v5 w5 hown5 hgr5 hat5)
     have HF:=hide hown5
     have HW5:=hide ((HB2.out.alloc HB2.out.size _).grown hgr5 (by simp;omega) (fun q hq=>(World.ownsRow.lt HO2.out q hq).1))
     clear hown5 hgr5 hat5
     go_wp2_with fail
     go_roundw
     case rel=>exact ⟨.inr (.inr (.inr ⟨by go_num,HF.out⟩)),HW5.out⟩
     case measure=>simp [intOf]
    ·have HO2:=hide ho
     clear ho
     go_wp2_with fail
     go_ret
     exact ⟨_,rfl,by rw [E.out];exact HO2.out,HB2.out⟩
end Go.Proofs.YtlddmagfbcomgaaGreat
namespace Go.Proofs.YtlddmagfbcomgaaGreat
open Go.RowKit
theorem ins_ranges {x:Ins} (h:insValid x=true):(0≤x.loc∧x.loc≤2)∧(0≤x.reg∧x.reg≤2)∧0≤x.val∧x.val≤3:=by
 unfold insValid inB at h
 repeat' split at h
 all_goals (simp at h;try omega)
abbrev SeqB (w:World) (b:Nat) (vp:Value) (s:Sq):Prop:=w.heap[b]? = some (.cells (valsA vp s) 140 (0,0))
set_option linter.unusedSimpArgs false in
theorem seqAfter_any (b t:Nat) (vp:Value) (p:List (List Ins)) (s:Sq) (i:Ins) (w:World) (hp:RepP w vp p) (hx:SeqB w b vp s) (hok:SqOk p s) (hpl:p.length≤3) (hpr:∀ r∈p,r.length≤7) (ht:t < p.length)
 (hi:sqIns p s t=some i) (hv:insValid i=true) :
 Calls Tryz.prog 241 #[.pointer (some ⟨b,0,none⟩), .int .i64 (t:Int)] w fun e w' => ∃ b',e = .returned (mcV 134 b')∧w.heap.size≤b'∧SeqB w' b' vp (sqDo s t (s.pc.getD t 0) i)∧Below w.heap.size w w':=by
 obtain ⟨va,vc,rfl,hc1,hc2,hc3,hp⟩:=hp.open
 obtain ⟨op,loc,reg,val⟩:=i
 obtain ⟨⟨l0,l2⟩,⟨r0,r2⟩,v0,v3⟩:=ins_ranges hv
 simp only at l0 l2 r0 r2 v0 v3
 obtain ⟨ln,rfl⟩:∃ ln:Nat,loc=ln:=⟨loc.toNat,by omega⟩
 obtain ⟨rn,rfl⟩:∃ rn:Nat,reg=rn:=⟨reg.toNat,by omega⟩
 obtain ⟨r,hr⟩:=get_of_lt (xs:=p) (k:=t) ht
 obtain ⟨k,hk⟩:=get_of_lt (xs:=s.pc) (k:=t) (by rw [hok.lp];exact ht)
 have hkr:=hok.pc t k r hk hr
 have hrl:=hpr r (List.mem_of_getElem? hr)
 obtain ⟨kn,rfl⟩:∃ kn:Nat,k=kn:=⟨k.toNat,by omega⟩
 have hkd:s.pc.getD t 0=(kn:Int):=by rw [List.getD_eq_getElem?_getD,hk];rfl
 have hk7:kn≤7:=by omega
 have HP:=hide hp;have HX:=hide hx;have HOK:=hide hok;have HPR:=hide hpr;have HKD:=hide hkd;have HI:=hide hi
 have HT:=hide ht;have HPL:=hide hpl
 have htl:(t:Int) < 3:=by omega
 have hln:(ln:Int) < 3:=by omega
 have hrn:(rn:Int) < 3:=by omega
 have ht3:t < 3:=by omega
 have hl3:ln < 3:=by omega
 have hr3:rn < 3:=by omega
 have hsa:=@setCell_alloc
 have HV:Hid (ValAt w b (.slice va p.length vc) s):=hide (ValAt.of hx)
 have c0:=HV.out.c0
 have bl:=HV.out.lt
 obtain ⟨d1,d2,d3,d4,d5,d6,d7,d8,d9,d10,d11,d12,d13,d14,d15⟩:=HV.out.regs
 clear hp hx hok hpr hkd hi hr hk hkr hrl hv
 generalize hn:p.length=n at *
 have HN:=hide hn
 clear hn
 obtain ⟨x1,hx1⟩:∃ x,x=s.pc.getD 0 0:=⟨_,rfl⟩
 obtain ⟨x2,hx2⟩:∃ x,x=s.pc.getD 1 0:=⟨_,rfl⟩
 obtain ⟨x3,hx3⟩:∃ x,x=s.pc.getD 2 0:=⟨_,rfl⟩
 obtain ⟨x4,hx4⟩:∃ x,x=s.rg.getD 0 0:=⟨_,rfl⟩
 obtain ⟨x5,hx5⟩:∃ x,x=s.rg.getD 1 0:=⟨_,rfl⟩
 obtain ⟨x6,hx6⟩:∃ x,x=s.rg.getD 2 0:=⟨_,rfl⟩
 obtain ⟨x7,hx7⟩:∃ x,x=s.rg.getD 3 0:=⟨_,rfl⟩
 obtain ⟨x8,hx8⟩:∃ x,x=s.rg.getD 4 0:=⟨_,rfl⟩
 obtain ⟨x9,hx9⟩:∃ x,x=s.rg.getD 5 0:=⟨_,rfl⟩
 obtain ⟨x10,hx10⟩:∃ x,x=s.rg.getD 6 0:=⟨_,rfl⟩
 obtain ⟨x11,hx11⟩:∃ x,x=s.rg.getD 7 0:=⟨_,rfl⟩
 obtain ⟨x12,hx12⟩:∃ x,x=s.rg.getD 8 0:=⟨_,rfl⟩
 obtain ⟨x13,hx13⟩:∃ x,x=s.mm.getD 0 0:=⟨_,rfl⟩
 obtain ⟨x14,hx14⟩:∃ x,x=s.mm.getD 1 0:=⟨_,rfl⟩
 obtain ⟨x15,hx15⟩:∃ x,x=s.mm.getD 2 0:=⟨_,rfl⟩
 have HA:Hid (valsA (.slice va n vc) s = #[.slice va n vc,u8V x1,u8V x2,u8V x3,u8V x4,u8V x5,u8V x6,u8V x7,u8V x8,u8V x9,u8V x10,u8V x11,u8V x12,u8V x13,u8V x14,u8V x15]):=hide (by rw [hx1,hx2,hx3,hx4,hx5,hx6,hx7,hx8,hx9,hx10,hx11,hx12,hx13,hx14,hx15])
 rw [← hx1] at d1;rw [← hx2] at d2;rw [← hx3] at d3;rw [← hx4] at d4;rw [← hx5] at d5;rw [← hx6] at d6;rw [← hx7] at d7;rw [← hx8] at d8;rw [← hx9] at d9;rw [← hx10] at d10;rw [← hx11] at d11;rw [← hx12] at d12;rw [← hx13] at d13;rw [← hx14] at d14;rw [← hx15] at d15
 clear hx1 hx2 hx3 hx4 hx5 hx6 hx7 hx8 hx9 hx10 hx11 hx12 hx13 hx14 hx15
 go_enter Tryz.func241,Tryz.ntmps241
 go_wp2_with fail
 obtain ⟨V1,hV1⟩:∃ V1,V1=w.alloc (.cells #[.slice va n vc,u8V x1,u8V x2,u8V x3,u8V x4,u8V x5,u8V x6,u8V x7,u8V x8,u8V x9,u8V x10,u8V x11,u8V x12,u8V x13,u8V x14,u8V x15] 140):=⟨_,rfl⟩
 have X1:Hid (SeqB V1 w.heap.size (.slice va n vc) s):=hide (by rw [hV1];show _=some (Obj.cells (valsA (.slice va n vc) s) _ _);rw [HA.out];exact heap_alloc_new _ _)
 have B1:Hid (Below w.heap.size w V1):=hide (by rw [hV1];exact (Below.refl _ _).alloc (Nat.le_refl _) _)
 simp only [← hV1]
 clear hV1 d1 d2 d3 d4 d5 d6 d7 d8 d9 d10 d11 d12 d13 d14 d15 HA
 (with_reducible refine (next_any b t va n vc p s V1 (HP.out.below B1.out) (HV.out.below B1.out) HOK.out (by rw [HN.out];exact HPL.out) HPR.out (by rw [HN.out];exact HT.out)).mono ?_);rintro e w2 ⟨rfl,hb2⟩
 rw [HI.out]
 simp only [nxT]
 have bC:=(Below.refl w2.heap.size w2).alloc (Nat.le_refl _) (.cells #[.int .i64 op, .int .i64 (ln:Int), .int .i64 (rn:Int), .int .i64 val] 74)
 have hlN:w.heap.size < V1.heap.size:=(Array.getElem?_eq_some_iff.1 X1.out).1
 have X2w:Hid (SeqB w2 w.heap.size (.slice va n vc) s):=hide ((hb2.block w.heap.size hlN).trans X1.out)
 have B2w:Hid (Below w.heap.size w w2):=hide (B1.out.trans (hb2.mono B1.out.size))
 have X2:Hid (SeqB (w2.alloc (.cells #[.int .i64 op, .int .i64 (ln:Int), .int .i64 (rn:Int), .int .i64 val] 74)) w.heap.size (.slice va n vc) s):=hide ((bC.block w.heap.size (Nat.lt_of_lt_of_le hlN hb2.size)).trans ((hb2.block w.heap.size hlN).trans X1.out))
 have B2:Hid (Below w.heap.size w (w2.alloc (.cells #[.int .i64 op, .int .i64 (ln:Int), .int .i64 (rn:Int), .int .i64 val] 74))):=hide ((B1.out.trans (hb2.mono B1.out.size)).trans (bC.mono (Nat.le_trans B1.out.size hb2.size)))
 have e1:(w2.alloc (.cells #[.int .i64 op, .int .i64 (ln:Int), .int .i64 (rn:Int), .int .i64 val] 74)).cell? ⟨w.heap.size,1+t,none⟩=some (.int .u8 (kn:Int)):=by have h:=(ValAt.of X2.out).c1 t ht3;rw [HKD.out] at h;exact h
 have efz:=frozH X2.out
 have el:w.heap.size < w2.heap.size+1:=by have:=hb2.size;omega
 have hN2:w.heap.size < w2.heap.size:=Nat.lt_of_lt_of_le hlN hb2.size
 have hwk:IntKind.u8.wrap ((kn:Int)+1)=(kn:Int)+1:=by rw [IntKind.wrap_u8];omega
 clear hb2 bC hlN
 go_wp2_with fail
 obtain ⟨V3,hV3⟩:∃ V3,V3=(w2.setCell ⟨w.heap.size,1+t,none⟩ (.int .u8 ((kn:Int)+1))).alloc (.cells #[.int .i64 op, .int .i64 (ln:Int), .int .i64 (rn:Int), .int .i64 val] 74):=⟨_,rfl⟩
 have hX3:SeqB V3 w.heap.size (.slice va n vc) ⟨s.pc.set t ((kn:Int)+1),s.rg,s.mm⟩:=by
  rw [hV3]
  have h:=heap_setCell_same w2 w.heap.size (1+t) _ _ (u8V ((kn:Int)+1)) X2w.out
  rw [valsA_setPc _ s ht3 (by rw [HOK.out.lp,HN.out];exact HT.out)] at h
  exact (heap_alloc_old _ _ (by simpa using hN2)).trans h
 have hC3:V3.heap[w2.heap.size]? = some (.cells #[.int .i64 op, .int .i64 (ln:Int), .int .i64 (rn:Int), .int .i64 val] 74 (0,0)):=by
  rw [hV3]
  have h:=heap_alloc_new (w2.setCell ⟨w.heap.size,1+t,none⟩ (.int .u8 ((kn:Int)+1))) (.cells #[.int .i64 op, .int .i64 (ln:Int), .int .i64 (rn:Int), .int .i64 val] 74)
  simpa using h
 have B3:Hid (Below w.heap.size w V3):=hide (by rw [hV3];exact (B2w.out.setCell (p:=⟨w.heap.size,1+t,none⟩) (Nat.le_refl _) _).alloc (by simpa using B2w.out.size) _)
 have X3:=hide hX3;have C3:=hide hC3
 rw [← hV3]
 clear hV3 hX3 e1 efz el X2 B2 X1 B1 X2w B2w
 have g0:V3.cell? ⟨w2.heap.size,0,none⟩=some (.int .i64 op):=cellH hC3 (k:=0) rfl
 have g1:V3.cell? ⟨w2.heap.size,1,none⟩=some (.int .i64 (ln:Int)):=cellH hC3 (k:=1) rfl
 have g2:V3.cell? ⟨w2.heap.size,2,none⟩=some (.int .i64 (rn:Int)):=cellH hC3 (k:=2) rfl
 have g3:V3.cell? ⟨w2.heap.size,3,none⟩=some (.int .i64 val):=cellH hC3 (k:=3) rfl
 have gl:=lt_of_cell g0
 have HS:=hide (fun x:BW V3=>stored_any b t rn op ln val (.slice va n vc) s x.val (HV.out.below (B3.out.trans (x.prop.mono B3.out.size))) (by omega) (by omega) v0 v3)
 clear hC3
 refine wp_region_bw (by kernel_rfl) (by kernel_rfl) ?_
 repeat (go_big_quiet_step ((go_at_call 248;(with_reducible exact Calls.bw (HS.out _)))))
 refine wpQuiet_nil ?_
 intro w4 hw4
 have X4:=hide ((hw4.block w.heap.size (Array.getElem?_eq_some_iff.1 X3.out).1).trans X3.out)
 have C4:=hide ((hw4.block w2.heap.size gl).trans C3.out)
 have B4:=hide (B3.out.trans (hw4.mono B3.out.size))
 have k4_0:w4.cell? ⟨w2.heap.size,0,none⟩=some (.int .i64 op):=cellH C4.out (k:=0) rfl
 have k4_1:w4.cell? ⟨w2.heap.size,1,none⟩=some (.int .i64 (ln:Int)):=cellH C4.out (k:=1) rfl
 have k4_2:w4.cell? ⟨w2.heap.size,2,none⟩=some (.int .i64 (rn:Int)):=cellH C4.out (k:=2) rfl
 have k4_3:w4.cell? ⟨w2.heap.size,3,none⟩=some (.int .i64 val):=cellH C4.out (k:=3) rfl
 have k4_l:=lt_of_cell k4_0
 clear hw4 g0 g1 g2 g3 gl X3 C3 B3 HS
 obtain ⟨m,hm⟩:∃ m,m=s.mm.getD ln 0:=⟨_,rfl⟩
 obtain ⟨R,hR⟩:∃ R,R=sqVal s t ⟨op,ln,rn,val⟩:=⟨_,rfl⟩
 simp only [← hR]
 have HRR:=hide hR;have HMM:=hide hm
 clear hR hm
 cases hr:isRop op <;> cases hw:isWop op
 ·go_wp2_with (first | (go_at_call 127;(with_reducible refine (reads_raw op (ln:Int) (rn:Int) val w4).mono ?_);rintro e w5 ⟨rfl,hb5⟩;have X5:=hide ((hb5.block w.heap.size (Array.getElem?_eq_some_iff.1 X4.out).1).trans X4.out);have C5:=hide ((hb5.block w2.heap.size (Array.getElem?_eq_some_iff.1 C4.out).1).trans C4.out);have B5:=hide (B4.out.trans (hb5.mono B4.out.size));have k5_0:w5.cell? ⟨w2.heap.size,0,none⟩=some (.int .i64 op):=cellH C5.out (k:=0) rfl;have k5_1:w5.cell? ⟨w2.heap.size,1,none⟩=some (.int .i64 (ln:Int)):=cellH C5.out (k:=1) rfl;have k5_2:w5.cell? ⟨w2.heap.size,2,none⟩=some (.int .i64 (rn:Int)):=cellH C5.out (k:=2) rfl;have k5_3:w5.cell? ⟨w2.heap.size,3,none⟩=some (.int .i64 val):=cellH C5.out (k:=3) rfl;have k5_l:=lt_of_cell k5_0;have fz5:=frozH X5.out;have nl5:=(Array.getElem?_eq_some_iff.1 X5.out).1;have mw5:=(ValAt.of X5.out).c3 ln hl3;clear hb5) | (go_at_call 121;(with_reducible refine (writes_raw op (ln:Int) (rn:Int) val w5).mono ?_);rintro e w7 ⟨rfl,hb7⟩;have X7:=hide ((hb7.block w.heap.size (Array.getElem?_eq_some_iff.1 X5.out).1).trans X5.out);have C7:=hide ((hb7.block w2.heap.size (Array.getElem?_eq_some_iff.1 C5.out).1).trans C5.out);have B7:=hide (B5.out.trans (hb7.mono B5.out.size));have k7_0:w7.cell? ⟨w2.heap.size,0,none⟩=some (.int .i64 op):=cellH C7.out (k:=0) rfl;have k7_1:w7.cell? ⟨w2.heap.size,1,none⟩=some (.int .i64 (ln:Int)):=cellH C7.out (k:=1) rfl;have k7_2:w7.cell? ⟨w2.heap.size,2,none⟩=some (.int .i64 (rn:Int)):=cellH C7.out (k:=2) rfl;have k7_3:w7.cell? ⟨w2.heap.size,3,none⟩=some (.int .i64 val):=cellH C7.out (k:=3) rfl;have k7_l:=lt_of_cell k7_0;have fz7:=frozH X7.out;have nl7:=(Array.getElem?_eq_some_iff.1 X7.out).1;have mw7:=(ValAt.of X7.out).c3 ln hl3;clear hb7))
  have F:Hid (SeqB w7 w.heap.size (.slice va n vc) (sqDo s t (s.pc.getD t 0) ⟨op,ln,rn,val⟩)):=hide (by
   rw [HKD.out]
   unfold sqDo
   simp only [hr,hw,if_true,Bool.false_eq_true,if_false,Int.toNat_natCast,← HMM.out,← HRR.out]
   exact X7.out)
  go_ret
  exact ⟨_,rfl,Nat.le_refl _,F.out,B7.out⟩
 ·go_wp2_with (first | (go_at_call 127;(with_reducible refine (reads_raw op (ln:Int) (rn:Int) val w4).mono ?_);rintro e w5 ⟨rfl,hb5⟩;have X5:=hide ((hb5.block w.heap.size (Array.getElem?_eq_some_iff.1 X4.out).1).trans X4.out);have C5:=hide ((hb5.block w2.heap.size (Array.getElem?_eq_some_iff.1 C4.out).1).trans C4.out);have B5:=hide (B4.out.trans (hb5.mono B4.out.size));have k5_0:w5.cell? ⟨w2.heap.size,0,none⟩=some (.int .i64 op):=cellH C5.out (k:=0) rfl;have k5_1:w5.cell? ⟨w2.heap.size,1,none⟩=some (.int .i64 (ln:Int)):=cellH C5.out (k:=1) rfl;have k5_2:w5.cell? ⟨w2.heap.size,2,none⟩=some (.int .i64 (rn:Int)):=cellH C5.out (k:=2) rfl;have k5_3:w5.cell? ⟨w2.heap.size,3,none⟩=some (.int .i64 val):=cellH C5.out (k:=3) rfl;have k5_l:=lt_of_cell k5_0;have fz5:=frozH X5.out;have nl5:=(Array.getElem?_eq_some_iff.1 X5.out).1;have mw5:=(ValAt.of X5.out).c3 ln hl3;clear hb5) | (go_at_call 121;(with_reducible refine (writes_raw op (ln:Int) (rn:Int) val w5).mono ?_);rintro e w7 ⟨rfl,hb7⟩;have X7:=hide ((hb7.block w.heap.size (Array.getElem?_eq_some_iff.1 X5.out).1).trans X5.out);have C7:=hide ((hb7.block w2.heap.size (Array.getElem?_eq_some_iff.1 C5.out).1).trans C5.out);have B7:=hide (B5.out.trans (hb7.mono B5.out.size));have k7_0:w7.cell? ⟨w2.heap.size,0,none⟩=some (.int .i64 op):=cellH C7.out (k:=0) rfl;have k7_1:w7.cell? ⟨w2.heap.size,1,none⟩=some (.int .i64 (ln:Int)):=cellH C7.out (k:=1) rfl;have k7_2:w7.cell? ⟨w2.heap.size,2,none⟩=some (.int .i64 (rn:Int)):=cellH C7.out (k:=2) rfl;have k7_3:w7.cell? ⟨w2.heap.size,3,none⟩=some (.int .i64 val):=cellH C7.out (k:=3) rfl;have k7_l:=lt_of_cell k7_0;have fz7:=frozH X7.out;have nl7:=(Array.getElem?_eq_some_iff.1 X7.out).1;have mw7:=(ValAt.of X7.out).c3 ln hl3;clear hb7))
  have h8:=heap_setCell_same w7 w.heap.size (13+ln) _ _ (u8V R) X7.out
  rw [valsA_setMm _ _ hl3 (by show ln < s.mm.length;rw [HOK.out.lm];exact hl3)] at h8
  have B8:=hide (B7.out.setCell (p:=⟨w.heap.size,13+ln,none⟩) (Nat.le_refl _) (u8V R))
  have X8:=hide h8
  clear h8
  have F:Hid (SeqB (w7.setCell ⟨w.heap.size,13+ln,none⟩ (u8V R)) w.heap.size (.slice va n vc) (sqDo s t (s.pc.getD t 0) ⟨op,ln,rn,val⟩)):=hide (by
   rw [HKD.out]
   unfold sqDo
   simp only [hr,hw,if_true,Bool.false_eq_true,if_false,Int.toNat_natCast,← HMM.out,← HRR.out]
   exact X8.out)
  go_ret
  exact ⟨_,rfl,Nat.le_refl _,F.out,B8.out⟩
 ·go_wp2_with (go_at_call 127;(with_reducible refine (reads_raw op (ln:Int) (rn:Int) val w4).mono ?_);rintro e w5 ⟨rfl,hb5⟩;have X5:=hide ((hb5.block w.heap.size (Array.getElem?_eq_some_iff.1 X4.out).1).trans X4.out);have C5:=hide ((hb5.block w2.heap.size (Array.getElem?_eq_some_iff.1 C4.out).1).trans C4.out);have B5:=hide (B4.out.trans (hb5.mono B4.out.size));have k5_0:w5.cell? ⟨w2.heap.size,0,none⟩=some (.int .i64 op):=cellH C5.out (k:=0) rfl;have k5_1:w5.cell? ⟨w2.heap.size,1,none⟩=some (.int .i64 (ln:Int)):=cellH C5.out (k:=1) rfl;have k5_2:w5.cell? ⟨w2.heap.size,2,none⟩=some (.int .i64 (rn:Int)):=cellH C5.out (k:=2) rfl;have k5_3:w5.cell? ⟨w2.heap.size,3,none⟩=some (.int .i64 val):=cellH C5.out (k:=3) rfl;have k5_l:=lt_of_cell k5_0;have fz5:=frozH X5.out;have nl5:=(Array.getElem?_eq_some_iff.1 X5.out).1;have mw5:=(ValAt.of X5.out).c3 ln hl3;clear hb5)
  have m13:w5.cell? ⟨b,13+ln,none⟩=some (.int .u8 m):=by rw [HMM.out];exact (HV.out.below B5.out).c3 ln hl3
  have bl5:=lt_of_cell m13
  have m5:=(ValAt.of X5.out).c2 t ht3 rn hr3
  go_region
  have h6:=heap_setCell_same w5 w.heap.size (4+t * 3+rn) _ _ (u8V m) X5.out
  rw [valsA_setRg _ _ ht3 hr3 (by show t * 3+rn < s.rg.length;rw [HOK.out.lr,HN.out];have:=HT.out;omega)] at h6
  obtain ⟨V6,hV6⟩:∃ V6,V6=(w5.setCell ⟨w.heap.size,4+t * 3+rn,none⟩ (.int .u8 m)).drew:=⟨_,rfl⟩
  have X6:Hid (SeqB V6 w.heap.size (.slice va n vc) ⟨s.pc.set t ((kn:Int)+1),s.rg.set (t * 3+rn) m,s.mm⟩):=hide (by rw [hV6];exact h6)
  have C6:Hid (V6.heap[w2.heap.size]? = some (.cells #[.int .i64 op, .int .i64 (ln:Int), .int .i64 (rn:Int), .int .i64 val] 74 (0,0))):=hide (by rw [hV6];exact (heap_setCell_other w5 ⟨w.heap.size,4+t * 3+rn,none⟩ w2.heap.size _ (show w2.heap.size≠w.heap.size by omega)).trans C5.out)
  have B6:Hid (Below w.heap.size w V6):=hide (by rw [hV6];exact (B5.out.setCell (p:=⟨w.heap.size,4+t * 3+rn,none⟩) (Nat.le_refl _) _).drew)
  have k6_0:V6.cell? ⟨w2.heap.size,0,none⟩=some (.int .i64 op):=cellH C6.out (k:=0) rfl;have k6_1:V6.cell? ⟨w2.heap.size,1,none⟩=some (.int .i64 (ln:Int)):=cellH C6.out (k:=1) rfl;have k6_2:V6.cell? ⟨w2.heap.size,2,none⟩=some (.int .i64 (rn:Int)):=cellH C6.out (k:=2) rfl;have k6_3:V6.cell? ⟨w2.heap.size,3,none⟩=some (.int .i64 val):=cellH C6.out (k:=3) rfl;have k6_l:=lt_of_cell k6_0
  rw [← hV6]
  clear hV6 h6 m13 m5 mw5 bl5 k5_0 k5_1 k5_2 k5_3 k5_l fz5 nl5 X5 C5
  go_wp2_with (go_at_call 121;(with_reducible refine (writes_raw op (ln:Int) (rn:Int) val V6).mono ?_);rintro e w7 ⟨rfl,hb7⟩;have X7:=hide ((hb7.block w.heap.size (Array.getElem?_eq_some_iff.1 X6.out).1).trans X6.out);have C7:=hide ((hb7.block w2.heap.size (Array.getElem?_eq_some_iff.1 C6.out).1).trans C6.out);have B7:=hide (B6.out.trans (hb7.mono B6.out.size));have k7_0:w7.cell? ⟨w2.heap.size,0,none⟩=some (.int .i64 op):=cellH C7.out (k:=0) rfl;have k7_1:w7.cell? ⟨w2.heap.size,1,none⟩=some (.int .i64 (ln:Int)):=cellH C7.out (k:=1) rfl;have k7_2:w7.cell? ⟨w2.heap.size,2,none⟩=some (.int .i64 (rn:Int)):=cellH C7.out (k:=2) rfl;have k7_3:w7.cell? ⟨w2.heap.size,3,none⟩=some (.int .i64 val):=cellH C7.out (k:=3) rfl;have k7_l:=lt_of_cell k7_0;have fz7:=frozH X7.out;have nl7:=(Array.getElem?_eq_some_iff.1 X7.out).1;have mw7:=(ValAt.of X7.out).c3 ln hl3;clear hb7)
  have F:Hid (SeqB w7 w.heap.size (.slice va n vc) (sqDo s t (s.pc.getD t 0) ⟨op,ln,rn,val⟩)):=hide (by
   rw [HKD.out]
   unfold sqDo
   simp only [hr,hw,if_true,Bool.false_eq_true,if_false,Int.toNat_natCast,← HMM.out,← HRR.out]
   exact X7.out)
  go_ret
  exact ⟨_,rfl,Nat.le_refl _,F.out,B7.out⟩
 ·go_wp2_with (go_at_call 127;(with_reducible refine (reads_raw op (ln:Int) (rn:Int) val w4).mono ?_);rintro e w5 ⟨rfl,hb5⟩;have X5:=hide ((hb5.block w.heap.size (Array.getElem?_eq_some_iff.1 X4.out).1).trans X4.out);have C5:=hide ((hb5.block w2.heap.size (Array.getElem?_eq_some_iff.1 C4.out).1).trans C4.out);have B5:=hide (B4.out.trans (hb5.mono B4.out.size));have k5_0:w5.cell? ⟨w2.heap.size,0,none⟩=some (.int .i64 op):=cellH C5.out (k:=0) rfl;have k5_1:w5.cell? ⟨w2.heap.size,1,none⟩=some (.int .i64 (ln:Int)):=cellH C5.out (k:=1) rfl;have k5_2:w5.cell? ⟨w2.heap.size,2,none⟩=some (.int .i64 (rn:Int)):=cellH C5.out (k:=2) rfl;have k5_3:w5.cell? ⟨w2.heap.size,3,none⟩=some (.int .i64 val):=cellH C5.out (k:=3) rfl;have k5_l:=lt_of_cell k5_0;have fz5:=frozH X5.out;have nl5:=(Array.getElem?_eq_some_iff.1 X5.out).1;have mw5:=(ValAt.of X5.out).c3 ln hl3;clear hb5)
  have m13:w5.cell? ⟨b,13+ln,none⟩=some (.int .u8 m):=by rw [HMM.out];exact (HV.out.below B5.out).c3 ln hl3
  have bl5:=lt_of_cell m13
  have m5:=(ValAt.of X5.out).c2 t ht3 rn hr3
  go_region
  have h6:=heap_setCell_same w5 w.heap.size (4+t * 3+rn) _ _ (u8V m) X5.out
  rw [valsA_setRg _ _ ht3 hr3 (by show t * 3+rn < s.rg.length;rw [HOK.out.lr,HN.out];have:=HT.out;omega)] at h6
  obtain ⟨V6,hV6⟩:∃ V6,V6=(w5.setCell ⟨w.heap.size,4+t * 3+rn,none⟩ (.int .u8 m)).drew:=⟨_,rfl⟩
  have X6:Hid (SeqB V6 w.heap.size (.slice va n vc) ⟨s.pc.set t ((kn:Int)+1),s.rg.set (t * 3+rn) m,s.mm⟩):=hide (by rw [hV6];exact h6)
  have C6:Hid (V6.heap[w2.heap.size]? = some (.cells #[.int .i64 op, .int .i64 (ln:Int), .int .i64 (rn:Int), .int .i64 val] 74 (0,0))):=hide (by rw [hV6];exact (heap_setCell_other w5 ⟨w.heap.size,4+t * 3+rn,none⟩ w2.heap.size _ (show w2.heap.size≠w.heap.size by omega)).trans C5.out)
  have B6:Hid (Below w.heap.size w V6):=hide (by rw [hV6];exact (B5.out.setCell (p:=⟨w.heap.size,4+t * 3+rn,none⟩) (Nat.le_refl _) _).drew)
  have k6_0:V6.cell? ⟨w2.heap.size,0,none⟩=some (.int .i64 op):=cellH C6.out (k:=0) rfl;have k6_1:V6.cell? ⟨w2.heap.size,1,none⟩=some (.int .i64 (ln:Int)):=cellH C6.out (k:=1) rfl;have k6_2:V6.cell? ⟨w2.heap.size,2,none⟩=some (.int .i64 (rn:Int)):=cellH C6.out (k:=2) rfl;have k6_3:V6.cell? ⟨w2.heap.size,3,none⟩=some (.int .i64 val):=cellH C6.out (k:=3) rfl;have k6_l:=lt_of_cell k6_0
  rw [← hV6]
  clear hV6 h6 m13 m5 mw5 bl5 k5_0 k5_1 k5_2 k5_3 k5_l fz5 nl5 X5 C5
  go_wp2_with (go_at_call 121;(with_reducible refine (writes_raw op (ln:Int) (rn:Int) val V6).mono ?_);rintro e w7 ⟨rfl,hb7⟩;have X7:=hide ((hb7.block w.heap.size (Array.getElem?_eq_some_iff.1 X6.out).1).trans X6.out);have C7:=hide ((hb7.block w2.heap.size (Array.getElem?_eq_some_iff.1 C6.out).1).trans C6.out);have B7:=hide (B6.out.trans (hb7.mono B6.out.size));have k7_0:w7.cell? ⟨w2.heap.size,0,none⟩=some (.int .i64 op):=cellH C7.out (k:=0) rfl;have k7_1:w7.cell? ⟨w2.heap.size,1,none⟩=some (.int .i64 (ln:Int)):=cellH C7.out (k:=1) rfl;have k7_2:w7.cell? ⟨w2.heap.size,2,none⟩=some (.int .i64 (rn:Int)):=cellH C7.out (k:=2) rfl;have k7_3:w7.cell? ⟨w2.heap.size,3,none⟩=some (.int .i64 val):=cellH C7.out (k:=3) rfl;have k7_l:=lt_of_cell k7_0;have fz7:=frozH X7.out;have nl7:=(Array.getElem?_eq_some_iff.1 X7.out).1;have mw7:=(ValAt.of X7.out).c3 ln hl3;clear hb7)
  have h8:=heap_setCell_same w7 w.heap.size (13+ln) _ _ (u8V R) X7.out
  rw [valsA_setMm _ _ hl3 (by show ln < s.mm.length;rw [HOK.out.lm];exact hl3)] at h8
  have B8:=hide (B7.out.setCell (p:=⟨w.heap.size,13+ln,none⟩) (Nat.le_refl _) (u8V R))
  have X8:=hide h8
  clear h8
  have F:Hid (SeqB (w7.setCell ⟨w.heap.size,13+ln,none⟩ (u8V R)) w.heap.size (.slice va n vc) (sqDo s t (s.pc.getD t 0) ⟨op,ln,rn,val⟩)):=hide (by
   rw [HKD.out]
   unfold sqDo
   simp only [hr,hw,if_true,Bool.false_eq_true,if_false,Int.toNat_natCast,← HMM.out,← HRR.out]
   exact X8.out)
  go_ret
  exact ⟨_,rfl,Nat.le_refl _,F.out,B8.out⟩
end Go.Proofs.YtlddmagfbcomgaaGreat
namespace Go.Proofs.YtlddmagfbcomgaaGreat
open Go.RowKit
theorem nodup_ltI:∀ (N:Nat) (l:List Nat),l.Nodup→(∀ x∈l,x < N)→l.length≤N:=by
 intro N
 induction N with
 | zero =>
  intro l _ h
  cases l with
  | nil=>simp
  | cons x l=>exact absurd (h x (by simp)) (Nat.not_lt_zero _)
 | succ N ih =>
  intro l hn h
  by_cases hm:N∈l
  ·have h1:=ih (l.erase N) (hn.erase N) fun x hx=>by
    have h2:=(hn.mem_erase_iff).1 hx
    have:=h x h2.2
    have:=h2.1
    omega
   rw [List.length_erase_of_mem hm] at h1
   have:=List.length_pos_of_mem hm
   omega
  ·have h1:=ih l hn fun x hx=>by
    have:=h x hx
    have:x≠N:=fun e=>hm (e ▸ hx)
    omega
   omega
theorem encR_inj {a b:List Int} (hl:a.length=b.length) (ha:∀ x∈a,0≤x∧x≤3) (hb:∀ x∈b,0≤x∧x≤3) (e:encR a=encR b):a=b:=by
 rcases lexO_three a b with h | h | h
 ·have:=encR_lex hl ha hb h;omega
 ·exact (lexO_eq hl).1 h
 ·have h2:=lexO_swap a b
  have:=encR_lex hl.symm hb ha (by omega);omega
theorem done_few {S:Type} {out:S→List Int} {n:Nat} {l:List S} (hn:l.Nodup) (ho:∀ s∈l,(out s).length=n∧∀ x∈out s,0≤x∧x≤3) (hi:∀ a∈l,∀ b∈l,out a=out b→a=b):l.length≤4 ^ n:=by
 have h1:(l.map fun s=>encR (out s)).Nodup:=by
  unfold List.Nodup
  rw [List.pairwise_map]
  refine List.Pairwise.imp_of_mem ?_ hn
  intro a b ha hb hab e
  exact hab (hi a ha b hb (encR_inj ((ho a ha).1.trans (ho b hb).1.symm) (ho a ha).2 (ho b hb).2 e))
 have h2:=nodup_ltI (4 ^ n) _ h1 fun x hx=>by
  obtain ⟨s,hs,rfl⟩:=List.mem_map.1 hx
  have:=encR_lt (ho s hs).2
  rw [(ho s hs).1] at this
  exact this
 simpa using h2
section
variable (vp : Value) (p : List (List Ins)) (B : Nat)
def seqRaw (W:World) (b:Nat) (s:Sq):Prop:=SeqB W b vp s∧(∀ W',Below B W W'→RepP W' vp p)∧B≤W.heap.size∧SqOk p s
def seqAf (s:Sq) (t:Nat):Sq:=match sqIns p s t with
 | some i=>sqDo s t (s.pc.getD t 0) i
 | none=>s
end
theorem mem_sqMv {p:List (List Ins)} {s:Sq} {t:Nat}:t∈sqMv p s↔t < p.length∧(sqIns p s t).isSome:=by simp [sqMv]
theorem sqMv_next {p:List (List Ins)} {s:Sq} (t:Nat):t∈sqMv p s↔(sqNext p s t).isSome:=by
 rw [mem_sqMv,sqIns_next]
 constructor
 ·exact fun h=>h.2
 ·intro h
  refine ⟨?_,h⟩
  unfold sqIns at h
  cases hr:p[t]? with
  | none=>rw [hr] at h;simp at h
  | some r=>exact (List.getElem?_eq_some_iff.1 hr).1
theorem seqAf_next {p:List (List Ins)} {s s':Sq} {t:Nat} (h:sqNext p s t=some s'):seqAf p s t=s':=by
 unfold seqAf
 have h1:(sqIns p s t).isSome:=by rw [← sqIns_next,h];rfl
 obtain ⟨i,hi⟩:=Option.isSome_iff_exists.1 h1
 rw [hi]
 have:=sqIns_do hi
 rw [h] at this
 simpa using this.symm
theorem seqDone_any (b:Nat) (vp:Value) (p:List (List Ins)) (s:Sq) (w:World) (hp:RepP w vp p) (hx:ValAt w b vp s) (hok:SqOk p s) (hpl:p.length≤3) (hpr:∀ r∈p,r.length≤7) :
 Calls Tryz.prog 243 #[.pointer (some ⟨b,0,none⟩)] w fun e w'=>e = .returned (.bool (sqDone p s))∧Below w.heap.size w w':=by
 have H:=hide (allDone_any b vp p s w hp hx hok hpl hpr)
 have bl:=hx.lt
 clear hp hx hok hpr
 go_enter Tryz.func243,Tryz.ntmps243
 go_wp2_with (go_at_call 242;(with_reducible refine H.out.mono ?_);rintro e w1 ⟨rfl,hb1⟩)
 go_ret
 exact ⟨rfl,hb1⟩
theorem seqKey_any (b:Nat) (vp:Value) (s:Sq) (w:World) (hx:ValAt w b vp s) :
 Calls Tryz.prog 244 #[.pointer (some ⟨b,0,none⟩)] w fun e w'=>e = .returned (.string (strOfNums (sqB s)))∧Below w.heap.size w w':=by
 have H:=hide (text_any b vp s w hx)
 have bl:=hx.lt
 clear hx
 go_enter Tryz.func244,Tryz.ntmps244
 go_wp2_with (go_at_call 249;(with_reducible refine H.out.mono ?_);rintro e w1 ⟨rfl,hb1⟩)
 go_ret
 exact ⟨rfl,hb1⟩
end Go.Proofs.YtlddmagfbcomgaaGreat
namespace Go.Proofs.YtlddmagfbcomgaaGreat
open Go.RowKit
theorem seqRaw.keep {vp:Value} {p:List (List Ins)} {B:Nat} {w w':World} {b b':Nat} {s s':Sq} (h:seqRaw vp p B w b s) (hb:Below B w w') (hx:SeqB w' b' vp s') (hok:SqOk p s'):seqRaw vp p B w' b' s':=
 ⟨hx,fun W' hW=>h.2.1 W' (hb.trans hW),Nat.le_trans h.2.2.1 hb.size,hok⟩
theorem seqRaw.loc {vp:Value} {p:List (List Ins)} {B:Nat} {w:World} {b:Nat} {s:Sq} (h:seqRaw vp p B w b s):LocU LM B w (fun W=>seqRaw vp p B W b s):=by
 refine ⟨h,fun w' k=>h.keep (k.below h.2.2.1) ?_ h.2.2.2⟩
 exact k.block b _ _ _ h.1 (by decide)
def seqK (vp:Value) (p:List (List Ins)) (B:Nat) (hv:progValid p=true):MK LM B Sq where
 T:=134
 raw:=seqRaw vp p B
 done:=sqDone p
 out:=sqOut
 mv:=sqMv p
 af:=seqAf p
 key:=fun s=>strOfNums (sqB s)
 fD:=243
 fO:=246
 fM:=245
 fA:=241
 fK:=244
 mD:=fun _ _=>by kernel_rfl
 mO:=fun _ _=>by kernel_rfl
 mM:=fun _ _=>by kernel_rfl
 mA:=fun _ _=>by kernel_rfl
 mK:=fun _ _=>by kernel_rfl
 cD:=fun _ _=>by kernel_rfl
 cO:=fun _ _=>by kernel_rfl
 cM:=fun _ _=>by kernel_rfl
 cA:=fun _ _=>by kernel_rfl
 cK:=fun _ _=>by kernel_rfl
 hD:=fun w b s h=>seqDone_any b vp p s w (h.2.1 w (Below.refl _ _)) (ValAt.of h.1) h.2.2.2 (valid_le hv).1 (fun r hr=>((valid_le hv).2.2.1 r hr).1)
 hO:=fun w b s h=>outcome_any b vp p s w (h.2.1 w (Below.refl _ _)) (ValAt.of h.1) h.2.2.2 (valid_le hv).1
 hM:=fun w b s h=>seqMoves_any b vp p s w (h.2.1 w (Below.refl _ _)) (ValAt.of h.1) h.2.2.2 (valid_le hv).1 (fun r hr=>((valid_le hv).2.2.1 r hr).1)
 hK:=fun w b s h=>seqKey_any b vp s w (ValAt.of h.1)
 hA:=fun w b s m hB hl hm=>by
  have h:=hl.now
  obtain ⟨h1,h2⟩:=mem_sqMv.1 hm
  obtain ⟨i,hi⟩:=Option.isSome_iff_exists.1 h2
  have hiv:insValid i=true:=by
   have hn:=sqIns_do hi
   obtain ⟨r,k,x,hr,hk,hx,e⟩:=sqNext_parts hn
   have hi2:=hi
   unfold sqIns at hi2
   rw [hr,hk] at hi2
   simp only [Option.bind_some] at hi2
   exact valid_ins hv r (List.mem_of_getElem? hr) i (List.mem_of_getElem? hi2)
  have hok:SqOk p (seqAf p s m):=by
   have hn:=sqIns_do hi
   rw [seqAf_next hn]
   exact h.2.2.2.next (valid_ins hv) hn
  refine (seqAfter_any b m vp p s i w (h.2.1 w (Below.refl _ _)) h.1 h.2.2.2 (valid_le hv).1 (fun r hr=>((valid_le hv).2.2.1 r hr).1) h1 hi hiv).mono ?_
  rintro e w' ⟨b',rfl,hb',hx',hbl⟩
  refine ⟨b',rfl,(h.keep (hbl.mono hB) ?_ hok).loc,hbl⟩
  have:seqAf p s m=sqDo s m (s.pc.getD m 0) i:=by unfold seqAf;rw [hi]
  rw [this]
  exact hx'
theorem sqStart_cells (vp:Value) {p:List (List Ins)}:valsA vp (sqStart p) = #[vp,u8V 0,u8V 0,u8V 0,u8V 0,u8V 0,u8V 0,u8V 0,u8V 0,u8V 0,u8V 0,u8V 0,u8V 0,u8V 0,u8V 0,u8V 0]:=by
 have e:∀ n k,(List.replicate n (0:Int)).getD k 0=0:=fun n k=>by
  rw [List.getD_eq_getElem?_getD,List.getElem?_replicate]
  split <;> rfl
 unfold sqStart
 simp only [valsA,e]
theorem newSeq_any (va:Option Addr) (n vc:Nat) (p:List (List Ins)) (w:World) :
 Calls Tryz.prog 62 #[.slice va n vc] w fun e w' => ∃ b,e = .returned (mcV 134 b)∧SeqB w' b (.slice va n vc) (sqStart p)∧Below w.heap.size w w':=by
 have h:=hide (heap_alloc_new w (.cells (valsA (.slice va n vc) (sqStart p)) 140))
 have hb:=hide ((Below.refl w.heap.size w).alloc (Nat.le_refl _) (.cells (valsA (.slice va n vc) (sqStart p)) 140))
 rw [sqStart_cells] at h hb
 have E:=hide (sqStart_cells (.slice va n vc) (p:=p))
 go_enter Tryz.func62,Tryz.ntmps62
 go_wp2_with fail
 go_ret
 refine ⟨_,rfl, ?_,hb.out⟩
 show _=some (Obj.cells (valsA _ _) _ _)
 rw [E.out]
 exact h.out
end Go.Proofs.YtlddmagfbcomgaaGreat
namespace Go.Proofs.YtlddmagfbcomgaaGreat
open Go.RowKit
abbrev encR2 (r:List (Int × Int)):List Int:=r.map fun e=>e.1 * 16+e.2
abbrev BufB (w:World) (b:Nat) (vp:Value) (split:Bool) (wv:Slc) (s:Bf):Prop:=w.heap[b]? = some (.cells (valsA vp s.q ++ #[.bool split, .slice wv.a wv.n wv.cap]) 167 (0,0))
abbrev BufW (w:World) (wv:Slc) (s:Bf):Prop:=Rep2 ByteE w wv.v (s.bf.map encR2)
theorem BufB.split {w:World} {b:Nat} {vp:Value} {split:Bool} {wv:Slc} {s:Bf} (h:BufB w b vp split wv s):w.cell? ⟨b,16,none⟩=some (.bool split):=cellH h (k:=16) rfl
theorem BufB.waits {w:World} {b:Nat} {vp:Value} {split:Bool} {wv:Slc} {s:Bf} (h:BufB w b vp split wv s):w.cell? ⟨b,17,none⟩=some (.slice wv.a wv.n wv.cap):=cellH h (k:=17) rfl
theorem BufB.lt {w:World} {b:Nat} {vp:Value} {split:Bool} {wv:Slc} {s:Bf} (h:BufB w b vp split wv s):b < w.heap.size:=(Array.getElem?_eq_some_iff.1 h).1
theorem BufB.below {w w':World} {b:Nat} {vp:Value} {split:Bool} {wv:Slc} {s:Bf} (h:BufB w b vp split wv s) (hb:Below w.heap.size w w'):BufB w' b vp split wv s:=(hb.block b h.lt).trans h
theorem buffer_any (b t loc:Nat) (split:Bool) (w:World) (h16:w.cell? ⟨b,16,none⟩=some (.bool split)) (ht:t≤2) (hl:loc≤2) :
 Calls Tryz.prog 256 #[.pointer (some ⟨b,0,none⟩), .int .i64 (t:Int), .int .i64 (loc:Int)] w fun e w'=>e = .returned (.int .i64 ((bfPlace t loc split:Nat):Int))∧w=w':=by
 have bl:=lt_of_cell h16
 cases split
 ·go_enter Tryz.func256,Tryz.ntmps256
  go_wp2_with fail
  go_ret
  exact ⟨rfl,rfl⟩
 ·have E:bfPlace t loc true=t * 3+loc:=by simp [bfPlace]
  have HE:=hide E
  clear E
  go_enter Tryz.func256,Tryz.ntmps256
  go_wp2_with fail
  go_ret
  rw [HE.out]
  exact ⟨congrArg Ending.returned (congrArg (Value.int .i64) (by omega)),rfl⟩
theorem bfEmpty_three (s:Bf) (t:Nat) (split:Bool):bfEmpty s t split=(List.range 3).all fun i=>(s.bf.getD (bfPlace t i split) []).isEmpty:=by
 cases split
 ·simp [bfEmpty,bfN,bfPlace,List.range_succ]
 ·simp [bfEmpty,bfN,bfPlace,List.range_succ]
theorem place_in {p:List (List Ins)} {split:Bool} {t i:Nat} (ht:t < p.length) (hi:i < 3):bfPlace t i split < p.length * bfN split:=by
 have:=place_lt (p:=p) (split:=split) (loc:=(i:Int)) ht (by omega) (by omega)
 exact this
theorem isEmpty_any (b t:Nat) (vp:Value) (split:Bool) (wv:Slc) (p:List (List Ins)) (s:Bf) (w:World) (hx:BufB w b vp split wv s) (hw:BufW w wv s) (hok:BfOk p split s) (ht:t < p.length) (hpl:p.length≤3) :
 Calls Tryz.prog 260 #[.pointer (some ⟨b,0,none⟩), .int .i64 (t:Int)] w fun e w'=>e = .returned (.bool (bfEmpty s t split))∧Below w.heap.size w w':=by
 obtain ⟨wa,wn,wk⟩:=wv
 have HX:=hide hx;have HW:=hide hw;have HLB:=hide hok.lb
 have h16:=hx.split
 have h17:=hx.waits
 have bl:=hx.lt
 have ht2:t≤2:=by omega
 obtain ⟨_,_,hv, -,hcn, -, -⟩:=hw.open
 simp only [Slc.v,Value.slice.injEq] at hv
 obtain ⟨rfl,hwn,rfl⟩:=hv
 rw [List.length_map] at hwn
 have HWN:=hide hwn
 have HE:=hide (bfEmpty_three s t split)
 have HP:=hide (fun i (hi:i < 3)=>place_in (p:=p) (split:=split) (i:=i) ht hi)
 obtain ⟨R,hR⟩:∃ R,R=bfEmpty s t split:=⟨_,rfl⟩
 have HR:=hide hR
 rw [← hR]
 clear hx hw hok hR hwn hcn
 go_enter Tryz.func260,Tryz.ntmps260
 go_wp2_with fail
 go_loopw [6] (fun i wr => ∃ k:Nat,k≤3∧i = .int .i64 k∧Hid (∀ j < k,(s.bf.getD (bfPlace t j split) []).isEmpty=true)∧Below w.heap.size w wr) (fun i _=>3 - (intOf i).toNat)
 case atStart=>exact ⟨0,Nat.zero_le _,rfl,hide (fun t h=>absurd h (Nat.not_lt_zero t)),Below.refl _ _⟩
 case round =>
  obtain ⟨k,hk,rfl,hno,hb⟩:=hrel
  have HB:=hide hb
  by_cases hlt:k < 3
  ·have hlt':(k:Int) < 3:=by omega
   have hk2:k≤2:=by omega
   have e16:=(hb.cell (p:=⟨b,16,none⟩) bl).trans h16
   have e17:=(hb.cell (p:=⟨b,17,none⟩) bl).trans h17
   have bl2:=lt_of_cell e16
   obtain ⟨q,hq⟩:∃ q,q=bfPlace t k split:=⟨_,rfl⟩
   have hqs:q < s.bf.length:=by rw [hq,HLB.out];exact HP.out k hlt
   have hqn:(q:Int) < (wn:Int):=by rw [HWN.out];omega
   obtain ⟨row,hrow⟩:=get_of_lt (xs:=s.bf) (k:=q) hqs
   have hrow2:(s.bf.map encR2)[q]? = some (encR2 row):=by rw [List.getElem?_map,hrow];rfl
   obtain ⟨b2,o2,ra,rc,rfl,hbl2,q0, -⟩:=Rep2.row (HW.out.below hb) hrow2
   rw [List.length_map] at q0
   have HBU:=hide (fun X:BW wr=>buffer_any b t k split X.val ((X.prop.cell (p:=⟨b,16,none⟩) bl2).trans e16) ht2 hk2)
   simp only [← hq] at HBU
   have HROW:=hide hrow;have HQ:=hide hq
   clear hb hrow hrow2 hq
   by_cases hne:row.length > 0
   ·have hne':(row.length:Int) > 0:=by omega
    have E:Hid (R=false):=hide (by
     rw [HR.out,HE.out,List.all_eq_false]
     refine ⟨k,List.mem_range.2 hlt, ?_⟩
     rw [← HQ.out,List.getD_eq_getElem?_getD,HROW.out]
     cases row with
     | nil=>simp at hne
     | cons x r=>simp)
    go_wp2_with fail
    refine wp_region_bw (by kernel_rfl) (by kernel_rfl) ?_
    repeat (go_big_quiet_step ((go_at_call 256;(with_reducible exact Calls.bw_same (HBU.out _)))))
    refine wpQuiet_nil ?_
    intro w1 hw1
    go_wp2_with fail
    go_ret
    rw [E.out]
    exact ⟨rfl,HB.out.trans (hw1.mono HB.out.size)⟩
   ·have hne':¬ (row.length:Int) > 0:=by omega
    have NO:Hid (∀ j < k+1,(s.bf.getD (bfPlace t j split) []).isEmpty=true):=hide fun j hj=>by
     by_cases e:j=k
     ·subst e
      rw [← HQ.out,List.getD_eq_getElem?_getD,HROW.out]
      cases row with
      | nil=>rfl
      | cons x r=>simp at hne
     ·exact hno.out j (by omega)
    go_wp2_with fail
    refine wp_region_bw (by kernel_rfl) (by kernel_rfl) ?_
    repeat (go_big_quiet_step ((go_at_call 256;(with_reducible exact Calls.bw_same (HBU.out _)))))
    refine wpQuiet_nil ?_
    intro w1 hw1
    have B1:=hide (HB.out.trans (hw1.mono HB.out.size))
    clear hw1
    go_wp2_with fail
    go_roundw
    case rel=>exact ⟨k+1,by omega,by go_num,NO,B1.out⟩
    case measure=>simp [intOf];omega
  ·obtain rfl:k=3:=by omega
   have E:Hid (R=true):=hide (by
    rw [HR.out,HE.out,List.all_eq_true]
    exact fun j hj=>hno.out j (List.mem_range.1 hj))
   go_wp2_with fail
   go_ret
   rw [E.out]
   exact ⟨rfl,HB.out⟩
end Go.Proofs.YtlddmagfbcomgaaGreat
namespace Go.Proofs.YtlddmagfbcomgaaGreat
open Go.RowKit
def bfCan (p:List (List Ins)) (split:Bool) (s:Bf) (t:Nat):Bool:=match sqIns p s.q t with
 | none=>false
 | some i=>if i.op=4∨i.op=5 then bfEmpty s t split else true
def bfHas (s:Bf) (k:Nat):Bool:=decide (0 < (s.bf.getD k []).length)
def bfMv (p:List (List Ins)) (split:Bool) (s:Bf):List Nat:=((List.range p.length).filter fun t=>bfCan p split s t)++((List.range s.bf.length).filter fun k=>bfHas s k).map fun k=>p.length+k
theorem filter_snoc (f:Nat→Bool) (k:Nat):(List.range (k+1)).filter f=(List.range k).filter f++(if f k=true then [k] else []):=by
 rw [List.range_succ,List.filter_append]
 congr 1
 cases h:f k <;> simp [h]
theorem filter_len (f:Nat→Bool) (k:Nat):((List.range k).filter f).length≤k:=Nat.le_trans (List.length_filter_le _ _) (by simp)
theorem map_snoc3 (A L:List Nat) (k j:Nat):((A++(L++[j]).map fun x=>k+x).map fun (m:Nat)=>(m:Int))=((A++L.map fun x=>k+x).map fun (m:Nat)=>(m:Int))++[(k:Int)+(j:Int)]:=by simp
theorem bufMoves_any (b:Nat) (vp:Value) (split:Bool) (wv:Slc) (p:List (List Ins)) (s:Bf) (w:World) (hp:RepP w vp p) (hx:BufB w b vp split wv s) (hw:BufW w wv s) (hok:BfOk p split s) (hpl:p.length≤3) (hpr:∀ r∈p,r.length≤7) :
 Calls Tryz.prog 253 #[.pointer (some ⟨b,0,none⟩)] w (RetOwn IntE 3 w ((bfMv p split s).map fun (m:Nat)=>(m:Int))):=by
 obtain ⟨va,vc,rfl,hc1,hc2,hc3,hp⟩:=hp.open
 obtain ⟨wa,wn,wk⟩:=wv
 have HP:=hide hp;have HX:=hide hx;have HW:=hide hw;have HOK:=hide hok;have HPR:=hide hpr
 have HV:=hide (ValAt.ofMore hx)
 have c0:=HV.out.c0
 have bl:=HV.out.lt
 obtain ⟨_,_,hv, -,hcn, -, -⟩:=hw.open
 simp only [Slc.v,Value.slice.injEq] at hv
 obtain ⟨rfl,hwn,rfl⟩:=hv
 rw [List.length_map] at hwn
 have hwn9:wn≤9:=by
  rw [hwn,hok.lb]
  have:bfN split≤3:=by cases split <;> simp [bfN]
  have:=Nat.mul_le_mul hpl this
  omega
 have HWN:=hide hwn
 have HMV:Hid (bfMv p split s=((List.range p.length).filter fun t=>bfCan p split s t)++((List.range s.bf.length).filter fun k=>bfHas s k).map fun k=>p.length+k):=hide rfl
 clear hp hx hw hok hpr hwn hcn
 generalize hn:p.length=n at *
 have HN:=hide hn
 clear hn
 have hsa:=@setCell_alloc
 go_enter Tryz.func253,Tryz.ntmps253
 go_wp2_with fail
 go_loopw [3,15] (fun v i wr => ∃ k:Nat,k≤n∧i = .int .i64 k∧Own IntE 3 wr w.heap.size v (((List.range k).filter fun t=>bfCan p split s t).map fun (m:Nat)=>(m:Int))∧Below w.heap.size w wr) (fun _ i _=>n - (intOf i).toNat)
 case atStart=>exact ⟨0,Nat.zero_le _,rfl,Own.nil _ _ _,Below.refl _ _⟩
 case round =>
  obtain ⟨k,hk,rfl,hown,hb⟩:=hrel
  have HB:=hide hb;have HO:=hide hown
  have hbs:=hb.size
  have hlen:((((List.range k).filter fun t=>bfCan p split s t).map fun (m:Nat)=>(m:Int))).length≤68719476736:=by
   rw [List.length_map]
   have:=filter_len (fun t=>bfCan p split s t) k
   omega
  by_cases hlt:k < n
  ·have hlt':=nat_of_lt hlt
   have HNX:=hide (next_any b k va n vc p s.q wr (HP.out.below hb) (HV.out.below hb) HOK.out.q (by rw [HN.out];exact hpl) HPR.out (by rw [HN.out];exact hlt))
   have HEM:=hide (fun (W:World) (hW:Below w.heap.size w W)=>isEmpty_any b k (.slice va n vc) split ⟨wa,wn,wk⟩ p s W (HX.out.below hW) (HW.out.below hW) HOK.out (by rw [HN.out];exact hlt) (by rw [HN.out];exact hpl))
   have SN:=hide (filter_snoc (fun t=>bfCan p split s t) k)
   clear hb hown
   go_wp2_with fail
   (with_reducible refine HNX.out.mono ?_);rintro e w1 ⟨rfl,hb1⟩
   have HB1:=hide (HB.out.trans (hb1.mono HB.out.size))
   have HO1:=hide (HO.out.below hb1)
   have hs1:w.heap.size≤w1.heap.size:=Nat.le_trans hbs hb1.size
   clear hb1 HNX
   cases hi:sqIns p s.q k with
   | none =>
    have hc:bfCan p split s k=false:=by unfold bfCan;rw [hi]
    rw [hc,if_neg (by simp),List.append_nil] at SN
    clear hi hc
    simp only [nxT]
    go_wp2_with fail
    go_roundw
    case rel=>exact ⟨k+1,by omega,by go_num,by rw [SN.out];exact HO1.out.alloc _,HB1.out.alloc HB1.out.size _⟩
    case measure=>simp [intOf];omega
   | some i =>
    obtain ⟨op,loc,reg,val⟩:=i
    have HBA:=hide (HB1.out.alloc HB1.out.size (.cells #[.int .i64 op, .int .i64 loc, .int .i64 reg, .int .i64 val] 74))
    have HOA:=hide (HO1.out.alloc (.cells #[.int .i64 op, .int .i64 loc, .int .i64 reg, .int .i64 val] 74))
    simp only [nxT]
    by_cases h45:op=4∨op=5
    ·have hc:bfCan p split s k=bfEmpty s k split:=by unfold bfCan;rw [hi];simp only [h45,if_true]
     rw [hc] at SN
     clear hi hc
     rcases h45 with rfl | rfl
     all_goals
      cases hE:bfEmpty s k split
      ·rw [hE,if_neg (by simp),List.append_nil] at SN
       have HE0:=hide hE
       clear hE
       go_wp2_with (go_at_call 260;(with_reducible refine (HEM.out _ HBA.out).mono ?_);rintro e w3 ⟨rfl,hb3⟩;rw [HE0.out];have HB3:=hide (HBA.out.trans (hb3.mono HBA.out.size));have HO3:=hide (HOA.out.below hb3);clear hb3)
       go_roundw
       case rel=>exact ⟨k+1,by omega,by go_num,by rw [SN.out];exact HO3.out,HB3.out⟩
       case measure=>simp [intOf];omega
      ·rw [hE,if_pos rfl] at SN
       have HE0:=hide hE
       clear hE
       go_wp2_with (first
        | (go_at_call 260;(with_reducible refine (HEM.out _ HBA.out).mono ?_);rintro e w3 ⟨rfl,hb3⟩;rw [HE0.out];have HB3:=hide (HBA.out.trans (hb3.mono HBA.out.size));have HO3:=hide (HOA.out.below hb3);have hs3:=HB3.out.size;clear hb3)
        | (at_builtin;refine wpList_appAt IntE 3 Tryz.infoInt rfl Tryz.underlying40 w.heap.size _ _ (k:Int) (HO3.out.alloc _) (by decide) hlen (by simp;omega) rfl _ _ rfl rfl _ 0 1 rfl news_alloc ?_;intro v5 w5 hown5 hgr5 hat5))
       have HF:=hide (show Own IntE 3 w5 w.heap.size v5 (((List.range (k+1)).filter fun t=>bfCan p split s t).map fun (m:Nat)=>(m:Int)) by rw [SN.out,List.map_append];exact hown5)
       have HW5:=hide ((HB3.out.alloc HB3.out.size (.cells #[.int .i64 (k:Int)] 3)).grown hgr5 (by simp;omega) (fun q hq=>(World.ownsRow.lt HO.out q hq).1))
       clear hown5 hgr5 hat5
       go_wp2_with fail
       go_roundw
       case rel=>exact ⟨k+1,by omega,by go_num,HF.out,HW5.out⟩
       case measure=>simp [intOf];omega
    ·have hc:bfCan p split s k=true:=by unfold bfCan;rw [hi];simp only [h45,if_false]
     rw [hc,if_pos rfl] at SN
     have h4:(op==4)=false:=by simp;omega
     have h5:(op==5)=false:=by simp;omega
     have h4':¬ op=4:=by omega
     have h5':¬ op=5:=by omega
     clear hi hc h45
     go_wp2_with (first
      | (at_builtin;refine wpList_appAt IntE 3 Tryz.infoInt rfl Tryz.underlying40 w.heap.size _ _ (k:Int) (HOA.out.alloc _) (by decide) hlen (by simp;omega) rfl _ _ rfl rfl _ 0 1 rfl (news_allocA (by simp)) ?_;intro v5 w5 hown5 hgr5 hat5))
     have HF:=hide (show Own IntE 3 w5 w.heap.size v5 (((List.range (k+1)).filter fun t=>bfCan p split s t).map fun (m:Nat)=>(m:Int)) by rw [SN.out,List.map_append];exact hown5)
     have HW5:=hide ((HBA.out.alloc HBA.out.size (.cells #[.int .i64 (k:Int)] 3)).grown hgr5 (by simp;omega) (fun q hq=>(World.ownsRow.lt HO.out q hq).1))
     clear hown5 hgr5 hat5
     go_wp2_with fail
     go_roundw
     case rel=>exact ⟨k+1,by omega,by go_num,HF.out,HW5.out⟩
     case measure=>simp [intOf];omega
  ·obtain rfl:k=n:=by omega
   have hbb:=HX.out.below hb
   have h17:=hbb.waits
   have c1:=(hb.cell (p:=⟨b,0,none⟩) bl).trans c0
   have bl1:=lt_of_cell c1
   clear hb hown hbb
   have HO0:=hide (show Own IntE 3 wr w.heap.size _ ((((List.range k).filter fun t=>bfCan p split s t)++((List.range 0).filter fun j=>bfHas s j).map fun j=>k+j).map fun (m:Nat)=>(m:Int)) by rw [List.range_zero,List.filter_nil,List.map_nil,List.append_nil];exact HO.out)
   go_wp2_with fail
   clear h17 c1 bl1 hbs hlen hlt
   go_loopw [3,52] (fun v i wr => ∃ j:Nat,j≤wn∧i = .int .i64 j∧Own IntE 3 wr w.heap.size v ((((List.range k).filter fun t=>bfCan p split s t)++((List.range j).filter fun j=>bfHas s j).map fun j=>k+j).map fun (m:Nat)=>(m:Int))∧Below w.heap.size w wr) (fun _ i _=>wn - (intOf i).toNat)
   case atStart=>exact ⟨0,Nat.zero_le _,rfl,HO0.out,HB.out⟩
   case round =>
    obtain ⟨j,hj,rfl,hown,hb⟩:=hrel
    have HB1:=hide hb;have HO1:=hide hown
    have hbs:=hb.size
    by_cases hlt:j < wn
    ·have hlt':=nat_of_lt hlt
     have hlen:(((((List.range k).filter fun t=>bfCan p split s t)++((List.range j).filter fun j=>bfHas s j).map fun j=>k+j).map fun (m:Nat)=>(m:Int))).length≤68719476736:=by
      have h1:=filter_len (fun t=>bfCan p split s t) k
      have h2:=filter_len (fun t=>bfHas s t) j
      simp only [List.length_map,List.length_append]
      omega
     obtain ⟨row,hrow⟩:=get_of_lt (xs:=s.bf) (k:=j) (by rw [← HWN.out];exact hlt)
     have hrow2:(s.bf.map encR2)[j]? = some (encR2 row):=by rw [List.getElem?_map,hrow];rfl
     obtain ⟨b2,o2,ra,rc,rfl,hbl2,q0, -⟩:=Rep2.row (HW.out.below hb) hrow2
     rw [List.length_map] at q0
     have c1:=(hb.cell (p:=⟨b,0,none⟩) bl).trans c0
     have bl1:=lt_of_cell c1
     have SN:=hide (filter_snoc (fun j=>bfHas s j) j)
     have hwa:IntKind.i64.wrap ((k:Int)+(j:Int))=(k:Int)+(j:Int):=wrapM (by omega) (by omega)
     by_cases hne:row.length > 0
     ·have hne':(row.length:Int) > 0:=by omega
      have hc:bfHas s j=true:=by unfold bfHas;rw [List.getD_eq_getElem?_getD,hrow];simpa using hne
      rw [hc,if_pos rfl] at SN
      clear hb hown hrow hrow2 hc
      go_wp2_with (first
       | (at_builtin;refine wpList_appAt IntE 3 Tryz.infoInt rfl Tryz.underlying40 w.heap.size _ _ ((k:Int)+(j:Int)) (HO1.out.alloc _) (by decide) hlen (by simp;omega) rfl _ _ rfl rfl _ 0 1 rfl news_alloc ?_;intro v5 w5 hown5 hgr5 hat5))
      have HF:=hide (show Own IntE 3 w5 w.heap.size v5 ((((List.range k).filter fun t=>bfCan p split s t)++((List.range (j+1)).filter fun j=>bfHas s j).map fun j=>k+j).map fun (m:Nat)=>(m:Int)) by
       rw [SN.out,map_snoc3]
       exact hown5)
      have HW5:=hide ((HB1.out.alloc HB1.out.size (.cells #[.int .i64 ((k:Int)+(j:Int))] 3)).grown hgr5 (by simp;omega) (fun q hq=>(World.ownsRow.lt HO1.out q hq).1))
      clear hown5 hgr5 hat5
      go_wp2_with fail
      go_roundw
      case rel=>exact ⟨j+1,by omega,by go_num,HF.out,HW5.out⟩
      case measure=>simp [intOf];omega
     ·have hne':¬ (row.length:Int) > 0:=by omega
      have hc:bfHas s j=false:=by unfold bfHas;rw [List.getD_eq_getElem?_getD,hrow];simpa using hne
      rw [hc,if_neg (by simp),List.append_nil] at SN
      clear hb hown hrow hrow2 hc
      go_wp2_with fail
      go_roundw
      case rel=>exact ⟨j+1,by omega,by go_num,by rw [SN.out];exact HO1.out,HB1.out⟩
      case measure=>simp [intOf];omega
    ·obtain rfl:j=wn:=by omega
     have E:Hid (bfMv p split s=((List.range k).filter fun t=>bfCan p split s t)++((List.range j).filter fun j=>bfHas s j).map fun j=>k+j):=hide (by rw [HMV.out,← HWN.out])
     go_wp2_with fail
     go_ret
     exact ⟨_,rfl,by rw [E.out];exact HO1.out,HB1.out⟩
end Go.Proofs.YtlddmagfbcomgaaGreat
namespace Go.Proofs.YtlddmagfbcomgaaGreat
open Go.RowKit
theorem hasClo_any (a:Option Addr) (n c:Nat) (w:World):Calls Tryz.prog 259 #[.slice a n c] w fun e w'=>e = .returned (.bool (decide (0 < n)))∧w=w':=by
 go_enter Tryz.func259,Tryz.ntmps259
 go_wp2_with fail
 go_ret
 exact ⟨by simp,rfl⟩
theorem idxHas_any (v:Value) (rows:List (List Int)) (w:World) (hw:Rep2 ByteE w v rows) (hn:rows.length≤1000) :
 Calls Tryz.prog 262 #[v, .func (.func 259) #[] #[]] w fun e w' => ∃ r:Int,e = .returned (.int .i64 r)∧((0≤r)↔(rows.any fun x => !x.isEmpty)=true)∧w=w':=by
 obtain ⟨va,vc,rfl,hc1,hc2,hc3,hw⟩:=hw.open
 have HW:=hide hw
 clear hw hc1 hc3
 generalize hm:rows.length=m at *
 have HM:=hide hm
 clear hm
 go_enter Tryz.func262,Tryz.ntmps262
 go_wp2_with fail
 go_loopw [8] (fun i wr => ∃ k:Nat,k≤m∧i = .int .i64 k∧Hid (∀ x∈rows.take k,x=[])∧w=wr) (fun i _=>m - (intOf i).toNat)
 case atStart=>exact ⟨0,Nat.zero_le _,rfl,hide (fun x h=>by simp at h),rfl⟩
 case round =>
  obtain ⟨k,hk,rfl,hno,rfl⟩:=hrel
  by_cases hlt:k < m
  ·have hlt':=nat_of_lt hlt
   obtain ⟨row,hrow⟩:=get_of_lt (xs:=rows) (k:=k) (by rw [HM.out];exact hlt)
   obtain ⟨b2,o2,ra,rc,rfl,hbl2,q0, -⟩:=Rep2.row HW.out hrow
   have HROW:=hide hrow
   clear hrow
   have HC:=hide (hasClo_any ra row.length rc w)
   by_cases hne:0 < row.length
   ·have E:Hid ((0≤(k:Int))↔(rows.any fun x => !x.isEmpty)=true):=hide (by
     refine ⟨fun _ => ?_,fun _=>by omega⟩
     rw [List.any_eq_true]
     refine ⟨row,List.mem_of_getElem? HROW.out, ?_⟩
     cases row with
     | nil=>simp at hne
     | cons x r=>rfl)
    have hd:decide (0 < row.length)=true:=by simpa using hne
    rw [hd] at HC
    clear hno
    go_wp2_with (go_at_call 259;(with_reducible refine HC.out.mono ?_);rintro e w1 ⟨rfl,rfl⟩)
    go_ret
    exact ⟨_,rfl,E.out,rfl⟩
   ·have hd:decide (0 < row.length)=false:=by simpa using hne
    rw [hd] at HC
    have NO:Hid (∀ x∈rows.take (k+1),x=[]):=hide fun x hx=>by
     rw [List.take_add_one,HROW.out] at hx
     rcases List.mem_append.1 hx with h | h
     ·exact hno.out x h
     ·simp at h;subst h
      exact List.eq_nil_of_length_eq_zero (by omega)
    go_wp2_with (go_at_call 259;(with_reducible refine HC.out.mono ?_);rintro e w1 ⟨rfl,rfl⟩)
    go_roundw
    case rel=>exact ⟨k+1,by omega,by go_num,NO,trivial⟩
    case measure=>simp [intOf];omega
  ·obtain rfl:k=m:=by omega
   have E:Hid ((0≤(-1:Int))↔(rows.any fun x => !x.isEmpty)=true):=hide (by
    refine ⟨fun h=>by omega,fun h => ?_⟩
    rw [List.any_eq_true] at h
    obtain ⟨x,hx,hxe⟩:=h
    have:=hno.out x (by rw [List.take_of_length_le (by rw [HM.out];exact Nat.le_refl _)];exact hx)
    rw [this] at hxe;simp at hxe)
   go_wp2_with fail
   go_ret
   exact ⟨_,rfl,E.out,rfl⟩
theorem hasAny_any (v:Value) (rows:List (List Int)) (w:World) (hw:Rep2 ByteE w v rows) (hn:rows.length≤1000) :
 Calls Tryz.prog 258 #[v, .func (.func 259) #[] #[]] w fun e w'=>e = .returned (.bool (rows.any fun x => !x.isEmpty))∧w=w':=by
 have H:=hide (idxHas_any v rows w hw hn)
 clear hw
 generalize (rows.any fun x => !x.isEmpty)=D at *
 go_enter Tryz.func258,Tryz.ntmps258
 go_wp2_with fail
 (with_reducible refine H.out.mono ?_);rintro e w1 ⟨r,rfl,hr,rfl⟩
 have HR:=hide hr
 clear hr
 go_wp2_with fail
 go_ret
 refine ⟨congrArg Ending.returned (congrArg Value.bool ?_),rfl⟩
 have:=HR.out
 cases D <;> simp_all
theorem bufDone_any (b:Nat) (vp:Value) (split:Bool) (wv:Slc) (p:List (List Ins)) (s:Bf) (w:World) (hp:RepP w vp p) (hx:BufB w b vp split wv s) (hw:BufW w wv s) (hok:BfOk p split s) (hpl:p.length≤3) (hpr:∀ r∈p,r.length≤7) :
 Calls Tryz.prog 251 #[.pointer (some ⟨b,0,none⟩)] w fun e w'=>e = .returned (.bool (bfDone p s))∧Below w.heap.size w w':=by
 obtain ⟨wa,wn,wk⟩:=wv
 have H1:=hide (allDone_any b vp p s.q w hp (ValAt.ofMore hx) hok.q hpl hpr)
 have hl9:(s.bf.map encR2).length≤1000:=by
  rw [List.length_map,hok.lb]
  have:bfN split≤3:=by cases split <;> simp [bfN]
  have:=Nat.mul_le_mul hpl this
  omega
 have H2:=hide (fun (W:World) (hW:Below w.heap.size w W)=>hasAny_any (.slice wa wn wk) (s.bf.map encR2) W (hw.below hW) hl9)
 have h17:=hx.waits
 have bl:=hx.lt
 have HE:Hid (bfDone p s=(!((s.bf.map encR2).any fun x => !x.isEmpty)&&sqDone p s.q)):=hide (by
  unfold bfDone
  congr 1
  rw [List.any_map,Bool.eq_iff_iff,List.all_eq_true,Bool.not_eq_true',List.any_eq_false]
  simp [encR2])
 have HX:=hide hx
 clear hp hx hw hok hpr hl9
 generalize ((s.bf.map encR2).any fun x => !x.isEmpty)=D at *
 cases hd:sqDone p s.q
 ·rw [hd] at H1 HE
  clear hd
  go_enter Tryz.func251,Tryz.ntmps251
  go_wp2_with (go_at_call 242;(with_reducible refine H1.out.mono ?_);rintro e w1 ⟨rfl,hb1⟩)
  go_ret
  rw [HE.out]
  exact ⟨by simp,hb1⟩
 ·rw [hd] at H1 HE
  clear hd
  go_enter Tryz.func251,Tryz.ntmps251
  go_wp2_with (first
   | (go_at_call 242;(with_reducible refine H1.out.mono ?_);rintro e w1 ⟨rfl,hb1⟩;have B1:=hide hb1;have g17:=(hb1.cell (p:=⟨b,17,none⟩) bl).trans h17;have gl:=lt_of_cell g17;clear hb1)
   | (go_at_call 258;(with_reducible refine (H2.out _ B1.out).mono ?_);rintro e w2 ⟨rfl,rfl⟩))
  go_ret
  rw [HE.out]
  exact ⟨by simp,B1.out⟩
end Go.Proofs.YtlddmagfbcomgaaGreat
namespace Go.Proofs.YtlddmagfbcomgaaGreat
open Go.RowKit
def OwnBy (w:World) (base:Nat) (v:Value) (xs:List Int):Prop:=
 ∃ (g cap:Nat) (cur:Array Value) (fz:Nat × Nat),v = .slice (some ⟨g,0,none⟩) xs.length cap∧base≤g∧w.heap[g]? = some (.cells cur 5 fz)∧(fz.2=0∨cur.size≤fz.1)∧xs.length≤cap∧cap≤maxLen∧cur.size=cap∧cur.toList.take xs.length=xs.map u8V
theorem run_storeCells_E (P:Program) (g o:Nat) (t:TypeId) (fz:Nat × Nat):∀ (vs:List Value) (i:Nat) (cur:Array Value) (w:World),w.heap[g]? = some (.cells cur t fz)→(fz.2=0∨cur.size≤fz.1)→o+i+vs.length≤cur.size→(∀ v∈vs,v.oneCell'=true) →
 (storeCells ⟨g,o,none⟩ vs i).run P w = .ok () (w.setRow g (cur.toList.take (o+i)++vs++cur.toList.drop (o+i+vs.length)).toArray)
 | [],i,cur,w,hg,_,_,_=>by
  simp only [storeCells,List.append_nil,List.length_nil,Nat.add_zero,List.take_append_drop,Array.toArray_toList]
  rw [setRow_self w g cur t fz hg]
  rfl
 | v :: rest,i,cur,w,hg,hfz,hl,h1=>by
  have hi:o+i < cur.size:=by simp at hl;omega
  have hadd:(⟨g,o,none⟩:Addr).add i=⟨g,o+i,none⟩:=by unfold Addr.add;split <;> simp_all
  have hcell:w.cell? ⟨g,o+i,none⟩=some cur[o+i]:=by simp [World.cell?,hg,hi]
  have hfro:w.frozen? ⟨g,o+i,none⟩=false:=by
   obtain ⟨lo,hi'⟩:=fz
   simp only [World.frozen?,hg,Bool.and_eq_false_iff,decide_eq_false_iff_not]
   simp only at hfz
   rcases hfz with hfz | hfz
   ·right;omega
   ·left;omega
  have hst:(store ((⟨g,o,none⟩:Addr).add i) v).run P w = .ok () (w.setRow g (cur.setIfInBounds (o+i) v)):=by
   rw [hadd,run_store P w _ v _ (h1 v (by simp)),hcell]
   simp [hfro,setCell_eq_setRow w g (o+i) cur t fz v hg]
  have ih:=run_storeCells_E P g o t fz rest (i+1) (cur.setIfInBounds (o+i) v) (w.setRow g (cur.setIfInBounds (o+i) v)) (setRow_heap w g cur _ t _ hg) (by simpa using hfz) (by simp at hl ⊢;omega) (fun x hx=>h1 x (by simp [hx]))
  simp only [storeCells,Sem.run_bind,hst,Result.andThen_ok,ih,setRow_setRow]
  congr 3
  have e:=list_seg_step cur.toList (o+i) v rest (by simp at hl ⊢;omega)
  simpa [Array.toList_setIfInBounds,Nat.add_assoc] using e
theorem OwnBy.lt {w:World} {base:Nat} {v:Value} {xs:List Int} (h:OwnBy w base v xs):∀ q,v.ownBlock=some q→base≤q∧q < w.heap.size:=by
 obtain ⟨g,cap,cur,fz,rfl,h1,h2, -⟩:=h
 intro q hq
 simp [Value.ownBlock] at hq
 subst hq
 exact ⟨h1,(Array.getElem?_eq_some_iff.1 h2).1⟩
theorem OwnBy.below {w w':World} {base:Nat} {v:Value} {xs:List Int} (h:OwnBy w base v xs) (hb:Below w.heap.size w w'):OwnBy w' base v xs:=by
 obtain ⟨g,cap,cur,fz,rfl,h1,h2,h3⟩:=h
 exact ⟨g,cap,cur,fz,rfl,h1,(hb.block g (Array.getElem?_eq_some_iff.1 h2).1).trans h2,h3⟩
theorem OwnBy.alloc {w:World} {base:Nat} {v:Value} {xs:List Int} (h:OwnBy w base v xs) (o:Obj):OwnBy (w.alloc o) base v xs:=h.below ((Below.refl _ _).alloc (Nat.le_refl _) o)
theorem u8_one (l:List Int):∀ u∈l.map u8V,u.oneCell'=true:=fun u hu=>by
 obtain ⟨x, -,rfl⟩:=List.mem_map.1 hu
 rfl
theorem OwnBy.app {w:World} {base:Nat} {v u:Value} {xs ys:List Int} (h:OwnBy w base v xs) (hr:Rep ByteE w u ys) (hn:xs.length+ys.length≤68719476736) (hb:base≤w.heap.size) (ty:TypeId) :
 ∃ v' w',(Builtin.append_ #[22,22] ty #[v,u]).run Tryz.prog w = .ok v' w'∧OwnBy w' base v' (xs++ys)∧w.grownBy w' v.ownBlock:=by
 obtain ⟨it,hi,hz0,hz1,hz2⟩:=info_parts Tryz.infoU8I
 have ht:Tryz.prog.underlying 22=some (.slice 5):=Tryz.underlying22
 obtain ⟨g,cap,cur,fz,rfl,h1,h2,h3,h4,h5,h6,h7⟩:=h
 obtain ⟨ad,c,rfl,hc1,hc2,hcell⟩:=hr
 cases ad with
 | none =>
  have hys:ys=[]:=by
   cases ys with
   | nil=>rfl
   | cons y ys=>obtain ⟨b,o,hb,_⟩:=hcell 0 y rfl;cases hb
  subst hys
  refine ⟨.slice (some ⟨g,0,none⟩) xs.length cap,w, ?_,⟨g,cap,cur,fz, ?_,h1,h2,h3, ?_,h5,h6, ?_⟩,World.grownBy.refl _ _⟩
  ·simp [Builtin.append_,run_underlying ht,sizeOf,typeInfo,hi,Builtin.lenOf,Builtin.firstCells,h4,storeCells]
  ·simp
  ·simpa using h4
  ·simpa using h7
 | some a =>
  have hnews:∀ j u,(ys.map u8V)[j]? = some u→w.cell? (a.add j)=some u:=fun j u hu=>by
   rw [List.getElem?_map] at hu
   cases hy:ys[j]? with
   | none=>rw [hy] at hu;cases hu
   | some y =>
    rw [hy] at hu
    obtain ⟨b,o,hb,hk⟩:=hcell j y hy
    simp only [Option.some.injEq] at hb
    subst hb
    have:=hk 0 (u8V y) rfl
    simp only [ByteE,Nat.mul_one,Nat.add_zero] at this
    rw [Addr.add_lit]
    simp only [Option.map_some,Option.some.injEq] at hu
    rw [← hu];exact this
  have hl:(ys.map u8V).length=ys.length * it.size:=by rw [hz1];simp
  by_cases hroom:xs.length+ys.length≤cap
  ·have hf:=run_firstCells_some (P:=Tryz.prog) w it.size ys.length a ys.length c (ys.map u8V) hl hnews
   have hst:=run_storeCells_E Tryz.prog g xs.length 5 fz (ys.map u8V) 0 cur w h2 h3 (by simp;omega) (u8_one ys)
   simp only [Nat.add_zero] at hst
   obtain ⟨X,hX⟩:∃ X:Array Value,X=(cur.toList.take xs.length++ys.map u8V++cur.toList.drop (xs.length+(ys.map u8V).length)).toArray:=⟨_,rfl⟩
   rw [← hX] at hst
   have hXs:X.size=cur.size:=by
    rw [hX]
    simp only [List.size_toArray,List.length_append,List.length_take,List.length_drop,Array.length_toList,List.length_map]
    omega
   refine ⟨.slice (some ⟨g,0,none⟩) (xs.length+ys.length) cap,w.setRow g X, ?_,⟨g,cap,X,fz,by simp,h1,setRow_heap w g cur _ _ _ h2, ?_,by simpa using hroom,h5,by rw [hXs];exact h6, ?_⟩,⟨rfl,rfl,rfl,by simp,fun k _ hk=>setRow_other w g k _ (fun e=>hk (by simp [Value.ownBlock,e]))⟩⟩
   ·rw [hz1] at hf
    simp [Builtin.append_,run_underlying ht,sizeOf,typeInfo,hi,hz1,Builtin.lenOf,hroom,hf,Addr.add_lit,hst]
   ·rw [hXs];exact h3
   ·rw [hX,h7,List.length_append,List.map_append]
    exact List.take_left' (by simp)
  ·have holds:∀ j u,(xs.map u8V)[j]? = some u→w.cell? ((⟨g,0,none⟩:Addr).add j)=some u:=fun j u hu=>by
    rw [← h7,List.getElem?_take] at hu
    split at hu
    ·rw [Addr.add_lit]
     simp only [Nat.zero_add]
     exact cellH h2 (by simpa using hu)
    ·cases hu
   have hr:=run_append_grow (P:=Tryz.prog) w 22 ty 5 it _ ht hi hz0 ⟨g,0,none⟩ xs.length cap (xs.map u8V) (by rw [hz1];simp) holds a ys.length c (ys.map u8V) hl hnews (by omega) (by omega) (growslice_fits (by omega) (by rw [hz2];omega))
   refine ⟨_,_,hr,⟨w.heap.size,grownCap w (xs.length+ys.length) cap 5,_,(0,0),by simp,hb,heap_alloc_new w.drew _, .inl rfl, ?_, ?_, ?_, ?_⟩,⟨rfl,rfl,rfl,by simp,fun k hk _=>heap_alloc_old w.drew _ hk⟩⟩
   ·rw [List.length_append];exact grownCap_ge _ _ _ _
   ·exact grownCap_le_maxLen _ _ _ _ (by unfold maxLen;omega)
   ·have:=grownCap_ge w (xs.length+ys.length) cap 5
    have hz:(Value.int IntKind.u8 0).cells.size=1:=rfl
    simp only [Array.size_append,List.size_toArray,List.length_map,size_zeroCells,hz]
    omega
   ·rw [Array.toList_append,Array.toList_append,List.length_append]
    simp only [List.map_append]
    exact List.take_left' (by simp)
theorem wpList_appE {w:World} {ops:Array Oper} {rest:List Oper} {o:Oper} {a:Act} {Q:Exit→Act→World→Prop} (base:Nat) (v u:Value) (xs ys:List Int) (hown:OwnBy w base v xs) (hr:Rep ByteE w u ys) (hn:xs.length+ys.length≤68719476736) (hb:base≤w.heap.size)
 (hg:o.guard=none) (s y:Operand) (hop:o.op = .call { callee:=.builtin .append,args:=#[s,y],argTypes:=#[22,22] }) (hs:a.eval s=v) (hy:a.eval y=u)
 (hK:∀ v' w',OwnBy w' base v' (xs++ys)→w.grownBy w' v.ownBlock→wpList Tryz.prog ops Q rest (a.put o.dst v') w') :
 wpList Tryz.prog ops Q (o :: rest) a w:=by
 refine wpList_plain hg fun K hK' => ?_
 obtain ⟨v',w',hrun,h1,h2⟩:=hown.app hr hn hb o.type
 unfold Oper.wp
 simp [execOp,hop,resolve,invoke,builtin,hs,hy,hrun,Result.andThen]
 exact hK' _ _ (hK v' w' h1 h2)
theorem bytes_below (w:World) (e:TypeId) (s:ByteArray):Below w.heap.size w (Lib.bytesWorld w e s):=
 ⟨rfl,rfl,rfl,by rw [Lib.bytesWorld_size];omega,fun k hk=>Lib.bytesWorld_at_old w e s k hk⟩
theorem bytes_own (w:World) {l:List Int} (hl:∀ x∈l,0≤x∧x≤255) (hn:l.length≤1000):OwnBy (Lib.bytesWorld w 5 (strOfNums l)) w.heap.size (.slice (some ⟨w.heap.size,0,none⟩) (strOfNums l).size (grownCap w (strOfNums l).size 0 5)) l:=by
 have hz:(strOfNums l).size=l.length:=strOfNums_size l
 have hge:=grownCap_ge w l.length 0 5
 refine ⟨w.heap.size,grownCap w l.length 0 5,_,_,by rw [hz],Nat.le_refl _,Lib.bytesWorld_at_new w _ _, .inr (Nat.le_refl _),hge,grownCap_le_maxLen _ _ _ _ (by unfold maxLen;omega), ?_, ?_⟩
 ·have h2:(strOfNums l).data.size=l.length:=hz
  simp only [Lib.bytesCells,Array.size_append,Array.size_map,Array.size_replicate,hz,h2]
  omega
 ·have e:(strOfNums l).data.toList=l.map fun n=>UInt8.ofNat n.toNat:=strOfNums_data l
  simp only [Lib.bytesCells,Array.toList_append,Array.toList_map,e,List.map_map]
  rw [List.take_left' (by simp)]
  apply List.map_congr_left
  intro x hx
  have:=hl x hx
  simp only [Function.comp_apply,UInt8.toNat_ofNat']
  rw [Nat.mod_eq_of_lt (by omega),show ((x.toNat:Nat):Int)=x by omega]
theorem conv_ownE {w:World} {base:Nat} {v:Value} {xs:List Int} (h:OwnBy w base v xs):(convert 22 9 v).run Tryz.prog w = .ok (.string (strOfNums xs)) w:=by
 obtain ⟨g,cap,cur,fz,rfl,h1,h2,h3,h4,h5,h6,h7⟩:=h
 exact run_convert_bytes_arg (P:=Tryz.prog) w 22 5 Tryz.underlying22 Tryz.underlying5 g 0 xs.length cap xs rfl (fun i hi=>by
  obtain ⟨y,hy⟩:=get_of_lt (xs:=xs) (k:=i) hi
  have hc:cur[i]? = some (u8V y):=by
   have:=congrArg (fun t:List Value=>t[i]?) h7
   simp only [List.getElem?_take,hi,if_true,List.getElem?_map,hy,Option.map_some] at this
   simpa using this
  rw [Nat.zero_add,cellH h2 hc,List.getD_eq_getElem?_getD,hy];rfl) 9 Tryz.underlying9
end Go.Proofs.YtlddmagfbcomgaaGreat
namespace Go.Proofs.YtlddmagfbcomgaaGreat
open Go.RowKit
theorem OutsU.mono {w:World} {base base':Nat} {v:Value} {outs:List (List Int)} (h:OutsU w base v outs) (hb:base'≤base):OutsU w base' v outs:=by
 obtain ⟨us,h1,h2,h3⟩:=h
 exact ⟨us,h1,h2.mono hb,fun i u o hu ho=>(h3 i u o hu ho).mono hb⟩
def OutsPost (n:Nat) (φ:List Int→Prop) (w:World) (e:Ending) (w':World):Prop:=
 ∃ v l,e = .returned v∧OutsU w' w.heap.size v l∧OutsOk n l∧(∀ o,o∈l↔φ o)∧Below w.heap.size w w'
def seqO (p:List (List Ins)) (o:List Int):Prop:=progValid p=true∧∃ s,ReachM (sqStart p) (sqNext p) s∧sqDone p s=true∧sqOut s=o
theorem sq_reach {p:List (List Ins)} (hv:progValid p=true) (s:Sq):ReachM (sqStart p) (nxM (sqMv p) (seqAf p)) s↔ReachM (sqStart p) (sqNext p) s:=
 reach_mv (ok:=SqOk p) (SqOk.start p) (fun _ _ _ h hn=>h.next (valid_ins hv) hn) (fun _ _ i=>sqMv_next i) (fun _ _ _ _ h=>seqAf_next h) s
theorem sqB_bytes {p:List (List Ins)} {s:Sq} (h:SqOk p s) (hpr:∀ r∈p,r.length≤7):∀ x∈sqB s,0≤x∧x≤255:=by
 have h1:∀ k,0≤s.pc.getD k 0∧s.pc.getD k 0≤255:=fun k=>by
  rw [List.getD_eq_getElem?_getD]
  cases hk:s.pc[k]? with
  | none=>simp
  | some c =>
   obtain ⟨r,hr⟩:=get_of_lt (xs:=p) (k:=k) (by rw [← h.lp];exact (List.getElem?_eq_some_iff.1 hk).1)
   have h2:=h.pc k c r hk hr
   have h3:=hpr r (List.mem_of_getElem? hr)
   simp only [Option.getD_some]
   omega
 have h2:∀ k,0≤s.rg.getD k 0∧s.rg.getD k 0≤255:=fun k=>by have:=getD_range h.rg k;omega
 have h3:∀ k,0≤s.mm.getD k 0∧s.mm.getD k 0≤255:=fun k=>by have:=getD_range h.mm k;omega
 intro x hx
 simp only [sqB,List.cons_append,List.nil_append,List.mem_cons,List.not_mem_nil,or_false] at hx
 rcases hx with rfl | rfl | rfl | rfl | rfl | rfl | rfl | rfl | rfl | rfl | rfl | rfl | rfl | rfl | rfl
 all_goals first | exact h1 _ | exact h2 _ | exact h3 _
theorem strNums_inj {l l':List Int} (h:∀ x∈l,0≤x∧x≤255) (h':∀ x∈l',0≤x∧x≤255) (e:strOfNums l=strOfNums l'):l=l':=by
 have e1:(l.map fun x=>UInt8.ofNat x.toNat)=l'.map fun x=>UInt8.ofNat x.toNat:=by
  have:=congrArg (fun b:ByteArray=>b.data.toList) e
  simpa [strOfNums] using this
 clear e
 induction l generalizing l' with
 | nil=>cases l' with
  | nil=>rfl
  | cons y l'=>simp at e1
 | cons x l ih =>
  cases l' with
  | nil=>simp at e1
  | cons y l' =>
   simp only [List.map_cons,List.cons.injEq] at e1
   have h1:=h x (by simp)
   have h2:=h' y (by simp)
   have e2:=congrArg UInt8.toNat e1.1
   simp only [UInt8.toNat_ofNat'] at e2
   rw [Nat.mod_eq_of_lt (by omega),Nat.mod_eq_of_lt (by omega)] at e2
   rw [ih (fun z hz=>h z (by simp [hz])) (fun z hz=>h' z (by simp [hz])) e1.2,show x=y by omega]
theorem sq_done_pc {p:List (List Ins)} {a b:Sq} (ha:SqOk p a) (hb:SqOk p b) (da:sqDone p a=true) (db:sqDone p b=true) (e:sqOut a=sqOut b):a=b:=by
 have h1:a.rg=b.rg∧a.mm=b.mm:=List.append_inj e (by rw [ha.lr,hb.lr])
 have h2:a.pc=b.pc:=by
  apply List.ext_getElem (by rw [ha.lp,hb.lp])
  intro i h1 h2
  have hp:i < p.length:=by rw [← ha.lp];exact h1
  unfold sqDone at da db
  rw [List.all_eq_true] at da db
  have k1:=da i (List.mem_range.2 hp)
  have k2:=db i (List.mem_range.2 hp)
  have g1:=ha.pc i a.pc[i] p[i] (List.getElem?_eq_getElem h1) (List.getElem?_eq_getElem hp)
  have g2:=hb.pc i b.pc[i] p[i] (List.getElem?_eq_getElem h2) (List.getElem?_eq_getElem hp)
  simp [List.getD_eq_getElem?_getD,h1,h2,hp] at k1 k2
  omega
 cases a;cases b;simp only [Sq.mk.injEq];exact ⟨h2,h1.1,h1.2⟩
theorem seqReach_any (vp:Value) (p:List (List Ins)) (hv:progValid p=true) (b0 B:Nat) (w:World) (hB:B≤w.heap.size) (hraw:seqRaw vp p B w b0 (sqStart p)) (hsort : @SortsTo (p.length * 3+3) 16777216) :
 Calls Tryz.prog 61 #[mcV 134 b0] w (ReachPost (p.length * 3+3) (sqStart p) (sqMv p) (seqAf p) (sqDone p) sqOut w):=by
 have hpr:=fun r hr=>((valid_le hv).2.2.1 r hr).1
 have hpl:=(valid_le hv).1
 have hok:∀ s,ReachM (sqStart p) (nxM (sqMv p) (seqAf p)) s→SqOk p s:=fun s h=>SqOk.reach (valid_ins hv) ((sq_reach hv s).1 h)
 refine reach_any (seqK vp p B hv) 3 (p.length * 3+3) 16777216 (sqLeft p) (sqStart p) b0 w hB (seqRaw.loc hraw) (fun s _ => ?_) (by decide) ?_ (fun s hs m hm => ?_) (fun a b ha hb e => ?_) (fun l hn hl => ?_) (by decide) (fun s hs => ?_) hsort
 ·show (sqMv p s).length≤3
  exact Nat.le_trans (List.length_filter_le _ _) (by simpa using hpl)
 ·have:=sqLeft_le hv (sqStart p)
  omega
 ·show sqLeft p (seqAf p s m) < sqLeft p s
  obtain ⟨s',hs'⟩:=Option.isSome_iff_exists.1 ((sqMv_next m).1 hm)
  rw [seqAf_next hs']
  exact sqLeft_next (hok s hs) hs'
 ·exact sqB_inj (hok a ha) (hok b hb) hpl (strNums_inj (sqB_bytes (hok a ha) hpr) (sqB_bytes (hok b hb) hpr) e)
 ·have h1:=done_few (out:=sqOut) (n:=p.length * 3+3) hn (fun s hs=>⟨sqOut_length (hok s (hl s hs).1),fun x hx => ?_⟩) fun a ha b hb e=>sq_done_pc (hok a (hl a ha).1) (hok b (hl b hb).1) (hl a ha).2 (hl b hb).2 e
  ·refine Nat.le_trans h1 ?_
   have:4 ^ (p.length * 3+3)≤4 ^ 12:=Nat.pow_le_pow_right (by decide) (by omega)
   exact Nat.le_trans this (by decide)
  ·have k:=hok s (hl s hs).1
   rcases List.mem_append.1 hx with h | h
   ·exact k.rg x h
   ·exact k.mm x h
 ·exact sqOut_length (hok s hs)
theorem RunSeq_any (vp:Value) (p:List (List Ins)) (w:World) (hp:RepP w vp p) (hl:p.flatten.length≤1048576) (hsort : @SortsTo (p.length * 3+3) 16777216) :
 Calls Tryz.prog 17 #[vp] w (OutsPost (p.length * 3+3) (seqO p) w):=by
 obtain ⟨va,vc,rfl,hc1,hc2,hc3,hp⟩:=hp.open
 have HP:=hide hp
 have HV:=hide (fun w' h=>ProgramValid_any (.slice va p.length vc) p w' h hl)
 have HS:=hide hsort
 clear hp hsort
 cases hv:progValid p
 ·have B:=hide hv
  have F:Hid (∀ w1,Below w.heap.size w w1→OutsPost (p.length * 3+3) (seqO p) w (.returned (.slice none 0 0)) w1):=hide fun w1 hb=>⟨_,[],rfl, .nil _ _,⟨fun o h=>by simp at h, .nil⟩,fun o=>by simp [seqO,B.out],hb⟩
  clear hv
  generalize p.length=n at *
  go_enter Tryz.func17,Tryz.ntmps17
  go_wp2_with (go_at_call 35;(with_reducible refine (HV.out _ HP.out).mono ?_);rintro e w1 ⟨rfl,hb1⟩;have B1:=hide hb1;rw [B.out];clear hb1)
  go_ret
  exact F.out _ B1.out
 ·have B:=hide hv
  have HR:=hide (fun b0 B0 W hB0 hr=>seqReach_any (.slice va p.length vc) p B.out b0 B0 W hB0 hr HS.out)
  have HRE:=hide (fun s=>sq_reach B.out s)
  have HRW:Hid (∀ b0 W,SeqB W b0 (.slice va p.length vc) (sqStart p)→Below w.heap.size w W→seqRaw (.slice va p.length vc) p w.heap.size W b0 (sqStart p)):=hide fun b0 W h hb=>⟨h,fun W' hW=>HP.out.below (hb.trans hW),hb.size,SqOk.start p⟩
  clear hv
  generalize hn:p.length=n at *
  have HN:=hide hn
  clear hn
  go_enter Tryz.func17,Tryz.ntmps17
  go_wp2_with (first
   | (go_at_call 35;(with_reducible refine (HV.out _ HP.out).mono ?_);rintro e w1 ⟨rfl,hb1⟩;have B1:=hide hb1;rw [B.out];clear hb1)
   | (go_at_call 62;(with_reducible refine (newSeq_any va n vc p w1).mono ?_);rintro e w2 ⟨b0,rfl,hx2,hb2⟩;have X2:=hide hx2;have B2:=hide (B1.out.trans (hb2.mono B1.out.size));clear hx2 hb2)
   | (go_at_call 61;(with_reducible refine (HR.out b0 w.heap.size w2 B2.out.size (HRW.out b0 w2 X2.out B2.out)).mono ?_);rintro e w3 ⟨cn,v,l,rfl,ho,hk,hm,hb3⟩;have F:Hid (OutsPost (n * 3+3) (seqO p) w (.returned v) w3):=hide ⟨v,l,rfl,ho.mono B2.out.size,hk,fun o=>(hm o).trans ⟨fun ⟨s,h1,h2,h3⟩=>⟨B.out,s,(HRE.out s).1 h1,h2,h3⟩,fun ⟨_,s,h1,h2,h3⟩=>⟨s,(HRE.out s).2 h1,h2,h3⟩⟩,B2.out.trans (hb3.mono B2.out.size)⟩;clear ho hk hm hb3))
  go_ret
  exact F.out
end Go.Proofs.YtlddmagfbcomgaaGreat
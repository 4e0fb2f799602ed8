/-
  Bytes made out of a text, which grow: the row's end is marked, none of its cells is. No condition but bounds.
-/
import Derived.Test.YtlddmagfbcomgaaZr08
import Derived.Test.YtlddmagfbcomgaaZr00
import Derived.Laws.BytesArg
import Derived.Test.YtlddmagfbcomgaaZr03
import Derived.Lib.ConvBytes
import Derived.Lib.FrozenHead
set_option maxHeartbeats 6400000
set_option maxRecDepth 100000
namespace Go.Proofs.Ytlddmagfbcomgaa
open Go.RowKit
abbrev sqB (s:Sq):List Int:=[s.pc.getD 0 0,s.pc.getD 1 0,s.pc.getD 2 0]++[s.rg.getD 0 0,s.rg.getD 1 0,s.rg.getD 2 0]++[s.rg.getD 3 0,s.rg.getD 4 0,s.rg.getD 5 0]++[s.rg.getD 6 0,s.rg.getD 7 0,s.rg.getD 8 0]++[s.mm.getD 0 0,s.mm.getD 1 0,s.mm.getD 2 0]
theorem ext_getD {l l':List Int} {n:Nat} (h:l.length=l'.length) (hn:l.length≤n) (e:∀ i < n,l.getD i 0=l'.getD i 0):l=l':=by
 apply List.ext_getElem h
 intro i h1 h2
 have:=e i (by omega)
 simpa [List.getD_eq_getElem?_getD,h1,h2] using this
theorem sqB_inj {p:List (List Ins)} {s s':Sq} (h:SqOk p s) (h':SqOk p s') (hp:p.length≤3) (e:sqB s=sqB s'):s=s':=by
 simp only [sqB,List.cons_append,List.nil_append,List.cons.injEq] at e
 obtain ⟨p0,p1,p2,r0,r1,r2,r3,r4,r5,r6,r7,r8,m0,m1,m2, -⟩:=e
 have e1:s.pc=s'.pc:=ext_getD (n:=3) (by rw [h.lp,h'.lp]) (by rw [h.lp];exact hp) fun i hi=>by
  have:i=0∨i=1∨i=2:=by omega
  rcases this with rfl | rfl | rfl <;> assumption
 have e2:s.rg=s'.rg:=ext_getD (n:=9) (by rw [h.lr,h'.lr]) (by rw [h.lr];omega) fun i hi=>by
  have:i=0∨i=1∨i=2∨i=3∨i=4∨i=5∨i=6∨i=7∨i=8:=by omega
  rcases this with rfl | rfl | rfl | rfl | rfl | rfl | rfl | rfl | rfl <;> assumption
 have e3:s.mm=s'.mm:=ext_getD (n:=3) (by rw [h.lm,h'.lm]) (by rw [h.lm];exact Nat.le_refl _) fun i hi=>by
  have:i=0∨i=1∨i=2:=by omega
  rcases this with rfl | rfl | rfl <;> assumption
 cases s;cases s';simp only [Sq.mk.injEq];exact ⟨e1,e2,e3⟩
theorem rep3 {w:World} {b o:Nat} {x y z:Int} (h0:w.cell? ⟨b,o,none⟩=some (u8V x)) (h1:w.cell? ⟨b,o+1,none⟩=some (u8V y)) (h2:w.cell? ⟨b,o+2,none⟩=some (u8V z)):Rep ByteE w (.slice (some ⟨b,o,none⟩) 3 3) [x,y,z]:=by
 refine ⟨some ⟨b,o,none⟩,3,rfl,by simp,by unfold maxLen;omega,fun i v hv=>⟨b,o,rfl,fun j u hu => ?_⟩⟩
 have hj:j=0:=by
  have:=(List.getElem?_eq_some_iff.1 hu).1
  simp [ByteE] at this;exact this
 subst hj
 simp [ByteE] at hu
 subst hu
 match i,hv with
 | 0,hv=>simp at hv;subst hv;simpa [ByteE] using h0
 | 1,hv=>simp at hv;subst hv;simpa [ByteE] using h1
 | 2,hv=>simp at hv;subst hv;simpa [ByteE] using h2
theorem Try.infoU8I:(Try.prog.info? 5).map (fun i=>(i.zero,i.size,i.bytes))=some (some (.int .u8 0),1,1):=by kernel_rfl
theorem own_some {α:Type} {E:El α} {T:TypeId} {w:World} {base:Nat} {v:Value} {xs:List α} (h:Own E T w base v xs) (hx:xs≠[]):∃ g cap,v = .slice (some ⟨g,0,none⟩) xs.length cap:=by
 rcases h.shape with ⟨-,e⟩ | ⟨g,cap,rfl, -⟩
 ·exact absurd e hx
 ·exact ⟨g,cap,rfl⟩
theorem conv_own {w:World} {base g cap:Nat} {xs:List Int} (h:Own ByteE 5 w base (.slice (some ⟨g,0,none⟩) xs.length cap) xs):(convert 22 9 (.slice (some ⟨g,0,none⟩) xs.length cap)).run Try.prog w = .ok (.string (strOfNums xs)) w:=
 run_convert_bytes_arg (P:=Try.prog) w 22 5 Try.underlying22 Try.underlying5 g 0 xs.length cap xs rfl (fun i hi=>by
  obtain ⟨y,hy⟩:=get_of_lt (xs:=xs) (k:=i) hi
  have h:=h.cell hy (j:=0) rfl
  simp only [ByteE,Nat.mul_one,Nat.add_zero] at h
  rw [Nat.zero_add,h,List.getD_eq_getElem?_getD,hy];rfl) 9 Try.underlying9
structure Regs (w:World) (b:Nat) (s:Sq):Prop where
 d1:w.cell? ⟨b,1,none⟩=some (u8V (s.pc.getD 0 0))
 d2:w.cell? ⟨b,2,none⟩=some (u8V (s.pc.getD 1 0))
 d3:w.cell? ⟨b,3,none⟩=some (u8V (s.pc.getD 2 0))
 d4:w.cell? ⟨b,4,none⟩=some (u8V (s.rg.getD 0 0))
 d5:w.cell? ⟨b,5,none⟩=some (u8V (s.rg.getD 1 0))
 d6:w.cell? ⟨b,6,none⟩=some (u8V (s.rg.getD 2 0))
 d7:w.cell? ⟨b,7,none⟩=some (u8V (s.rg.getD 3 0))
 d8:w.cell? ⟨b,8,none⟩=some (u8V (s.rg.getD 4 0))
 d9:w.cell? ⟨b,9,none⟩=some (u8V (s.rg.getD 5 0))
 d10:w.cell? ⟨b,10,none⟩=some (u8V (s.rg.getD 6 0))
 d11:w.cell? ⟨b,11,none⟩=some (u8V (s.rg.getD 7 0))
 d12:w.cell? ⟨b,12,none⟩=some (u8V (s.rg.getD 8 0))
 d13:w.cell? ⟨b,13,none⟩=some (u8V (s.mm.getD 0 0))
 d14:w.cell? ⟨b,14,none⟩=some (u8V (s.mm.getD 1 0))
 d15:w.cell? ⟨b,15,none⟩=some (u8V (s.mm.getD 2 0))
theorem ValAt.regs {w:World} {b:Nat} {pv:Value} {s:Sq} (h:ValAt w b pv s):Regs w b s:=
 ⟨h.c1 0 (by omega),h.c1 1 (by omega),h.c1 2 (by omega),h.c2 0 (by omega) 0 (by omega),h.c2 0 (by omega) 1 (by omega),h.c2 0 (by omega) 2 (by omega),h.c2 1 (by omega) 0 (by omega),h.c2 1 (by omega) 1 (by omega),h.c2 1 (by omega) 2 (by omega),h.c2 2 (by omega) 0 (by omega),h.c2 2 (by omega) 1 (by omega),h.c2 2 (by omega) 2 (by omega),h.c3 0 (by omega),h.c3 1 (by omega),h.c3 2 (by omega)⟩
theorem text_raw (b:Nat) (x1 x2 x3 x4 x5 x6 x7 x8 x9 x10 x11 x12 x13 x14 x15:Int) (w:World) (bl:b < w.heap.size) (d1:w.cell? ⟨b,1,none⟩=some (u8V x1)) (d2:w.cell? ⟨b,2,none⟩=some (u8V x2)) (d3:w.cell? ⟨b,3,none⟩=some (u8V x3)) (d4:w.cell? ⟨b,4,none⟩=some (u8V x4)) (d5:w.cell? ⟨b,5,none⟩=some (u8V x5)) (d6:w.cell? ⟨b,6,none⟩=some (u8V x6)) (d7:w.cell? ⟨b,7,none⟩=some (u8V x7)) (d8:w.cell? ⟨b,8,none⟩=some (u8V x8)) (d9:w.cell? ⟨b,9,none⟩=some (u8V x9)) (d10:w.cell? ⟨b,10,none⟩=some (u8V x10)) (d11:w.cell? ⟨b,11,none⟩=some (u8V x11)) (d12:w.cell? ⟨b,12,none⟩=some (u8V x12)) (d13:w.cell? ⟨b,13,none⟩=some (u8V x13)) (d14:w.cell? ⟨b,14,none⟩=some (u8V x14)) (d15:w.cell? ⟨b,15,none⟩=some (u8V x15)) :
 Calls Try.prog 113 #[.pointer (some ⟨b,0,none⟩)] w fun e w'=>e = .returned (.string (strOfNums ([x1,x2,x3]++[x4,x5,x6]++[x7,x8,x9]++[x10,x11,x12]++[x13,x14,x15])))∧Below w.heap.size w w':=by
 have hsa:=@setCell_alloc
 have D1:=hide d1;have D2:=hide d2;have D3:=hide d3;have D4:=hide d4;have D5:=hide d5;have D6:=hide d6;have D7:=hide d7;have D8:=hide d8;have D9:=hide d9;have D10:=hide d10;have D11:=hide d11;have D12:=hide d12;have D13:=hide d13;have D14:=hide d14;have D15:=hide d15
 have R0:=hide (rep3 d1 d2 d3)
 have HE:=hide (Own.empty (E:=ByteE) 5 w (Nat.le_refl _))
 have HBE:=hide ((Below.refl w.heap.size w).alloc (Nat.le_refl _) (.cells #[] 5))
 go_enter Try.func113,Try.ntmps113
 go_wp2_with (at_builtin;refine wpList_appS ByteE 5 Try.infoU8I rfl Try.underlying22 w.heap.size _ [] [x1,x2,x3] _ HE.out (R0.out.below HBE.out) (by decide) (by simp) (by simp) rfl _ _ rfl rfl rfl ?_;intro v1 w1 hown1 hgr1;have O1:=hide hown1;have B1:=hide (HBE.out.grown hgr1 (by simp) (fun q hq=>by simp [Value.ownBlock] at hq;omega));have e1:=(B1.out.cell (p:=⟨b,1,none⟩) bl).trans D1.out;have e2:=(B1.out.cell (p:=⟨b,2,none⟩) bl).trans D2.out;have e3:=(B1.out.cell (p:=⟨b,3,none⟩) bl).trans D3.out;have e4:=(B1.out.cell (p:=⟨b,4,none⟩) bl).trans D4.out;have e5:=(B1.out.cell (p:=⟨b,5,none⟩) bl).trans D5.out;have e6:=(B1.out.cell (p:=⟨b,6,none⟩) bl).trans D6.out;have e7:=(B1.out.cell (p:=⟨b,7,none⟩) bl).trans D7.out;have e8:=(B1.out.cell (p:=⟨b,8,none⟩) bl).trans D8.out;have e9:=(B1.out.cell (p:=⟨b,9,none⟩) bl).trans D9.out;have e10:=(B1.out.cell (p:=⟨b,10,none⟩) bl).trans D10.out;have e11:=(B1.out.cell (p:=⟨b,11,none⟩) bl).trans D11.out;have e12:=(B1.out.cell (p:=⟨b,12,none⟩) bl).trans D12.out;have e13:=(B1.out.cell (p:=⟨b,13,none⟩) bl).trans D13.out;have e14:=(B1.out.cell (p:=⟨b,14,none⟩) bl).trans D14.out;have e15:=(B1.out.cell (p:=⟨b,15,none⟩) bl).trans D15.out;have el:=Nat.lt_of_lt_of_le bl B1.out.size;clear hown1 hgr1)
 have O2:Hid (Own ByteE 5 w1 w.heap.size v1 ([x1,x2,x3])):=hide (by simpa using O1.out)
 clear d1 d2 d3 d4 d5 d6 d7 d8 d9 d10 d11 d12 d13 d14 d15 R0 HE HBE O1 e1 e2 e3 e4 e5 e6 e7 e8 e9 e10 e11 e12 e13 e14 e15 el
 go_loopw [3,16] (fun v i wr=>((i = .int .i64 0∧Own ByteE 5 wr w.heap.size v ([x1,x2,x3]))∨(i = .int .i64 1∧Own ByteE 5 wr w.heap.size v ([x1,x2,x3]++[x4,x5,x6]))∨(i = .int .i64 2∧Own ByteE 5 wr w.heap.size v ([x1,x2,x3]++[x4,x5,x6]++[x7,x8,x9]))∨(i = .int .i64 3∧Own ByteE 5 wr w.heap.size v ([x1,x2,x3]++[x4,x5,x6]++[x7,x8,x9]++[x10,x11,x12])))∧Below w.heap.size w wr) (fun _ i _=>3 - (intOf i).toNat)
 case atStart=>exact ⟨.inl ⟨rfl,O2.out⟩,B1.out⟩
 case round =>
  obtain ⟨hc,hb⟩:=hrel
  have HB:=hide hb
  have hbs:=hb.size
  clear hb
  rcases hc with ⟨rfl,ho⟩ | ⟨rfl,ho⟩ | ⟨rfl,ho⟩ | ⟨rfl,ho⟩
  ·have HO:=hide ho
   have hix:∀ w',(Instr.index 78 (.agg #[u8V x4,u8V x5,u8V x6,u8V x7,u8V x8,u8V x9,u8V x10,u8V x11,u8V x12]) (.int .i64 0)).run Try.prog w' = .ok (.agg #[u8V x4,u8V x5,u8V x6]) w':=fun _=>by kernel_rfl
   have R4:=hide (rep3 (w:=wr.alloc (.cells #[u8V x4,u8V x5,u8V x6] 77)) (b:=wr.heap.size) (o:=0) (x:=x4) (y:=x5) (z:=x6) (cellH (heap_alloc_new wr _) (k:=0) rfl) (cellH (heap_alloc_new wr _) (k:=1) rfl) (cellH (heap_alloc_new wr _) (k:=2) rfl))
   clear ho
   go_wp2_with (at_builtin;refine wpList_appS ByteE 5 Try.infoU8I rfl Try.underlying22 w.heap.size _ ([x1,x2,x3]) [x4,x5,x6] _ (HO.out.alloc _) R4.out (by decide) (by simp) (by simp;omega) rfl _ _ rfl rfl rfl ?_;intro v5 w5 hown5 hgr5)
   have HF:=hide hown5
   have HW5:=hide ((HB.out.alloc HB.out.size _).grown hgr5 (by simp;omega) (fun q hq=>(World.ownsRow.lt HO.out q hq).1))
   clear hown5 hgr5 R4
   go_wp2_with fail
   go_roundw
   case rel=>exact ⟨.inr (.inl ⟨by go_num,HF.out⟩),HW5.out⟩
   case measure=>simp [intOf]
  ·have HO:=hide ho
   have hix:∀ w',(Instr.index 78 (.agg #[u8V x4,u8V x5,u8V x6,u8V x7,u8V x8,u8V x9,u8V x10,u8V x11,u8V x12]) (.int .i64 1)).run Try.prog w' = .ok (.agg #[u8V x7,u8V x8,u8V x9]) w':=fun _=>by kernel_rfl
   have R4:=hide (rep3 (w:=wr.alloc (.cells #[u8V x7,u8V x8,u8V x9] 77)) (b:=wr.heap.size) (o:=0) (x:=x7) (y:=x8) (z:=x9) (cellH (heap_alloc_new wr _) (k:=0) rfl) (cellH (heap_alloc_new wr _) (k:=1) rfl) (cellH (heap_alloc_new wr _) (k:=2) rfl))
   clear ho
   go_wp2_with (at_builtin;refine wpList_appS ByteE 5 Try.infoU8I rfl Try.underlying22 w.heap.size _ ([x1,x2,x3]++[x4,x5,x6]) [x7,x8,x9] _ (HO.out.alloc _) R4.out (by decide) (by simp) (by simp;omega) rfl _ _ rfl rfl rfl ?_;intro v5 w5 hown5 hgr5)
   have HF:=hide hown5
   have HW5:=hide ((HB.out.alloc HB.out.size _).grown hgr5 (by simp;omega) (fun q hq=>(World.ownsRow.lt HO.out q hq).1))
   clear hown5 hgr5 R4
   go_wp2_with fail
   go_roundw
   case rel=>exact ⟨.inr (.inr (.inl ⟨by go_num,HF.out⟩)),HW5.out⟩
   case measure=>simp [intOf]
  ·have HO:=hide ho
   have hix:∀ w',(Instr.index 78 (.agg #[u8V x4,u8V x5,u8V x6,u8V x7,u8V x8,u8V x9,u8V x10,u8V x11,u8V x12]) (.int .i64 2)).run Try.prog w' = .ok (.agg #[u8V x10,u8V x11,u8V x12]) w':=fun _=>by kernel_rfl
   have R4:=hide (rep3 (w:=wr.alloc (.cells #[u8V x10,u8V x11,u8V x12] 77)) (b:=wr.heap.size) (o:=0) (x:=x10) (y:=x11) (z:=x12) (cellH (heap_alloc_new wr _) (k:=0) rfl) (cellH (heap_alloc_new wr _) (k:=1) rfl) (cellH (heap_alloc_new wr _) (k:=2) rfl))
   clear ho
   go_wp2_with (at_builtin;refine wpList_appS ByteE 5 Try.infoU8I rfl Try.underlying22 w.heap.size _ ([x1,x2,x3]++[x4,x5,x6]++[x7,x8,x9]) [x10,x11,x12] _ (HO.out.alloc _) R4.out (by decide) (by simp) (by simp;omega) rfl _ _ rfl rfl rfl ?_;intro v5 w5 hown5 hgr5)
   have HF:=hide hown5
   have HW5:=hide ((HB.out.alloc HB.out.size _).grown hgr5 (by simp;omega) (fun q hq=>(World.ownsRow.lt HO.out q hq).1))
   clear hown5 hgr5 R4
   go_wp2_with fail
   go_roundw
   case rel=>exact ⟨.inr (.inr (.inr ⟨by go_num,HF.out⟩)),HW5.out⟩
   case measure=>simp [intOf]
  ·have HO:=hide ho
   have f1:=(HB.out.cell (p:=⟨b,1,none⟩) bl).trans D1.out;have f2:=(HB.out.cell (p:=⟨b,2,none⟩) bl).trans D2.out;have f3:=(HB.out.cell (p:=⟨b,3,none⟩) bl).trans D3.out;have f4:=(HB.out.cell (p:=⟨b,4,none⟩) bl).trans D4.out;have f5:=(HB.out.cell (p:=⟨b,5,none⟩) bl).trans D5.out;have f6:=(HB.out.cell (p:=⟨b,6,none⟩) bl).trans D6.out;have f7:=(HB.out.cell (p:=⟨b,7,none⟩) bl).trans D7.out;have f8:=(HB.out.cell (p:=⟨b,8,none⟩) bl).trans D8.out;have f9:=(HB.out.cell (p:=⟨b,9,none⟩) bl).trans D9.out;have f10:=(HB.out.cell (p:=⟨b,10,none⟩) bl).trans D10.out;have f11:=(HB.out.cell (p:=⟨b,11,none⟩) bl).trans D11.out;have f12:=(HB.out.cell (p:=⟨b,12,none⟩) bl).trans D12.out;have f13:=(HB.out.cell (p:=⟨b,13,none⟩) bl).trans D13.out;have f14:=(HB.out.cell (p:=⟨b,14,none⟩) bl).trans D14.out;have f15:=(HB.out.cell (p:=⟨b,15,none⟩) bl).trans D15.out
   have fl:=Nat.lt_of_lt_of_le bl hbs
   have R5:=hide (rep3 f13 f14 f15)
   clear ho
   go_wp2_with (at_builtin;refine wpList_appS ByteE 5 Try.infoU8I rfl Try.underlying22 w.heap.size _ ([x1,x2,x3]++[x4,x5,x6]++[x7,x8,x9]++[x10,x11,x12]) [x13,x14,x15] _ HO.out R5.out (by decide) (by simp) hbs rfl _ _ rfl rfl rfl ?_;intro v5 w5 hown5 hgr5;obtain ⟨g,cap,rfl⟩:=own_some hown5 (by simp);have HW5:=hide (HB.out.grown hgr5 hbs (fun q hq=>(World.ownsRow.lt HO.out q hq).1));have kc:=conv_own hown5;clear hgr5 hown5;generalize ([x1,x2,x3]++[x4,x5,x6]++[x7,x8,x9]++[x10,x11,x12]++[x13,x14,x15]).length=n at *)
   go_ret
   exact ⟨rfl,HW5.out⟩
theorem text_any (b:Nat) (pv:Value) (s:Sq) (w:World) (hx:ValAt w b pv s) :
 Calls Try.prog 113 #[.pointer (some ⟨b,0,none⟩)] w fun e w'=>e = .returned (.string (strOfNums (sqB s)))∧Below w.heap.size w w':=by
 obtain ⟨d1,d2,d3,d4,d5,d6,d7,d8,d9,d10,d11,d12,d13,d14,d15⟩:=hx.regs
 exact text_raw b _ _ _ _ _ _ _ _ _ _ _ _ _ _ _ w hx.lt d1 d2 d3 d4 d5 d6 d7 d8 d9 d10 d11 d12 d13 d14 d15
end Go.Proofs.Ytlddmagfbcomgaa
namespace Go.Proofs.Ytlddmagfbcomgaa
open Go.RowKit
theorem take_three {l:List Int} {k:Nat} (h:k * 3+2 < l.length):l.take ((k+1) * 3)=l.take (k * 3)++[l.getD (k * 3) 0]++[l.getD (k * 3+1) 0]++[l.getD (k * 3+2) 0]:=by
 rw [Nat.add_mul,Nat.one_mul,show k * 3+3=k * 3+1+1+1 by omega,List.take_add_one,List.take_add_one,List.take_add_one]
 rw [List.getD_eq_getElem?_getD,List.getD_eq_getElem?_getD,List.getD_eq_getElem?_getD]
 have h0:k * 3 < l.length:=by omega
 have h1:k * 3+1 < l.length:=by omega
 simp [h0,h1,h]
theorem list_three {l:List Int} (h:l.length=3):l=[l.getD 0 0,l.getD 1 0,l.getD 2 0]:=by
 match l,h with
 | [a,b,c],_=>rfl
theorem outcome_any (b:Nat) (vp:Value) (p:List (List Ins)) (s:Sq) (w:World) (hp:RepP w vp p) (hx:ValAt w b vp s) (hok:SqOk p s) (hpl:p.length≤3) :
 Calls Try.prog 104 #[.pointer (some ⟨b,0,none⟩)] w (RetOwn IntE 3 w (sqOut s)):=by
 obtain ⟨va,vc,rfl,hc1,hc2,hc3,hp⟩:=hp.open
 have HX:=hide hx;have HOK:=hide hok
 have hsa:=@setCell_alloc
 have bl:=hx.lt
 have c0:=hx.c0
 have HRG:=hide (fun k=>getD_range hok.rg k)
 have HMM:=hide (fun k=>getD_range hok.mm k)
 have HL3:=hide (list_three hok.lm)
 have HLR:=hide hok.lr
 clear hp hx hok
 generalize hn:p.length=n at *
 have HN:=hide hn
 clear hn
 go_enter Try.func104,Try.ntmps104
 go_wp2_with fail
 go_loopw [3,14] (fun v i wr => ∃ k:Nat,k≤n∧i = .int .i64 k∧Own IntE 3 wr w.heap.size v (s.rg.take (k * 3))∧Below w.heap.size w wr) (fun _ i _=>n - (intOf i).toNat)
 case atStart=>exact ⟨0,Nat.zero_le _,rfl,by rw [Nat.zero_mul,List.take_zero];exact Own.nil _ _ _,Below.refl _ _⟩
 case round =>
  obtain ⟨k,hk,rfl,ho,hb⟩:=hrel
  have HB:=hide hb
  by_cases hlt:k < n
  ·have hlt':=nat_of_lt hlt
   have hk3:(k:Int) < 3:=by omega
   have x0:=(HX.out.below hb).c2 k (by omega) 0 (by omega)
   have x1:=(HX.out.below hb).c2 k (by omega) 1 (by omega)
   have x2:=(HX.out.below hb).c2 k (by omega) 2 (by omega)
   have xl:=(HX.out.below hb).lt
   have TK:=hide (take_three (l:=s.rg) (k:=k) (by rw [HLR.out];omega))
   have hlp:(s.rg.take (k * 3)).length≤1000:=by rw [List.length_take];omega
   have w0:IntKind.i64.wrap (s.rg.getD (k * 3) 0)=s.rg.getD (k * 3) 0:=by have:=HRG.out (k * 3);exact wrapM (by omega) (by omega)
   have w1:IntKind.i64.wrap (s.rg.getD (k * 3+1) 0)=s.rg.getD (k * 3+1) 0:=by have:=HRG.out (k * 3+1);exact wrapM (by omega) (by omega)
   have w2:IntKind.i64.wrap (s.rg.getD (k * 3+2) 0)=s.rg.getD (k * 3+2) 0:=by have:=HRG.out (k * 3+2);exact wrapM (by omega) (by omega)
   rw [Nat.add_zero] at x0
   rw [Nat.add_zero] at x0
   clear hb
   generalize s.rg.getD (k * 3) 0=y0 at *
   generalize s.rg.getD (k * 3+1) 0=y1 at *
   generalize s.rg.getD (k * 3+2) 0=y2 at *
   generalize s.rg.take (k * 3)=PP at *
   have HO:=hide ho
   clear ho
   go_wp2_with fail
   go_loopw [3,23] (fun v i wr=>((i = .int .i64 0∧Own IntE 3 wr w.heap.size v (PP))∨(i = .int .i64 1∧Own IntE 3 wr w.heap.size v (PP++[y0]))∨(i = .int .i64 2∧Own IntE 3 wr w.heap.size v (PP++[y0]++[y1]))∨(i = .int .i64 3∧Own IntE 3 wr w.heap.size v (PP++[y0]++[y1]++[y2])))∧Below w.heap.size w wr) (fun _ i _=>3 - (intOf i).toNat)
   case atStart=>exact ⟨.inl ⟨rfl,HO.out⟩,HB.out⟩
   case round =>
    obtain ⟨hc,hb⟩:=hrel
    have HB2:=hide hb;have hbs:=hb.size
    clear hb x0 x1 x2 xl
    rcases hc with ⟨rfl,ho⟩ | ⟨rfl,ho⟩ | ⟨rfl,ho⟩ | ⟨rfl,ho⟩
    ·have HO2:=hide ho
     have hix:∀ w',(Instr.index 77 (.agg #[u8V y0,u8V y1,u8V y2]) (.int .i64 0)).run Try.prog w' = .ok (u8V y0) w':=fun _=>by kernel_rfl
     clear ho
     go_wp2_with (at_builtin;refine wpList_appAt IntE 3 Try.infoInt rfl Try.underlying43 w.heap.size _ (PP) y0 (HO2.out.alloc _) (by decide) (by (try simp only [List.length_append,List.length_singleton]);omega) (by simp;omega) rfl _ _ rfl rfl _ 0 1 rfl news_alloc ?_;intro v5 w5 hown5 hgr5 hat5)
     have HF:=hide hown5
     have HW5:=hide ((HB2.out.alloc HB2.out.size _).grown hgr5 (by simp;omega) (fun q hq=>(World.ownsRow.lt HO2.out q hq).1))
     clear hown5 hgr5 hat5
     go_wp2_with fail
     go_roundw
     case rel=>exact ⟨.inr (.inl ⟨by go_num,HF.out⟩),HW5.out⟩
     case measure=>simp [intOf]
    ·have HO2:=hide ho
     have hix:∀ w',(Instr.index 77 (.agg #[u8V y0,u8V y1,u8V y2]) (.int .i64 1)).run Try.prog w' = .ok (u8V y1) w':=fun _=>by kernel_rfl
     clear ho
     go_wp2_with (at_builtin;refine wpList_appAt IntE 3 Try.infoInt rfl Try.underlying43 w.heap.size _ (PP++[y0]) y1 (HO2.out.alloc _) (by decide) (by (try simp only [List.length_append,List.length_singleton]);omega) (by simp;omega) rfl _ _ rfl rfl _ 0 1 rfl news_alloc ?_;intro v5 w5 hown5 hgr5 hat5)
     have HF:=hide hown5
     have HW5:=hide ((HB2.out.alloc HB2.out.size _).grown hgr5 (by simp;omega) (fun q hq=>(World.ownsRow.lt HO2.out q hq).1))
     clear hown5 hgr5 hat5
     go_wp2_with fail
     go_roundw
     case rel=>exact ⟨.inr (.inr (.inl ⟨by go_num,HF.out⟩)),HW5.out⟩
     case measure=>simp [intOf]
    ·have HO2:=hide ho
     have hix:∀ w',(Instr.index 77 (.agg #[u8V y0,u8V y1,u8V y2]) (.int .i64 2)).run Try.prog w' = .ok (u8V y2) w':=fun _=>by kernel_rfl
     clear ho
     go_wp2_with (at_builtin;refine wpList_appAt IntE 3 Try.infoInt rfl Try.underlying43 w.heap.size _ (PP++[y0]++[y1]) y2 (HO2.out.alloc _) (by decide) (by (try simp only [List.length_append,List.length_singleton]);omega) (by simp;omega) rfl _ _ rfl rfl _ 0 1 rfl news_alloc ?_;intro v5 w5 hown5 hgr5 hat5)
     have HF:=hide hown5
     have HW5:=hide ((HB2.out.alloc HB2.out.size _).grown hgr5 (by simp;omega) (fun q hq=>(World.ownsRow.lt HO2.out q hq).1))
     clear hown5 hgr5 hat5
     go_wp2_with fail
     go_roundw
     case rel=>exact ⟨.inr (.inr (.inr ⟨by go_num,HF.out⟩)),HW5.out⟩
     case measure=>simp [intOf]
    ·have HO2:=hide ho
     clear ho
     go_wp2_with fail
     go_roundw
     case rel=>exact ⟨k+1,by omega,by go_num,by rw [TK.out];exact HO2.out,HB2.out⟩
     case measure=>simp [intOf];omega
  ·obtain rfl:k=n:=by omega
   rw [List.take_of_length_le (by rw [HLR.out];exact Nat.le_refl _)] at ho
   have x0:=(HX.out.below hb).c3 0 (by omega)
   have x1:=(HX.out.below hb).c3 1 (by omega)
   have x2:=(HX.out.below hb).c3 2 (by omega)
   have xl:=(HX.out.below hb).lt
   have hlp:s.rg.length≤1000:=by rw [HLR.out];omega
   have w0:IntKind.i64.wrap (s.mm.getD 0 0)=s.mm.getD 0 0:=by have:=HMM.out 0;exact wrapM (by omega) (by omega)
   have w1:IntKind.i64.wrap (s.mm.getD 1 0)=s.mm.getD 1 0:=by have:=HMM.out 1;exact wrapM (by omega) (by omega)
   have w2:IntKind.i64.wrap (s.mm.getD 2 0)=s.mm.getD 2 0:=by have:=HMM.out 2;exact wrapM (by omega) (by omega)
   have E:Hid (sqOut s=s.rg++[s.mm.getD 0 0]++[s.mm.getD 1 0]++[s.mm.getD 2 0]):=hide (by
    show s.rg++s.mm=_
    conv=>lhs;rw [HL3.out]
    simp)
   clear hb
   generalize s.mm.getD 0 0=y0 at *
   generalize s.mm.getD 1 0=y1 at *
   generalize s.mm.getD 2 0=y2 at *
   generalize s.rg=PP at *
   have HO:=hide ho
   clear ho
   go_wp2_with fail
   go_loopw [3,37] (fun v i wr=>((i = .int .i64 0∧Own IntE 3 wr w.heap.size v (PP))∨(i = .int .i64 1∧Own IntE 3 wr w.heap.size v (PP++[y0]))∨(i = .int .i64 2∧Own IntE 3 wr w.heap.size v (PP++[y0]++[y1]))∨(i = .int .i64 3∧Own IntE 3 wr w.heap.size v (PP++[y0]++[y1]++[y2])))∧Below w.heap.size w wr) (fun _ i _=>3 - (intOf i).toNat)
   case atStart=>exact ⟨.inl ⟨rfl,HO.out⟩,HB.out⟩
   case round =>
    obtain ⟨hc,hb⟩:=hrel
    have HB2:=hide hb;have hbs:=hb.size
    clear hb x0 x1 x2 xl
    rcases hc with ⟨rfl,ho⟩ | ⟨rfl,ho⟩ | ⟨rfl,ho⟩ | ⟨rfl,ho⟩
    ·have HO2:=hide ho
     have hix:∀ w',(Instr.index 77 (.agg #[u8V y0,u8V y1,u8V y2]) (.int .i64 0)).run Try.prog w' = .ok (u8V y0) w':=fun _=>by kernel_rfl
     clear ho
     go_wp2_with (at_builtin;refine wpList_appAt IntE 3 Try.infoInt rfl Try.underlying43 w.heap.size _ (PP) y0 (HO2.out.alloc _) (by decide) (by (try simp only [List.length_append,List.length_singleton]);omega) (by simp;omega) rfl _ _ rfl rfl _ 0 1 rfl news_alloc ?_;intro v5 w5 hown5 hgr5 hat5)
     have HF:=hide hown5
     have HW5:=hide ((HB2.out.alloc HB2.out.size _).grown hgr5 (by simp;omega) (fun q hq=>(World.ownsRow.lt HO2.out q hq).1))
     clear hown5 hgr5 hat5
     go_wp2_with fail
     go_roundw
     case rel=>exact ⟨.inr (.inl ⟨by go_num,HF.out⟩),HW5.out⟩
     case measure=>simp [intOf]
    ·have HO2:=hide ho
     have hix:∀ w',(Instr.index 77 (.agg #[u8V y0,u8V y1,u8V y2]) (.int .i64 1)).run Try.prog w' = .ok (u8V y1) w':=fun _=>by kernel_rfl
     clear ho
     go_wp2_with (at_builtin;refine wpList_appAt IntE 3 Try.infoInt rfl Try.underlying43 w.heap.size _ (PP++[y0]) y1 (HO2.out.alloc _) (by decide) (by (try simp only [List.length_append,List.length_singleton]);omega) (by simp;omega) rfl _ _ rfl rfl _ 0 1 rfl news_alloc ?_;intro v5 w5 hown5 hgr5 hat5)
     have HF:=hide hown5
     have HW5:=hide ((HB2.out.alloc HB2.out.size _).grown hgr5 (by simp;omega) (fun q hq=>(World.ownsRow.lt HO2.out q hq).1))
     clear hown5 hgr5 hat5
     go_wp2_with fail
     go_roundw
     case rel=>exact ⟨.inr (.inr (.inl ⟨by go_num,HF.out⟩)),HW5.out⟩
     case measure=>simp [intOf]
    ·have HO2:=hide ho
     have hix:∀ w',(Instr.index 77 (.agg #[u8V y0,u8V y1,u8V y2]) (.int .i64 2)).run Try.prog w' = .ok (u8V y2) w':=fun _=>by kernel_rfl
     clear ho
     go_wp2_with (at_builtin;refine wpList_appAt IntE 3 Try.infoInt rfl Try.underlying43 w.heap.size _ (PP++[y0]++[y1]) y2 (HO2.out.alloc _) (by decide) (by (try simp only [List.length_append,List.length_singleton]);omega) (by simp;omega) rfl _ _ rfl rfl _ 0 1 rfl news_alloc ?_;intro v5 w5 hown5 hgr5 hat5)
     have HF:=hide hown5
     have HW5:=hide ((HB2.out.alloc HB2.out.size _).grown hgr5 (by simp;omega) (fun q hq=>(World.ownsRow.lt HO2.out q hq).1))
     clear hown5 hgr5 hat5
     go_wp2_with fail
     go_roundw
     case rel=>exact ⟨.inr (.inr (.inr ⟨by go_num,HF.out⟩)),HW5.out⟩
     case measure=>simp [intOf]
    ·have HO2:=hide ho
     clear ho
     go_wp2_with fail
     go_ret
     exact ⟨_,rfl,by rw [E.out];exact HO2.out,HB2.out⟩
end Go.Proofs.Ytlddmagfbcomgaa
namespace Go.Proofs.Ytlddmagfbcomgaa
open Go.RowKit
theorem ins_ranges {x:Ins} (h:insValid x=true):(0≤x.loc∧x.loc≤2)∧(0≤x.reg∧x.reg≤2)∧0≤x.val∧x.val≤3:=by
 unfold insValid inB at h
 repeat' split at h
 all_goals (simp at h;try omega)
end Go.Proofs.Ytlddmagfbcomgaa
namespace Go.Proofs.Ytlddmagfbcomgaa
open Go.RowKit
theorem nodup_ltI:∀ (N:Nat) (l:List Nat),l.Nodup→(∀ x∈l,x < N)→l.length≤N:=by
 intro N
 induction N with
 | zero =>
  intro l _ h
  cases l with
  | nil=>simp
  | cons x l=>exact absurd (h x (by simp)) (Nat.not_lt_zero _)
 | succ N ih =>
  intro l hn h
  by_cases hm:N∈l
  ·have h1:=ih (l.erase N) (hn.erase N) fun x hx=>by
    have h2:=(hn.mem_erase_iff).1 hx
    have:=h x h2.2
    have:=h2.1
    omega
   rw [List.length_erase_of_mem hm] at h1
   have:=List.length_pos_of_mem hm
   omega
  ·have h1:=ih l hn fun x hx=>by
    have:=h x hx
    have:x≠N:=fun e=>hm (e ▸ hx)
    omega
   omega
theorem encR_inj {a b:List Int} (hl:a.length=b.length) (ha:∀ x∈a,0≤x∧x≤3) (hb:∀ x∈b,0≤x∧x≤3) (e:encR a=encR b):a=b:=by
 rcases lexO_three a b with h | h | h
 ·have:=encR_lex hl ha hb h;omega
 ·exact (lexO_eq hl).1 h
 ·have h2:=lexO_swap a b
  have:=encR_lex hl.symm hb ha (by omega);omega
theorem done_few {S:Type} {out:S→List Int} {n:Nat} {l:List S} (hn:l.Nodup) (ho:∀ s∈l,(out s).length=n∧∀ x∈out s,0≤x∧x≤3) (hi:∀ a∈l,∀ b∈l,out a=out b→a=b):l.length≤4 ^ n:=by
 have h1:(l.map fun s=>encR (out s)).Nodup:=by
  unfold List.Nodup
  rw [List.pairwise_map]
  refine List.Pairwise.imp_of_mem ?_ hn
  intro a b ha hb hab e
  exact hab (hi a ha b hb (encR_inj ((ho a ha).1.trans (ho b hb).1.symm) (ho a ha).2 (ho b hb).2 e))
 have h2:=nodup_ltI (4 ^ n) _ h1 fun x hx=>by
  obtain ⟨s,hs,rfl⟩:=List.mem_map.1 hx
  have:=encR_lt (ho s hs).2
  rw [(ho s hs).1] at this
  exact this
 simpa using h2
section
variable (vp : Value) (p : List (List Ins)) (B : Nat)
end
end Go.Proofs.Ytlddmagfbcomgaa
namespace Go.Proofs.Ytlddmagfbcomgaa
open Go.RowKit
theorem sqStart_cells (vp:Value) {p:List (List Ins)}:valsA vp (sqStart p) = #[vp,u8V 0,u8V 0,u8V 0,u8V 0,u8V 0,u8V 0,u8V 0,u8V 0,u8V 0,u8V 0,u8V 0,u8V 0,u8V 0,u8V 0,u8V 0]:=by
 have e:∀ n k,(List.replicate n (0:Int)).getD k 0=0:=fun n k=>by
  rw [List.getD_eq_getElem?_getD,List.getElem?_replicate]
  split <;> rfl
 unfold sqStart
 simp only [valsA,e]
end Go.Proofs.Ytlddmagfbcomgaa
namespace Go.Proofs.Ytlddmagfbcomgaa
open Go.RowKit
abbrev encR2 (r:List (Int × Int)):List Int:=r.map fun e=>e.1 * 16+e.2
abbrev BufB (w:World) (b:Nat) (vp:Value) (split:Bool) (wv:Slc) (s:Bf):Prop:=w.heap[b]? = some (.cells (valsA vp s.q ++ #[.bool split, .slice wv.a wv.n wv.cap]) 83 (0,0))
abbrev BufW (w:World) (wv:Slc) (s:Bf):Prop:=Rep2 ByteE w wv.v (s.bf.map encR2)
theorem BufB.split {w:World} {b:Nat} {vp:Value} {split:Bool} {wv:Slc} {s:Bf} (h:BufB w b vp split wv s):w.cell? ⟨b,16,none⟩=some (.bool split):=cellH h (k:=16) rfl
theorem BufB.waits {w:World} {b:Nat} {vp:Value} {split:Bool} {wv:Slc} {s:Bf} (h:BufB w b vp split wv s):w.cell? ⟨b,17,none⟩=some (.slice wv.a wv.n wv.cap):=cellH h (k:=17) rfl
theorem BufB.lt {w:World} {b:Nat} {vp:Value} {split:Bool} {wv:Slc} {s:Bf} (h:BufB w b vp split wv s):b < w.heap.size:=(Array.getElem?_eq_some_iff.1 h).1
theorem BufB.below {w w':World} {b:Nat} {vp:Value} {split:Bool} {wv:Slc} {s:Bf} (h:BufB w b vp split wv s) (hb:Below w.heap.size w w'):BufB w' b vp split wv s:=(hb.block b h.lt).trans h
theorem buffer_any (b t loc:Nat) (split:Bool) (w:World) (h16:w.cell? ⟨b,16,none⟩=some (.bool split)) (ht:t≤2) (hl:loc≤2) :
 Calls Try.prog 108 #[.pointer (some ⟨b,0,none⟩), .int .i64 (t:Int), .int .i64 (loc:Int)] w fun e w'=>e = .returned (.int .i64 ((bfPlace t loc split:Nat):Int))∧w=w':=by
 have bl:=lt_of_cell h16
 cases split
 ·go_enter Try.func108,Try.ntmps108
  go_wp2_with fail
  go_ret
  exact ⟨rfl,rfl⟩
 ·have E:bfPlace t loc true=t * 3+loc:=by simp [bfPlace]
  have HE:=hide E
  clear E
  go_enter Try.func108,Try.ntmps108
  go_wp2_with fail
  go_ret
  rw [HE.out]
  exact ⟨congrArg Ending.returned (congrArg (Value.int .i64) (by omega)),rfl⟩
theorem bfEmpty_three (s:Bf) (t:Nat) (split:Bool):bfEmpty s t split=(List.range 3).all fun i=>(s.bf.getD (bfPlace t i split) []).isEmpty:=by
 cases split
 ·simp [bfEmpty,bfN,bfPlace,List.range_succ]
 ·simp [bfEmpty,bfN,bfPlace,List.range_succ]
theorem place_in {p:List (List Ins)} {split:Bool} {t i:Nat} (ht:t < p.length) (hi:i < 3):bfPlace t i split < p.length * bfN split:=by
 have:=place_lt (p:=p) (split:=split) (loc:=(i:Int)) ht (by omega) (by omega)
 exact this
theorem isEmpty_any (b t:Nat) (vp:Value) (split:Bool) (wv:Slc) (p:List (List Ins)) (s:Bf) (w:World) (hx:BufB w b vp split wv s) (hw:BufW w wv s) (hok:BfOk p split s) (ht:t < p.length) (hpl:p.length≤3) :
 Calls Try.prog 114 #[.pointer (some ⟨b,0,none⟩), .int .i64 (t:Int)] w fun e w'=>e = .returned (.bool (bfEmpty s t split))∧Below w.heap.size w w':=by
 obtain ⟨wa,wn,wk⟩:=wv
 have HX:=hide hx;have HW:=hide hw;have HLB:=hide hok.lb
 have h16:=hx.split
 have h17:=hx.waits
 have bl:=hx.lt
 have ht2:t≤2:=by omega
 obtain ⟨_,_,hv, -,hcn, -, -⟩:=hw.open
 simp only [Slc.v,Value.slice.injEq] at hv
 obtain ⟨rfl,hwn,rfl⟩:=hv
 rw [List.length_map] at hwn
 have HWN:=hide hwn
 have HE:=hide (bfEmpty_three s t split)
 have HP:=hide (fun i (hi:i < 3)=>place_in (p:=p) (split:=split) (i:=i) ht hi)
 obtain ⟨R,hR⟩:∃ R,R=bfEmpty s t split:=⟨_,rfl⟩
 have HR:=hide hR
 rw [← hR]
 clear hx hw hok hR hwn hcn
 go_enter Try.func114,Try.ntmps114
 go_wp2_with fail
 go_loopw [6] (fun i wr => ∃ k:Nat,k≤3∧i = .int .i64 k∧Hid (∀ j < k,(s.bf.getD (bfPlace t j split) []).isEmpty=true)∧Below w.heap.size w wr) (fun i _=>3 - (intOf i).toNat)
 case atStart=>exact ⟨0,Nat.zero_le _,rfl,hide (fun t h=>absurd h (Nat.not_lt_zero t)),Below.refl _ _⟩
 case round =>
  obtain ⟨k,hk,rfl,hno,hb⟩:=hrel
  have HB:=hide hb
  by_cases hlt:k < 3
  ·have hlt':(k:Int) < 3:=by omega
   have hk2:k≤2:=by omega
   have e16:=(hb.cell (p:=⟨b,16,none⟩) bl).trans h16
   have e17:=(hb.cell (p:=⟨b,17,none⟩) bl).trans h17
   have bl2:=lt_of_cell e16
   obtain ⟨q,hq⟩:∃ q,q=bfPlace t k split:=⟨_,rfl⟩
   have hqs:q < s.bf.length:=by rw [hq,HLB.out];exact HP.out k hlt
   have hqn:(q:Int) < (wn:Int):=by rw [HWN.out];omega
   obtain ⟨row,hrow⟩:=get_of_lt (xs:=s.bf) (k:=q) hqs
   have hrow2:(s.bf.map encR2)[q]? = some (encR2 row):=by rw [List.getElem?_map,hrow];rfl
   obtain ⟨b2,o2,ra,rc,rfl,hbl2,q0, -⟩:=Rep2.row (HW.out.below hb) hrow2
   rw [List.length_map] at q0
   have HBU:=hide (fun X:BW wr=>buffer_any b t k split X.val ((X.prop.cell (p:=⟨b,16,none⟩) bl2).trans e16) ht2 hk2)
   simp only [← hq] at HBU
   have HROW:=hide hrow;have HQ:=hide hq
   clear hb hrow hrow2 hq
   by_cases hne:row.length > 0
   ·have hne':(row.length:Int) > 0:=by omega
    have E:Hid (R=false):=hide (by
     rw [HR.out,HE.out,List.all_eq_false]
     refine ⟨k,List.mem_range.2 hlt, ?_⟩
     rw [← HQ.out,List.getD_eq_getElem?_getD,HROW.out]
     cases row with
     | nil=>simp at hne
     | cons x r=>simp)
    go_wp2_with fail
    refine wp_region_bw (by kernel_rfl) (by kernel_rfl) ?_
    repeat (go_big_quiet_step ((go_at_call 108;(with_reducible exact Calls.bw_same (HBU.out _)))))
    refine wpQuiet_nil ?_
    intro w1 hw1
    go_wp2_with fail
    go_ret
    rw [E.out]
    exact ⟨rfl,HB.out.trans (hw1.mono HB.out.size)⟩
   ·have hne':¬ (row.length:Int) > 0:=by omega
    have NO:Hid (∀ j < k+1,(s.bf.getD (bfPlace t j split) []).isEmpty=true):=hide fun j hj=>by
     by_cases e:j=k
     ·subst e
      rw [← HQ.out,List.getD_eq_getElem?_getD,HROW.out]
      cases row with
      | nil=>rfl
      | cons x r=>simp at hne
     ·exact hno.out j (by omega)
    go_wp2_with fail
    refine wp_region_bw (by kernel_rfl) (by kernel_rfl) ?_
    repeat (go_big_quiet_step ((go_at_call 108;(with_reducible exact Calls.bw_same (HBU.out _)))))
    refine wpQuiet_nil ?_
    intro w1 hw1
    have B1:=hide (HB.out.trans (hw1.mono HB.out.size))
    clear hw1
    go_wp2_with fail
    go_roundw
    case rel=>exact ⟨k+1,by omega,by go_num,NO,B1.out⟩
    case measure=>simp [intOf];omega
  ·obtain rfl:k=3:=by omega
   have E:Hid (R=true):=hide (by
    rw [HR.out,HE.out,List.all_eq_true]
    exact fun j hj=>hno.out j (List.mem_range.1 hj))
   go_wp2_with fail
   go_ret
   rw [E.out]
   exact ⟨rfl,HB.out⟩
end Go.Proofs.Ytlddmagfbcomgaa
namespace Go.Proofs.Ytlddmagfbcomgaa
open Go.RowKit
def bfCan (p:List (List Ins)) (split:Bool) (s:Bf) (t:Nat):Bool:=match sqIns p s.q t with
 | none=>false
 | some i=>if i.op=4∨i.op=5 then bfEmpty s t split else true
def bfHas (s:Bf) (k:Nat):Bool:=decide (0 < (s.bf.getD k []).length)
def bfMv (p:List (List Ins)) (split:Bool) (s:Bf):List Nat:=((List.range p.length).filter fun t=>bfCan p split s t)++((List.range s.bf.length).filter fun k=>bfHas s k).map fun k=>p.length+k
theorem filter_snoc (f:Nat→Bool) (k:Nat):(List.range (k+1)).filter f=(List.range k).filter f++(if f k=true then [k] else []):=by
 rw [List.range_succ,List.filter_append]
 congr 1
 cases h:f k <;> simp [h]
theorem filter_len (f:Nat→Bool) (k:Nat):((List.range k).filter f).length≤k:=Nat.le_trans (List.length_filter_le _ _) (by simp)
theorem map_snoc3 (A L:List Nat) (k j:Nat):((A++(L++[j]).map fun x=>k+x).map fun (m:Nat)=>(m:Int))=((A++L.map fun x=>k+x).map fun (m:Nat)=>(m:Int))++[(k:Int)+(j:Int)]:=by simp
theorem bufMoves_any (b:Nat) (vp:Value) (split:Bool) (wv:Slc) (p:List (List Ins)) (s:Bf) (w:World) (hp:RepP w vp p) (hx:BufB w b vp split wv s) (hw:BufW w wv s) (hok:BfOk p split s) (hpl:p.length≤3) (hpr:∀ r∈p,r.length≤7) :
 Calls Try.prog 103 #[.pointer (some ⟨b,0,none⟩)] w (RetOwn IntE 3 w ((bfMv p split s).map fun (m:Nat)=>(m:Int))):=by
 obtain ⟨va,vc,rfl,hc1,hc2,hc3,hp⟩:=hp.open
 obtain ⟨wa,wn,wk⟩:=wv
 have HP:=hide hp;have HX:=hide hx;have HW:=hide hw;have HOK:=hide hok;have HPR:=hide hpr
 have HV:=hide (ValAt.ofMore hx)
 have c0:=HV.out.c0
 have bl:=HV.out.lt
 obtain ⟨_,_,hv, -,hcn, -, -⟩:=hw.open
 simp only [Slc.v,Value.slice.injEq] at hv
 obtain ⟨rfl,hwn,rfl⟩:=hv
 rw [List.length_map] at hwn
 have hwn9:wn≤9:=by
  rw [hwn,hok.lb]
  have:bfN split≤3:=by cases split <;> simp [bfN]
  have:=Nat.mul_le_mul hpl this
  omega
 have HWN:=hide hwn
 have HMV:Hid (bfMv p split s=((List.range p.length).filter fun t=>bfCan p split s t)++((List.range s.bf.length).filter fun k=>bfHas s k).map fun k=>p.length+k):=hide rfl
 clear hp hx hw hok hpr hwn hcn
 generalize hn:p.length=n at *
 have HN:=hide hn
 clear hn
 have hsa:=@setCell_alloc
 go_enter Try.func103,Try.ntmps103
 go_wp2_with fail
 go_loopw [3,15] (fun v i wr => ∃ k:Nat,k≤n∧i = .int .i64 k∧Own IntE 3 wr w.heap.size v (((List.range k).filter fun t=>bfCan p split s t).map fun (m:Nat)=>(m:Int))∧Below w.heap.size w wr) (fun _ i _=>n - (intOf i).toNat)
 case atStart=>exact ⟨0,Nat.zero_le _,rfl,Own.nil _ _ _,Below.refl _ _⟩
 case round =>
  obtain ⟨k,hk,rfl,hown,hb⟩:=hrel
  have HB:=hide hb;have HO:=hide hown
  have hbs:=hb.size
  have hlen:((((List.range k).filter fun t=>bfCan p split s t).map fun (m:Nat)=>(m:Int))).length≤68719476736:=by
   rw [List.length_map]
   have:=filter_len (fun t=>bfCan p split s t) k
   omega
  by_cases hlt:k < n
  ·have hlt':=nat_of_lt hlt
   have HNX:=hide (next_any b k va n vc p s.q wr (HP.out.below hb) (HV.out.below hb) HOK.out.q (by rw [HN.out];exact hpl) HPR.out (by rw [HN.out];exact hlt))
   have HEM:=hide (fun (W:World) (hW:Below w.heap.size w W)=>isEmpty_any b k (.slice va n vc) split ⟨wa,wn,wk⟩ p s W (HX.out.below hW) (HW.out.below hW) HOK.out (by rw [HN.out];exact hlt) (by rw [HN.out];exact hpl))
   have SN:=hide (filter_snoc (fun t=>bfCan p split s t) k)
   clear hb hown
   go_wp2_with fail
   (with_reducible refine HNX.out.mono ?_);rintro e w1 ⟨rfl,hb1⟩
   have HB1:=hide (HB.out.trans (hb1.mono HB.out.size))
   have HO1:=hide (HO.out.below hb1)
   have hs1:w.heap.size≤w1.heap.size:=Nat.le_trans hbs hb1.size
   clear hb1 HNX
   cases hi:sqIns p s.q k with
   | none =>
    have hc:bfCan p split s k=false:=by unfold bfCan;rw [hi]
    rw [hc,if_neg (by simp),List.append_nil] at SN
    clear hi hc
    simp only [nxT]
    go_wp2_with fail
    go_roundw
    case rel=>exact ⟨k+1,by omega,by go_num,by rw [SN.out];exact HO1.out.alloc _,HB1.out.alloc HB1.out.size _⟩
    case measure=>simp [intOf];omega
   | some i =>
    obtain ⟨op,loc,reg,val⟩:=i
    have HBA:=hide (HB1.out.alloc HB1.out.size (.cells #[.int .i64 op, .int .i64 loc, .int .i64 reg, .int .i64 val] 38))
    have HOA:=hide (HO1.out.alloc (.cells #[.int .i64 op, .int .i64 loc, .int .i64 reg, .int .i64 val] 38))
    simp only [nxT]
    by_cases h45:op=4∨op=5
    ·have hc:bfCan p split s k=bfEmpty s k split:=by unfold bfCan;rw [hi];simp only [h45,if_true]
     rw [hc] at SN
     clear hi hc
     rcases h45 with rfl | rfl
     all_goals
      cases hE:bfEmpty s k split
      ·rw [hE,if_neg (by simp),List.append_nil] at SN
       have HE0:=hide hE
       clear hE
       go_wp2_with (go_at_call 114;(with_reducible refine (HEM.out _ HBA.out).mono ?_);rintro e w3 ⟨rfl,hb3⟩;rw [HE0.out];have HB3:=hide (HBA.out.trans (hb3.mono HBA.out.size));have HO3:=hide (HOA.out.below hb3);clear hb3)
       go_roundw
       case rel=>exact ⟨k+1,by omega,by go_num,by rw [SN.out];exact HO3.out,HB3.out⟩
       case measure=>simp [intOf];omega
      ·rw [hE,if_pos rfl] at SN
       have HE0:=hide hE
       clear hE
       go_wp2_with (first
        | (go_at_call 114;(with_reducible refine (HEM.out _ HBA.out).mono ?_);rintro e w3 ⟨rfl,hb3⟩;rw [HE0.out];have HB3:=hide (HBA.out.trans (hb3.mono HBA.out.size));have HO3:=hide (HOA.out.below hb3);have hs3:=HB3.out.size;clear hb3)
        | (at_builtin;refine wpList_appAt IntE 3 Try.infoInt rfl Try.underlying43 w.heap.size _ _ (k:Int) (HO3.out.alloc _) (by decide) hlen (by simp;omega) rfl _ _ rfl rfl _ 0 1 rfl news_alloc ?_;intro v5 w5 hown5 hgr5 hat5))
       have HF:=hide (show Own IntE 3 w5 w.heap.size v5 (((List.range (k+1)).filter fun t=>bfCan p split s t).map fun (m:Nat)=>(m:Int)) by rw [SN.out,List.map_append];exact hown5)
       have HW5:=hide ((HB3.out.alloc HB3.out.size (.cells #[.int .i64 (k:Int)] 3)).grown hgr5 (by simp;omega) (fun q hq=>(World.ownsRow.lt HO.out q hq).1))
       clear hown5 hgr5 hat5
       go_wp2_with fail
       go_roundw
       case rel=>exact ⟨k+1,by omega,by go_num,HF.out,HW5.out⟩
       case measure=>simp [intOf];omega
    ·have hc:bfCan p split s k=true:=by unfold bfCan;rw [hi];simp only [h45,if_false]
     rw [hc,if_pos rfl] at SN
     have h4:(op==4)=false:=by simp;omega
     have h5:(op==5)=false:=by simp;omega
     have h4':¬ op=4:=by omega
     have h5':¬ op=5:=by omega
     clear hi hc h45
     go_wp2_with (first
      | (at_builtin;refine wpList_appAt IntE 3 Try.infoInt rfl Try.underlying43 w.heap.size _ _ (k:Int) (HOA.out.alloc _) (by decide) hlen (by simp;omega) rfl _ _ rfl rfl _ 0 1 rfl (news_allocA (by simp)) ?_;intro v5 w5 hown5 hgr5 hat5))
     have HF:=hide (show Own IntE 3 w5 w.heap.size v5 (((List.range (k+1)).filter fun t=>bfCan p split s t).map fun (m:Nat)=>(m:Int)) by rw [SN.out,List.map_append];exact hown5)
     have HW5:=hide ((HBA.out.alloc HBA.out.size (.cells #[.int .i64 (k:Int)] 3)).grown hgr5 (by simp;omega) (fun q hq=>(World.ownsRow.lt HO.out q hq).1))
     clear hown5 hgr5 hat5
     go_wp2_with fail
     go_roundw
     case rel=>exact ⟨k+1,by omega,by go_num,HF.out,HW5.out⟩
     case measure=>simp [intOf];omega
  ·obtain rfl:k=n:=by omega
   have hbb:=HX.out.below hb
   have h17:=hbb.waits
   have c1:=(hb.cell (p:=⟨b,0,none⟩) bl).trans c0
   have bl1:=lt_of_cell c1
   clear hb hown hbb
   have HO0:=hide (show Own IntE 3 wr w.heap.size _ ((((List.range k).filter fun t=>bfCan p split s t)++((List.range 0).filter fun j=>bfHas s j).map fun j=>k+j).map fun (m:Nat)=>(m:Int)) by rw [List.range_zero,List.filter_nil,List.map_nil,List.append_nil];exact HO.out)
   go_wp2_with fail
   clear h17 c1 bl1 hbs hlen hlt
   go_loopw [3,52] (fun v i wr => ∃ j:Nat,j≤wn∧i = .int .i64 j∧Own IntE 3 wr w.heap.size v ((((List.range k).filter fun t=>bfCan p split s t)++((List.range j).filter fun j=>bfHas s j).map fun j=>k+j).map fun (m:Nat)=>(m:Int))∧Below w.heap.size w wr) (fun _ i _=>wn - (intOf i).toNat)
   case atStart=>exact ⟨0,Nat.zero_le _,rfl,HO0.out,HB.out⟩
   case round =>
    obtain ⟨j,hj,rfl,hown,hb⟩:=hrel
    have HB1:=hide hb;have HO1:=hide hown
    have hbs:=hb.size
    by_cases hlt:j < wn
    ·have hlt':=nat_of_lt hlt
     have hlen:(((((List.range k).filter fun t=>bfCan p split s t)++((List.range j).filter fun j=>bfHas s j).map fun j=>k+j).map fun (m:Nat)=>(m:Int))).length≤68719476736:=by
      have h1:=filter_len (fun t=>bfCan p split s t) k
      have h2:=filter_len (fun t=>bfHas s t) j
      simp only [List.length_map,List.length_append]
      omega
     obtain ⟨row,hrow⟩:=get_of_lt (xs:=s.bf) (k:=j) (by rw [← HWN.out];exact hlt)
     have hrow2:(s.bf.map encR2)[j]? = some (encR2 row):=by rw [List.getElem?_map,hrow];rfl
     obtain ⟨b2,o2,ra,rc,rfl,hbl2,q0, -⟩:=Rep2.row (HW.out.below hb) hrow2
     rw [List.length_map] at q0
     have c1:=(hb.cell (p:=⟨b,0,none⟩) bl).trans c0
     have bl1:=lt_of_cell c1
     have SN:=hide (filter_snoc (fun j=>bfHas s j) j)
     have hwa:IntKind.i64.wrap ((k:Int)+(j:Int))=(k:Int)+(j:Int):=wrapM (by omega) (by omega)
     by_cases hne:row.length > 0
     ·have hne':(row.length:Int) > 0:=by omega
      have hc:bfHas s j=true:=by unfold bfHas;rw [List.getD_eq_getElem?_getD,hrow];simpa using hne
      rw [hc,if_pos rfl] at SN
      clear hb hown hrow hrow2 hc
      go_wp2_with (first
       | (at_builtin;refine wpList_appAt IntE 3 Try.infoInt rfl Try.underlying43 w.heap.size _ _ ((k:Int)+(j:Int)) (HO1.out.alloc _) (by decide) hlen (by simp;omega) rfl _ _ rfl rfl _ 0 1 rfl news_alloc ?_;intro v5 w5 hown5 hgr5 hat5))
      have HF:=hide (show Own IntE 3 w5 w.heap.size v5 ((((List.range k).filter fun t=>bfCan p split s t)++((List.range (j+1)).filter fun j=>bfHas s j).map fun j=>k+j).map fun (m:Nat)=>(m:Int)) by
       rw [SN.out,map_snoc3]
       exact hown5)
      have HW5:=hide ((HB1.out.alloc HB1.out.size (.cells #[.int .i64 ((k:Int)+(j:Int))] 3)).grown hgr5 (by simp;omega) (fun q hq=>(World.ownsRow.lt HO1.out q hq).1))
      clear hown5 hgr5 hat5
      go_wp2_with fail
      go_roundw
      case rel=>exact ⟨j+1,by omega,by go_num,HF.out,HW5.out⟩
      case measure=>simp [intOf];omega
     ·have hne':¬ (row.length:Int) > 0:=by omega
      have hc:bfHas s j=false:=by unfold bfHas;rw [List.getD_eq_getElem?_getD,hrow];simpa using hne
      rw [hc,if_neg (by simp),List.append_nil] at SN
      clear hb hown hrow hrow2 hc
      go_wp2_with fail
      go_roundw
      case rel=>exact ⟨j+1,by omega,by go_num,by rw [SN.out];exact HO1.out,HB1.out⟩
      case measure=>simp [intOf];omega
    ·obtain rfl:j=wn:=by omega
     have E:Hid (bfMv p split s=((List.range k).filter fun t=>bfCan p split s t)++((List.range j).filter fun j=>bfHas s j).map fun j=>k+j):=hide (by rw [HMV.out,← HWN.out])
     go_wp2_with fail
     go_ret
     exact ⟨_,rfl,by rw [E.out];exact HO1.out,HB1.out⟩
end Go.Proofs.Ytlddmagfbcomgaa
namespace Go.Proofs.Ytlddmagfbcomgaa
open Go.RowKit
theorem hasClo_any (a:Option Addr) (n c:Nat) (w:World):Calls Try.prog 112 #[.slice a n c] w fun e w'=>e = .returned (.bool (decide (0 < n)))∧w=w':=by
 go_enter Try.func112,Try.ntmps112
 go_wp2_with fail
 go_ret
 exact ⟨by simp,rfl⟩
theorem idxHas_any (v:Value) (rows:List (List Int)) (w:World) (hw:Rep2 ByteE w v rows) (hn:rows.length≤1000) :
 Calls Try.prog 116 #[v, .func (.func 112) #[] #[]] w fun e w' => ∃ r:Int,e = .returned (.int .i64 r)∧((0≤r)↔(rows.any fun x => !x.isEmpty)=true)∧w=w':=by
 obtain ⟨va,vc,rfl,hc1,hc2,hc3,hw⟩:=hw.open
 have HW:=hide hw
 clear hw hc1 hc3
 generalize hm:rows.length=m at *
 have HM:=hide hm
 clear hm
 go_enter Try.func116,Try.ntmps116
 go_wp2_with fail
 go_loopw [8] (fun i wr => ∃ k:Nat,k≤m∧i = .int .i64 k∧Hid (∀ x∈rows.take k,x=[])∧w=wr) (fun i _=>m - (intOf i).toNat)
 case atStart=>exact ⟨0,Nat.zero_le _,rfl,hide (fun x h=>by simp at h),rfl⟩
 case round =>
  obtain ⟨k,hk,rfl,hno,rfl⟩:=hrel
  by_cases hlt:k < m
  ·have hlt':=nat_of_lt hlt
   obtain ⟨row,hrow⟩:=get_of_lt (xs:=rows) (k:=k) (by rw [HM.out];exact hlt)
   obtain ⟨b2,o2,ra,rc,rfl,hbl2,q0, -⟩:=Rep2.row HW.out hrow
   have HROW:=hide hrow
   clear hrow
   have HC:=hide (hasClo_any ra row.length rc w)
   by_cases hne:0 < row.length
   ·have E:Hid ((0≤(k:Int))↔(rows.any fun x => !x.isEmpty)=true):=hide (by
     refine ⟨fun _ => ?_,fun _=>by omega⟩
     rw [List.any_eq_true]
     refine ⟨row,List.mem_of_getElem? HROW.out, ?_⟩
     cases row with
     | nil=>simp at hne
     | cons x r=>rfl)
    have hd:decide (0 < row.length)=true:=by simpa using hne
    rw [hd] at HC
    clear hno
    go_wp2_with (go_at_call 112;(with_reducible refine HC.out.mono ?_);rintro e w1 ⟨rfl,rfl⟩)
    go_ret
    exact ⟨_,rfl,E.out,rfl⟩
   ·have hd:decide (0 < row.length)=false:=by simpa using hne
    rw [hd] at HC
    have NO:Hid (∀ x∈rows.take (k+1),x=[]):=hide fun x hx=>by
     rw [List.take_add_one,HROW.out] at hx
     rcases List.mem_append.1 hx with h | h
     ·exact hno.out x h
     ·simp at h;subst h
      exact List.eq_nil_of_length_eq_zero (by omega)
    go_wp2_with (go_at_call 112;(with_reducible refine HC.out.mono ?_);rintro e w1 ⟨rfl,rfl⟩)
    go_roundw
    case rel=>exact ⟨k+1,by omega,by go_num,NO,trivial⟩
    case measure=>simp [intOf];omega
  ·obtain rfl:k=m:=by omega
   have E:Hid ((0≤(-1:Int))↔(rows.any fun x => !x.isEmpty)=true):=hide (by
    refine ⟨fun h=>by omega,fun h => ?_⟩
    rw [List.any_eq_true] at h
    obtain ⟨x,hx,hxe⟩:=h
    have:=hno.out x (by rw [List.take_of_length_le (by rw [HM.out];exact Nat.le_refl _)];exact hx)
    rw [this] at hxe;simp at hxe)
   go_wp2_with fail
   go_ret
   exact ⟨_,rfl,E.out,rfl⟩
theorem hasAny_any (v:Value) (rows:List (List Int)) (w:World) (hw:Rep2 ByteE w v rows) (hn:rows.length≤1000) :
 Calls Try.prog 111 #[v, .func (.func 112) #[] #[]] w fun e w'=>e = .returned (.bool (rows.any fun x => !x.isEmpty))∧w=w':=by
 have H:=hide (idxHas_any v rows w hw hn)
 clear hw
 generalize (rows.any fun x => !x.isEmpty)=D at *
 go_enter Try.func111,Try.ntmps111
 go_wp2_with fail
 (with_reducible refine H.out.mono ?_);rintro e w1 ⟨r,rfl,hr,rfl⟩
 have HR:=hide hr
 clear hr
 go_wp2_with fail
 go_ret
 refine ⟨congrArg Ending.returned (congrArg Value.bool ?_),rfl⟩
 have:=HR.out
 cases D <;> simp_all
theorem bufDone_any (b:Nat) (vp:Value) (split:Bool) (wv:Slc) (p:List (List Ins)) (s:Bf) (w:World) (hp:RepP w vp p) (hx:BufB w b vp split wv s) (hw:BufW w wv s) (hok:BfOk p split s) (hpl:p.length≤3) (hpr:∀ r∈p,r.length≤7) :
 Calls Try.prog 101 #[.pointer (some ⟨b,0,none⟩)] w fun e w'=>e = .returned (.bool (bfDone p s))∧Below w.heap.size w w':=by
 obtain ⟨wa,wn,wk⟩:=wv
 have H1:=hide (allDone_any b vp p s.q w hp (ValAt.ofMore hx) hok.q hpl hpr)
 have hl9:(s.bf.map encR2).length≤1000:=by
  rw [List.length_map,hok.lb]
  have:bfN split≤3:=by cases split <;> simp [bfN]
  have:=Nat.mul_le_mul hpl this
  omega
 have H2:=hide (fun (W:World) (hW:Below w.heap.size w W)=>hasAny_any (.slice wa wn wk) (s.bf.map encR2) W (hw.below hW) hl9)
 have h17:=hx.waits
 have bl:=hx.lt
 have HE:Hid (bfDone p s=(!((s.bf.map encR2).any fun x => !x.isEmpty)&&sqDone p s.q)):=hide (by
  unfold bfDone
  congr 1
  rw [List.any_map,Bool.eq_iff_iff,List.all_eq_true,Bool.not_eq_true',List.any_eq_false]
  simp [encR2])
 have HX:=hide hx
 clear hp hx hw hok hpr hl9
 generalize ((s.bf.map encR2).any fun x => !x.isEmpty)=D at *
 cases hd:sqDone p s.q
 ·rw [hd] at H1 HE
  clear hd
  go_enter Try.func101,Try.ntmps101
  go_wp2_with (go_at_call 100;(with_reducible refine H1.out.mono ?_);rintro e w1 ⟨rfl,hb1⟩)
  go_ret
  rw [HE.out]
  exact ⟨by simp,hb1⟩
 ·rw [hd] at H1 HE
  clear hd
  go_enter Try.func101,Try.ntmps101
  go_wp2_with (first
   | (go_at_call 100;(with_reducible refine H1.out.mono ?_);rintro e w1 ⟨rfl,hb1⟩;have B1:=hide hb1;have g17:=(hb1.cell (p:=⟨b,17,none⟩) bl).trans h17;have gl:=lt_of_cell g17;clear hb1)
   | (go_at_call 111;(with_reducible refine (H2.out _ B1.out).mono ?_);rintro e w2 ⟨rfl,rfl⟩))
  go_ret
  rw [HE.out]
  exact ⟨by simp,B1.out⟩
end Go.Proofs.Ytlddmagfbcomgaa
namespace Go.Proofs.Ytlddmagfbcomgaa
open Go.RowKit
def OwnBy (w:World) (base:Nat) (v:Value) (xs:List Int):Prop:=
 ∃ (g cap:Nat) (cur:Array Value) (fz:Nat × Nat),v = .slice (some ⟨g,0,none⟩) xs.length cap∧base≤g∧w.heap[g]? = some (.cells cur 5 fz)∧(fz.2=0∨cur.size≤fz.1)∧xs.length≤cap∧cap≤maxLen∧cur.size=cap∧cur.toList.take xs.length=xs.map u8V
theorem run_storeCells_E (P:Program) (g o:Nat) (t:TypeId) (fz:Nat × Nat):∀ (vs:List Value) (i:Nat) (cur:Array Value) (w:World),w.heap[g]? = some (.cells cur t fz)→(fz.2=0∨cur.size≤fz.1)→o+i+vs.length≤cur.size→(∀ v∈vs,v.oneCell'=true) →
 (storeCells ⟨g,o,none⟩ vs i).run P w = .ok () (w.setRow g (cur.toList.take (o+i)++vs++cur.toList.drop (o+i+vs.length)).toArray)
 | [],i,cur,w,hg,_,_,_=>by
  simp only [storeCells,List.append_nil,List.length_nil,Nat.add_zero,List.take_append_drop,Array.toArray_toList]
  rw [setRow_self w g cur t fz hg]
  rfl
 | v :: rest,i,cur,w,hg,hfz,hl,h1=>by
  have hi:o+i < cur.size:=by simp at hl;omega
  have hadd:(⟨g,o,none⟩:Addr).add i=⟨g,o+i,none⟩:=by unfold Addr.add;split <;> simp_all
  have hcell:w.cell? ⟨g,o+i,none⟩=some cur[o+i]:=by simp [World.cell?,hg,hi]
  have hfro:w.frozen? ⟨g,o+i,none⟩=false:=by
   obtain ⟨lo,hi'⟩:=fz
   simp only [World.frozen?,hg,Bool.and_eq_false_iff,decide_eq_false_iff_not]
   simp only at hfz
   rcases hfz with hfz | hfz
   ·right;omega
   ·left;omega
  have hst:(store ((⟨g,o,none⟩:Addr).add i) v).run P w = .ok () (w.setRow g (cur.setIfInBounds (o+i) v)):=by
   rw [hadd,run_store P w _ v _ (h1 v (by simp)),hcell]
   simp [hfro,setCell_eq_setRow w g (o+i) cur t fz v hg]
  have ih:=run_storeCells_E P g o t fz rest (i+1) (cur.setIfInBounds (o+i) v) (w.setRow g (cur.setIfInBounds (o+i) v)) (setRow_heap w g cur _ t _ hg) (by simpa using hfz) (by simp at hl ⊢;omega) (fun x hx=>h1 x (by simp [hx]))
  simp only [storeCells,Sem.run_bind,hst,Result.andThen_ok,ih,setRow_setRow]
  congr 3
  have e:=list_seg_step cur.toList (o+i) v rest (by simp at hl ⊢;omega)
  simpa [Array.toList_setIfInBounds,Nat.add_assoc] using e
theorem OwnBy.lt {w:World} {base:Nat} {v:Value} {xs:List Int} (h:OwnBy w base v xs):∀ q,v.ownBlock=some q→base≤q∧q < w.heap.size:=by
 obtain ⟨g,cap,cur,fz,rfl,h1,h2, -⟩:=h
 intro q hq
 simp [Value.ownBlock] at hq
 subst hq
 exact ⟨h1,(Array.getElem?_eq_some_iff.1 h2).1⟩
theorem OwnBy.below {w w':World} {base:Nat} {v:Value} {xs:List Int} (h:OwnBy w base v xs) (hb:Below w.heap.size w w'):OwnBy w' base v xs:=by
 obtain ⟨g,cap,cur,fz,rfl,h1,h2,h3⟩:=h
 exact ⟨g,cap,cur,fz,rfl,h1,(hb.block g (Array.getElem?_eq_some_iff.1 h2).1).trans h2,h3⟩
theorem OwnBy.alloc {w:World} {base:Nat} {v:Value} {xs:List Int} (h:OwnBy w base v xs) (o:Obj):OwnBy (w.alloc o) base v xs:=h.below ((Below.refl _ _).alloc (Nat.le_refl _) o)
theorem u8_one (l:List Int):∀ u∈l.map u8V,u.oneCell'=true:=fun u hu=>by
 obtain ⟨x, -,rfl⟩:=List.mem_map.1 hu
 rfl
theorem OwnBy.app {w:World} {base:Nat} {v u:Value} {xs ys:List Int} (h:OwnBy w base v xs) (hr:Rep ByteE w u ys) (hn:xs.length+ys.length≤68719476736) (hb:base≤w.heap.size) (ty:TypeId) :
 ∃ v' w',(Builtin.append_ #[22,22] ty #[v,u]).run Try.prog w = .ok v' w'∧OwnBy w' base v' (xs++ys)∧w.grownBy w' v.ownBlock:=by
 obtain ⟨it,hi,hz0,hz1,hz2⟩:=info_parts Try.infoU8I
 have ht:Try.prog.underlying 22=some (.slice 5):=Try.underlying22
 obtain ⟨g,cap,cur,fz,rfl,h1,h2,h3,h4,h5,h6,h7⟩:=h
 obtain ⟨ad,c,rfl,hc1,hc2,hcell⟩:=hr
 cases ad with
 | none =>
  have hys:ys=[]:=by
   cases ys with
   | nil=>rfl
   | cons y ys=>obtain ⟨b,o,hb,_⟩:=hcell 0 y rfl;cases hb
  subst hys
  refine ⟨.slice (some ⟨g,0,none⟩) xs.length cap,w, ?_,⟨g,cap,cur,fz, ?_,h1,h2,h3, ?_,h5,h6, ?_⟩,World.grownBy.refl _ _⟩
  ·simp [Builtin.append_,run_underlying ht,sizeOf,typeInfo,hi,Builtin.lenOf,Builtin.firstCells,h4,storeCells]
  ·simp
  ·simpa using h4
  ·simpa using h7
 | some a =>
  have hnews:∀ j u,(ys.map u8V)[j]? = some u→w.cell? (a.add j)=some u:=fun j u hu=>by
   rw [List.getElem?_map] at hu
   cases hy:ys[j]? with
   | none=>rw [hy] at hu;cases hu
   | some y =>
    rw [hy] at hu
    obtain ⟨b,o,hb,hk⟩:=hcell j y hy
    simp only [Option.some.injEq] at hb
    subst hb
    have:=hk 0 (u8V y) rfl
    simp only [ByteE,Nat.mul_one,Nat.add_zero] at this
    rw [Addr.add_lit]
    simp only [Option.map_some,Option.some.injEq] at hu
    rw [← hu];exact this
  have hl:(ys.map u8V).length=ys.length * it.size:=by rw [hz1];simp
  by_cases hroom:xs.length+ys.length≤cap
  ·have hf:=run_firstCells_some (P:=Try.prog) w it.size ys.length a ys.length c (ys.map u8V) hl hnews
   have hst:=run_storeCells_E Try.prog g xs.length 5 fz (ys.map u8V) 0 cur w h2 h3 (by simp;omega) (u8_one ys)
   simp only [Nat.add_zero] at hst
   obtain ⟨X,hX⟩:∃ X:Array Value,X=(cur.toList.take xs.length++ys.map u8V++cur.toList.drop (xs.length+(ys.map u8V).length)).toArray:=⟨_,rfl⟩
   rw [← hX] at hst
   have hXs:X.size=cur.size:=by
    rw [hX]
    simp only [List.size_toArray,List.length_append,List.length_take,List.length_drop,Array.length_toList,List.length_map]
    omega
   refine ⟨.slice (some ⟨g,0,none⟩) (xs.length+ys.length) cap,w.setRow g X, ?_,⟨g,cap,X,fz,by simp,h1,setRow_heap w g cur _ _ _ h2, ?_,by simpa using hroom,h5,by rw [hXs];exact h6, ?_⟩,⟨rfl,rfl,rfl,by simp,fun k _ hk=>setRow_other w g k _ (fun e=>hk (by simp [Value.ownBlock,e]))⟩⟩
   ·rw [hz1] at hf
    simp [Builtin.append_,run_underlying ht,sizeOf,typeInfo,hi,hz1,Builtin.lenOf,hroom,hf,Addr.add_lit,hst]
   ·rw [hXs];exact h3
   ·rw [hX,h7,List.length_append,List.map_append]
    exact List.take_left' (by simp)
  ·have holds:∀ j u,(xs.map u8V)[j]? = some u→w.cell? ((⟨g,0,none⟩:Addr).add j)=some u:=fun j u hu=>by
    rw [← h7,List.getElem?_take] at hu
    split at hu
    ·rw [Addr.add_lit]
     simp only [Nat.zero_add]
     exact cellH h2 (by simpa using hu)
    ·cases hu
   have hr:=run_append_grow (P:=Try.prog) w 22 ty 5 it _ ht hi hz0 ⟨g,0,none⟩ xs.length cap (xs.map u8V) (by rw [hz1];simp) holds a ys.length c (ys.map u8V) hl hnews (by omega) (by omega) (growslice_fits (by omega) (by rw [hz2];omega))
   refine ⟨_,_,hr,⟨w.heap.size,grownCap w (xs.length+ys.length) cap 5,_,(0,0),by simp,hb,heap_alloc_new w.drew _, .inl rfl, ?_, ?_, ?_, ?_⟩,⟨rfl,rfl,rfl,by simp,fun k hk _=>heap_alloc_old w.drew _ hk⟩⟩
   ·rw [List.length_append];exact grownCap_ge _ _ _ _
   ·exact grownCap_le_maxLen _ _ _ _ (by unfold maxLen;omega)
   ·have:=grownCap_ge w (xs.length+ys.length) cap 5
    have hz:(Value.int IntKind.u8 0).cells.size=1:=rfl
    simp only [Array.size_append,List.size_toArray,List.length_map,size_zeroCells,hz]
    omega
   ·rw [Array.toList_append,Array.toList_append,List.length_append]
    simp only [List.map_append]
    exact List.take_left' (by simp)
theorem wpList_appE {w:World} {ops:Array Oper} {rest:List Oper} {o:Oper} {a:Act} {Q:Exit→Act→World→Prop} (base:Nat) (v u:Value) (xs ys:List Int) (hown:OwnBy w base v xs) (hr:Rep ByteE w u ys) (hn:xs.length+ys.length≤68719476736) (hb:base≤w.heap.size)
 (hg:o.guard=none) (s y:Operand) (hop:o.op = .call { callee:=.builtin .append,args:=#[s,y],argTypes:=#[22,22] }) (hs:a.eval s=v) (hy:a.eval y=u)
 (hK:∀ v' w',OwnBy w' base v' (xs++ys)→w.grownBy w' v.ownBlock→wpList Try.prog ops Q rest (a.put o.dst v') w') :
 wpList Try.prog ops Q (o :: rest) a w:=by
 refine wpList_plain hg fun K hK' => ?_
 obtain ⟨v',w',hrun,h1,h2⟩:=hown.app hr hn hb o.type
 unfold Oper.wp
 simp [execOp,hop,resolve,invoke,builtin,hs,hy,hrun,Result.andThen]
 exact hK' _ _ (hK v' w' h1 h2)
theorem bytes_below (w:World) (e:TypeId) (s:ByteArray):Below w.heap.size w (Lib.bytesWorld w e s):=
 ⟨rfl,rfl,rfl,by rw [Lib.bytesWorld_size];omega,fun k hk=>Lib.bytesWorld_at_old w e s k hk⟩
theorem bytes_own (w:World) {l:List Int} (hl:∀ x∈l,0≤x∧x≤255) (hn:l.length≤1000):OwnBy (Lib.bytesWorld w 5 (strOfNums l)) w.heap.size (.slice (some ⟨w.heap.size,0,none⟩) (strOfNums l).size (grownCap w (strOfNums l).size 0 5)) l:=by
 have hz:(strOfNums l).size=l.length:=strOfNums_size l
 have hge:=grownCap_ge w l.length 0 5
 refine ⟨w.heap.size,grownCap w l.length 0 5,_,_,by rw [hz],Nat.le_refl _,Lib.bytesWorld_at_new w _ _, .inr (Nat.le_refl _),hge,grownCap_le_maxLen _ _ _ _ (by unfold maxLen;omega), ?_, ?_⟩
 ·have h2:(strOfNums l).data.size=l.length:=hz
  simp only [Lib.bytesCells,Array.size_append,Array.size_map,Array.size_replicate,hz,h2]
  omega
 ·have e:(strOfNums l).data.toList=l.map fun n=>UInt8.ofNat n.toNat:=strOfNums_data l
  simp only [Lib.bytesCells,Array.toList_append,Array.toList_map,e,List.map_map]
  rw [List.take_left' (by simp)]
  apply List.map_congr_left
  intro x hx
  have:=hl x hx
  simp only [Function.comp_apply,UInt8.toNat_ofNat']
  rw [Nat.mod_eq_of_lt (by omega),show ((x.toNat:Nat):Int)=x by omega]
theorem conv_ownE {w:World} {base:Nat} {v:Value} {xs:List Int} (h:OwnBy w base v xs):(convert 22 9 v).run Try.prog w = .ok (.string (strOfNums xs)) w:=by
 obtain ⟨g,cap,cur,fz,rfl,h1,h2,h3,h4,h5,h6,h7⟩:=h
 exact run_convert_bytes_arg (P:=Try.prog) w 22 5 Try.underlying22 Try.underlying5 g 0 xs.length cap xs rfl (fun i hi=>by
  obtain ⟨y,hy⟩:=get_of_lt (xs:=xs) (k:=i) hi
  have hc:cur[i]? = some (u8V y):=by
   have:=congrArg (fun t:List Value=>t[i]?) h7
   simp only [List.getElem?_take,hi,if_true,List.getElem?_map,hy,Option.map_some] at this
   simpa using this
  rw [Nat.zero_add,cellH h2 hc,List.getD_eq_getElem?_getD,hy];rfl) 9 Try.underlying9
end Go.Proofs.Ytlddmagfbcomgaa
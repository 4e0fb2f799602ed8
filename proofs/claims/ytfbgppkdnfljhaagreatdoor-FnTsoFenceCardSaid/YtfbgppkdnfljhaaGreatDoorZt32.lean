/-
  What the reference reads as one expression; how it cuts texts. Condition: a bound on the text.
-/
import Derived.Test.YtfbgppkdnfljhaaGreatDoorZt29
import Derived.Test.YtfbgppkdnfljhaaGreatDoorZt28
import Derived.Test.YtfbgppkdnfljhaaGreatDoorZt09
import Derived.Test.YtfbgppkdnfljhaaGreatDoorZt19
import Derived.Test.YtfbgppkdnfljhaaGreatDoorZt15
import Derived.Test.YtfbgppkdnfljhaaGreatDoorZt22
import Derived.Test.YtfbgppkdnfljhaaGreatDoorZt26
import Derived.Test.YtfbgppkdnfljhaaGreatDoorZt13
set_option maxHeartbeats 6400000
set_option maxRecDepth 100000
namespace Go.Proofs.YtfbgppkdnfljhaaGreatDoor
open Go.RowKit
end Go.Proofs.YtfbgppkdnfljhaaGreatDoor
namespace Go.Proofs.YtfbgppkdnfljhaaGreatDoor
open Go.RowKit
theorem node_cases {c:Re} (h:nodeE c=true):(c.op=1∧isName c.nm=true)∨((c.op=6∨c.op=7)∧∃ k,c.kids=[k])∨((c.op=2∨c.op=3∨c.op=4∨c.op=5)∧∃ k k',c.kids=[k,k']):=by
 unfold nodeE nodeO at h
 simp only [Bool.and_eq_true,beq_iff_eq] at h
 obtain ⟨h1,h2, -⟩:=h
 unfold kidsO at h1
 split at h1
 ·rename_i e
  exact .inl ⟨e,by rw [← h2];simp [e]⟩
 ·split at h1
  ·rename_i e
   refine .inr (.inr ⟨e, ?_⟩)
   match hk:c.kids,h1 with
   | [k,k'],_=>exact ⟨k,k',rfl⟩
   | [],h1=>simp at h1
   | [_],h1=>simp at h1
   | _ :: _ :: _ :: _,h1=>simp at h1;omega
  ·split at h1
   ·rename_i e
    refine .inr (.inl ⟨e, ?_⟩)
    match hk:c.kids,h1 with
    | [k],_=>exact ⟨k,rfl⟩
    | [],h1=>simp at h1
    | _ :: _ :: _,h1=>simp at h1;omega
   ·omega
abbrev RetRel (w:World) (n:Nat) (f:Nat→Nat→Bool):Ending→World→Prop:=RetOwn IntE 3 w (relOf n f)
theorem iEval_1 (pv:Value) (f1 o1:Option Addr) (f2 f3 o2 o3:Nat) (nm:ByteArray) (a:Option Addr) (kn cp:Nat) (n:Nat) (f:Nat→Nat→Bool) (w:World)
 (hk:∀ w',Below w.heap.size w w'→Calls Tryz.prog 174 #[pv, .agg #[.slice f1 f2 f3, .slice o1 o2 o3], .string nm] w' (RetRel w' n f)) :
 Calls Tryz.prog 130 #[pv, .agg #[.slice f1 f2 f3, .slice o1 o2 o3], .agg #[.int .i64 1, .string nm, .slice a kn cp]] w (RetRel w n f):=by
 have HB1:=hide (belowAlloc w (.cells #[.slice f1 f2 f3, .slice o1 o2 o3] 60))
 have X1:=hide (heap_alloc_new w (.cells #[.slice f1 f2 f3, .slice o1 o2 o3] 60))
 have hz1:(w.alloc (.cells #[.slice f1 f2 f3, .slice o1 o2 o3] 60)).heap.size=w.heap.size+1:=by simp
 have HB2:=hide (belowAlloc (w.alloc (.cells #[.slice f1 f2 f3, .slice o1 o2 o3] 60)) (.cells #[.int .i64 1, .string nm, .slice a kn cp] 52))
 have X2:=hide (heap_alloc_new (w.alloc (.cells #[.slice f1 f2 f3, .slice o1 o2 o3] 60)) (.cells #[.int .i64 1, .string nm, .slice a kn cp] 52))
 rw [hz1] at X2
 have Y1:=hide ((HB2.out.block w.heap.size (by omega)).trans X1.out)
 have HB:=hide (HB1.out.trans (HB2.out.mono HB1.out.size))
 generalize hW:(w.alloc (.cells #[.slice f1 f2 f3, .slice o1 o2 o3] 60)).alloc (.cells #[.int .i64 1, .string nm, .slice a kn cp] 52)=W at *
 have x0:W.cell? ⟨w.heap.size,0,none⟩=some (.slice f1 f2 f3):=cell_of_heapV Y1.out (k:=0) rfl
 have x1:W.cell? ⟨w.heap.size,1,none⟩=some (.slice o1 o2 o3):=cell_of_heapV Y1.out (k:=1) rfl
 have e0:W.cell? ⟨w.heap.size+1,0,none⟩=some (.int .i64 1):=cell_of_heapV X2.out (k:=0) rfl
 have e1:W.cell? ⟨w.heap.size+1,1,none⟩=some (.string nm):=cell_of_heapV X2.out (k:=1) rfl
 have e2:W.cell? ⟨w.heap.size+1,2,none⟩=some (.slice a kn cp):=cell_of_heapV X2.out (k:=2) rfl
 have xl:=lt_of_cell x0
 have el:=lt_of_cell e0
 clear HB1 HB2 X1 hz1
 have HK:=hide (hk _ HB.out)
 clear hk
 go_enter Tryz.func130,Tryz.ntmps130
 go_wp2_with fail
 clear hW
 (with_reducible refine HK.out.mono ?_);rintro e w2 ⟨v2,rfl,o2',hb2⟩
 have HO:=hide (o2'.mono HB.out.size);have HB2:=hide (HB.out.trans (hb2.mono HB.out.size))
 clear o2' hb2
 go_wp2_with fail
 go_ret
 exact ⟨_,rfl,HO.out,HB2.out⟩
theorem iEval_un (op:Int) (n:Nat) (hn:n≤16) (pv:Value) (f1 o1:Option Addr) (f2 f3 o2 o3:Nat) (nm:ByteArray) (b q cp:Nat) (k0:Int) (kn:ByteArray) (ka:Option Addr) (kl kc:Nat) (f F:Nat→Nat→Bool) (w:World) (hop:Hid ((op=6∧F=fInv f)∨(op=7∧F=fClo n f))) (i0:w.cell? ⟨b,q,none⟩=some (.int .i64 k0)) (i1:w.cell? ⟨b,q+1,none⟩=some (.string kn)) (i2:w.cell? ⟨b,q+2,none⟩=some (.slice ka kl kc))
 (hk:∀ w',Below w.heap.size w w'→Calls Tryz.prog 130 #[pv, .agg #[.slice f1 f2 f3, .slice o1 o2 o3], .agg #[.int .i64 k0, .string kn, .slice ka kl kc]] w' (RetRel w' n f)) :
 Calls Tryz.prog 130 #[pv, .agg #[.slice f1 f2 f3, .slice o1 o2 o3], .agg #[.int .i64 op, .string nm, .slice (some ⟨b,q,none⟩) 1 cp]] w (RetRel w n F):=by
 have g1:(op==1)=false:=by have:=hop.out;rw [beq_eq_false_iff_ne];omega
 have HB1:=hide (belowAlloc w (.cells #[.slice f1 f2 f3, .slice o1 o2 o3] 60))
 have X1:=hide (heap_alloc_new w (.cells #[.slice f1 f2 f3, .slice o1 o2 o3] 60))
 have hz1:(w.alloc (.cells #[.slice f1 f2 f3, .slice o1 o2 o3] 60)).heap.size=w.heap.size+1:=by simp
 have HB2:=hide (belowAlloc (w.alloc (.cells #[.slice f1 f2 f3, .slice o1 o2 o3] 60)) (.cells #[.int .i64 op, .string nm, .slice (some ⟨b,q,none⟩) 1 cp] 52))
 have X2:=hide (heap_alloc_new (w.alloc (.cells #[.slice f1 f2 f3, .slice o1 o2 o3] 60)) (.cells #[.int .i64 op, .string nm, .slice (some ⟨b,q,none⟩) 1 cp] 52))
 rw [hz1] at X2
 have Y1:=hide ((HB2.out.block w.heap.size (by omega)).trans X1.out)
 have HB:=hide (HB1.out.trans (HB2.out.mono HB1.out.size))
 generalize hW:(w.alloc (.cells #[.slice f1 f2 f3, .slice o1 o2 o3] 60)).alloc (.cells #[.int .i64 op, .string nm, .slice (some ⟨b,q,none⟩) 1 cp] 52)=W at *
 have x0:W.cell? ⟨w.heap.size,0,none⟩=some (.slice f1 f2 f3):=cell_of_heapV Y1.out (k:=0) rfl
 have x1:W.cell? ⟨w.heap.size,1,none⟩=some (.slice o1 o2 o3):=cell_of_heapV Y1.out (k:=1) rfl
 have e0:W.cell? ⟨w.heap.size+1,0,none⟩=some (.int .i64 op):=cell_of_heapV X2.out (k:=0) rfl
 have e1:W.cell? ⟨w.heap.size+1,1,none⟩=some (.string nm):=cell_of_heapV X2.out (k:=1) rfl
 have e2:W.cell? ⟨w.heap.size+1,2,none⟩=some (.slice (some ⟨b,q,none⟩) 1 cp):=cell_of_heapV X2.out (k:=2) rfl
 have xl:=lt_of_cell x0
 have el:=lt_of_cell e0
 clear HB1 HB2 X1 hz1
 have j0:=(HB.out.cell (p:=⟨b,q,none⟩) (lt_of_cell i0)).trans i0
 have j1:=(HB.out.cell (p:=⟨b,q+1,none⟩) (lt_of_cell i0)).trans i1
 have j2:=(HB.out.cell (p:=⟨b,q+2,none⟩) (lt_of_cell i0)).trans i2
 have HK:=hide (hk _ HB.out.drew)
 have jl:=lt_of_cell j0
 clear i0 i1 i2 hk
 go_enter Tryz.func130,Tryz.ntmps130
 go_wp2_with fail
 clear hW
 go_region_held3 (fun V=>V.cell? ⟨w.heap.size,0,none⟩=some (.slice f1 f2 f3)∧V.cell? ⟨w.heap.size,1,none⟩=some (.slice o1 o2 o3)∧V.cell? ⟨w.heap.size+1,2,none⟩=some (.slice (some ⟨b,q,none⟩) 1 cp)∧V.cell? ⟨b,q,none⟩=some (.int .i64 k0)∧V.cell? ⟨b,q+1,none⟩=some (.string kn)∧V.cell? ⟨b,q+2,none⟩=some (.slice ka kl kc)) ((simp [go_sem, *]))
  (first
   | (go_at_call 130;(with_reducible refine HK.out.mono ?_);rintro e w1 ⟨v1,rfl,ov,hb1⟩;have HB5:=hide ((Below.refl W.heap.size W).drew.trans (hb1.mono (by simp)));have OV:=hide ov;obtain ⟨hc5,hf5⟩:=bcell HB5.out;clear ov hb1))
 all_goals
  have d0:=(HB5.out.cell (p:=⟨w.heap.size+1,0,none⟩) el).trans e0
  have dl:=lt_of_cell d0
  rcases hop.out with ⟨rfl,rfl⟩ | ⟨rfl,rfl⟩
  ·have HC:=hide (InverseRel_any v1 n f w1 OV.out.rep (by omega))
   have HB6:=hide (HB.out.trans (HB5.out.mono HB.out.size))
   clear x0 x1 e0 e1 e2 j0 j1 j2 xl el jl HB5 OV HK X2 Y1 hc5 hf5
   go_wp2_with fail
   (with_reducible refine HC.out.mono ?_);rintro e w2 ⟨v2,rfl,o2',hb2⟩
   have HO:=hide (o2'.mono HB6.out.size);have HB7:=hide (HB6.out.trans (hb2.mono HB6.out.size))
   clear o2' hb2
   go_wp2_with fail
   go_ret
   exact ⟨_,rfl,HO.out,HB7.out⟩
  ·have HC:=hide (ClosureRel_any v1 n f w1 OV.out.rep (by omega))
   have HB6:=hide (HB.out.trans (HB5.out.mono HB.out.size))
   clear x0 x1 e0 e1 e2 j0 j1 j2 xl el jl HB5 OV HK X2 Y1 hc5 hf5
   go_wp2_with fail
   (with_reducible refine HC.out.mono ?_);rintro e w2 ⟨v2,rfl,o2',hb2⟩
   have HO:=hide (o2'.mono HB6.out.size);have HB7:=hide (HB6.out.trans (hb2.mono HB6.out.size))
   clear o2' hb2
   go_wp2_with fail
   go_ret
   exact ⟨_,rfl,HO.out,HB7.out⟩
theorem iEval_bi (op:Int) (n:Nat) (hn:n≤16) (pv:Value) (f1 o1:Option Addr) (f2 f3 o2 o3:Nat) (nm:ByteArray) (b q cp:Nat) (k0 h0:Int) (kn h1:ByteArray) (ka ha:Option Addr) (kl kc hl hc:Nat) (f g F:Nat→Nat→Bool) (w:World) (hop:Hid ((op=2∧F=fOr f g)∨(op=3∧F=fAnd f g)∨(op=4∧F=fMinus f g)∨(op=5∧F=fComp n f g))) (i0:w.cell? ⟨b,q,none⟩=some (.int .i64 k0)) (i1:w.cell? ⟨b,q+1,none⟩=some (.string kn)) (i2:w.cell? ⟨b,q+2,none⟩=some (.slice ka kl kc))
 (i3:w.cell? ⟨b,q+3,none⟩=some (.int .i64 h0)) (i4:w.cell? ⟨b,q+4,none⟩=some (.string h1)) (i5:w.cell? ⟨b,q+5,none⟩=some (.slice ha hl hc))
 (hk:∀ w',Below w.heap.size w w'→Calls Tryz.prog 130 #[pv, .agg #[.slice f1 f2 f3, .slice o1 o2 o3], .agg #[.int .i64 k0, .string kn, .slice ka kl kc]] w' (RetRel w' n f))
 (hh:∀ w',Below w.heap.size w w'→Calls Tryz.prog 130 #[pv, .agg #[.slice f1 f2 f3, .slice o1 o2 o3], .agg #[.int .i64 h0, .string h1, .slice ha hl hc]] w' (RetRel w' n g)) :
 Calls Tryz.prog 130 #[pv, .agg #[.slice f1 f2 f3, .slice o1 o2 o3], .agg #[.int .i64 op, .string nm, .slice (some ⟨b,q,none⟩) 2 cp]] w (RetRel w n F):=by
 have hop2:2≤op∧op≤5:=by have:=hop.out;omega
 have g1:(op==1)=false:=by rw [beq_eq_false_iff_ne];omega
 have g6:(op==6)=false:=by rw [beq_eq_false_iff_ne];omega
 have g7:(op==7)=false:=by rw [beq_eq_false_iff_ne];omega
 clear hop2
 have HB1:=hide (belowAlloc w (.cells #[.slice f1 f2 f3, .slice o1 o2 o3] 60))
 have X1:=hide (heap_alloc_new w (.cells #[.slice f1 f2 f3, .slice o1 o2 o3] 60))
 have hz1:(w.alloc (.cells #[.slice f1 f2 f3, .slice o1 o2 o3] 60)).heap.size=w.heap.size+1:=by simp
 have HB2:=hide (belowAlloc (w.alloc (.cells #[.slice f1 f2 f3, .slice o1 o2 o3] 60)) (.cells #[.int .i64 op, .string nm, .slice (some ⟨b,q,none⟩) 2 cp] 52))
 have X2:=hide (heap_alloc_new (w.alloc (.cells #[.slice f1 f2 f3, .slice o1 o2 o3] 60)) (.cells #[.int .i64 op, .string nm, .slice (some ⟨b,q,none⟩) 2 cp] 52))
 rw [hz1] at X2
 have Y1:=hide ((HB2.out.block w.heap.size (by omega)).trans X1.out)
 have HB:=hide (HB1.out.trans (HB2.out.mono HB1.out.size))
 generalize hW:(w.alloc (.cells #[.slice f1 f2 f3, .slice o1 o2 o3] 60)).alloc (.cells #[.int .i64 op, .string nm, .slice (some ⟨b,q,none⟩) 2 cp] 52)=W at *
 have x0:W.cell? ⟨w.heap.size,0,none⟩=some (.slice f1 f2 f3):=cell_of_heapV Y1.out (k:=0) rfl
 have x1:W.cell? ⟨w.heap.size,1,none⟩=some (.slice o1 o2 o3):=cell_of_heapV Y1.out (k:=1) rfl
 have e0:W.cell? ⟨w.heap.size+1,0,none⟩=some (.int .i64 op):=cell_of_heapV X2.out (k:=0) rfl
 have e1:W.cell? ⟨w.heap.size+1,1,none⟩=some (.string nm):=cell_of_heapV X2.out (k:=1) rfl
 have e2:W.cell? ⟨w.heap.size+1,2,none⟩=some (.slice (some ⟨b,q,none⟩) 2 cp):=cell_of_heapV X2.out (k:=2) rfl
 have xl:=lt_of_cell x0
 have el:=lt_of_cell e0
 clear HB1 HB2 X1 hz1
 have j0:=(HB.out.cell (p:=⟨b,q,none⟩) (lt_of_cell i0)).trans i0
 have j1:=(HB.out.cell (p:=⟨b,q+1,none⟩) (lt_of_cell i0)).trans i1
 have j2:=(HB.out.cell (p:=⟨b,q+2,none⟩) (lt_of_cell i0)).trans i2
 have HK:=hide (hk _ HB.out.drew)
 have HH:=hide hh
 have I3:=hide i3;have I4:=hide i4;have I5:=hide i5
 have il:=lt_of_cell i0
 have jl:=lt_of_cell j0
 clear i0 i1 i2 i3 i4 i5 hk hh
 go_enter Tryz.func130,Tryz.ntmps130
 go_wp2_with fail
 clear hW
 go_region_held3 (fun V=>V.cell? ⟨w.heap.size,0,none⟩=some (.slice f1 f2 f3)∧V.cell? ⟨w.heap.size,1,none⟩=some (.slice o1 o2 o3)∧V.cell? ⟨w.heap.size+1,2,none⟩=some (.slice (some ⟨b,q,none⟩) 2 cp)∧V.cell? ⟨b,q,none⟩=some (.int .i64 k0)∧V.cell? ⟨b,q+1,none⟩=some (.string kn)∧V.cell? ⟨b,q+2,none⟩=some (.slice ka kl kc)) ((simp [go_sem, *]))
  (first
   | (go_at_call 130;(with_reducible refine HK.out.mono ?_);rintro e w1 ⟨v1,rfl,ov,hb1⟩;have HB5:=hide ((Below.refl W.heap.size W).drew.trans (hb1.mono (by simp)));have OV:=hide ov;obtain ⟨hc5,hf5⟩:=bcell HB5.out;clear ov hb1))
 all_goals
  have x0':=(HB5.out.cell (p:=⟨w.heap.size,0,none⟩) xl).trans x0
  have x1':=(HB5.out.cell (p:=⟨w.heap.size,1,none⟩) xl).trans x1
  have d0:=(HB5.out.cell (p:=⟨w.heap.size+1,0,none⟩) el).trans e0
  have d2:=(HB5.out.cell (p:=⟨w.heap.size+1,2,none⟩) el).trans e2
  have xl':=lt_of_cell x0'
  have dl:=lt_of_cell d0
  have HB6:=hide (HB.out.trans (HB5.out.mono HB.out.size))
  have k3:=(HB6.out.cell (p:=⟨b,q+3,none⟩) il).trans I3.out
  have k4:=(HB6.out.cell (p:=⟨b,q+4,none⟩) il).trans I4.out
  have k5:=(HB6.out.cell (p:=⟨b,q+5,none⟩) il).trans I5.out
  have kl':=lt_of_cell k3
  have HH1:=hide (HH.out _ HB6.out.drew)
  clear x0 x1 e0 e1 e2 j0 j1 j2 xl el jl HB5 HK X2 Y1 HH hc5 hf5
  go_wp2_with fail
  go_region_held3 (fun V=>V.cell? ⟨w.heap.size,0,none⟩=some (.slice f1 f2 f3)∧V.cell? ⟨w.heap.size,1,none⟩=some (.slice o1 o2 o3)∧V.cell? ⟨w.heap.size+1,2,none⟩=some (.slice (some ⟨b,q,none⟩) 2 cp)∧V.cell? ⟨b,q+3,none⟩=some (.int .i64 h0)∧V.cell? ⟨b,q+4,none⟩=some (.string h1)∧V.cell? ⟨b,q+5,none⟩=some (.slice ha hl hc)) ((simp [go_sem, *]))
   (first
    | (go_at_call 130;(with_reducible refine HH1.out.mono ?_);rintro e w2 ⟨v2,rfl,ov2,hb2⟩;have HB7:=hide ((Below.refl w1.heap.size w1).drew.trans (hb2.mono (by simp)));have OV2:=hide ov2;obtain ⟨hc7,hf7⟩:=bcell HB7.out;clear ov2 hb2))
  all_goals
   have d0':=(HB7.out.cell (p:=⟨w.heap.size+1,0,none⟩) dl).trans d0
   have dl':=lt_of_cell d0'
   rcases hop.out with ⟨rfl,rfl⟩ | ⟨rfl,rfl⟩ | ⟨rfl,rfl⟩ | ⟨rfl,rfl⟩
   ·have HC:=hide (UnionRel_any v1 v2 n f g w2 (OV.out.rep.below HB7.out) OV2.out.rep (by omega))
    have HB8:=hide (HB6.out.trans (HB7.out.mono HB6.out.size))
    clear x0' x1' d0 d2 xl' dl k3 k4 k5 kl' HB7 OV OV2 HH1 hc7 hf7
    go_wp2_with fail
    (with_reducible refine HC.out.mono ?_);rintro e w3 ⟨v3,rfl,o3',hb3⟩
    have HO:=hide (o3'.mono HB8.out.size);have HB9:=hide (HB8.out.trans (hb3.mono HB8.out.size))
    clear o3' hb3
    go_wp2_with fail
    go_ret
    exact ⟨_,rfl,HO.out,HB9.out⟩
   ·have HC:=hide (MeetRel_any v1 v2 n f g w2 (OV.out.rep.below HB7.out) OV2.out.rep (by omega))
    have HB8:=hide (HB6.out.trans (HB7.out.mono HB6.out.size))
    clear x0' x1' d0 d2 xl' dl k3 k4 k5 kl' HB7 OV OV2 HH1 hc7 hf7
    go_wp2_with fail
    (with_reducible refine HC.out.mono ?_);rintro e w3 ⟨v3,rfl,o3',hb3⟩
    have HO:=hide (o3'.mono HB8.out.size);have HB9:=hide (HB8.out.trans (hb3.mono HB8.out.size))
    clear o3' hb3
    go_wp2_with fail
    go_ret
    exact ⟨_,rfl,HO.out,HB9.out⟩
   ·have HC:=hide (MinusRel_any v1 v2 n f g w2 (OV.out.rep.below HB7.out) OV2.out.rep (by omega))
    have HB8:=hide (HB6.out.trans (HB7.out.mono HB6.out.size))
    clear x0' x1' d0 d2 xl' dl k3 k4 k5 kl' HB7 OV OV2 HH1 hc7 hf7
    go_wp2_with fail
    (with_reducible refine HC.out.mono ?_);rintro e w3 ⟨v3,rfl,o3',hb3⟩
    have HO:=hide (o3'.mono HB8.out.size);have HB9:=hide (HB8.out.trans (hb3.mono HB8.out.size))
    clear o3' hb3
    go_wp2_with fail
    go_ret
    exact ⟨_,rfl,HO.out,HB9.out⟩
   ·have HC:=hide (ComposeRel_any v1 v2 n f g w2 (OV.out.rep.below HB7.out) OV2.out.rep (by omega))
    have HB8:=hide (HB6.out.trans (HB7.out.mono HB6.out.size))
    clear x0' x1' d0 d2 xl' dl k3 k4 k5 kl' HB7 OV OV2 HH1 hc7 hf7
    go_wp2_with fail
    (with_reducible refine HC.out.mono ?_);rintro e w3 ⟨v3,rfl,o3',hb3⟩
    have HO:=hide (o3'.mono HB8.out.size);have HB9:=hide (HB8.out.trans (hb3.mono HB8.out.size))
    clear o3' hb3
    go_wp2_with fail
    go_ret
    exact ⟨_,rfl,HO.out,HB9.out⟩
theorem iEval_any {p:List (List Ins)} {x:Xc} (hX:execOk p x=true) (hl:p.flatten.length≤1048576):∀ (d:Nat) (c:Re) (pv:Value) (f1 o1:Option Addr) (f2 f3 o2 o3:Nat) (a:Option Addr) (kn cp:Nat) (w:World),shapeR d c=true→RepP w pv p→RepX w (.slice f1 f2 f3) (.slice o1 o2 o3) x→RepRk 0 w ⟨a,kn,cp⟩ c.kids →
 Calls Tryz.prog 130 #[pv, .agg #[.slice f1 f2 f3, .slice o1 o2 o3], .agg #[.int .i64 c.op, .string c.nm, .slice a kn cp]] w (RetRel w (evAll p).length (evalD p x d c)):=by
 have hpv:progValid p=true:=by unfold execOk at hX;simp only [Bool.and_eq_true] at hX;exact hX.1
 have hn:(evAll p).length≤16:=by have:=evAll_le hpv;omega
 intro d
 induction d with
 | zero=>intro c pv f1 o1 f2 f3 o2 o3 a kn cp w h;simp [shapeR] at h
 | succ d ih =>
  intro c pv f1 o1 f2 f3 o2 o3 a kn cp w hs hp hx hk
  obtain ⟨hne,hks⟩:=(shapeR_succ d c).1 hs
  have hkn:=hk.open.1
  simp only at hkn
  rcases node_cases hne with ⟨hop,hnm⟩ | ⟨hop,k,hkk⟩ | ⟨hop,k,k',hkk⟩
  ·have e:evalD p x (d+1) c=relN p x (nameId c.nm):=by simp only [evalD,hop,if_true]
   rw [e,hop]
   exact iEval_1 pv f1 o1 f2 f3 o2 o3 c.nm a kn cp _ _ w (fun w' hb=>relOf_any _ f1 o1 f2 f3 o2 o3 c.nm p x _ w' (isPairAt_any hX hnm) (hp.below hb) (hx.below hb) hpv hl)
  ·have h0:c.kids[0]? = some k:=by rw [hkk];rfl
   have er:kidR c 0=k:=by simp [kidR,hkk]
   obtain ⟨b,q,s,rfl,hbl,i0,i1,i2,i3⟩:=hk.kid h0
   simp only [Nat.zero_mul,Nat.add_zero] at i0 i1 i2
   obtain rfl:kn=1:=by rw [hkn,hkk];rfl
   have hkid:=fun w' (hb:Below w.heap.size w w')=>ih k pv f1 o1 f2 f3 o2 o3 s.a s.n s.cap w' (hks k (by simp [hkk])) (hp.below hb) (hx.below hb) (i3.below hb)
   rcases hop with hop | hop
   ·have e:evalD p x (d+1) c=fInv (evalD p x d k):=by simp [evalD,hop,er]
    rw [e,hop]
    exact iEval_un _ _ hn pv f1 o1 f2 f3 o2 o3 c.nm b q cp _ _ _ _ _ _ _ w (hide (.inl ⟨rfl,rfl⟩)) i0 i1 i2 hkid
   ·have e:evalD p x (d+1) c=fClo (evAll p).length (evalD p x d k):=by simp [evalD,hop,er]
    rw [e,hop]
    exact iEval_un _ _ hn pv f1 o1 f2 f3 o2 o3 c.nm b q cp _ _ _ _ _ _ _ w (hide (.inr (⟨rfl,rfl⟩))) i0 i1 i2 hkid
  ·have h0:c.kids[0]? = some k:=by rw [hkk];rfl
   have h1:c.kids[1]? = some k':=by rw [hkk];rfl
   have er:kidR c 0=k:=by simp [kidR,hkk]
   have er':kidR c 1=k':=by simp [kidR,hkk]
   obtain ⟨b,q,s,rfl,hbl,i0,i1,i2,i3⟩:=hk.kid h0
   obtain ⟨b',q',s',hbq,hbl',j0,j1,j2,j3⟩:=hk.kid h1
   simp only [Option.some.injEq,Addr.mk.injEq,and_true] at hbq
   obtain ⟨rfl,rfl⟩:=hbq
   simp only [Nat.zero_mul,Nat.add_zero,Nat.one_mul,Nat.add_assoc,Nat.reduceAdd] at i0 i1 i2 j0 j1 j2
   obtain rfl:kn=2:=by rw [hkn,hkk];rfl
   have hkid:=fun w' (hb:Below w.heap.size w w')=>ih k pv f1 o1 f2 f3 o2 o3 s.a s.n s.cap w' (hks k (by simp [hkk])) (hp.below hb) (hx.below hb) (i3.below hb)
   have hkid':=fun w' (hb:Below w.heap.size w w')=>ih k' pv f1 o1 f2 f3 o2 o3 s'.a s'.n s'.cap w' (hks k' (by simp [hkk])) (hp.below hb) (hx.below hb) (j3.below hb)
   rcases hop with hop | hop | hop | hop
   ·have e:evalD p x (d+1) c=fOr (evalD p x d k) (evalD p x d k'):=by simp [evalD,hop,er,er']
    rw [e,hop]
    exact iEval_bi _ _ hn pv f1 o1 f2 f3 o2 o3 c.nm b q cp _ _ _ _ _ _ _ _ _ _ _ _ _ w (hide (.inl ⟨rfl,rfl⟩)) i0 i1 i2 j0 j1 j2 hkid hkid'
   ·have e:evalD p x (d+1) c=fAnd (evalD p x d k) (evalD p x d k'):=by simp [evalD,hop,er,er']
    rw [e,hop]
    exact iEval_bi _ _ hn pv f1 o1 f2 f3 o2 o3 c.nm b q cp _ _ _ _ _ _ _ _ _ _ _ _ _ w (hide (.inr (.inl ⟨rfl,rfl⟩))) i0 i1 i2 j0 j1 j2 hkid hkid'
   ·have e:evalD p x (d+1) c=fMinus (evalD p x d k) (evalD p x d k'):=by simp [evalD,hop,er,er']
    rw [e,hop]
    exact iEval_bi _ _ hn pv f1 o1 f2 f3 o2 o3 c.nm b q cp _ _ _ _ _ _ _ _ _ _ _ _ _ w (hide (.inr (.inr (.inl ⟨rfl,rfl⟩)))) i0 i1 i2 j0 j1 j2 hkid hkid'
   ·have e:evalD p x (d+1) c=fComp (evAll p).length (evalD p x d k) (evalD p x d k'):=by simp [evalD,hop,er,er']
    rw [e,hop]
    exact iEval_bi _ _ hn pv f1 o1 f2 f3 o2 o3 c.nm b q cp _ _ _ _ _ _ _ _ _ _ _ _ _ w (hide (.inr (.inr (.inr (⟨rfl,rfl⟩))))) i0 i1 i2 j0 j1 j2 hkid hkid'
end Go.Proofs.YtfbgppkdnfljhaaGreatDoor
namespace Go.Proofs.YtfbgppkdnfljhaaGreatDoor
open Go.RowKit
theorem parse_step (s:ByteArray) (hs:s.size≤300) (f:Nat) (IP:PrimeAt s f) (IQ:∀ g,g≤f→ParseAtR s g):ParseAtR s (f+1):=by
 intro i d lv r w h hd hd2 hi hi2 hl hl2
 have h0:=h
 unfold pR at h
 split at h
 ·rename_i hz
  subst hz
  exact parse_zero s i d r w (fun w'=>IP _ _ _ w' h hd hd2 hi hi2)
 ·rename_i hz
  split at h
  ·cases h
  ·rename_i l n hp
   exact parse_more s hs f IQ i d lv l n r w hp h hd hd2 hi hi2 (by omega) hl2
theorem pr_all (s:ByteArray) (hs:s.size≤300):∀ f,∀ g,g≤f→PrimeAt s g∧ParseAtR s g:=by
 intro f
 induction f with
 | zero =>
  intro g hg
  obtain rfl:g=0:=by omega
  exact ⟨fun i d r w h=>by simp [pR] at h,fun i d lv r w h=>by simp [pR] at h⟩
 | succ f ih =>
  intro g hg
  by_cases e:g=f+1
  ·subst e
   exact ⟨prime_step s hs f (ih f (Nat.le_refl _)).1 (ih f (Nat.le_refl _)).2,parse_step s hs f (ih f (Nat.le_refl _)).1 (fun g hg=>(ih g hg).2)⟩
  ·exact ih g (by omega)
def partR (o L:Int) (t:ByteArray):ByteArray:=if lvlR o > L then ⟨#[40]⟩++t++⟨#[41]⟩ else t
theorem textR_zero {d:Nat} {c:Re} (h:kidsO c.op=0):textR (d+1) c=c.nm:=by unfold textR;rw [if_pos h]
theorem textR_one {d:Nat} {c:Re} (h:kidsO c.op=1):textR (d+1) c=sgnR c.op++partR (kidR c 0).op 0 (textR d (kidR c 0)):=by
 conv=>lhs;unfold textR
 rw [if_neg (by omega),if_pos h];rfl
theorem textR_two {d:Nat} {c:Re} (h:kidsO c.op=2):textR (d+1) c=partR (kidR c 0).op (lvlR c.op) (textR d (kidR c 0))++sgnR c.op++partR (kidR c 1).op (lvlR c.op - 1) (textR d (kidR c 1)):=by
 conv=>lhs;unfold textR
 rw [if_neg (by omega),if_neg (by omega)];rfl
theorem nodesR_one {c k:Re} (h:c.kids=[k]):nodesR c=nodesR k+1:=by
 unfold nodesR;rw [h]
 have:descR [k]=k.desc+1:=by simp [descR]
 rw [this,Re.desc_eq]
theorem nodesR_two {c k k':Re} (h:c.kids=[k,k']):nodesR c=nodesR k+nodesR k'+1:=by
 unfold nodesR;rw [h]
 have:descR [k,k']=(k.desc+1)+(k'.desc+1):=by simp [descR]
 rw [this,Re.desc_eq,Re.desc_eq]
 try omega
theorem sgnR_size (o:Int):(sgnR o).size≤1:=by
 unfold sgnR
 repeat (first | decide | split)
theorem partR_size (o L:Int) (t:ByteArray):(partR o L t).size≤t.size+2:=by
 unfold partR
 split
 ·rw [ByteArray.size_append,ByteArray.size_append]
  show 1+t.size+1≤_
  omega
 ·omega
theorem isName_size {nm:ByteArray} (h:isName nm=true):nm.size≤5:=by
 have h1:=List.mem_of_getElem? (name_at h)
 have h2:∀ x∈nameTab,x.size≤5:=by decide
 exact h2 nm h1
theorem textR_size:∀ (d:Nat) (c:Re),shapeR d c=true→(textR d c).size≤8 * nodesR c:=by
 intro d
 induction d with
 | zero=>intro c h;simp [shapeR] at h
 | succ d ih =>
  intro c hs
  obtain ⟨hne,hks⟩:=(shapeR_succ d c).1 hs
  have hsg:=sgnR_size c.op
  rcases node_cases hne with ⟨hop,hnm⟩ | ⟨hop,k,hkk⟩ | ⟨hop,k,k',hkk⟩
  ·rw [textR_zero (by rw [hop];rfl)]
   have:=isName_size hnm
   unfold nodesR;omega
  ·have ho:kidsO c.op=1:=by rcases hop with e | e <;> rw [e] <;> rfl
   have er:kidR c 0=k:=by simp [kidR,hkk]
   rw [textR_one ho,er,ByteArray.size_append]
   have h1:=ih k (hks k (by simp [hkk]))
   have h2:=partR_size k.op 0 (textR d k)
   have h3:=nodesR_one hkk
   omega
  ·have ho:kidsO c.op=2:=by rcases hop with e | e | e | e <;> rw [e] <;> rfl
   have er:kidR c 0=k:=by simp [kidR,hkk]
   have er':kidR c 1=k':=by simp [kidR,hkk]
   rw [textR_two ho,er,er',ByteArray.size_append,ByteArray.size_append]
   have h1:=ih k (hks k (by simp [hkk]))
   have h1':=ih k' (hks k' (by simp [hkk]))
   have h2:=partR_size k.op (lvlR c.op) (textR d k)
   have h2':=partR_size k'.op (lvlR c.op - 1) (textR d k')
   have h3:=nodesR_two hkk
   omega
theorem l7Part_of (o L:Int) (nm t:ByteArray) (a:Option Addr) (n c:Nat) (w:World) (hz:t.size≤4096) (ht:∀ w',Below w.heap.size w w'→Calls Tryz.prog 207 #[.agg #[.int .i64 o, .string nm, .slice a n c]] w' fun e w''=>e = .returned (.string t)∧Below w'.heap.size w' w'') :
 Calls Tryz.prog 250 #[.agg #[.int .i64 o, .string nm, .slice a n c], .int .i64 L] w fun e w'=>e = .returned (.string (partR o L t))∧Below w.heap.size w w':=by
 have HB:=hide (belowAlloc w (.cells #[.int .i64 o, .string nm, .slice a n c] 52))
 have HT:=hide (ht _ HB.out)
 have HL:=hide (l7Level_any o)
 have PE:Hid (partR o L t=if lvlR o > L then ⟨#[40]⟩++t++⟨#[41]⟩ else t):=hide rfl
 clear ht
 generalize partR o L t=R at *
 generalize lvlR o=lo at *
 by_cases h:lo > L
 ·have h':decide (lo > L)=true:=decide_eq_true h
  obtain rfl:R=⟨#[40]⟩++t++⟨#[41]⟩:=by rw [PE.out,if_pos h]
  clear h PE
  go_enter Tryz.func250,Tryz.ntmps250
  go_wp2_with fail
  (with_reducible refine (HL.out _).mono ?_);rintro e w1 ⟨rfl,rfl⟩
  go_wp2_with fail
  (with_reducible refine HT.out.mono ?_);rintro e w2 ⟨rfl,hb2⟩
  go_wp2_with fail
  go_ret
  exact ⟨rfl,HB.out.trans (hb2.mono HB.out.size)⟩
 ·have h':decide (lo > L)=false:=decide_eq_false h
  obtain rfl:R=t:=by rw [PE.out,if_neg h]
  clear h PE
  go_enter Tryz.func250,Tryz.ntmps250
  go_wp2_with fail
  (with_reducible refine (HL.out _).mono ?_);rintro e w1 ⟨rfl,rfl⟩
  go_wp2_with fail
  (with_reducible refine HT.out.mono ?_);rintro e w2 ⟨rfl,hb2⟩
  go_wp2_with fail
  go_ret
  exact ⟨rfl,HB.out.trans (hb2.mono HB.out.size)⟩
def TextAt (d:Nat):Prop:=∀ (c:Re) (a:Option Addr) (n cp:Nat) (w:World),shapeR d c=true→nodesR c≤400→RepRk 0 w ⟨a,n,cp⟩ c.kids →
 Calls Tryz.prog 207 #[.agg #[.int .i64 c.op, .string c.nm, .slice a n cp]] w fun e w'=>e = .returned (.string (textR d c))∧Below w.heap.size w w'
theorem text_zero (o:Int) (nm:ByteArray) (a:Option Addr) (n c:Nat) (w:World) (h:kidsO o=0) :
 Calls Tryz.prog 207 #[.agg #[.int .i64 o, .string nm, .slice a n c]] w fun e w'=>e = .returned (.string nm)∧Below w.heap.size w w':=by
 have HB:=hide (belowAlloc w (.cells #[.int .i64 o, .string nm, .slice a n c] 52))
 have HK:=hide (l7Kids_any o)
 rw [h] at HK
 clear h
 go_enter Tryz.func207,Tryz.ntmps207
 go_wp2_with fail
 (with_reducible refine (HK.out _).mono ?_);rintro e w1 ⟨rfl,rfl⟩
 go_wp2_with fail
 go_ret
 exact ⟨rfl,HB.out⟩
theorem text_one (o k0:Int) (nm kn t:ByteArray) (b q cp:Nat) (ka:Option Addr) (kl kc:Nat) (w:World) (h:kidsO o=1) (h0:0≤o) (h7:o≤7) (hz:t.size≤4096) (i0:w.cell? ⟨b,q,none⟩=some (.int .i64 k0)) (i1:w.cell? ⟨b,q+1,none⟩=some (.string kn)) (i2:w.cell? ⟨b,q+2,none⟩=some (.slice ka kl kc))
 (ht:∀ w',Below w.heap.size w w'→Calls Tryz.prog 250 #[.agg #[.int .i64 k0, .string kn, .slice ka kl kc], .int .i64 0] w' fun e w''=>e = .returned (.string t)∧Below w'.heap.size w' w'') :
 Calls Tryz.prog 207 #[.agg #[.int .i64 o, .string nm, .slice (some ⟨b,q,none⟩) 1 cp]] w fun e w'=>e = .returned (.string (sgnR o++t))∧Below w.heap.size w w':=by
 have HB:=hide (belowAlloc w (.cells #[.int .i64 o, .string nm, .slice (some ⟨b,q,none⟩) 1 cp] 52))
 have X:=hide (BoxR.new w o nm ⟨some ⟨b,q,none⟩,1,cp⟩ 52)
 have j0:=(HB.out.cell (p:=⟨b,q,none⟩) (lt_of_cell i0)).trans i0
 have j1:=(HB.out.cell (p:=⟨b,q+1,none⟩) (lt_of_cell i0)).trans i1
 have j2:=(HB.out.cell (p:=⟨b,q+2,none⟩) (lt_of_cell i0)).trans i2
 have HK:=hide (l7Kids_any o)
 rw [h] at HK
 have HS:=hide (fun w'=>l7Sign_any o h0 h7 w')
 have zs:=sgnR_size o
 generalize sgnR o=sg at *
 have HT:=hide (fun (y:BW (w.alloc (.cells #[.int .i64 o, .string nm, .slice (some ⟨b,q,none⟩) 1 cp] 52)))=>ht y.val (HB.out.trans (y.prop.mono HB.out.size)))
 clear h i0 i1 i2 ht
 generalize hW:w.alloc (.cells #[.int .i64 o, .string nm, .slice (some ⟨b,q,none⟩) 1 cp] 52)=W at *
 obtain ⟨el,e0,e1,e2, -⟩:=X.out
 have jl:=lt_of_cell j0
 go_enter Tryz.func207,Tryz.ntmps207
 go_wp2_with fail
 clear hW
 (with_reducible refine (HK.out _).mono ?_);rintro e w1 ⟨rfl,rfl⟩
 go_wp2_with fail
 refine wp_region_bw (by kernel_rfl) (by kernel_rfl) ?_
 repeat (go_big_quiet_step (first | (go_at_call 249;(with_reducible exact Calls.bw (HS.out _))) | (go_at_call 250;(with_reducible exact Calls.bw (HT.out _)))))
 refine wpQuiet_nil ?_
 intro w5 hb5
 have HB5:=hide (HB.out.trans (hb5.mono HB.out.size))
 clear hb5 e0 e1 e2 j0 j1 j2
 go_wp2_with fail
 go_ret
 exact ⟨rfl,HB5.out⟩
theorem text_two (o k0 h0':Int) (nm kn h1' t t':ByteArray) (b q cp:Nat) (ka ha:Option Addr) (kl kc hl hc:Nat) (w:World) (h:kidsO o=2) (h0:0≤o) (h7:o≤7) (hz:t.size≤4096) (hz':t'.size≤4096) (i0:w.cell? ⟨b,q,none⟩=some (.int .i64 k0)) (i1:w.cell? ⟨b,q+1,none⟩=some (.string kn)) (i2:w.cell? ⟨b,q+2,none⟩=some (.slice ka kl kc))
 (i3:w.cell? ⟨b,q+3,none⟩=some (.int .i64 h0')) (i4:w.cell? ⟨b,q+4,none⟩=some (.string h1')) (i5:w.cell? ⟨b,q+5,none⟩=some (.slice ha hl hc))
 (ht:∀ w',Below w.heap.size w w'→Calls Tryz.prog 250 #[.agg #[.int .i64 k0, .string kn, .slice ka kl kc], .int .i64 (lvlR o)] w' fun e w''=>e = .returned (.string t)∧Below w'.heap.size w' w'')
 (ht':∀ w',Below w.heap.size w w'→Calls Tryz.prog 250 #[.agg #[.int .i64 h0', .string h1', .slice ha hl hc], .int .i64 (lvlR o - 1)] w' fun e w''=>e = .returned (.string t')∧Below w'.heap.size w' w'') :
 Calls Tryz.prog 207 #[.agg #[.int .i64 o, .string nm, .slice (some ⟨b,q,none⟩) 2 cp]] w fun e w'=>e = .returned (.string (t++sgnR o++t'))∧Below w.heap.size w w':=by
 have HB:=hide (belowAlloc w (.cells #[.int .i64 o, .string nm, .slice (some ⟨b,q,none⟩) 2 cp] 52))
 have X:=hide (BoxR.new w o nm ⟨some ⟨b,q,none⟩,2,cp⟩ 52)
 have j0:=(HB.out.cell (p:=⟨b,q,none⟩) (lt_of_cell i0)).trans i0
 have j1:=(HB.out.cell (p:=⟨b,q+1,none⟩) (lt_of_cell i0)).trans i1
 have j2:=(HB.out.cell (p:=⟨b,q+2,none⟩) (lt_of_cell i0)).trans i2
 have j3:=(HB.out.cell (p:=⟨b,q+3,none⟩) (lt_of_cell i0)).trans i3
 have j4:=(HB.out.cell (p:=⟨b,q+4,none⟩) (lt_of_cell i0)).trans i4
 have j5:=(HB.out.cell (p:=⟨b,q+5,none⟩) (lt_of_cell i0)).trans i5
 have HK:=hide (l7Kids_any o)
 rw [h] at HK
 have HL:=hide (fun w'=>l7Level_any o w')
 have HS:=hide (fun w'=>l7Sign_any o h0 h7 w')
 have zs:=sgnR_size o
 generalize sgnR o=sg at *
 have hlv:0≤lvlR o∧lvlR o≤3:=by unfold lvlR;repeat (first | omega | split)
 have HT:=hide (fun (y:BW (w.alloc (.cells #[.int .i64 o, .string nm, .slice (some ⟨b,q,none⟩) 2 cp] 52)))=>ht y.val (HB.out.trans (y.prop.mono HB.out.size)))
 have HT':=hide (fun (y:BW (w.alloc (.cells #[.int .i64 o, .string nm, .slice (some ⟨b,q,none⟩) 2 cp] 52)))=>ht' y.val (HB.out.trans (y.prop.mono HB.out.size)))
 clear h i0 i1 i2 i3 i4 i5 ht ht'
 obtain ⟨lv0,lv3⟩:=hlv
 generalize lvlR o=lv at *
 generalize hW:w.alloc (.cells #[.int .i64 o, .string nm, .slice (some ⟨b,q,none⟩) 2 cp] 52)=W at *
 obtain ⟨el,e0,e1,e2, -⟩:=X.out
 have jl:=lt_of_cell j0
 go_enter Tryz.func207,Tryz.ntmps207
 go_wp2_with fail
 clear hW
 (with_reducible refine (HK.out _).mono ?_);rintro e w1 ⟨rfl,rfl⟩
 go_wp2_with fail
 (with_reducible refine (HL.out _).mono ?_);rintro e w1 ⟨rfl,rfl⟩
 go_wp2_with fail
 refine wp_region_bw (by kernel_rfl) (by kernel_rfl) ?_
 repeat (go_big_quiet_step (first | (go_at_call 249;(with_reducible exact Calls.bw (HS.out _))) | (go_at_call 250;first | (with_reducible exact Calls.bw (HT.out _)) | (with_reducible exact Calls.bw (HT'.out _)))))
 refine wpQuiet_nil ?_
 intro w5 hb5
 have HB5:=hide (HB.out.trans (hb5.mono HB.out.size))
 clear hb5 e0 e1 e2 j0 j1 j2 j3 j4 j5
 go_wp2_with fail
 go_ret
 exact ⟨rfl,HB5.out⟩
theorem l7Text_any:∀ d,TextAt d:=by
 intro d
 induction d with
 | zero=>intro c a n cp w h;simp [shapeR] at h
 | succ d ih =>
  intro c a n cp w hs hnd hk
  obtain ⟨hne,hks⟩:=(shapeR_succ d c).1 hs
  have hkn:=hk.open.1
  simp only at hkn
  have hP:=fun (k:Re) (hm:k∈c.kids) (hn:nodesR k≤400) (s:Slc) (L:Int) (w':World) (h:RepRk 0 w' ⟨s.a,s.n,s.cap⟩ k.kids)=>l7Part_of k.op L k.nm (textR d k) s.a s.n s.cap w' (by have:=textR_size d k (hks k hm);omega) (fun w'' hb=>ih k s.a s.n s.cap w'' (hks k hm) hn (h.below hb))
  rcases node_cases hne with ⟨hop,hnm⟩ | ⟨hop,k,hkk⟩ | ⟨hop,k,k',hkk⟩
  ·rw [textR_zero (by rw [hop];rfl)]
   exact text_zero c.op c.nm a n cp w (by rw [hop];rfl)
  ·have h0:c.kids[0]? = some k:=by rw [hkk];rfl
   have er:kidR c 0=k:=by simp [kidR,hkk]
   have ho:kidsO c.op=1:=by rcases hop with e | e <;> rw [e] <;> rfl
   obtain ⟨b,q,s,rfl,hbl,i0,i1,i2,i3⟩:=hk.kid h0
   simp only [Nat.zero_mul,Nat.add_zero] at i0 i1 i2
   obtain rfl:n=1:=by rw [hkn,hkk];rfl
   have h3:=nodesR_one hkk
   have hz:=textR_size d k (hks k (by simp [hkk]))
   have hz2:=partR_size k.op 0 (textR d k)
   rw [textR_one ho,er]
   exact text_one c.op k.op c.nm k.nm _ b q cp s.a s.n s.cap w ho (by omega) (by omega) (by omega) i0 i1 i2 (fun w' hb=>hP k (by simp [hkk]) (by omega) s 0 w' (i3.below hb))
  ·have h0:c.kids[0]? = some k:=by rw [hkk];rfl
   have h1:c.kids[1]? = some k':=by rw [hkk];rfl
   have er:kidR c 0=k:=by simp [kidR,hkk]
   have er':kidR c 1=k':=by simp [kidR,hkk]
   have ho:kidsO c.op=2:=by rcases hop with e | e | e | e <;> rw [e] <;> rfl
   obtain ⟨b,q,s,rfl,hbl,i0,i1,i2,i3⟩:=hk.kid h0
   obtain ⟨b',q',s',hbq,hbl',j0,j1,j2,j3⟩:=hk.kid h1
   simp only [Option.some.injEq,Addr.mk.injEq,and_true] at hbq
   obtain ⟨rfl,rfl⟩:=hbq
   simp only [Nat.zero_mul,Nat.add_zero,Nat.one_mul,Nat.add_assoc,Nat.reduceAdd] at i0 i1 i2 j0 j1 j2
   obtain rfl:n=2:=by rw [hkn,hkk];rfl
   have h3:=nodesR_two hkk
   have hz:=textR_size d k (hks k (by simp [hkk]))
   have hz2:=partR_size k.op (lvlR c.op) (textR d k)
   have hy:=textR_size d k' (hks k' (by simp [hkk]))
   have hy2:=partR_size k'.op (lvlR c.op - 1) (textR d k')
   rw [textR_two ho,er,er']
   exact text_two c.op k.op k'.op c.nm k.nm k'.nm _ _ b q cp s.a s'.a s.n s.cap s'.n s'.cap w ho (by omega) (by omega) (by omega) (by omega) i0 i1 i2 j0 j1 j2 (fun w' hb=>hP k (by simp [hkk]) (by omega) s _ w' (i3.below hb)) (fun w' hb=>hP k' (by simp [hkk]) (by omega) s' _ w' (j3.below hb))
end Go.Proofs.YtfbgppkdnfljhaaGreatDoor
namespace Go.Proofs.YtfbgppkdnfljhaaGreatDoor
open Go.RowKit
theorem sFormatRelExpr_any (c:Re) (a:Option Addr) (n cp:Nat) (w:World) (hv:validR c=true) (hk:RepRk 0 w ⟨a,n,cp⟩ c.kids) :
 Calls Tryz.prog 206 #[.agg #[.int .i64 c.op, .string c.nm, .slice a n cp]] w fun e w'=>e = .returned (.string (textR 12 c))∧Below w.heap.size w w':=by
 have hs:shapeR 12 c=true:=by unfold validR at hv;simp only [Bool.and_eq_true] at hv;exact hv.1
 have hn:nodesR c≤40:=by unfold validR at hv;simp only [Bool.and_eq_true,decide_eq_true_eq] at hv;exact hv.2
 have HB:=hide (belowAlloc w (.cells #[.int .i64 c.op, .string c.nm, .slice a n cp] 52))
 have X:=hide (BoxR.new w c.op c.nm ⟨a,n,cp⟩ 52)
 have HV:=hide (RelExprValidS_raw c.op c.nm c.kids a n cp _ (hk.below HB.out) (by unfold nodesR at hn;omega))
 rw [Re.eta,hv] at HV
 have HT:=hide (fun w' (hb:Below w.heap.size w w')=>l7Text_any 12 c a n cp w' hs (by omega) (hk.below hb))
 clear hv hk hs hn
 generalize textR 12 c=t at *
 generalize hW:w.alloc (.cells #[.int .i64 c.op, .string c.nm, .slice a n cp] 52)=W at *
 obtain ⟨el,e0,e1,e2, -⟩:=X.out
 go_enter Tryz.func206,Tryz.ntmps206
 go_wp2_with fail
 clear hW
 (with_reducible refine HV.out.mono ?_);rintro e w1 ⟨rfl,hb1⟩
 have d0:=(hb1.cell (p:=⟨w.heap.size,0,none⟩) el).trans e0
 have d1:=(hb1.cell (p:=⟨w.heap.size,1,none⟩) el).trans e1
 have d2:=(hb1.cell (p:=⟨w.heap.size,2,none⟩) el).trans e2
 have dl:=lt_of_cell d0
 have HB1:=hide (HB.out.trans (hb1.mono HB.out.size))
 have HT1:=hide (HT.out _ HB1.out)
 clear e0 e1 e2 el hb1 HV X HT
 go_wp2_with fail
 (with_reducible refine HT1.out.mono ?_);rintro e w2 ⟨rfl,hb2⟩
 go_wp2_with fail
 go_ret
 exact ⟨rfl,HB1.out.trans (hb2.mono HB1.out.size)⟩
def RetPE (w:World) (c:Re) (e:Ending) (w':World):Prop:=
 ∃ s:Slc,e = .returned (.tuple #[.agg #[.int .i64 c.op, .string c.nm, .slice s.a s.n s.cap], .bool true])∧OwnR 52 w' (Made' w w') s c.kids∧Below w.heap.size w w'
theorem sParseRelExpr_ok (s:ByteArray) (hs:s.size≤300) (f:Nat) (c:Re) (h:pR s f (.parse 0 12 3)=some (c,(s.size:Int))) (hv:validR c=true) (ht:textR 12 c=s) (hne:0 < s.size) (w:World) :
 Calls Tryz.prog 160 #[.string s] w (RetPE w c):=by
 have HB:=hide (belowAlloc w (.cells #[.int .i64 0, .string ⟨#[]⟩, .slice none 0 0] 52))
 have X:=hide (BoxR.new w 0 ⟨#[]⟩ ⟨none,0,0⟩ 52)
 have HP:=hide ((pr_all s hs f f (Nat.le_refl _)).2 0 12 3 _ (w.alloc (.cells #[.int .i64 0, .string ⟨#[]⟩, .slice none 0 0] 52)) h (by omega) (by omega) (by omega) (by omega) (by omega) (by omega))
 have HF:=hide (fun (a:Option Addr) n cp w' (hk:RepRk 0 w' ⟨a,n,cp⟩ c.kids)=>sFormatRelExpr_any c a n cp w' hv hk)
 rw [ht] at HF
 have hz0:(w.alloc (.cells #[.int .i64 0, .string ⟨#[]⟩, .slice none 0 0] 52)).heap.size=w.heap.size+1:=by simp
 have hss:(s.toList==s.toList)=true:=by simp
 have hse:(s.toList==[])=false:=by
  rw [beq_eq_false_iff_ne]
  intro e
  have h1:s.toList.length=s.size:=by rw [ByteArray.toList_eq];simp
  rw [e] at h1
  simp at h1;omega
 have hnn:((s.size:Int)==(s.size:Int))=true:=by simp
 clear h hv ht
 generalize hW:w.alloc (.cells #[.int .i64 0, .string ⟨#[]⟩, .slice none 0 0] 52)=W at *
 go_enter Tryz.func160,Tryz.ntmps160
 go_wp2_with fail
 clear hW
 (with_reducible refine HP.out.mono ?_);rintro e w1 ⟨eo,en,ek,sk,he,rfl,own,hb1⟩
 simp only at he
 subst he
 have X1:=hide (X.out.below hb1)
 have HB1:=hide (HB.out.trans (hb1.mono HB.out.size))
 have hz1:=hb1.size
 rw [hz0] at hz1
 have HBL:=hide (belowAlloc w1 (.cells #[.int .i64 eo, .string en, .slice sk.a sk.n sk.cap] 52))
 have BL:=hide (BoxR.new w1 eo en sk 52)
 have OWN:=hide (own.bel HBL.out)
 have hf1:=HF.out sk.a sk.n sk.cap _ (OWN.out.rep (lo:=0) (fun q _=>Nat.zero_le _))
 simp only [Re.op,Re.nm] at hf1
 have HF1:=hide hf1
 clear hf1
 have X2:=hide (X1.out.below HBL.out)
 have HB2:=hide (HB1.out.trans (HBL.out.mono HB1.out.size))
 have hz2:(w1.alloc (.cells #[.int .i64 eo, .string en, .slice sk.a sk.n sk.cap] 52)).heap.size=w1.heap.size+1:=by simp
 clear own hb1 HP X X1 HF
 go_wp2_with fail
 (with_reducible refine HF1.out.mono ?_);rintro e w3 ⟨rfl,hb3⟩
 obtain ⟨bl,b0,b1,b2, -⟩:=BL.out.below hb3
 obtain ⟨cl,r0,r1,r2,rf⟩:=X2.out.below hb3
 have HB3:=hide (HB2.out.trans (hb3.mono HB2.out.size))
 have OWN3:=hide (OWN.out.bel hb3)
 have hz3:=hb3.size
 rw [hz2] at hz3
 clear hb3 HF1
 go_wp2_with fail
 refine bodyPost_ret (v:=.tuple #[.agg #[.int .i64 eo, .string en, .slice sk.a sk.n sk.cap], .bool true]) (by simp [results,Tryz.results160,go_sem, *]) rfl ⟨sk,rfl, ?_, ?_⟩
 ·refine (((OWN3.out.set (notMade hz0) _ _).set (notMade hz0) _ _).set (notMade hz0) _ _).wide fun q hq=>⟨?_, ?_⟩
  ·have:=hq.1;rw [hz0] at this;omega
  ·have:=hq.2;simp;omega
 ·exact ((HB3.out.setCell (Nat.le_refl _) _).setCell (Nat.le_refl _) _).setCell (Nat.le_refl _) _
def cutR (s:ByteArray) (c:UInt8):Nat→Nat→Nat→List ByteArray
 | 0,_,_=>[]
 | f+1,fr,i=>if i=s.size then [s.extract fr i] else if s.data.toList[i]? = some c then s.extract fr i :: cutR s c f (i+1) (i+1) else cutR s c f fr (i+1)
def cutL (s:ByteArray) (c:UInt8):List ByteArray:=cutR s c (s.size+1) 0 0
theorem l17Cut_exact (s:ByteArray) (cb:UInt8) (w:World) (hs:s.size≤1000) :
 Calls Tryz.prog 155 #[.string s, .int .u8 (cb.toNat:Int)] w (RetOwn StrE 9 w (cutL s cb)):=by
 have HG:=hide (fun (j:Nat) (hj:j < s.size)=>(by have h:=byteR_get s (j:Int) (by simpa using hj);simpa using h:s.data.toList[j]? = some (s[j]'hj)))
 have HC0:Hid (cutL s cb=[]++cutR s cb (s.size+1) 0 0):=hide rfl
 have HE:Hid (∀ f fr i,cutR s cb (f+1) fr i=if i=s.size then [s.extract fr i] else if s.data.toList[i]? = some cb then s.extract fr i :: cutR s cb f (i+1) (i+1) else cutR s cb f fr (i+1)):=hide fun _ _ _=>rfl
 have HN:Hid (∀ fr i,cutR s cb 0 fr i=[]):=hide fun _ _=>rfl
 generalize cutL s cb=R at *
 generalize cutR s cb=CU at *
 go_enter Tryz.func155,Tryz.ntmps155
 go_wp2_with fail
 go_loopw [5,6,7] (fun v q i wr => ∃ (k fr f:Nat) (xs:List ByteArray),i = .int .i64 k∧q = .int .i64 fr∧fr≤k∧k+f=s.size+1∧Own StrE 9 wr w.heap.size v xs∧Below w.heap.size w wr∧xs.length≤k∧Hid (R=xs++CU f fr k)) (fun _ _ i _=>s.size+1 - (intOf i).toNat)
 case atStart=>exact ⟨0,0,s.size+1,[],rfl,rfl,by omega,by omega,Own.empty _ w (Nat.le_refl _),(Below.refl _ _).alloc (Nat.le_refl _) _,by simp,HC0⟩
 case round =>
  obtain ⟨k,fr,f,xs,rfl,rfl,hfk,hkf,ho,hb,hxl,HR⟩:=hrel
  by_cases hlt:k≤s.size
  ·obtain ⟨f',rfl⟩:∃ f',f=f'+1:=⟨f - 1,by omega⟩
   have hlt':(k:Int)≤s.size:=by omega
   have hlen:xs.length≤68719476736:=by omega
   have HX:=hide (HE.out f' fr k)
   by_cases hz:k=s.size
   ·subst hz
    obtain rfl:f'=0:=by omega
    have HR2:Hid (R=xs++[s.extract fr s.size]):=hide (by rw [HR.out,HX.out,if_pos rfl])
    go_wp2_with (at_builtin;refine wpList_app StrE 9 Tryz.infoStr rfl Tryz.underlying63 w.heap.size _ xs (s.extract fr s.size) (ho.alloc _) (by decide) hlen (by simp;have:=hb.size;omega) rfl _ _ rfl rfl _ 0 1 rfl news_alloc ?_;intro v' w1 ho1 hgr1)
    have hb1:=below_app hb ho hgr1
    go_roundw
    case rel=>exact ⟨s.size+1,s.size+1,0,xs++[s.extract fr s.size],by go_num,by go_num,by omega,by omega,ho1,hb1,by simp;omega,hide (by rw [HN.out,List.append_nil];exact HR2.out)⟩
    case measure=>simp [intOf]
   ·have hz':((k:Int)==(s.size:Int))=false:=by simp;omega
    have hks:k < s.size:=by omega
    have hki:0≤(k:Int)∧(k:Int) < s.size:=by omega
    have hsk:=HG.out k hks
    by_cases hc:(s[k]'hks)=cb
    ·have hc':(((s[k]'hks).toNat:Int)==(cb.toNat:Int))=true:=by rw [hc];simp
     have HR2:Hid (R=(xs++[s.extract fr k])++CU f' (k+1) (k+1)):=hide (by rw [HR.out,HX.out,if_neg hz,if_pos (by rw [hsk,hc])];simp)
     clear hc hz hsk
     go_wp2_with (at_builtin;refine wpList_app StrE 9 Tryz.infoStr rfl Tryz.underlying63 w.heap.size _ xs (s.extract fr k) (ho.alloc _) (by decide) hlen (by simp;have:=hb.size;omega) rfl _ _ rfl rfl _ 0 1 rfl news_alloc ?_;intro v' w1 ho1 hgr1)
     have hb1:=below_app hb ho hgr1
     go_roundw
     case rel=>exact ⟨k+1,k+1,f',xs++[s.extract fr k],by go_num,by go_num,by omega,by omega,ho1,hb1,by simp;omega,HR2⟩
     case measure=>simp [intOf];omega
    ·have hc':(((s[k]'hks).toNat:Int)==(cb.toNat:Int))=false:=u8R_ne hc
     have HR2:Hid (R=xs++CU f' fr (k+1)):=hide (by rw [HR.out,HX.out,if_neg hz,if_neg (by rw [hsk];intro e;exact hc (Option.some.inj e))])
     clear hc hz hsk
     go_wp2_with fail
     go_roundw
     case rel=>exact ⟨k+1,fr,f',xs,by go_num,rfl,by omega,by omega,ho,hb,by omega,HR2⟩
     case measure=>simp [intOf];omega
  ·have hlt':¬ (k:Int)≤s.size:=by omega
   obtain rfl:f=0:=by omega
   have HR2:Hid (R=xs):=hide (by rw [HR.out,HN.out,List.append_nil])
   go_wp2_with fail
   go_ret
   exact ⟨_,rfl,by rw [HR2.out];exact ho,hb⟩
end Go.Proofs.YtfbgppkdnfljhaaGreatDoor
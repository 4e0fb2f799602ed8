/-
  ModelOutcomes of the reference. Condition: bounds on sizes.
-/
import Derived.Test.YtkfhgnkonaafgaaGreatDoorZs24
import Derived.Test.YtkfhgnkonaafgaaGreatDoorZs32
import Derived.Test.YtkfhgnkonaafgaaGreatDoorZs31
import Derived.Test.YtkfhgnkonaafgaaGreatDoorZs33
import Derived.Test.YtkfhgnkonaafgaaGreatDoorZs16
import Derived.Test.YtkfhgnkonaafgaaGreatDoorZs07
import Derived.Test.YtkfhgnkonaafgaaGreatDoorZs09
import Derived.Test.YtkfhgnkonaafgaaGreatDoorZs18
import Derived.Test.YtkfhgnkonaafgaaGreatDoorZs14
import Derived.Test.YtkfhgnkonaafgaaGreatDoorZs13
import Derived.Test.YtkfhgnkonaafgaaGreatDoorZs29
set_option maxHeartbeats 6400000
set_option maxRecDepth 100000
namespace Go.Proofs.YtkfhgnkonaafgaaGreatDoor
open Go.RowKit
def BrkOf (p:List (List Ins)) (x:Xc) (m:List Ru) (q:Int):Prop:=(q = -1∧m.all (ruleB p x)=true)∨(∃ t:Nat,q=t∧m.all (ruleB p x)=false)
theorem BrkOf.neg {p:List (List Ins)} {x:Xc} {m:List Ru} {q:Int} (h:BrkOf p x m q):decide (q < 0)=m.all (ruleB p x):=by
 rcases h with ⟨rfl,h⟩ | ⟨t,rfl,h⟩
 ·rw [h];rfl
 ·rw [h];simp
def RetBrk (w:World) (p:List (List Ins)) (x:Xc) (m:List Ru) (e:Ending) (w':World):Prop:=∃ (q:Int) (v:Value),e = .returned (.tuple #[.int .i64 q,v])∧BrkOf p x m q∧Below w.heap.size w w'
theorem ruleB_eq (p:List (List Ins)) (x:Xc) (r:Ru):ruleB p x r=holdsB (evAll p).length r.kind (evalD p x 12 r.e):=rfl
theorem validR_shape {c:Re} (h:validR c=true):shapeR 12 c=true:=by
 unfold validR at h;simp only [Bool.and_eq_true] at h;exact h.1
theorem brokenRule_any (pv:Value) (f1 o1 a:Option Addr) (f2 f3 o2 o3 n c:Nat) (p:List (List Ins)) (x:Xc) (m:List Ru) (w:World) (hp:RepP w pv p) (hx:RepX w (.slice f1 f2 f3) (.slice o1 o2 o3) x) (hm:RepM 0 w ⟨a,n,c⟩ m) (hX:execOk p x=true) (hv:∀ r∈m,validR r.e=true) (hl:p.flatten.length≤1048576) :
 Calls Tryz.prog 104 #[pv, .agg #[.slice f1 f2 f3, .slice o1 o2 o3], .slice a n c] w (RetBrk w p x m):=by
 obtain ⟨e1,hc1,hc2,hc3⟩:=hm.open
 simp only at e1 hc1 hc2 hc3
 have hpv:progValid p=true:=by unfold execOk at hX;simp only [Bool.and_eq_true] at hX;exact hX.1
 have hn15:=evAll_le hpv
 have HB:=hide (belowAlloc w (.cells #[.slice f1 f2 f3, .slice o1 o2 o3] 29))
 have HBX:=hide (heap_alloc_new w (.cells #[.slice f1 f2 f3, .slice o1 o2 o3] 29))
 have HM:=hide (hm.below HB.out)
 have HEV:=hide (fun (r:Ru) (hr:r∈m) (s:Slc) W (hb:Below w.heap.size w W) (hs:RepRk 0 W ⟨s.a,s.n,s.cap⟩ r.e.kids)=>iEval_any hX hl 12 r.e pv f1 o1 f2 f3 o2 o3 s.a s.n s.cap W (validR_shape (hv r hr)) (hp.below hb) (hx.below hb) hs)
 have HF:=hide (fun (r:Ru) u W (h:Rep IntE W u (relOf (evAll p).length (evalD p x 12 r.e)))=>fulfilled_any r.kind u (evAll p).length (evalD p x 12 r.e) W h (by omega))
 have RE:=hide (ruleB_eq p x)
 clear hp hx hm hX hv hl hpv hn15
 have H:=hide e1.symm;clear e1
 rw [H.out] at hc1 hc2
 generalize hfb:ruleB p x=fb at *
 have BE:Hid (∀ q,BrkOf p x m q↔(q = -1∧m.all fb=true)∨(∃ t:Nat,q=t∧m.all fb=false)):=hide (fun q=>by rw [← hfb];exact Iff.rfl)
 clear hfb
 generalize hW:w.alloc (.cells #[.slice f1 f2 f3, .slice o1 o2 o3] 29)=W at *
 have x0:W.cell? ⟨w.heap.size,0,none⟩=some (.slice f1 f2 f3):=cell_of_heapV HBX.out (k:=0) rfl
 have x1:W.cell? ⟨w.heap.size,1,none⟩=some (.slice o1 o2 o3):=cell_of_heapV HBX.out (k:=1) rfl
 have xl:=lt_of_cell x0
 have HX0:=hide x0;have HX1:=hide x1
 clear x0 x1 HBX
 go_enter Tryz.func104,Tryz.ntmps104
 go_wp2_with fail
 clear hW
 go_loopw [13] (fun i wr => ∃ t:Nat,t≤n∧i = .int .i64 t∧Hid (∀ r∈m.take t,fb r=true)∧Below W.heap.size W wr) (fun i _=>n - (intOf i).toNat)
 case atStart=>exact ⟨0,Nat.zero_le _,rfl,hide (by simp),Below.refl _ _⟩
 case round =>
  obtain ⟨t,ht,rfl,hno,hb⟩:=hrel
  by_cases hlt:t < n
  ·have hlt':=nat_of_lt hlt
   obtain ⟨r,hrk⟩:=get_of_lt (xs:=m) (k:=t) (by rw [H.out];exact hlt)
   obtain ⟨b,o,s,rfl,hbl,i0,i1,i2,i3,i4⟩:=(HM.out.below hb).row hrk
   have HBA:=hide (belowAlloc wr (.cells #[.int .i64 r.kind, .int .i64 r.e.op, .string r.e.nm, .slice s.a s.n s.cap] 77))
   have HBV:=hide (heap_alloc_new wr (.cells #[.int .i64 r.kind, .int .i64 r.e.op, .string r.e.nm, .slice s.a s.n s.cap] 77))
   have HC:=hide (HEV.out r (List.mem_of_getElem? hrk) s _ (HB.out.trans ((hb.trans (HBA.out.mono hb.size)).mono HB.out.size)) (i4.below HBA.out))
   have HFR:=hide (HF.out r)
   have y0:=(hb.cell (p:=⟨w.heap.size,0,none⟩) xl).trans HX0.out
   have y1:=(hb.cell (p:=⟨w.heap.size,1,none⟩) xl).trans HX1.out
   have yl:=lt_of_cell y0
   have RR:=hide (RE.out r)
   have HBR:=hide hb
   have X:=hide hrk;clear hrk i4
   generalize evalD p x 12 r.e=ef at *
   go_wp2_with fail
   (with_reducible refine HC.out.mono ?_);rintro e w2 ⟨v2,rfl,o2',hb2⟩
   have k0:=(hb2.block wr.heap.size (Array.getElem?_eq_some_iff.1 HBV.out).1).trans HBV.out
   have d0:w2.cell? ⟨wr.heap.size,0,none⟩=some (.int .i64 r.kind):=cell_of_heapV k0 (k:=0) rfl
   have dl:=lt_of_cell d0
   have HC2:=hide (HFR.out v2 w2 o2'.rep)
   rw [← RR.out] at HC2
   have HB2:=hide (HBR.out.trans ((HBA.out.trans (hb2.mono HBA.out.size)).mono HBR.out.size))
   clear k0 o2' hb2 y0 y1 yl i0 i1 i2 i3 HC
   generalize hfx:fb r=fx at *
   have FX:=hide hfx;clear hfx
   go_wp2_with fail
   (with_reducible refine HC2.out.mono ?_);rintro e w3 ⟨rfl,hb3⟩
   have HB3:=hide (HB2.out.trans (hb3.mono HB2.out.size))
   clear hb3
   cases fx
   ·have NO:=hide (allR_not X.out FX.out)
    go_wp2_with fail
    refine bodyPost_ret (v:=.tuple #[.int .i64 t,v2]) (by simp [results,Tryz.results104,go_sem]) rfl ⟨_,_,rfl,(BE.out _).2 (.inr ⟨t,rfl,NO.out⟩),HB.out.trans (HB3.out.mono HB.out.size)⟩
   ·have NO:=hide (allR_succ hno.out X.out FX.out)
    go_wp2_with fail
    go_roundw
    case rel=>exact ⟨t+1,by omega,by go_num,NO,HB3.out⟩
    case measure=>simp [intOf];omega
  ·have NO:=hide (allR_take hno.out (by rw [H.out];omega))
   go_wp2_with fail
   refine bodyPost_ret (v:=.tuple #[.int .i64 (-1), .slice none 0 0]) (by simp [results,Tryz.results104,go_sem]) rfl ⟨_,_,rfl,(BE.out _).2 (.inl ⟨rfl,NO.out⟩),HB.out.trans (hb.mono HB.out.size)⟩
def RetBrkS (w:World) (p:List (List Ins)) (x:Xc) (m:List Ru) (e:Ending) (w':World):Prop:=∃ (q:Int),e = .returned (.int .i64 q)∧BrkOf p x m q∧Below w.heap.size w w'
theorem l7Broken_any (pv:Value) (f1 o1 a:Option Addr) (f2 f3 o2 o3 n c:Nat) (p:List (List Ins)) (x:Xc) (m:List Ru) (w:World) (hp:RepP w pv p) (hx:RepX w (.slice f1 f2 f3) (.slice o1 o2 o3) x) (hm:RepM 0 w ⟨a,n,c⟩ m) (hX:execOk p x=true) (hv:∀ r∈m,validR r.e=true) (hl:p.flatten.length≤1048576) :
 Calls Tryz.prog 67 #[pv, .agg #[.slice f1 f2 f3, .slice o1 o2 o3], .slice a n c] w (RetBrkS w p x m):=by
 obtain ⟨e1,hc1,hc2,hc3⟩:=hm.open
 simp only at e1 hc1 hc2 hc3
 have hpv:progValid p=true:=by unfold execOk at hX;simp only [Bool.and_eq_true] at hX;exact hX.1
 have hn15:=evAll_le hpv
 have HB:=hide (belowAlloc w (.cells #[.slice f1 f2 f3, .slice o1 o2 o3] 29))
 have HBX:=hide (heap_alloc_new w (.cells #[.slice f1 f2 f3, .slice o1 o2 o3] 29))
 have HM:=hide (hm.below HB.out)
 have HEV:=hide (fun (r:Ru) (hr:r∈m) (s:Slc) W (hb:Below w.heap.size w W) (hs:RepRk 0 W ⟨s.a,s.n,s.cap⟩ r.e.kids)=>sEval_any hX hl 12 r.e pv f1 o1 f2 f3 o2 o3 s.a s.n s.cap W (validR_shape (hv r hr)) (hp.below hb) (hx.below hb) hs)
 have HF:=hide (fun (r:Ru) u W (h:Rep IntE W u (relOf (evAll p).length (evalD p x 12 r.e)))=>l7Holds_any r.kind u (evAll p).length (evalD p x 12 r.e) W h (by omega))
 have RE:=hide (ruleB_eq p x)
 clear hp hx hm hX hv hl hpv hn15
 have H:=hide e1.symm;clear e1
 rw [H.out] at hc1 hc2
 generalize hfb:ruleB p x=fb at *
 have BE:Hid (∀ q,BrkOf p x m q↔(q = -1∧m.all fb=true)∨(∃ t:Nat,q=t∧m.all fb=false)):=hide (fun q=>by rw [← hfb];exact Iff.rfl)
 clear hfb
 generalize hW:w.alloc (.cells #[.slice f1 f2 f3, .slice o1 o2 o3] 29)=W at *
 have x0:W.cell? ⟨w.heap.size,0,none⟩=some (.slice f1 f2 f3):=cell_of_heapV HBX.out (k:=0) rfl
 have x1:W.cell? ⟨w.heap.size,1,none⟩=some (.slice o1 o2 o3):=cell_of_heapV HBX.out (k:=1) rfl
 have xl:=lt_of_cell x0
 have HX0:=hide x0;have HX1:=hide x1
 clear x0 x1 HBX
 go_enter Tryz.func67,Tryz.ntmps67
 go_wp2_with fail
 clear hW
 go_loopw [7] (fun i wr => ∃ t:Nat,t≤n∧i = .int .i64 t∧Hid (∀ r∈m.take t,fb r=true)∧Below W.heap.size W wr) (fun i _=>n - (intOf i).toNat)
 case atStart=>exact ⟨0,Nat.zero_le _,rfl,hide (by simp),Below.refl _ _⟩
 case round =>
  obtain ⟨t,ht,rfl,hno,hb⟩:=hrel
  by_cases hlt:t < n
  ·have hlt':=nat_of_lt hlt
   obtain ⟨r,hrk⟩:=get_of_lt (xs:=m) (k:=t) (by rw [H.out];exact hlt)
   obtain ⟨b,o,s,rfl,hbl,i0,i1,i2,i3,i4⟩:=(HM.out.below hb).row hrk
   have HC:=hide (HEV.out r (List.mem_of_getElem? hrk) s wr.drew (HB.out.trans ((hb.drew).mono HB.out.size)) (i4.below (Below.refl _ _).drew))
   have HFR:=hide (HF.out r)
   have y0:=(hb.cell (p:=⟨w.heap.size,0,none⟩) xl).trans HX0.out
   have y1:=(hb.cell (p:=⟨w.heap.size,1,none⟩) xl).trans HX1.out
   have yl:=lt_of_cell y0
   have RR:=hide (RE.out r)
   have HBR:=hide hb
   have X:=hide hrk;clear hrk i4
   generalize evalD p x 12 r.e=ef at *
   generalize hfx:fb r=fx at *
   have FX:=hide hfx;clear hfx
   go_wp2_with fail
   go_region_held3 (fun V=>V.cell? ⟨w.heap.size,0,none⟩=some (.slice f1 f2 f3)∧V.cell? ⟨w.heap.size,1,none⟩=some (.slice o1 o2 o3)∧V.cell? ⟨b,o+t * 4,none⟩=some (.int .i64 r.kind)∧V.cell? ⟨b,o+t * 4+1,none⟩=some (.int .i64 r.e.op)∧V.cell? ⟨b,o+t * 4+2,none⟩=some (.string r.e.nm)∧V.cell? ⟨b,o+t * 4+3,none⟩=some (.slice s.a s.n s.cap)) ((simp [go_sem, *]))
    (first
     | (go_at_call 114;(with_reducible refine HC.out.mono ?_);rintro e w2 ⟨v2,rfl,ov,hb2⟩;have HB2:=hide ((Below.refl wr.heap.size wr).drew.trans (hb2.mono (by simp)));have HC2:=hide (HFR.out v2 w2 ov.rep);rw [← RR.out] at HC2;obtain ⟨hcc2,hff2⟩:=bcell HB2.out;clear ov hb2)
     | (go_at_call 113;(with_reducible refine HC2.out.mono ?_);rintro e w3 ⟨rfl,hb3⟩;have HB3:=hide (HB2.out.trans (hb3.mono HB2.out.size));obtain ⟨hcc3,hff3⟩:=bcell HB3.out;clear hb3))
   all_goals
    have HB4:=hide (HBR.out.trans (HB3.out.mono HBR.out.size))
    clear HB2 HB3 HC HC2 y0 y1 yl i0 i1 i2 i3
    cases fx
    ·have NO:=hide (allR_not X.out FX.out)
     go_wp2_with fail
     go_ret
     exact ⟨_,rfl,(BE.out _).2 (.inr ⟨t,rfl,NO.out⟩),HB.out.trans (HB4.out.mono HB.out.size)⟩
    ·have NO:=hide (allR_succ hno.out X.out FX.out)
     go_wp2_with fail
     go_roundw
     case rel=>exact ⟨t+1,by omega,by go_num,NO,HB4.out⟩
     case measure=>simp [intOf];omega
  ·have NO:=hide (allR_take hno.out (by rw [H.out];omega))
   go_wp2_with fail
   go_ret
   exact ⟨_,rfl,(BE.out _).2 (.inl ⟨rfl,NO.out⟩),HB.out.trans (hb.mono HB.out.size)⟩
theorem allowB_eq (p:List (List Ins)) (m:List Ru) (x:Xc):allowB p m x=(valsOk p x.fr&&m.all (ruleB p x)):=rfl
theorem allowed_any (pv:Value) (f1 o1 a:Option Addr) (f2 f3 o2 o3 n c:Nat) (p:List (List Ins)) (x:Xc) (m:List Ru) (w:World) (hp:RepP w pv p) (hx:RepX w (.slice f1 f2 f3) (.slice o1 o2 o3) x) (hm:RepM 0 w ⟨a,n,c⟩ m) (hX:execOk p x=true) (hv:∀ r∈m,validR r.e=true) (hl:p.flatten.length≤1048576) :
 Calls Tryz.prog 60 #[pv, .agg #[.slice f1 f2 f3, .slice o1 o2 o3], .slice a n c] w fun e w'=>e = .returned (.bool (allowB p m x))∧Below w.heap.size w w':=by
 have HB:=hide (belowAlloc w (.cells #[.slice f1 f2 f3, .slice o1 o2 o3] 29))
 have HBX:=hide (heap_alloc_new w (.cells #[.slice f1 f2 f3, .slice o1 o2 o3] 29))
 have HV:=hide (valuesOf_any pv (.slice f1 f2 f3) (.slice o1 o2 o3) p x _ (hp.below HB.out) (hx.below HB.out) hl hX)
 have HK:=hide (fun W (hb:Below w.heap.size w W)=>brokenRule_any pv f1 o1 a f2 f3 o2 o3 n c p x m W (hp.below hb) (hx.below hb) (hm.below hb) hX hv hl)
 have AE:=hide (allowB_eq p m x)
 clear hp hx hm hX hv hl
 generalize allowB p m x=R at *
 generalize valsOk p x.fr=vo at *
 generalize hW:w.alloc (.cells #[.slice f1 f2 f3, .slice o1 o2 o3] 29)=W at *
 have x0:W.cell? ⟨w.heap.size,0,none⟩=some (.slice f1 f2 f3):=cell_of_heapV HBX.out (k:=0) rfl
 have x1:W.cell? ⟨w.heap.size,1,none⟩=some (.slice o1 o2 o3):=cell_of_heapV HBX.out (k:=1) rfl
 have xl:=lt_of_cell x0
 clear HBX
 cases vo
 ·have RF:Hid (R=false):=hide (by rw [AE.out];rfl)
  go_enter Tryz.func60,Tryz.ntmps60
  go_wp2_with fail
  clear hW
  (with_reducible refine HV.out.mono ?_);rintro e w1 ⟨u,rfl, -,hb1⟩
  go_wp2_with fail
  go_ret
  exact ⟨by rw [RF.out];rfl,HB.out.trans (hb1.mono HB.out.size)⟩
 ·have RA:Hid (R=m.all (ruleB p x)):=hide (by rw [AE.out];rfl)
  go_enter Tryz.func60,Tryz.ntmps60
  go_wp2_with fail
  clear hW
  (with_reducible refine HV.out.mono ?_);rintro e w1 ⟨u,rfl, -,hb1⟩
  have y0:=(hb1.cell (p:=⟨w.heap.size,0,none⟩) xl).trans x0
  have y1:=(hb1.cell (p:=⟨w.heap.size,1,none⟩) xl).trans x1
  have yl:=lt_of_cell y0
  have HB1:=hide (HB.out.trans (hb1.mono HB.out.size))
  have HK1:=hide (HK.out _ HB1.out)
  clear x0 x1 xl hb1 HV
  go_wp2_with fail
  (with_reducible refine HK1.out.mono ?_);rintro e w2 ⟨q,v,rfl,hq,hb2⟩
  have NG:=hide hq.neg
  clear hq
  go_wp2_with fail
  go_ret
  exact ⟨by rw [RA.out,← NG.out];rfl,HB1.out.trans (hb2.mono HB1.out.size)⟩
end Go.Proofs.YtkfhgnkonaafgaaGreatDoor
namespace Go.Proofs.YtkfhgnkonaafgaaGreatDoor
open Go.RowKit
def allowV (p:List (List Ins)) (m:List Ru):List Xc:=if progValid p=true∧modelOk m=true then allowL p m else []
theorem modelOk_rules {m:List Ru} (h:modelOk m=true):∀ r∈m,validR r.e=true:=by
 intro r hr
 unfold modelOk at h
 simp only [Bool.and_eq_true] at h
 have:=List.all_eq_true.1 h.2.2 r hr
 unfold ruleOk at this
 simp only [Bool.and_eq_true] at this
 exact this.2
theorem allowedC_any (B1 B2:Nat) (pa f1 o1 a:Option Addr) (pn pc f2 f3 o2 o3 n c:Nat) (p:List (List Ins)) (x:Xc) (m:List Ru) (w:World) (c1:w.cell? ⟨B1,0,none⟩=some (.slice pa pn pc)) (c2:w.cell? ⟨B2,0,none⟩=some (.slice a n c))
 (hp:RepP w (.slice pa pn pc) p) (hx:RepX w (.slice f1 f2 f3) (.slice o1 o2 o3) x) (hm:RepM 0 w ⟨a,n,c⟩ m) (hX:execOk p x=true) (hv:∀ r∈m,validR r.e=true) (hl:p.flatten.length≤1048576) :
 Calls Tryz.prog 59 #[.agg #[.slice f1 f2 f3, .slice o1 o2 o3], .pointer (some ⟨B1,0,none⟩), .pointer (some ⟨B2,0,none⟩)] w fun e w'=>e = .returned (.bool (!allowB p m x))∧Below w.heap.size w w':=by
 have HB:=hide (belowAlloc w (.cells #[.slice f1 f2 f3, .slice o1 o2 o3] 29))
 have d1:=(HB.out.cell (p:=⟨B1,0,none⟩) (lt_of_cell c1)).trans c1
 have d2:=(HB.out.cell (p:=⟨B2,0,none⟩) (lt_of_cell c2)).trans c2
 have l1:=lt_of_cell c1;have l2:=lt_of_cell c2
 have HC:=hide (allowed_any (.slice pa pn pc) f1 o1 a f2 f3 o2 o3 n c p x m _ (hp.below HB.out) (hx.below HB.out) (hm.below HB.out) hX hv hl)
 clear hp hx hm hX hv hl d1 d2
 generalize allowB p m x=R at *
 go_enter Tryz.func59,Tryz.ntmps59
 go_wp2_with fail
 (with_reducible refine HC.out.mono ?_);rintro e w2 ⟨rfl,hb2⟩
 go_wp2_with fail
 go_ret
 exact ⟨rfl,HB.out.trans (hb2.mono HB.out.size)⟩
theorem pe_zip {φ:Dd→World→Sl2→Xc→Prop} {us:List Sl2} {ds:List Dd} {w:World} {base:Nat} {v:Value} {L:List Xc} (h:OwnFU XE 29 Rafter φ us ds w base v L):Own PE 29 w base v (us.zip (ds.zip L)):=by
 refine PE.own.2 ?_
 rw [(zipX h.lu h.ld).2.2];exact h.own
theorem filter_nn {α:Type} (f:α→Bool) (xs:List α):(xs.filter fun x => !(!f x))=xs.filter f:=by congr 1;funext x;rw [Bool.not_not]
def RetXs (w:World) (L:List Xc) (e:Ending) (w':World):Prop:=∃ u:Slc,e = .returned (.slice u.a u.n u.cap)∧RowsX w' w.heap.size u.v L∧Below w.heap.size w w'
def RetXso (w:World) (L:List Xc) (e:Ending) (w':World):Prop:=∃ u:Slc,e = .returned (.slice u.a u.n u.cap)∧RowsXo w' w.heap.size u.v L∧Below w.heap.size w w'
theorem AllowedExecs_anyO (pv:Value) (a:Option Addr) (n c:Nat) (p:List (List Ins)) (m:List Ru) (w:World) (hp:RepP w pv p) (hm:RepM 0 w ⟨a,n,c⟩ m) (hl:p.flatten.length≤1048576) (hg:Glob w) :
 Calls Tryz.prog 30 #[pv, .slice a n c] w (RetXso w (allowV p m)):=by
 obtain ⟨pa,pc,rfl, -, -, -, -⟩:=hp.open
 have HB1:=hide (belowAlloc w (.cells #[.slice pa p.length pc] 32))
 have X1:=hide (heap_alloc_new w (.cells #[.slice pa p.length pc] 32))
 have hz1:(w.alloc (.cells #[.slice pa p.length pc] 32)).heap.size=w.heap.size+1:=by simp
 have HB2:=hide (belowAlloc (w.alloc (.cells #[.slice pa p.length pc] 32)) (.cells #[.slice a n c] 34))
 have X2:=hide (heap_alloc_new (w.alloc (.cells #[.slice pa p.length pc] 32)) (.cells #[.slice a n c] 34))
 rw [hz1] at X2
 have Y1:=hide ((HB2.out.block w.heap.size (by omega)).trans X1.out)
 have HB:=hide (HB1.out.trans (HB2.out.mono HB1.out.size))
 clear X1 HB1 HB2 hz1
 have EV:Hid (allowV p m=if progValid p=true∧modelOk m=true then allowL p m else []):=hide rfl
 have HL:Hid (allowL p m=(allX (evAll p)).filter (allowB p m)):=hide rfl
 have HP:=hide (hp.below HB.out);have HM:=hide (hm.below HB.out);have HG:=hide (hg.below HB.out)
 generalize hW:(w.alloc (.cells #[.slice pa p.length pc] 32)).alloc (.cells #[.slice a n c] 34)=W at *
 have c1:W.cell? ⟨w.heap.size,0,none⟩=some (.slice pa p.length pc):=cell_of_heapV Y1.out (k:=0) rfl
 have c2:W.cell? ⟨w.heap.size+1,0,none⟩=some (.slice a n c):=cell_of_heapV X2.out (k:=0) rfl
 have l1:=lt_of_cell c1;have l2:=lt_of_cell c2
 have HV:=hide (ProgramValid_any (.slice pa p.length pc) p W HP.out hl)
 have HMV:=hide (fun w' (hb:Below W.heap.size W w')=>ModelValid_any a n c m w' (HM.out.below hb) (HG.out.below hb))
 have HE:=hide (fun w' (hb:Below W.heap.size W w') hpv=>allExecs_anyO (.slice pa p.length pc) p w' (HP.out.below hb) hl hpv)
 have PV:Hid (progValid p=true→progValid p=true):=hide id
 have MV:=hide (@modelOk_rules m)
 have XO:=hide (fun (hpv:progValid p=true) (x:Xc) hx=>allX_ok (p:=p) hpv (x:=x) hx)
 have XN:=hide (fun (hpv:progValid p=true)=>allX_le hpv)
 clear hp hm hg X2 Y1
 have B1:Hid (∀ b,progValid p=b→progValid p=b):=hide fun _ h=>h
 generalize hb1:progValid p=b1 at *
 generalize hb2:modelOk m=b2 at *
 have Hb1:=hide hb1;have Hb2:=hide hb2
 clear hb1 hb2 B1 PV
 rcases Bool.eq_false_or_eq_true (b1&&b2) with hbb | hbb
 ·simp only [Bool.and_eq_true] at hbb
  obtain ⟨rfl,rfl⟩:=hbb
  have EL:Hid (allowV p m=(allX (evAll p)).filter (allowB p m)):=hide (by rw [EV.out,if_pos ⟨rfl,rfl⟩,HL.out])
  generalize allowV p m=R at *
  clear EV HL
  go_enter Tryz.func30,Tryz.ntmps30
  go_wp2_with fail
  clear hW
  (with_reducible refine HV.out.mono ?_);rintro e w4 ⟨rfl,hb4⟩
  have g2:=(hb4.cell (p:=⟨w.heap.size+1,0,none⟩) l2).trans c2
  have g2l:=lt_of_cell g2
  have HM4:=hide (HMV.out w4 hb4)
  have HB4:=hide hb4
  clear hb4
  go_wp2_with fail
  (with_reducible refine HM4.out.mono ?_);rintro e w5 ⟨rfl,hb5'⟩
  have hb5:=HB4.out.trans (hb5'.mono HB4.out.size)
  clear hb5' g2 g2l
  have d1:=(hb5.cell (p:=⟨w.heap.size,0,none⟩) l1).trans c1
  have k1:=lt_of_cell d1
  have HB5:=hide hb5
  have HE5:=hide (HE.out w5 hb5 trivial)
  have D1:=hide d1
  have D2:=hide ((hb5.cell (p:=⟨w.heap.size+1,0,none⟩) l2).trans c2)
  clear hb5 HV HMV HE c1 c2
  go_wp2_with fail
  (with_reducible refine HE5.out.mono ?_);rintro e w6 ⟨⟨ua,un,uc⟩,rfl,⟨us,ds,hu⟩,hb6⟩
  have HU:=hide hu
  have hsz:=hb6.size
  have hlz:(us.zip (ds.zip (allX (evAll p)))).length≤1048576:=by
   rw [List.length_zip,hu.lu]
   have:=XN.out trivial;omega
  have HT:Hid (TestsX ⟨w.heap.size,0,none⟩ ⟨w.heap.size+1,0,none⟩ (fun q => !allowB p m q.2.2) (us.zip (ds.zip (allX (evAll p)))) w6 (Slc.v ⟨ua,un,uc⟩).ownBlock):=hide (by
   intro q hq w' hgr
   have hrow:=((zipX_row HU.out hq).2.grown HU.out.own hgr).now.rep
   have hbb:Below w5.heap.size w5 w':=hb6.trans (below_row hgr hsz (fun k hk=>(World.ownsRow.lt HU.out.own k hk).1))
   have hqL:q.2.2∈allX (evAll p):=by
    have:=(zipX HU.out.lu HU.out.ld).1
    rw [← this];exact List.mem_map.2 ⟨q,hq,rfl⟩
   have h1:=(hbb.cell (p:=⟨w.heap.size,0,none⟩) (lt_of_cell D1.out)).trans D1.out
   have h2:=(hbb.cell (p:=⟨w.heap.size+1,0,none⟩) (lt_of_cell D2.out)).trans D2.out
   exact allowedC_any w.heap.size (w.heap.size+1) pa q.1.f.a q.1.o.a a p.length pc q.1.f.n q.1.f.cap q.1.o.n q.1.o.cap n c p q.2.2 m w' h1 h2 ((HP.out.below HB5.out).below hbb) hrow ((HM.out.below HB5.out).below hbb) (XO.out trivial _ hqL) (MV.out trivial) hl)
  have HD:=hide (DeleteFunc_ax ⟨w.heap.size,0,none⟩ ⟨w.heap.size+1,0,none⟩ (Slc.v ⟨ua,un,uc⟩) (us.zip (ds.zip (allX (evAll p)))) (fun q => !allowB p m q.2.2) w6 w5.heap.size (pe_zip hu) hlz HT.out)
  have HB6:=hide (HB.out.trans ((HB5.out.trans (hb6.mono HB5.out.size)).mono HB.out.size))
  have hbs:w.heap.size≤w5.heap.size:=Nat.le_trans HB.out.size HB5.out.size
  clear hu hb6 HT hlz HE5
  go_wp2_with fail
  (with_reducible refine HD.out.mono ?_);rintro e w7 ⟨v7,rfl,o7,hg7, -⟩
  rw [filter_nn (fun q:XP=>allowB p m q.2.2)] at o7
  have R7:=RowsX.filter HU.out (f:=allowB p m) o7 (Nat.le_refl _) (fun q hq=>(zipX_row HU.out hq).2.grown HU.out.own hg7)
  obtain ⟨⟨va,vn,vc⟩,rfl, -⟩:=o7.toSlc
  have HR7:=hide (R7.mono hbs)
  have HB7:=hide (below_row hg7 (B:=w.heap.size) (Nat.le_trans hbs hsz) (fun k hk=>Nat.le_trans hbs (World.ownsRow.lt HU.out.own k hk).1))
  clear R7 o7 hg7
  go_wp2_with fail
  go_ret
  exact ⟨⟨va,vn,vc⟩,rfl,by rw [EL.out];exact HR7.out,HB6.out.trans HB7.out⟩
 ·have EL:Hid (allowV p m=[]):=hide (by
   rw [EV.out,if_neg]
   rintro ⟨rfl,rfl⟩;cases hbb)
  generalize allowV p m=R at *
  clear EV HL
  cases b1
  ·go_enter Tryz.func30,Tryz.ntmps30
   go_wp2_with fail
   clear hW
   (with_reducible refine HV.out.mono ?_);rintro e w5 ⟨rfl,hb5⟩
   go_wp2_with fail
   go_ret
   exact ⟨⟨none,0,0⟩,rfl,by rw [EL.out];exact OwnF.nil _ _ _,HB.out.trans (hb5.mono HB.out.size)⟩
  ·obtain rfl:b2=false:=by simpa using hbb
   go_enter Tryz.func30,Tryz.ntmps30
   go_wp2_with fail
   clear hW
   (with_reducible refine HV.out.mono ?_);rintro e w4 ⟨rfl,hb4⟩
   have g2:=(hb4.cell (p:=⟨w.heap.size+1,0,none⟩) l2).trans c2
   have g2l:=lt_of_cell g2
   have HM4:=hide (HMV.out w4 hb4)
   have HB4:=hide hb4
   clear hb4
   go_wp2_with fail
   (with_reducible refine HM4.out.mono ?_);rintro e w5 ⟨rfl,hb5'⟩
   have hb5:=HB4.out.trans (hb5'.mono HB4.out.size)
   go_wp2_with fail
   go_ret
   exact ⟨⟨none,0,0⟩,rfl,by rw [EL.out];exact OwnF.nil _ _ _,HB.out.trans (hb5.mono HB.out.size)⟩
theorem AllowedExecs_any (pv:Value) (a:Option Addr) (n c:Nat) (p:List (List Ins)) (m:List Ru) (w:World) (hp:RepP w pv p) (hm:RepM 0 w ⟨a,n,c⟩ m) (hl:p.flatten.length≤1048576) (hg:Glob w) :
 Calls Tryz.prog 30 #[pv, .slice a n c] w (RetXs w (allowV p m)):=
 (AllowedExecs_anyO pv a n c p m w hp hm hl hg).mono fun _ _ ⟨u,h1,h2,h3⟩=>⟨u,h1,h2.weak,h3⟩
end Go.Proofs.YtkfhgnkonaafgaaGreatDoor
namespace Go.Proofs.YtkfhgnkonaafgaaGreatDoor
def outX (p:List (List Ins)) (x:Xc):List Int:=outL p (evAll p) x (valsL p x.fr)
def putsM (p:List (List Ins)) (L:List Xc):List (List Int):=L.foldl (fun acc x=>putO (outX p x) acc) []
def outsM (p:List (List Ins)) (m:List Ru):List (List Int):=putsM p (allowV p m)
theorem allowV_ok {p:List (List Ins)} {m:List Ru} {x:Xc} (h:x∈allowV p m):progValid p=true∧execOk p x=true∧valsOk p x.fr=true:=by
 unfold allowV at h
 split at h
 ·rename_i hv
  unfold allowL at h
  rw [List.mem_filter,allowB_eq,Bool.and_eq_true] at h
  exact ⟨hv.1,allX_ok hv.1 h.1,h.2.1⟩
 ·simp at h
theorem allowV_le (p:List (List Ins)) (m:List Ru):(allowV p m).length≤3000:=by
 unfold allowV
 split
 ·rename_i hv
  exact Nat.le_trans (List.length_filter_le _ _) (allX_le hv.1)
 ·simp
theorem outX_length (p:List (List Ins)) (x:Xc):(outX p x).length=3 * p.length+3:=outL_length _ _ _ _
theorem putsM_snoc (p:List (List Ins)) (L:List Xc) (x:Xc):putsM p (L++[x])=putO (outX p x) (putsM p L):=by unfold putsM;rw [List.foldl_append];rfl
theorem putsM_ok (p:List (List Ins)):∀ L:List Xc,OutsOk (3 * p.length+3) (putsM p L)∧(∀ o,o∈putsM p L↔o∈L.map (outX p))∧(putsM p L).length≤L.length:=by
 have key:∀ (L:List Xc) (acc:List (List Int)),OutsOk (3 * p.length+3) acc→OutsOk (3 * p.length+3) (L.foldl (fun acc x=>putO (outX p x) acc) acc)∧(∀ o,o∈L.foldl (fun acc x=>putO (outX p x) acc) acc↔o∈acc∨o∈L.map (outX p))∧(L.foldl (fun acc x=>putO (outX p x) acc) acc).length≤acc.length+L.length:=by
  intro L
  induction L with
  | nil=>intro acc h;exact ⟨h,fun o=>by simp,by simp⟩
  | cons x L ih =>
   intro acc h
   obtain ⟨h1,h2,h3⟩:=ih (putO (outX p x) acc) (putO_ok (outX_length p x) h)
   refine ⟨h1,fun o => ?_, ?_⟩
   ·rw [List.foldl_cons,h2,putO_mem (outX_length p x) h.len,List.map_cons,List.mem_cons]
    constructor
    ·rintro ((q | q) | q)
     ·exact .inr (.inl q)
     ·exact .inl q
     ·exact .inr (.inr q)
    ·rintro (q | q | q)
     ·exact .inl (.inr q)
     ·exact .inl (.inl q)
     ·exact .inr q
   ·have hp:∀ (o:List Int) (l:List (List Int)),(putO o l).length≤l.length+1:=by
     intro o l
     induction l with
     | nil=>simp [putO]
     | cons y l ih2 =>
      unfold putO
      split
      ·simp only [List.length_cons];omega
      ·split
       ·simp
       ·simp
    have:=hp (outX p x) acc
    simp only [List.foldl_cons,List.length_cons]
    omega
 intro L
 have:=key L [] ⟨fun o h=>by simp at h, .nil⟩
 refine ⟨this.1,fun o => ?_,by have h:=this.2.2;simp only [List.length_nil,Nat.zero_add] at h;exact h⟩
 rw [show putsM p L=L.foldl (fun acc x=>putO (outX p x) acc) [] from rfl,this.2.1]
 simp
end Go.Proofs.YtkfhgnkonaafgaaGreatDoor
namespace Go.Proofs.YtkfhgnkonaafgaaGreatDoor
open Go.RowKit
theorem take_filter_succ {α:Type} {f:α→Bool} {Z:List α} {k:Nat} {q:α} (h:Z[k]? = some q):(Z.take (k+1)).filter f=(Z.take k).filter f++if f q=true then [q] else []:=by
 rw [List.take_add_one,h,List.filter_append]
 simp only [Option.toList_some,List.filter_cons,List.filter_nil]
theorem l8Allowed_any (pv:Value) (a:Option Addr) (n c:Nat) (p:List (List Ins)) (m:List Ru) (w:World) (hp:RepP w pv p) (hm:RepM 0 w ⟨a,n,c⟩ m) (hl:p.flatten.length≤1048576) (hpv:progValid p=true) (hv:∀ r∈m,validR r.e=true) :
 Calls Tryz.prog 35 #[pv, .slice a n c] w (RetXs w (allowL p m)):=by
 obtain ⟨pa,pc,rfl, -, -, -, -⟩:=hp.open
 have hb0:=belowAlloc w (.cells #[] 29)
 have ho0:Own PE 29 (w.alloc (.cells #[] 29)) w.heap.size (.slice (some ⟨w.heap.size,0,none⟩) 0 0) []:=Own.empty _ w (Nat.le_refl _)
 have hz0:(w.alloc (.cells #[] 29)).heap.size=w.heap.size+1:=by simp
 have HA:=hide (l6All_any (.slice pa p.length pc) p _ (hp.below hb0) hl hpv)
 rw [hz0] at HA
 have HP:=hide hp;have HM:=hide hm
 have XO:=hide (fun (x:Xc) hx=>allX_ok (p:=p) hpv (x:=x) hx)
 have XN:=hide (allX_le hpv)
 have HVS:=hide (fun W (f o:Slc) (x:Xc) (h:RepP W (.slice pa p.length pc) p) (h':RepX W f.v o.v x) (hx:execOk p x=true)=>l6Values_any (.slice pa p.length pc) f.v o.v p x W h h' hl hx)
 have HBK:=hide (fun W (f o:Slc) (x:Xc) (h:RepP W (.slice pa p.length pc) p) (h':RepX W f.v o.v x) (h2:RepM 0 W ⟨a,n,c⟩ m) (hx:execOk p x=true)=>l7Broken_any (.slice pa p.length pc) f.a o.a a f.n f.cap o.n o.cap n c p x m W h h' h2 hx hv hl)
 have EL:Hid (allowL p m=(allX (evAll p)).filter (allowB p m)):=hide rfl
 have AE:=hide (fun x=>allowB_eq p m x)
 clear hp hm hpv hv
 generalize allowL p m=R at *
 generalize hfA:allowB p m=fA at *
 clear hfA
 generalize allX (evAll p)=L at *
 go_enter Tryz.func35,Tryz.ntmps35
 go_wp2_with fail
 (with_reducible refine HA.out.mono ?_);rintro e w2 ⟨⟨ua,un,uc⟩,rfl,⟨us,ds,hu⟩,hb2⟩
 have HU:=hide hu
 have hun:un=L.length:=by
  have h1:=hu.own.len
  rw [hu.lu] at h1;exact h1
 have HUN:=hide hun
 have hz2:w.heap.size+1≤w2.heap.size:=by have h1:=hb2.size;rw [hz0] at h1;exact h1
 have hU2:un≤3000:=by rw [HUN.out];exact XN.out
 have O2:=hide (ho0.below (by rw [hz0];exact hb2))
 have B2:=hide (hb0.trans (hb2.mono (by omega)))
 clear hu hun HA ho0 hb0 hz0 hb2
 go_wp2_with fail
 go_loopw [5,7] (fun s i wr => ∃ k:Nat,k≤un∧i = .int .i64 k∧Own PE 29 wr w.heap.size s (((us.zip (ds.zip L)).take k).filter fun q=>fA q.2.2)∧Hid (∀ g,s.ownBlock=some g→g=w.heap.size∨w2.heap.size≤g)∧Hid (Same (w.heap.size+1) w2.heap.size w2 wr)∧Hid (Below w.heap.size w wr)) (fun _ i _=>un - (intOf i).toNat)
 case atStart=>exact ⟨0,Nat.zero_le _,rfl,by simpa using O2.out,hide (fun g hg=>by simp [Value.ownBlock] at hg;exact .inl hg.symm),hide (Same.ofBelow (Below.refl _ _) (Nat.le_refl _)),B2⟩
 case round =>
  obtain ⟨k,hk,rfl,ho,HOB,HS,HBW⟩:=hrel
  have hsz:=HS.out.size
  by_cases hlt:k < un
  ·have hlt':=nat_of_lt hlt
   obtain ⟨x,hxk⟩:=get_of_lt (xs:=L) (k:=k) (by rw [← HUN.out];exact hlt)
   obtain ⟨u,d,g,hu1,hd1,hga,hg1,hg2,hcell,hdl,hloc⟩:=HU.out.at hxk
   subst hga
   have hqk:(us.zip (ds.zip L))[k]? = some (u,d,x):=List.getElem?_zip_eq_some.2 ⟨hu1,List.getElem?_zip_eq_some.2 ⟨hd1,hxk⟩⟩
   have hblk:=HS.out.block g (by omega) hg2
   have c0:wr.cell? ⟨g,k * 2,none⟩=some (.slice u.f.a u.f.n u.f.cap):=by
    rw [cell_of_block hblk];have:=hcell 0 _ rfl;simpa [XE] using this
   have c1:wr.cell? ⟨g,k * 2+1,none⟩=some (.slice u.o.a u.o.n u.o.cap):=by
    rw [cell_of_block hblk];have:=hcell 1 _ rfl;simpa [XE] using this
   have cl:=lt_of_cell c0
   have hRX:RepX wr u.f.v u.o.v x:=hloc.keep wr (fun q ob h1 h2 h3 _=>(HS.out.block q (by omega) (by have:=hloc.le;omega)).trans h3)
   have hok:=XO.out x (List.mem_of_getElem? hxk)
   have HV1:=hide (HVS.out wr u.f u.o x (HP.out.below HBW.out) hRX hok)
   have HB1:=hide (fun W (hb:Below wr.heap.size wr W)=>HBK.out W u.f u.o x ((HP.out.below HBW.out).below hb) (hRX.below hb) ((HM.out.below HBW.out).below hb) hok)
   have TS:=hide (take_filter_succ (f:=fun q:XP=>fA q.2.2) hqk)
   have AX:=hide (AE.out x)
   have hlen:(((us.zip (ds.zip L)).take k).filter fun q=>fA q.2.2).length≤68719476736:=by
    have h2:((us.zip (ds.zip L)).take k).length≤k:=by rw [List.length_take];exact Nat.min_le_left _ _
    exact Nat.le_trans (List.length_filter_le _ _) (Nat.le_trans h2 (by omega))
   generalize (((us.zip (ds.zip L)).take k).filter fun q=>fA q.2.2)=G at *
   generalize hfx:fA x=fx at *
   generalize valsOk p x.fr=vo at *
   obtain ⟨⟨fa,fn,fc⟩,⟨oa,on,oc⟩⟩:=u
   simp only at c0 c1
   have HO:=hide ho
   clear hu1 hd1 hcell hloc hxk hblk hRX hok ho
   cases vo
   ·have FX:Hid (fx=false):=hide (by rw [AX.out];rfl)
    go_wp2_with fail
    (with_reducible refine HV1.out.mono ?_);rintro e w3 ⟨⟨va,vn,vc⟩,rfl, -,hb3⟩
    have HB3:=hide hb3;clear hb3
    go_wp2_with fail
    go_roundw
    case rel =>
     refine ⟨k+1,by omega,by go_num, ?_,HOB,hide (HS.out.trans (Same.ofBelow HB3.out hsz)),hide (HBW.out.trans (HB3.out.mono HBW.out.size))⟩
     rw [TS.out];simp only [FX.out,Bool.false_eq_true,if_false,List.append_nil];exact HO.out.below HB3.out
    case measure=>simp [intOf];omega
   ·go_wp2_with fail
    (with_reducible refine HV1.out.mono ?_);rintro e w3 ⟨⟨va,vn,vc⟩,rfl, -,hb3⟩
    have c0':=(hb3.cell (p:=⟨g,k * 2,none⟩) cl).trans c0
    have c1':=(hb3.cell (p:=⟨g,k * 2+1,none⟩) cl).trans c1
    have cl':=lt_of_cell c0'
    have HB4:=hide (HB1.out w3 hb3)
    have HB3:=hide hb3
    clear hb3 c0 c1 cl
    go_wp2_with fail
    (with_reducible refine HB4.out.mono ?_);rintro e w4 ⟨q4,rfl,hq,hb4⟩
    have NG:Hid (decide (q4 < 0)=fx):=hide (by rw [hq.neg,AX.out];rfl)
    have c0'':=(hb4.cell (p:=⟨g,k * 2,none⟩) cl').trans c0'
    have c1'':=(hb4.cell (p:=⟨g,k * 2+1,none⟩) cl').trans c1'
    have cl'':=lt_of_cell c0''
    have HB5:=hide (HB3.out.trans (hb4.mono HB3.out.size))
    have O5:=hide (HO.out.below HB5.out)
    have hs5:=HB5.out.size
    clear hb4 c0' c1' cl' hq HB4
    cases fx
    ·have hq0:decide (q4 < 0)=false:=NG.out
     go_wp2_with fail
     go_roundw
     case rel =>
      refine ⟨k+1,by omega,by go_num, ?_,HOB,hide (HS.out.trans (Same.ofBelow HB5.out hsz)),hide (HBW.out.trans (HB5.out.mono HBW.out.size))⟩
      rw [TS.out];simp only [Bool.false_eq_true,if_false,List.append_nil];exact O5.out
     case measure=>simp [intOf];omega
    ·have hq0:decide (q4 < 0)=true:=NG.out
     go_wp2_with (at_builtin;refine wpList_appAt PE 29 Tryz.infoExecY rfl Tryz.underlying54 w.heap.size _ G (⟨⟨⟨fa,fn,fc⟩,⟨oa,on,oc⟩⟩,d,x⟩:XP) (O5.out.alloc _) (by decide) hlen (by simp;have:=HBW.out.size;omega) rfl _ _ rfl rfl w4.heap.size 0 1 rfl news_alloc ?_;intro v' w5 hown5 hgr5 hbl5)
     have hS5:Same (w.heap.size+1) w2.heap.size w2 w5:=by
      refine HS.out.trans ((Same.ofBelow (HB5.out.trans (belowAlloc w4 (.cells #[.slice fa fn fc, .slice oa on oc] 29) |>.mono hs5)) hsz).trans ⟨hgr5.os,hgr5.tape,hgr5.output,hgr5.size,fun q h1 h2=>hgr5.block q (by simp;omega) (fun e => ?_)⟩)
      rcases HOB.out q e.symm with h3 | h3 <;> omega
     have hW5:Below w.heap.size w w5:=by
      refine (HBW.out.trans ((HB5.out.trans ((belowAlloc w4 (.cells #[.slice fa fn fc, .slice oa on oc] 29)).mono hs5)).mono HBW.out.size)).grown hgr5 (by simp;have:=HBW.out.size;omega) (fun q hq=>(World.ownsRow.lt HO.out q hq).1)
     have hOB5:∀ g,v'.ownBlock=some g→g=w.heap.size∨w2.heap.size≤g:=by
      intro g' hg'
      rcases hbl5 with h3 | h3
      ·rw [h3] at hg';exact HOB.out g' hg'
      ·obtain ⟨z,h4,h5⟩:=h3
       rw [h4] at hg';simp at hg' h5;exact .inr (by omega)
     have HS5:=hide hS5;have HW5:=hide hW5;have HOB5:=hide hOB5;have HO5:=hide hown5
     clear hS5 hW5 hOB5 hown5 hgr5 hbl5
     go_roundw
     case rel =>
      refine ⟨k+1,by omega,by go_num, ?_,HOB5,HS5,HW5⟩
      rw [TS.out];simp only [if_true];exact HO5.out
     case measure=>simp [intOf];omega
  ·obtain rfl:k=un:=by omega
   rw [List.take_of_length_le (by rw [List.length_zip,HU.out.lu,HUN.out];omega)] at ho
   have HR:=hide (RowsX.filter HU.out (f:=fA) ho (by omega) (fun q hq=>(zipX_row HU.out hq).2.step hsz (fun z ob h1 h2 h3 _=>(HS.out.block z (by have:=(zipX_row HU.out hq).1;omega) (by have:=(zipX_row HU.out hq).2.le;omega)).trans h3)))
   obtain ⟨⟨sa,sn,sc⟩,rfl, -⟩:=ho.toSlc
   clear ho
   go_wp2_with fail
   go_ret
   exact ⟨⟨sa,sn,sc⟩,rfl,by rw [EL.out];exact HR.out,HBW.out⟩
theorem sAllowedExecs_any (pv:Value) (a:Option Addr) (n c:Nat) (p:List (List Ins)) (m:List Ru) (w:World) (hp:RepP w pv p) (hm:RepM 0 w ⟨a,n,c⟩ m) (hl:p.flatten.length≤1048576) (hpl:p.length≤1048576) (hml:wtM m≤1048576) :
 Calls Tryz.prog 52 #[pv, .slice a n c] w (RetXs w (allowV p m)):=by
 have HV:=hide (sProgramValid_any pv p w hp hl hpl)
 have HMV:=hide (fun w' (hb:Below w.heap.size w w')=>sModelValid_any a n c m w' (hm.below hb) hml)
 have HE:=hide (fun w' (hb:Below w.heap.size w w') hpv hv=>l8Allowed_any pv a n c p m w' (hp.below hb) (hm.below hb) hl hpv hv)
 have EV:Hid (allowV p m=if progValid p=true∧modelOk m=true then allowL p m else []):=hide rfl
 have MV:=hide (@modelOk_rules m)
 obtain ⟨pa,pc,rfl, -, -, -, -⟩:=hp.open
 clear hp hm
 generalize allowV p m=R at *
 generalize progValid p=b1 at *
 generalize modelOk m=b2 at *
 cases b1
 ·have ER:Hid (R=[]):=hide (by rw [EV.out,if_neg (by simp)])
  go_enter Tryz.func52,Tryz.ntmps52
  go_wp2_with fail
  (with_reducible refine HV.out.mono ?_);rintro e w1 ⟨rfl,hb1⟩
  go_wp2_with fail
  go_ret
  exact ⟨⟨some ⟨w1.heap.size,0,none⟩,0,0⟩,rfl,by rw [ER.out];exact OwnF.empty _ w1 hb1.size,hb1.alloc hb1.size _⟩
 ·cases b2
  ·have ER:Hid (R=[]):=hide (by rw [EV.out,if_neg (by simp)])
   go_enter Tryz.func52,Tryz.ntmps52
   go_wp2_with fail
   (with_reducible refine HV.out.mono ?_);rintro e w1 ⟨rfl,hb1⟩
   have HM1:=hide (HMV.out w1 hb1)
   go_wp2_with fail
   (with_reducible refine HM1.out.mono ?_);rintro e w2 ⟨rfl,hb2⟩
   have HB2:=hide (hb1.trans (hb2.mono hb1.size))
   clear hb1 hb2
   go_wp2_with fail
   go_ret
   exact ⟨⟨some ⟨w2.heap.size,0,none⟩,0,0⟩,rfl,by rw [ER.out];exact OwnF.empty _ w2 HB2.out.size,HB2.out.alloc HB2.out.size _⟩
  ·have ER:Hid (R=allowL p m):=hide (by rw [EV.out,if_pos ⟨rfl,rfl⟩])
   go_enter Tryz.func52,Tryz.ntmps52
   go_wp2_with fail
   (with_reducible refine HV.out.mono ?_);rintro e w1 ⟨rfl,hb1⟩
   have HM1:=hide (HMV.out w1 hb1)
   go_wp2_with fail
   (with_reducible refine HM1.out.mono ?_);rintro e w2 ⟨rfl,hb2⟩
   have HB2:=hide (hb1.trans (hb2.mono hb1.size))
   have HE2:=hide (HE.out w2 HB2.out trivial (MV.out trivial))
   clear hb1 hb2
   go_wp2_with fail
   (with_reducible refine HE2.out.mono ?_);rintro e w3 ⟨u,rfl,hu,hb3⟩
   go_wp2_with fail
   go_ret
   exact ⟨u,rfl,by rw [ER.out];exact hu.mono HB2.out.size,HB2.out.trans (hb3.mono HB2.out.size)⟩
end Go.Proofs.YtkfhgnkonaafgaaGreatDoor
namespace Go.Proofs.YtkfhgnkonaafgaaGreatDoor
open Go.RowKit
def RetOO (w:World) (L:List (List Int)) (e:Ending) (w':World):Prop:=∃ v',e = .returned v'∧Own2 IntE 24 3 w' w.heap.size v' L∧Below w.heap.size w w'
theorem ModelOutcomes_any (pv:Value) (a:Option Addr) (n c:Nat) (p:List (List Ins)) (m:List Ru) (w:World) (hp:RepP w pv p) (hm:RepM 0 w ⟨a,n,c⟩ m) (hl:p.flatten.length≤1048576) (hg:Glob w) :
 Calls Tryz.prog 23 #[pv, .slice a n c] w (RetOO w (outsM p m)):=by
 obtain ⟨pa,pc,rfl, -, -, -, -⟩:=hp.open
 have HA:=hide (AllowedExecs_any (.slice pa p.length pc) a n c p m w hp hm hl hg)
 have HP:=hide hp
 have HOK:=hide (fun (x:Xc) (h:x∈allowV p m)=>(allowV_ok h).2)
 have HO:=hide (fun (W:World) (f o:Slc) (x:Xc) (h:RepP W (.slice pa p.length pc) p) (h':RepX W f.v o.v x) (hx:execOk p x=true) (hv:valsOk p x.fr=true)=>(by
  have h1:=outcomeOf_any (.slice pa p.length pc) f.v o.v p x W h h' hl hx
  rw [if_pos hv] at h1
  exact h1:Calls Tryz.prog 43 #[.slice pa p.length pc, .agg #[f.v,o.v]] W (RetNB W (outX p x,true))))
 have HS:=hide (fun (W:World) base v l h1 h2 h3 h4=>sortedPairs_any (3 * p.length+3) W base v l h1 h2 h3 h4)
 have HXL:=hide (fun x=>outX_length p x)
 have HPM:=hide (putsM_ok p (allowV p m))
 have ER:Hid (outsM p m=putsM p (allowV p m)):=hide rfl
 have XN:=hide (allowV_le p m)
 clear hp hm hg
 generalize outsM p m=R at *
 generalize putsM p (allowV p m)=R2 at *
 generalize allowV p m=L at *
 generalize outX p=F at *
 generalize p.length=pn at *
 go_enter Tryz.func23,Tryz.ntmps23
 go_wp2_with fail
 (with_reducible refine HA.out.mono ?_);rintro e w1 ⟨⟨ua,un,uc⟩,rfl,⟨us,ds,hu⟩,hb1⟩
 have HU:=hide hu
 have hun:un=L.length:=by
  have h1:=hu.own.len
  rw [hu.lu] at h1;exact h1
 have HUN:=hide hun
 have hU2:un≤3000:=by rw [HUN.out];exact XN.out
 have B1:=hide hb1
 clear hu hun HA hb1
 go_wp2_with fail
 go_loopw [5,14] (fun s i wr => ∃ (k:Nat) (l:List (Slc × List Int)),k≤un∧i = .int .i64 k∧Own PrE 24 wr w1.heap.size s l∧Hid (l.map Prod.snd=(L.take k).map F)∧Hid (∀ x∈l,Own IntE 3 wr w1.heap.size x.1.v x.2)∧Hid (OneB l)∧Hid (Below w1.heap.size w1 wr)) (fun _ i _=>un - (intOf i).toNat)
 case atStart=>exact ⟨0,[],Nat.zero_le _,rfl,Own.nil _ _ _,hide (by simp),hide (fun x h=>by simp at h),hide OneB.nil,hide (Below.refl _ _)⟩
 case round =>
  obtain ⟨k,l,hk,rfl,ho,HL,HR,HB1,HBW⟩:=hrel
  by_cases hlt:k < un
  ·have hlt':=nat_of_lt hlt
   obtain ⟨x,hxk⟩:=get_of_lt (xs:=L) (k:=k) (by rw [← HUN.out];exact hlt)
   obtain ⟨u,d,g,hu1,hd1,hga,hg1,hg2,hcell,hdl,hloc⟩:=HU.out.at hxk
   subst hga
   have c0:wr.cell? ⟨g,k * 2,none⟩=some (.slice u.f.a u.f.n u.f.cap):=by
    have:=hcell 0 _ rfl
    exact (HBW.out.cell (p:=⟨g,k * 2,none⟩) hg2).trans (by simpa [XE] using this)
   have c1:wr.cell? ⟨g,k * 2+1,none⟩=some (.slice u.o.a u.o.n u.o.cap):=by
    have:=hcell 1 _ rfl
    exact (HBW.out.cell (p:=⟨g,k * 2+1,none⟩) hg2).trans (by simpa [XE] using this)
   have cl:=lt_of_cell c0
   have BA:=hide (belowAlloc wr (.cells #[.slice u.f.a u.f.n u.f.cap, .slice u.o.a u.o.n u.o.cap] 29))
   have hRX:RepX wr u.f.v u.o.v x:=hloc.keep wr (fun q ob h1 h2 h3 _=>(HBW.out.block q (Array.getElem?_eq_some_iff.1 h3).1).trans h3)
   have hok:=HOK.out x (List.mem_of_getElem? hxk)
   have HO1:=hide (HO.out _ u.f u.o x ((HP.out.below (B1.out.trans (HBW.out.mono B1.out.size))).below BA.out) (hRX.below BA.out) hok.1 hok.2)
   have TS:Hid ((L.take (k+1)).map F=(L.take k).map F++[F x]):=hide (by rw [List.take_add_one,hxk,List.map_append];rfl)
   have hlen:l.length≤68719476736:=by
    have h1:=congrArg List.length HL.out
    rw [List.length_map,List.length_map,List.length_take] at h1
    omega
   generalize F x=fx at *
   obtain ⟨⟨fa,fn,fc⟩,⟨oa,on,oc⟩⟩:=u
   simp only at c0 c1
   have HOW:=hide ho
   clear hu1 hd1 hcell hloc hxk hRX hok ho
   go_wp2_with fail
   (with_reducible refine HO1.out.mono ?_);rintro e w3 ⟨⟨va,vn,vc⟩,rfl,oo,hb3⟩
   have OO:=hide oo
   have B3:=hide (BA.out.trans (hb3.mono BA.out.size))
   have hz3:=B3.out.size
   clear hb3 oo HO1 c0 c1 cl
   go_wp2_with (at_builtin;refine wpList_appAt PrE 24 Tryz.infoIntSM rfl Tryz.underlying27 w1.heap.size _ l (⟨⟨va,vn,vc⟩,fx⟩:Slc × List Int) ((HOW.out.below B3.out).alloc _) (by decide) hlen (by simp;have:=HBW.out.size;omega) rfl _ _ rfl rfl w3.heap.size 0 1 rfl news_alloc ?_;intro v' w5 hown5 hgr5 hbl5)
   have A3:=belowAlloc w3 (.cells #[.slice va vn vc] 24)
   have HOW3:=hide ((HOW.out.below B3.out).below A3)
   have HN:Hid (∀ x∈l++[(⟨⟨va,vn,vc⟩,fx⟩:Slc × List Int)],Own IntE 3 w5 w1.heap.size x.1.v x.2):=hide (fun x hx=>by
    rcases List.mem_append.1 hx with hx | hx
    ·exact (((HR.out x hx).below B3.out).below A3).grown_ne HOW3.out (by decide) hgr5
    ·simp at hx
     subst hx
     exact ((OO.out.mono (by have:=HBW.out.size;have:=BA.out.size;omega)).below A3).grown_ne HOW3.out (by decide) hgr5)
   have HN1:Hid (OneB (l++[(⟨⟨va,vn,vc⟩,fx⟩:Slc × List Int)])):=hide (HB1.out.snoc fun y hy q h1 h2=>by
    have g1:=(World.ownsRow.lt OO.out q h1).1
    have g2:=(World.ownsRow.lt (HR.out y hy) q h2).2
    have:=BA.out.size
    omega)
   have HW5:Hid (Below w1.heap.size w1 w5):=hide ((HBW.out.trans ((B3.out.trans (A3.mono hz3)).mono HBW.out.size)).grown hgr5 (by simp;have:=HBW.out.size;omega) (fun q hq=>(World.ownsRow.lt HOW.out q hq).1))
   have HL5:Hid ((l++[(⟨⟨va,vn,vc⟩,fx⟩:Slc × List Int)]).map Prod.snd=(L.take (k+1)).map F):=hide (by rw [TS.out,List.map_append,HL.out];rfl)
   have HO5:=hide hown5
   clear hown5 hgr5 hbl5 A3
   go_roundw
   case rel=>exact ⟨k+1,_,by omega,by go_num,HO5.out,HL5,HN,HN1,HW5⟩
   case measure=>simp [intOf];omega
  ·obtain rfl:k=un:=by omega
   have hL:l.map Prod.snd=L.map F:=by rw [HL.out,List.take_of_length_le (by rw [HUN.out];exact Nat.le_refl _)]
   have hmem:∀ y∈l,y.2.length=3 * pn+3:=fun y hy=>by
    have h1:y.2∈L.map F:=by rw [← hL];exact List.mem_map.2 ⟨y,hy,rfl⟩
    obtain ⟨x, -,h2⟩:=List.mem_map.1 h1
    rw [← h2];exact HXL.out x
   have hlen:l.length≤68719476736:=by
    have h1:=congrArg List.length hL
    rw [List.length_map,List.length_map] at h1
    have:=HUN.out;omega
   have HSC:=hide (HS.out wr w1.heap.size _ l ho HR.out hmem hlen)
   have HLL:=hide hL
   clear ho hL hmem hlen
   go_wp2_with fail
   (with_reducible refine HSC.out.mono ?_);rintro e w2 ⟨v',r,rfl,ro,rr',rs,rk,rm,rkp⟩
   have FIN:Hid (RetOO w R (.returned v') w2):=hide (by
    refine ⟨v',rfl, ?_,B1.out.trans ((HBW.out.trans (rkp.below HBW.out.size)).mono B1.out.size)⟩
    have e:r.map Prod.snd=R:=by
     rw [ER.out]
     refine outs_unique rk HPM.out.1 fun o => ?_
     rw [rm,HLL.out,HPM.out.2.1]
    rw [← e]
    exact (own2_pairs ro rr' (fun x hx y hy=>HB1.out x (rs x hx) y (rs y hy)) rk).mono B1.out.size)
   clear ro rr' rs rk rm rkp
   go_wp2_with fail
   go_ret
   exact FIN.out
end Go.Proofs.YtkfhgnkonaafgaaGreatDoor
namespace Go.Proofs.YtkfhgnkonaafgaaGreatDoor
open Go.RowKit
theorem l8Outcomes_any (pv:Value) (u0:Slc) (p:List (List Ins)) (L:List Xc) (base0:Nat) (w:World) (hp:RepP w pv p) (hx:RowsX w base0 u0.v L) (hl:p.flatten.length≤1048576) (hL:L.length≤3000) (hok:∀ x∈L,execOk p x=true∧valsOk p x.fr=true) :
 Calls Tryz.prog 51 #[pv, .slice u0.a u0.n u0.cap] w fun e w' => ∃ v,e = .returned v∧Rep2 IntE w' v (putsM p L)∧Below w.heap.size w w':=by
 obtain ⟨pa,pc,rfl, -, -, -, -⟩:=hp.open
 obtain ⟨ua,un,uc⟩:=u0
 obtain ⟨us,ds,hu⟩:=hx
 have HP:=hide hp
 have HOK:=hide hok
 have HV:=hide (fun (W:World) (f o:Slc) (x:Xc) (h:RepP W (.slice pa p.length pc) p) (h':RepX W f.v o.v x) (hx:execOk p x=true)=>l6Values_any (.slice pa p.length pc) f.v o.v p x W h h' hl hx)
 have HO:=hide (fun (W:World) (f o vv:Slc) (x:Xc) (h:RepP W (.slice pa p.length pc) p) (h':RepX W f.v o.v x) (h2:Rep IntE W vv.v (valsL p x.fr)) (hx:execOk p x=true) (hv:valsOk p x.fr=true)=>(show Calls Tryz.prog 38 #[.slice pa p.length pc, .agg #[f.v,o.v],vv.v] W (RetOwn IntE 3 W (outX p x)) from l6Outcome_any (.slice pa p.length pc) f.v o.v vv.v p x W h h' h2 hl hx hv))
 have HPU:=hide (fun (B:Nat) vl u K o W h1 h2 h3 h4=>l3Put_any [] B w.heap.size vl u K o W h1 h2 (by simp) h3 h4)
 have HSN:=hide (fun (K:List Xc) x=>putsM_snoc p K x)
 have HSZ:Hid (putsM p []=[]):=hide rfl
 have HLN:=hide (fun K=>(putsM_ok p K).2.2)
 have HU:=hide hu
 have hun:un=L.length:=by
  have h1:=hu.own.len
  rw [hu.lu] at h1;exact h1
 have HUN:=hide hun
 have hU2:un≤3000:=by rw [HUN.out];exact hL
 clear hp hu hun hok hL
 generalize putsM p=F at *
 go_enter Tryz.func51,Tryz.ntmps51
 go_wp2_with fail
 go_loopw [5,6] (fun s i wr => ∃ k:Nat,k≤un∧i = .int .i64 k∧OutL [] 0 wr w.heap.size s (F (L.take k))∧Hid (Below w.heap.size w wr)) (fun _ i _=>un - (intOf i).toNat)
 case atStart=>exact ⟨0,Nat.zero_le _,rfl,by rw [List.take_zero,HSZ.out];exact OutL.empty (Nat.le_refl _),hide (belowAlloc _ _)⟩
 case round =>
  obtain ⟨k,hk,rfl,ho,HBW⟩:=hrel
  have hsz:=HBW.out.size
  by_cases hlt:k < un
  ·have hlt':=nat_of_lt hlt
   obtain ⟨x,hxk⟩:=get_of_lt (xs:=L) (k:=k) (by rw [← HUN.out];exact hlt)
   obtain ⟨u,d,g,hu1,hd1,hga,hg1,hg2,hcell,hdl,hloc⟩:=HU.out.at hxk
   subst hga
   have c0:wr.cell? ⟨g,k * 2,none⟩=some (.slice u.f.a u.f.n u.f.cap):=by
    have:=hcell 0 _ rfl
    exact (HBW.out.cell (p:=⟨g,k * 2,none⟩) hg2).trans (by simpa [XE] using this)
   have c1:wr.cell? ⟨g,k * 2+1,none⟩=some (.slice u.o.a u.o.n u.o.cap):=by
    have:=hcell 1 _ rfl
    exact (HBW.out.cell (p:=⟨g,k * 2+1,none⟩) hg2).trans (by simpa [XE] using this)
   have cl:=lt_of_cell c0
   have hRX:RepX wr u.f.v u.o.v x:=hloc.keep wr (fun q ob h1 h2 h3 _=>(HBW.out.block q (Array.getElem?_eq_some_iff.1 h3).1).trans h3)
   have hok:=HOK.out x (List.mem_of_getElem? hxk)
   have HV1:=hide (HV.out wr u.f u.o x (HP.out.below HBW.out) hRX hok.1)
   have HO1:=hide (fun W vv (hb:Below wr.heap.size wr W) h2=>HO.out W u.f u.o vv x ((HP.out.below HBW.out).below hb) (hRX.below hb) h2 hok.1 hok.2)
   have TS:Hid (F (L.take (k+1))=putO (outX p x) (F (L.take k))):=hide (by rw [List.take_add_one,hxk];exact HSN.out _ x)
   have hlen:(F (L.take k)).length≤68719476000:=by
    have:=HLN.out (L.take k)
    have h2:(L.take k).length≤k:=by rw [List.length_take];exact Nat.min_le_left _ _
    omega
   have VO:Hid (valsOk p x.fr=true):=hide hok.2
   generalize F (L.take k)=G at *
   generalize outX p x=fx at *
   generalize valsL p x.fr=vl at *
   generalize valsOk p x.fr=vo at *
   obtain rfl:=VO.out
   obtain ⟨⟨fa,fn,fc⟩,⟨oa,on,oc⟩⟩:=u
   simp only at c0 c1
   have HOW:=hide ho
   clear hu1 hd1 hcell hloc hxk hRX hok ho VO
   go_wp2_with fail
   (with_reducible refine HV1.out.mono ?_);rintro e w3 ⟨⟨va,vn,vc⟩,rfl,ov,hb3⟩
   have c0':=(hb3.cell (p:=⟨g,k * 2,none⟩) cl).trans c0
   have c1':=(hb3.cell (p:=⟨g,k * 2+1,none⟩) cl).trans c1
   have cl':=lt_of_cell c0'
   have HO3:=hide (HO1.out w3 ⟨va,vn,vc⟩ hb3 ov.rep)
   have B3:=hide hb3
   clear hb3 ov c0 c1 cl HV1
   go_wp2_with fail
   (with_reducible refine HO3.out.mono ?_);rintro e w4 ⟨v4,rfl,oo,hb4⟩
   obtain ⟨⟨qa,qn,qc⟩,rfl⟩:∃ s:Slc,v4=s.v:=by obtain ⟨a',c',h, -⟩:=oo.rep.open;exact ⟨⟨a',_,c'⟩,h⟩
   have B4:=hide (B3.out.trans (hb4.mono B3.out.size))
   have hs4:=B4.out.size
   have O4:=HOW.out.step (.of_below (L:=[]) (B:=0) B4.out) (by simp)
   have OO4:Own IntE 3 w4 w.heap.size (Slc.v ⟨qa,qn,qc⟩) fx:=oo.mono (Nat.le_trans hsz B3.out.size)
   have HP4:=hide (HPU.out 0 _ ⟨qa,qn,qc⟩ G fx w4 O4 (LocT.own (L:=[]) (B:=0) OO4 (by simp)) (by omega) hlen)
   clear hb4 oo c0' c1' cl' O4 OO4 HO3
   go_wp2_with fail
   (with_reducible refine HP4.out.mono ?_);rintro e w5 ⟨v5,rfl,o5,hb5⟩
   have HO5:=hide o5
   have B5:=hide (HBW.out.trans ((B4.out.trans (hb5.mono hs4)).mono hsz))
   clear o5 hb5 HP4
   go_wp2_with fail
   go_roundw
   case rel=>exact ⟨k+1,by omega,by go_num,by rw [TS.out];exact HO5.out,B5⟩
   case measure=>simp [intOf];omega
  ·obtain rfl:k=un:=by omega
   rw [List.take_of_length_le (by rw [HUN.out];exact Nat.le_refl _)] at ho
   have HRR:=hide ho.rep2
   clear ho
   go_wp2_with fail
   go_ret
   exact ⟨_,rfl,HRR.out,HBW.out⟩
theorem sModelOutcomes_any (pv:Value) (a:Option Addr) (n c:Nat) (p:List (List Ins)) (m:List Ru) (w:World) (hp:RepP w pv p) (hm:RepM 0 w ⟨a,n,c⟩ m) (hl:p.flatten.length≤1048576) (hpl:p.length≤1048576) (hml:wtM m≤1048576) :
 Calls Tryz.prog 22 #[pv, .slice a n c] w fun e w' => ∃ v,e = .returned v∧Rep2 IntE w' v (outsM p m)∧Below w.heap.size w w':=by
 have HA:=hide (sAllowedExecs_any pv a n c p m w hp hm hl hpl hml)
 have HO:=hide (fun W base u (hb:Below w.heap.size w W) h=>l8Outcomes_any pv u p (allowV p m) base W (hp.below hb) h hl (allowV_le p m) (fun x hx=>(allowV_ok hx).2))
 have ER:Hid (outsM p m=putsM p (allowV p m)):=hide rfl
 obtain ⟨pa,pc,rfl, -, -, -, -⟩:=hp.open
 clear hp hm
 generalize outsM p m=R at *
 generalize putsM p (allowV p m)=R2 at *
 obtain rfl:=ER.out
 clear ER
 generalize allowV p m=L at *
 go_enter Tryz.func22,Tryz.ntmps22
 go_wp2_with fail
 (with_reducible refine HA.out.mono ?_);rintro e w1 ⟨u,rfl,hu,hb1⟩
 have HO1:=hide (HO.out w1 w.heap.size u hb1 hu)
 have B1:=hide hb1
 clear hu hb1
 go_wp2_with fail
 (with_reducible refine HO1.out.mono ?_);rintro e w2 ⟨v,rfl,h2,hb2⟩
 have H2:=hide h2
 have B2:=hide (B1.out.trans (hb2.mono B1.out.size))
 clear h2 hb2
 go_wp2_with fail
 go_ret
 exact ⟨v,rfl,H2.out,B2.out⟩
end Go.Proofs.YtkfhgnkonaafgaaGreatDoor
/-
  The first rule that a candidate breaks, and what is allowed, in the program and in the reference. Condition: the candidate is one of a valid program, the rules' expressions are valid.
-/
import Derived.Test.YtfbgppkdnfljhaaGreatDoorZj26
import Derived.Test.YtfbgppkdnfljhaaGreatDoorZj31
set_option maxHeartbeats 6400000
set_option maxRecDepth 100000
namespace Go.Proofs.YtfbgppkdnfljhaaGreatDoor
open Go.RowKit
def BrkOf (p:List (List Ins)) (x:Xc) (m:List Ru) (q:Int):Prop:=(q = -1∧m.all (ruleB p x)=true)∨(∃ t:Nat,q=t∧m.all (ruleB p x)=false)
theorem BrkOf.neg {p:List (List Ins)} {x:Xc} {m:List Ru} {q:Int} (h:BrkOf p x m q):decide (q < 0)=m.all (ruleB p x):=by
 rcases h with ⟨rfl,h⟩ | ⟨t,rfl,h⟩
 ·rw [h];rfl
 ·rw [h];simp
def RetBrk (w:World) (p:List (List Ins)) (x:Xc) (m:List Ru) (e:Ending) (w':World):Prop:=∃ (q:Int) (v:Value),e = .returned (.tuple #[.int .i64 q,v])∧BrkOf p x m q∧Below w.heap.size w w'
theorem ruleB_eq (p:List (List Ins)) (x:Xc) (r:Ru):ruleB p x r=holdsB (evAll p).length r.kind (evalD p x 12 r.e):=rfl
theorem validR_shape {c:Re} (h:validR c=true):shapeR 12 c=true:=by
 unfold validR at h;simp only [Bool.and_eq_true] at h;exact h.1
theorem brokenRule_any (pv:Value) (f1 o1 a:Option Addr) (f2 f3 o2 o3 n c:Nat) (p:List (List Ins)) (x:Xc) (m:List Ru) (w:World) (hp:RepP w pv p) (hx:RepX w (.slice f1 f2 f3) (.slice o1 o2 o3) x) (hm:RepM 0 w ⟨a,n,c⟩ m) (hX:execOk p x=true) (hv:∀ r∈m,validR r.e=true) (hl:p.flatten.length≤1048576) :
 Calls Tryz.prog 76 #[pv, .agg #[.slice f1 f2 f3, .slice o1 o2 o3], .slice a n c] w (RetBrk w p x m):=by
 obtain ⟨e1,hc1,hc2,hc3⟩:=hm.open
 simp only at e1 hc1 hc2 hc3
 have hpv:progValid p=true:=by unfold execOk at hX;simp only [Bool.and_eq_true] at hX;exact hX.1
 have hn15:=evAll_le hpv
 have HB:=hide (belowAlloc w (.cells #[.slice f1 f2 f3, .slice o1 o2 o3] 60))
 have HBX:=hide (heap_alloc_new w (.cells #[.slice f1 f2 f3, .slice o1 o2 o3] 60))
 have HM:=hide (hm.below HB.out)
 have HEV:=hide (fun (r:Ru) (hr:r∈m) (s:Slc) W (hb:Below w.heap.size w W) (hs:RepRk 0 W ⟨s.a,s.n,s.cap⟩ r.e.kids)=>iEval_any hX hl 12 r.e pv f1 o1 f2 f3 o2 o3 s.a s.n s.cap W (validR_shape (hv r hr)) (hp.below hb) (hx.below hb) hs)
 have HF:=hide (fun (r:Ru) u W (h:Rep IntE W u (relOf (evAll p).length (evalD p x 12 r.e)))=>fulfilled_any r.kind u (evAll p).length (evalD p x 12 r.e) W h (by omega))
 have RE:=hide (ruleB_eq p x)
 clear hp hx hm hX hv hl hpv hn15
 have H:=hide e1.symm;clear e1
 rw [H.out] at hc1 hc2
 generalize hfb:ruleB p x=fb at *
 have BE:Hid (∀ q,BrkOf p x m q↔(q = -1∧m.all fb=true)∨(∃ t:Nat,q=t∧m.all fb=false)):=hide (fun q=>by rw [← hfb];exact Iff.rfl)
 clear hfb
 generalize hW:w.alloc (.cells #[.slice f1 f2 f3, .slice o1 o2 o3] 60)=W at *
 have x0:W.cell? ⟨w.heap.size,0,none⟩=some (.slice f1 f2 f3):=cell_of_heapV HBX.out (k:=0) rfl
 have x1:W.cell? ⟨w.heap.size,1,none⟩=some (.slice o1 o2 o3):=cell_of_heapV HBX.out (k:=1) rfl
 have xl:=lt_of_cell x0
 have HX0:=hide x0;have HX1:=hide x1
 clear x0 x1 HBX
 go_enter Tryz.func76,Tryz.ntmps76
 go_wp2_with fail
 clear hW
 go_loopw [13] (fun i wr => ∃ t:Nat,t≤n∧i = .int .i64 t∧Hid (∀ r∈m.take t,fb r=true)∧Below W.heap.size W wr) (fun i _=>n - (intOf i).toNat)
 case atStart=>exact ⟨0,Nat.zero_le _,rfl,hide (by simp),Below.refl _ _⟩
 case round =>
  obtain ⟨t,ht,rfl,hno,hb⟩:=hrel
  by_cases hlt:t < n
  ·have hlt':=nat_of_lt hlt
   obtain ⟨r,hrk⟩:=get_of_lt (xs:=m) (k:=t) (by rw [H.out];exact hlt)
   obtain ⟨b,o,s,rfl,hbl,i0,i1,i2,i3,i4⟩:=(HM.out.below hb).row hrk
   have HBA:=hide (belowAlloc wr (.cells #[.int .i64 r.kind, .int .i64 r.e.op, .string r.e.nm, .slice s.a s.n s.cap] 54))
   have HBV:=hide (heap_alloc_new wr (.cells #[.int .i64 r.kind, .int .i64 r.e.op, .string r.e.nm, .slice s.a s.n s.cap] 54))
   have HC:=hide (HEV.out r (List.mem_of_getElem? hrk) s _ (HB.out.trans ((hb.trans (HBA.out.mono hb.size)).mono HB.out.size)) (i4.below HBA.out))
   have HFR:=hide (HF.out r)
   have y0:=(hb.cell (p:=⟨w.heap.size,0,none⟩) xl).trans HX0.out
   have y1:=(hb.cell (p:=⟨w.heap.size,1,none⟩) xl).trans HX1.out
   have yl:=lt_of_cell y0
   have RR:=hide (RE.out r)
   have HBR:=hide hb
   have X:=hide hrk;clear hrk i4
   generalize evalD p x 12 r.e=ef at *
   go_wp2_with fail
   (with_reducible refine HC.out.mono ?_);rintro e w2 ⟨v2,rfl,o2',hb2⟩
   have k0:=(hb2.block wr.heap.size (Array.getElem?_eq_some_iff.1 HBV.out).1).trans HBV.out
   have d0:w2.cell? ⟨wr.heap.size,0,none⟩=some (.int .i64 r.kind):=cell_of_heapV k0 (k:=0) rfl
   have dl:=lt_of_cell d0
   have HC2:=hide (HFR.out v2 w2 o2'.rep)
   rw [← RR.out] at HC2
   have HB2:=hide (HBR.out.trans ((HBA.out.trans (hb2.mono HBA.out.size)).mono HBR.out.size))
   clear k0 o2' hb2 y0 y1 yl i0 i1 i2 i3 HC
   generalize hfx:fb r=fx at *
   have FX:=hide hfx;clear hfx
   go_wp2_with fail
   (with_reducible refine HC2.out.mono ?_);rintro e w3 ⟨rfl,hb3⟩
   have HB3:=hide (HB2.out.trans (hb3.mono HB2.out.size))
   clear hb3
   cases fx
   ·have NO:=hide (allR_not X.out FX.out)
    go_wp2_with fail
    refine bodyPost_ret (v:=.tuple #[.int .i64 t,v2]) (by simp [results,Tryz.results76,go_sem]) rfl ⟨_,_,rfl,(BE.out _).2 (.inr ⟨t,rfl,NO.out⟩),HB.out.trans (HB3.out.mono HB.out.size)⟩
   ·have NO:=hide (allR_succ hno.out X.out FX.out)
    go_wp2_with fail
    go_roundw
    case rel=>exact ⟨t+1,by omega,by go_num,NO,HB3.out⟩
    case measure=>simp [intOf];omega
  ·have NO:=hide (allR_take hno.out (by rw [H.out];omega))
   go_wp2_with fail
   refine bodyPost_ret (v:=.tuple #[.int .i64 (-1), .slice none 0 0]) (by simp [results,Tryz.results76,go_sem]) rfl ⟨_,_,rfl,(BE.out _).2 (.inl ⟨rfl,NO.out⟩),HB.out.trans (hb.mono HB.out.size)⟩
def RetBrkS (w:World) (p:List (List Ins)) (x:Xc) (m:List Ru) (e:Ending) (w':World):Prop:=∃ (q:Int),e = .returned (.int .i64 q)∧BrkOf p x m q∧Below w.heap.size w w'
theorem l7Broken_any (pv:Value) (f1 o1 a:Option Addr) (f2 f3 o2 o3 n c:Nat) (p:List (List Ins)) (x:Xc) (m:List Ru) (w:World) (hp:RepP w pv p) (hx:RepX w (.slice f1 f2 f3) (.slice o1 o2 o3) x) (hm:RepM 0 w ⟨a,n,c⟩ m) (hX:execOk p x=true) (hv:∀ r∈m,validR r.e=true) (hl:p.flatten.length≤1048576) :
 Calls Tryz.prog 86 #[pv, .agg #[.slice f1 f2 f3, .slice o1 o2 o3], .slice a n c] w (RetBrkS w p x m):=by
 obtain ⟨e1,hc1,hc2,hc3⟩:=hm.open
 simp only at e1 hc1 hc2 hc3
 have hpv:progValid p=true:=by unfold execOk at hX;simp only [Bool.and_eq_true] at hX;exact hX.1
 have hn15:=evAll_le hpv
 have HB:=hide (belowAlloc w (.cells #[.slice f1 f2 f3, .slice o1 o2 o3] 60))
 have HBX:=hide (heap_alloc_new w (.cells #[.slice f1 f2 f3, .slice o1 o2 o3] 60))
 have HM:=hide (hm.below HB.out)
 have HEV:=hide (fun (r:Ru) (hr:r∈m) (s:Slc) W (hb:Below w.heap.size w W) (hs:RepRk 0 W ⟨s.a,s.n,s.cap⟩ r.e.kids)=>sEval_any hX hl 12 r.e pv f1 o1 f2 f3 o2 o3 s.a s.n s.cap W (validR_shape (hv r hr)) (hp.below hb) (hx.below hb) hs)
 have HF:=hide (fun (r:Ru) u W (h:Rep IntE W u (relOf (evAll p).length (evalD p x 12 r.e)))=>l7Holds_any r.kind u (evAll p).length (evalD p x 12 r.e) W h (by omega))
 have RE:=hide (ruleB_eq p x)
 clear hp hx hm hX hv hl hpv hn15
 have H:=hide e1.symm;clear e1
 rw [H.out] at hc1 hc2
 generalize hfb:ruleB p x=fb at *
 have BE:Hid (∀ q,BrkOf p x m q↔(q = -1∧m.all fb=true)∨(∃ t:Nat,q=t∧m.all fb=false)):=hide (fun q=>by rw [← hfb];exact Iff.rfl)
 clear hfb
 generalize hW:w.alloc (.cells #[.slice f1 f2 f3, .slice o1 o2 o3] 60)=W at *
 have x0:W.cell? ⟨w.heap.size,0,none⟩=some (.slice f1 f2 f3):=cell_of_heapV HBX.out (k:=0) rfl
 have x1:W.cell? ⟨w.heap.size,1,none⟩=some (.slice o1 o2 o3):=cell_of_heapV HBX.out (k:=1) rfl
 have xl:=lt_of_cell x0
 have HX0:=hide x0;have HX1:=hide x1
 clear x0 x1 HBX
 go_enter Tryz.func86,Tryz.ntmps86
 go_wp2_with fail
 clear hW
 go_loopw [7] (fun i wr => ∃ t:Nat,t≤n∧i = .int .i64 t∧Hid (∀ r∈m.take t,fb r=true)∧Below W.heap.size W wr) (fun i _=>n - (intOf i).toNat)
 case atStart=>exact ⟨0,Nat.zero_le _,rfl,hide (by simp),Below.refl _ _⟩
 case round =>
  obtain ⟨t,ht,rfl,hno,hb⟩:=hrel
  by_cases hlt:t < n
  ·have hlt':=nat_of_lt hlt
   obtain ⟨r,hrk⟩:=get_of_lt (xs:=m) (k:=t) (by rw [H.out];exact hlt)
   obtain ⟨b,o,s,rfl,hbl,i0,i1,i2,i3,i4⟩:=(HM.out.below hb).row hrk
   have HC:=hide (HEV.out r (List.mem_of_getElem? hrk) s wr.drew (HB.out.trans ((hb.drew).mono HB.out.size)) (i4.below (Below.refl _ _).drew))
   have HFR:=hide (HF.out r)
   have y0:=(hb.cell (p:=⟨w.heap.size,0,none⟩) xl).trans HX0.out
   have y1:=(hb.cell (p:=⟨w.heap.size,1,none⟩) xl).trans HX1.out
   have yl:=lt_of_cell y0
   have RR:=hide (RE.out r)
   have HBR:=hide hb
   have X:=hide hrk;clear hrk i4
   generalize evalD p x 12 r.e=ef at *
   generalize hfx:fb r=fx at *
   have FX:=hide hfx;clear hfx
   go_wp2_with fail
   go_region_held3 (fun V=>V.cell? ⟨w.heap.size,0,none⟩=some (.slice f1 f2 f3)∧V.cell? ⟨w.heap.size,1,none⟩=some (.slice o1 o2 o3)∧V.cell? ⟨b,o+t * 4,none⟩=some (.int .i64 r.kind)∧V.cell? ⟨b,o+t * 4+1,none⟩=some (.int .i64 r.e.op)∧V.cell? ⟨b,o+t * 4+2,none⟩=some (.string r.e.nm)∧V.cell? ⟨b,o+t * 4+3,none⟩=some (.slice s.a s.n s.cap)) ((simp [go_sem, *]))
    (first
     | (go_at_call 143;(with_reducible refine HC.out.mono ?_);rintro e w2 ⟨v2,rfl,ov,hb2⟩;have HB2:=hide ((Below.refl wr.heap.size wr).drew.trans (hb2.mono (by simp)));have HC2:=hide (HFR.out v2 w2 ov.rep);rw [← RR.out] at HC2;obtain ⟨hcc2,hff2⟩:=bcell HB2.out;clear ov hb2)
     | (go_at_call 142;(with_reducible refine HC2.out.mono ?_);rintro e w3 ⟨rfl,hb3⟩;have HB3:=hide (HB2.out.trans (hb3.mono HB2.out.size));obtain ⟨hcc3,hff3⟩:=bcell HB3.out;clear hb3))
   all_goals
    have HB4:=hide (HBR.out.trans (HB3.out.mono HBR.out.size))
    clear HB2 HB3 HC HC2 y0 y1 yl i0 i1 i2 i3
    cases fx
    ·have NO:=hide (allR_not X.out FX.out)
     go_wp2_with fail
     go_ret
     exact ⟨_,rfl,(BE.out _).2 (.inr ⟨t,rfl,NO.out⟩),HB.out.trans (HB4.out.mono HB.out.size)⟩
    ·have NO:=hide (allR_succ hno.out X.out FX.out)
     go_wp2_with fail
     go_roundw
     case rel=>exact ⟨t+1,by omega,by go_num,NO,HB4.out⟩
     case measure=>simp [intOf];omega
  ·have NO:=hide (allR_take hno.out (by rw [H.out];omega))
   go_wp2_with fail
   go_ret
   exact ⟨_,rfl,(BE.out _).2 (.inl ⟨rfl,NO.out⟩),HB.out.trans (hb.mono HB.out.size)⟩
theorem allowB_eq (p:List (List Ins)) (m:List Ru) (x:Xc):allowB p m x=(valsOk p x.fr&&m.all (ruleB p x)):=rfl
theorem allowed_any (pv:Value) (f1 o1 a:Option Addr) (f2 f3 o2 o3 n c:Nat) (p:List (List Ins)) (x:Xc) (m:List Ru) (w:World) (hp:RepP w pv p) (hx:RepX w (.slice f1 f2 f3) (.slice o1 o2 o3) x) (hm:RepM 0 w ⟨a,n,c⟩ m) (hX:execOk p x=true) (hv:∀ r∈m,validR r.e=true) (hl:p.flatten.length≤1048576) :
 Calls Tryz.prog 40 #[pv, .agg #[.slice f1 f2 f3, .slice o1 o2 o3], .slice a n c] w fun e w'=>e = .returned (.bool (allowB p m x))∧Below w.heap.size w w':=by
 have HB:=hide (belowAlloc w (.cells #[.slice f1 f2 f3, .slice o1 o2 o3] 60))
 have HBX:=hide (heap_alloc_new w (.cells #[.slice f1 f2 f3, .slice o1 o2 o3] 60))
 have HV:=hide (valuesOf_any pv (.slice f1 f2 f3) (.slice o1 o2 o3) p x _ (hp.below HB.out) (hx.below HB.out) hl hX)
 have HK:=hide (fun W (hb:Below w.heap.size w W)=>brokenRule_any pv f1 o1 a f2 f3 o2 o3 n c p x m W (hp.below hb) (hx.below hb) (hm.below hb) hX hv hl)
 have AE:=hide (allowB_eq p m x)
 clear hp hx hm hX hv hl
 generalize allowB p m x=R at *
 generalize valsOk p x.fr=vo at *
 generalize hW:w.alloc (.cells #[.slice f1 f2 f3, .slice o1 o2 o3] 60)=W at *
 have x0:W.cell? ⟨w.heap.size,0,none⟩=some (.slice f1 f2 f3):=cell_of_heapV HBX.out (k:=0) rfl
 have x1:W.cell? ⟨w.heap.size,1,none⟩=some (.slice o1 o2 o3):=cell_of_heapV HBX.out (k:=1) rfl
 have xl:=lt_of_cell x0
 clear HBX
 cases vo
 ·have RF:Hid (R=false):=hide (by rw [AE.out];rfl)
  go_enter Tryz.func40,Tryz.ntmps40
  go_wp2_with fail
  clear hW
  (with_reducible refine HV.out.mono ?_);rintro e w1 ⟨u,rfl, -,hb1⟩
  go_wp2_with fail
  go_ret
  exact ⟨by rw [RF.out];rfl,HB.out.trans (hb1.mono HB.out.size)⟩
 ·have RA:Hid (R=m.all (ruleB p x)):=hide (by rw [AE.out];rfl)
  go_enter Tryz.func40,Tryz.ntmps40
  go_wp2_with fail
  clear hW
  (with_reducible refine HV.out.mono ?_);rintro e w1 ⟨u,rfl, -,hb1⟩
  have y0:=(hb1.cell (p:=⟨w.heap.size,0,none⟩) xl).trans x0
  have y1:=(hb1.cell (p:=⟨w.heap.size,1,none⟩) xl).trans x1
  have yl:=lt_of_cell y0
  have HB1:=hide (HB.out.trans (hb1.mono HB.out.size))
  have HK1:=hide (HK.out _ HB1.out)
  clear x0 x1 xl hb1 HV
  go_wp2_with fail
  (with_reducible refine HK1.out.mono ?_);rintro e w2 ⟨q,v,rfl,hq,hb2⟩
  have NG:=hide hq.neg
  clear hq
  go_wp2_with fail
  go_ret
  exact ⟨by rw [RA.out,← NG.out];rfl,HB1.out.trans (hb2.mono HB1.out.size)⟩
end Go.Proofs.YtfbgppkdnfljhaaGreatDoor
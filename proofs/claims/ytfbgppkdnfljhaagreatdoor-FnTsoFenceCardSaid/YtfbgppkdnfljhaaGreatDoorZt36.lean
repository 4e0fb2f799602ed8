/-
  The candidates that a model allows, in the program and in the reference. Condition: the listed variable holds the names; bounds on sizes.
-/
import Derived.Test.YtfbgppkdnfljhaaGreatDoorZt27
import Derived.Test.YtfbgppkdnfljhaaGreatDoorZt32
import Derived.Test.YtfbgppkdnfljhaaGreatDoorZt29
import Derived.Test.YtfbgppkdnfljhaaGreatDoorZt33
set_option maxHeartbeats 6400000
set_option maxRecDepth 100000
namespace Go.Proofs.YtfbgppkdnfljhaaGreatDoor
open Go.RowKit
def BrkOf (p:List (List Ins)) (x:Xc) (m:List Ru) (q:Int):Prop:=(q = -1∧m.all (ruleB p x)=true)∨(∃ t:Nat,q=t∧m.all (ruleB p x)=false)
theorem BrkOf.neg {p:List (List Ins)} {x:Xc} {m:List Ru} {q:Int} (h:BrkOf p x m q):decide (q < 0)=m.all (ruleB p x):=by
 rcases h with ⟨rfl,h⟩ | ⟨t,rfl,h⟩
 ·rw [h];rfl
 ·rw [h];simp
def RetBrk (w:World) (p:List (List Ins)) (x:Xc) (m:List Ru) (e:Ending) (w':World):Prop:=∃ (q:Int) (v:Value),e = .returned (.tuple #[.int .i64 q,v])∧BrkOf p x m q∧Below w.heap.size w w'
theorem ruleB_eq (p:List (List Ins)) (x:Xc) (r:Ru):ruleB p x r=holdsB (evAll p).length r.kind (evalD p x 12 r.e):=rfl
theorem validR_shape {c:Re} (h:validR c=true):shapeR 12 c=true:=by
 unfold validR at h;simp only [Bool.and_eq_true] at h;exact h.1
theorem brokenRule_any (pv:Value) (f1 o1 a:Option Addr) (f2 f3 o2 o3 n c:Nat) (p:List (List Ins)) (x:Xc) (m:List Ru) (w:World) (hp:RepP w pv p) (hx:RepX w (.slice f1 f2 f3) (.slice o1 o2 o3) x) (hm:RepM 0 w ⟨a,n,c⟩ m) (hX:execOk p x=true) (hv:∀ r∈m,validR r.e=true) (hl:p.flatten.length≤1048576) :
 Calls Tryz.prog 76 #[pv, .agg #[.slice f1 f2 f3, .slice o1 o2 o3], .slice a n c] w (RetBrk w p x m):=by
 obtain ⟨e1,hc1,hc2,hc3⟩:=hm.open
 simp only at e1 hc1 hc2 hc3
 have hpv:progValid p=true:=by unfold execOk at hX;simp only [Bool.and_eq_true] at hX;exact hX.1
 have hn15:=evAll_le hpv
 have HB:=hide (belowAlloc w (.cells #[.slice f1 f2 f3, .slice o1 o2 o3] 60))
 have HBX:=hide (heap_alloc_new w (.cells #[.slice f1 f2 f3, .slice o1 o2 o3] 60))
 have HM:=hide (hm.below HB.out)
 have HEV:=hide (fun (r:Ru) (hr:r∈m) (s:Slc) W (hb:Below w.heap.size w W) (hs:RepRk 0 W ⟨s.a,s.n,s.cap⟩ r.e.kids)=>iEval_any hX hl 12 r.e pv f1 o1 f2 f3 o2 o3 s.a s.n s.cap W (validR_shape (hv r hr)) (hp.below hb) (hx.below hb) hs)
 have HF:=hide (fun (r:Ru) u W (h:Rep IntE W u (relOf (evAll p).length (evalD p x 12 r.e)))=>fulfilled_any r.kind u (evAll p).length (evalD p x 12 r.e) W h (by omega))
 have RE:=hide (ruleB_eq p x)
 clear hp hx hm hX hv hl hpv hn15
 have H:=hide e1.symm;clear e1
 rw [H.out] at hc1 hc2
 generalize hfb:ruleB p x=fb at *
 have BE:Hid (∀ q,BrkOf p x m q↔(q = -1∧m.all fb=true)∨(∃ t:Nat,q=t∧m.all fb=false)):=hide (fun q=>by rw [← hfb];exact Iff.rfl)
 clear hfb
 generalize hW:w.alloc (.cells #[.slice f1 f2 f3, .slice o1 o2 o3] 60)=W at *
 have x0:W.cell? ⟨w.heap.size,0,none⟩=some (.slice f1 f2 f3):=cell_of_heapV HBX.out (k:=0) rfl
 have x1:W.cell? ⟨w.heap.size,1,none⟩=some (.slice o1 o2 o3):=cell_of_heapV HBX.out (k:=1) rfl
 have xl:=lt_of_cell x0
 have HX0:=hide x0;have HX1:=hide x1
 clear x0 x1 HBX
 go_enter Tryz.func76,Tryz.ntmps76
 go_wp2_with fail
 clear hW
 go_loopw [13] (fun i wr => ∃ t:Nat,t≤n∧i = .int .i64 t∧Hid (∀ r∈m.take t,fb r=true)∧Below W.heap.size W wr) (fun i _=>n - (intOf i).toNat)
 case atStart=>exact ⟨0,Nat.zero_le _,rfl,hide (by simp),Below.refl _ _⟩
 case round =>
  obtain ⟨t,ht,rfl,hno,hb⟩:=hrel
  by_cases hlt:t < n
  ·have hlt':=nat_of_lt hlt
   obtain ⟨r,hrk⟩:=get_of_lt (xs:=m) (k:=t) (by rw [H.out];exact hlt)
   obtain ⟨b,o,s,rfl,hbl,i0,i1,i2,i3,i4⟩:=(HM.out.below hb).row hrk
   have HBA:=hide (belowAlloc wr (.cells #[.int .i64 r.kind, .int .i64 r.e.op, .string r.e.nm, .slice s.a s.n s.cap] 54))
   have HBV:=hide (heap_alloc_new wr (.cells #[.int .i64 r.kind, .int .i64 r.e.op, .string r.e.nm, .slice s.a s.n s.cap] 54))
   have HC:=hide (HEV.out r (List.mem_of_getElem? hrk) s _ (HB.out.trans ((hb.trans (HBA.out.mono hb.size)).mono HB.out.size)) (i4.below HBA.out))
   have HFR:=hide (HF.out r)
   have y0:=(hb.cell (p:=⟨w.heap.size,0,none⟩) xl).trans HX0.out
   have y1:=(hb.cell (p:=⟨w.heap.size,1,none⟩) xl).trans HX1.out
   have yl:=lt_of_cell y0
   have RR:=hide (RE.out r)
   have HBR:=hide hb
   have X:=hide hrk;clear hrk i4
   generalize evalD p x 12 r.e=ef at *
   go_wp2_with fail
   (with_reducible refine HC.out.mono ?_);rintro e w2 ⟨v2,rfl,o2',hb2⟩
   have k0:=(hb2.block wr.heap.size (Array.getElem?_eq_some_iff.1 HBV.out).1).trans HBV.out
   have d0:w2.cell? ⟨wr.heap.size,0,none⟩=some (.int .i64 r.kind):=cell_of_heapV k0 (k:=0) rfl
   have dl:=lt_of_cell d0
   have HC2:=hide (HFR.out v2 w2 o2'.rep)
   rw [← RR.out] at HC2
   have HB2:=hide (HBR.out.trans ((HBA.out.trans (hb2.mono HBA.out.size)).mono HBR.out.size))
   clear k0 o2' hb2 y0 y1 yl i0 i1 i2 i3 HC
   generalize hfx:fb r=fx at *
   have FX:=hide hfx;clear hfx
   go_wp2_with fail
   (with_reducible refine HC2.out.mono ?_);rintro e w3 ⟨rfl,hb3⟩
   have HB3:=hide (HB2.out.trans (hb3.mono HB2.out.size))
   clear hb3
   cases fx
   ·have NO:=hide (allR_not X.out FX.out)
    go_wp2_with fail
    refine bodyPost_ret (v:=.tuple #[.int .i64 t,v2]) (by simp [results,Tryz.results76,go_sem]) rfl ⟨_,_,rfl,(BE.out _).2 (.inr ⟨t,rfl,NO.out⟩),HB.out.trans (HB3.out.mono HB.out.size)⟩
   ·have NO:=hide (allR_succ hno.out X.out FX.out)
    go_wp2_with fail
    go_roundw
    case rel=>exact ⟨t+1,by omega,by go_num,NO,HB3.out⟩
    case measure=>simp [intOf];omega
  ·have NO:=hide (allR_take hno.out (by rw [H.out];omega))
   go_wp2_with fail
   refine bodyPost_ret (v:=.tuple #[.int .i64 (-1), .slice none 0 0]) (by simp [results,Tryz.results76,go_sem]) rfl ⟨_,_,rfl,(BE.out _).2 (.inl ⟨rfl,NO.out⟩),HB.out.trans (hb.mono HB.out.size)⟩
theorem allowB_eq (p:List (List Ins)) (m:List Ru) (x:Xc):allowB p m x=(valsOk p x.fr&&m.all (ruleB p x)):=rfl
theorem allowed_any (pv:Value) (f1 o1 a:Option Addr) (f2 f3 o2 o3 n c:Nat) (p:List (List Ins)) (x:Xc) (m:List Ru) (w:World) (hp:RepP w pv p) (hx:RepX w (.slice f1 f2 f3) (.slice o1 o2 o3) x) (hm:RepM 0 w ⟨a,n,c⟩ m) (hX:execOk p x=true) (hv:∀ r∈m,validR r.e=true) (hl:p.flatten.length≤1048576) :
 Calls Tryz.prog 40 #[pv, .agg #[.slice f1 f2 f3, .slice o1 o2 o3], .slice a n c] w fun e w'=>e = .returned (.bool (allowB p m x))∧Below w.heap.size w w':=by
 have HB:=hide (belowAlloc w (.cells #[.slice f1 f2 f3, .slice o1 o2 o3] 60))
 have HBX:=hide (heap_alloc_new w (.cells #[.slice f1 f2 f3, .slice o1 o2 o3] 60))
 have HV:=hide (valuesOf_any pv (.slice f1 f2 f3) (.slice o1 o2 o3) p x _ (hp.below HB.out) (hx.below HB.out) hl hX)
 have HK:=hide (fun W (hb:Below w.heap.size w W)=>brokenRule_any pv f1 o1 a f2 f3 o2 o3 n c p x m W (hp.below hb) (hx.below hb) (hm.below hb) hX hv hl)
 have AE:=hide (allowB_eq p m x)
 clear hp hx hm hX hv hl
 generalize allowB p m x=R at *
 generalize valsOk p x.fr=vo at *
 generalize hW:w.alloc (.cells #[.slice f1 f2 f3, .slice o1 o2 o3] 60)=W at *
 have x0:W.cell? ⟨w.heap.size,0,none⟩=some (.slice f1 f2 f3):=cell_of_heapV HBX.out (k:=0) rfl
 have x1:W.cell? ⟨w.heap.size,1,none⟩=some (.slice o1 o2 o3):=cell_of_heapV HBX.out (k:=1) rfl
 have xl:=lt_of_cell x0
 clear HBX
 cases vo
 ·have RF:Hid (R=false):=hide (by rw [AE.out];rfl)
  go_enter Tryz.func40,Tryz.ntmps40
  go_wp2_with fail
  clear hW
  (with_reducible refine HV.out.mono ?_);rintro e w1 ⟨u,rfl, -,hb1⟩
  go_wp2_with fail
  go_ret
  exact ⟨by rw [RF.out];rfl,HB.out.trans (hb1.mono HB.out.size)⟩
 ·have RA:Hid (R=m.all (ruleB p x)):=hide (by rw [AE.out];rfl)
  go_enter Tryz.func40,Tryz.ntmps40
  go_wp2_with fail
  clear hW
  (with_reducible refine HV.out.mono ?_);rintro e w1 ⟨u,rfl, -,hb1⟩
  have y0:=(hb1.cell (p:=⟨w.heap.size,0,none⟩) xl).trans x0
  have y1:=(hb1.cell (p:=⟨w.heap.size,1,none⟩) xl).trans x1
  have yl:=lt_of_cell y0
  have HB1:=hide (HB.out.trans (hb1.mono HB.out.size))
  have HK1:=hide (HK.out _ HB1.out)
  clear x0 x1 xl hb1 HV
  go_wp2_with fail
  (with_reducible refine HK1.out.mono ?_);rintro e w2 ⟨q,v,rfl,hq,hb2⟩
  have NG:=hide hq.neg
  clear hq
  go_wp2_with fail
  go_ret
  exact ⟨by rw [RA.out,← NG.out];rfl,HB1.out.trans (hb2.mono HB1.out.size)⟩
end Go.Proofs.YtfbgppkdnfljhaaGreatDoor
namespace Go.Proofs.YtfbgppkdnfljhaaGreatDoor
open Go.RowKit
def allowV (p:List (List Ins)) (m:List Ru):List Xc:=if progValid p=true∧modelOk m=true then allowL p m else []
theorem modelOk_rules {m:List Ru} (h:modelOk m=true):∀ r∈m,validR r.e=true:=by
 intro r hr
 unfold modelOk at h
 simp only [Bool.and_eq_true] at h
 have:=List.all_eq_true.1 h.2.2 r hr
 unfold ruleOk at this
 simp only [Bool.and_eq_true] at this
 exact this.2
theorem allowedC_any (B1 B2:Nat) (pa f1 o1 a:Option Addr) (pn pc f2 f3 o2 o3 n c:Nat) (p:List (List Ins)) (x:Xc) (m:List Ru) (w:World) (c1:w.cell? ⟨B1,0,none⟩=some (.slice pa pn pc)) (c2:w.cell? ⟨B2,0,none⟩=some (.slice a n c))
 (hp:RepP w (.slice pa pn pc) p) (hx:RepX w (.slice f1 f2 f3) (.slice o1 o2 o3) x) (hm:RepM 0 w ⟨a,n,c⟩ m) (hX:execOk p x=true) (hv:∀ r∈m,validR r.e=true) (hl:p.flatten.length≤1048576) :
 Calls Tryz.prog 39 #[.agg #[.slice f1 f2 f3, .slice o1 o2 o3], .pointer (some ⟨B1,0,none⟩), .pointer (some ⟨B2,0,none⟩)] w fun e w'=>e = .returned (.bool (!allowB p m x))∧Below w.heap.size w w':=by
 have HB:=hide (belowAlloc w (.cells #[.slice f1 f2 f3, .slice o1 o2 o3] 60))
 have d1:=(HB.out.cell (p:=⟨B1,0,none⟩) (lt_of_cell c1)).trans c1
 have d2:=(HB.out.cell (p:=⟨B2,0,none⟩) (lt_of_cell c2)).trans c2
 have l1:=lt_of_cell c1;have l2:=lt_of_cell c2
 have HC:=hide (allowed_any (.slice pa pn pc) f1 o1 a f2 f3 o2 o3 n c p x m _ (hp.below HB.out) (hx.below HB.out) (hm.below HB.out) hX hv hl)
 clear hp hx hm hX hv hl d1 d2
 generalize allowB p m x=R at *
 go_enter Tryz.func39,Tryz.ntmps39
 go_wp2_with fail
 (with_reducible refine HC.out.mono ?_);rintro e w2 ⟨rfl,hb2⟩
 go_wp2_with fail
 go_ret
 exact ⟨rfl,HB.out.trans (hb2.mono HB.out.size)⟩
theorem pe_zip {us:List Sl2} {ds:List Dd} {w:World} {base:Nat} {v:Value} {L:List Xc} (h:OwnFU XE 60 Rafter PhiX us ds w base v L):Own PE 60 w base v (us.zip (ds.zip L)):=by
 refine PE.own.2 ?_
 rw [(zipX h.lu h.ld).2.2];exact h.own
theorem filter_nn {α:Type} (f:α→Bool) (xs:List α):(xs.filter fun x => !(!f x))=xs.filter f:=by congr 1;funext x;rw [Bool.not_not]
def RetXs (w:World) (L:List Xc) (e:Ending) (w':World):Prop:=∃ u:Slc,e = .returned (.slice u.a u.n u.cap)∧RowsX w' w.heap.size u.v L∧Below w.heap.size w w'
theorem AllowedExecs_any (pv:Value) (a:Option Addr) (n c:Nat) (p:List (List Ins)) (m:List Ru) (w:World) (hp:RepP w pv p) (hm:RepM 0 w ⟨a,n,c⟩ m) (hl:p.flatten.length≤1048576) (hg:Glob w) :
 Calls Tryz.prog 12 #[pv, .slice a n c] w (RetXs w (allowV p m)):=by
 obtain ⟨pa,pc,rfl, -, -, -, -⟩:=hp.open
 have HB1:=hide (belowAlloc w (.cells #[.slice pa p.length pc] 28))
 have X1:=hide (heap_alloc_new w (.cells #[.slice pa p.length pc] 28))
 have hz1:(w.alloc (.cells #[.slice pa p.length pc] 28)).heap.size=w.heap.size+1:=by simp
 have HB2:=hide (belowAlloc (w.alloc (.cells #[.slice pa p.length pc] 28)) (.cells #[.slice a n c] 30))
 have X2:=hide (heap_alloc_new (w.alloc (.cells #[.slice pa p.length pc] 28)) (.cells #[.slice a n c] 30))
 rw [hz1] at X2
 have Y1:=hide ((HB2.out.block w.heap.size (by omega)).trans X1.out)
 have HB:=hide (HB1.out.trans (HB2.out.mono HB1.out.size))
 clear X1 HB1 HB2 hz1
 have EV:Hid (allowV p m=if progValid p=true∧modelOk m=true then allowL p m else []):=hide rfl
 have HL:Hid (allowL p m=(allX (evAll p)).filter (allowB p m)):=hide rfl
 have HP:=hide (hp.below HB.out);have HM:=hide (hm.below HB.out);have HG:=hide (hg.below HB.out)
 generalize hW:(w.alloc (.cells #[.slice pa p.length pc] 28)).alloc (.cells #[.slice a n c] 30)=W at *
 have c1:W.cell? ⟨w.heap.size,0,none⟩=some (.slice pa p.length pc):=cell_of_heapV Y1.out (k:=0) rfl
 have c2:W.cell? ⟨w.heap.size+1,0,none⟩=some (.slice a n c):=cell_of_heapV X2.out (k:=0) rfl
 have l1:=lt_of_cell c1;have l2:=lt_of_cell c2
 have HV:=hide (ProgramValid_any (.slice pa p.length pc) p W HP.out hl)
 have HMV:=hide (fun w' (hb:Below W.heap.size W w')=>ModelValid_any a n c m w' (HM.out.below hb) (HG.out.below hb))
 have HE:=hide (fun w' (hb:Below W.heap.size W w') hpv=>allExecs_any (.slice pa p.length pc) p w' (HP.out.below hb) hl hpv)
 have PV:Hid (progValid p=true→progValid p=true):=hide id
 have MV:=hide (@modelOk_rules m)
 have XO:=hide (fun (hpv:progValid p=true) (x:Xc) hx=>allX_ok (p:=p) hpv (x:=x) hx)
 have XN:=hide (fun (hpv:progValid p=true)=>allX_le hpv)
 clear hp hm hg X2 Y1
 have B1:Hid (∀ b,progValid p=b→progValid p=b):=hide fun _ h=>h
 generalize hb1:progValid p=b1 at *
 generalize hb2:modelOk m=b2 at *
 have Hb1:=hide hb1;have Hb2:=hide hb2
 clear hb1 hb2 B1 PV
 rcases Bool.eq_false_or_eq_true (b1&&b2) with hbb | hbb
 ·simp only [Bool.and_eq_true] at hbb
  obtain ⟨rfl,rfl⟩:=hbb
  have EL:Hid (allowV p m=(allX (evAll p)).filter (allowB p m)):=hide (by rw [EV.out,if_pos ⟨rfl,rfl⟩,HL.out])
  generalize allowV p m=R at *
  clear EV HL
  go_enter Tryz.func12,Tryz.ntmps12
  go_wp2_with fail
  clear hW
  (with_reducible refine HV.out.mono ?_);rintro e w4 ⟨rfl,hb4⟩
  have g2:=(hb4.cell (p:=⟨w.heap.size+1,0,none⟩) l2).trans c2
  have g2l:=lt_of_cell g2
  have HM4:=hide (HMV.out w4 hb4)
  have HB4:=hide hb4
  clear hb4
  go_wp2_with fail
  (with_reducible refine HM4.out.mono ?_);rintro e w5 ⟨rfl,hb5'⟩
  have hb5:=HB4.out.trans (hb5'.mono HB4.out.size)
  clear hb5' g2 g2l
  have d1:=(hb5.cell (p:=⟨w.heap.size,0,none⟩) l1).trans c1
  have k1:=lt_of_cell d1
  have HB5:=hide hb5
  have HE5:=hide (HE.out w5 hb5 trivial)
  have D1:=hide d1
  have D2:=hide ((hb5.cell (p:=⟨w.heap.size+1,0,none⟩) l2).trans c2)
  clear hb5 HV HMV HE c1 c2
  go_wp2_with fail
  (with_reducible refine HE5.out.mono ?_);rintro e w6 ⟨⟨ua,un,uc⟩,rfl,⟨us,ds,hu⟩,hb6⟩
  have HU:=hide hu
  have hsz:=hb6.size
  have hlz:(us.zip (ds.zip (allX (evAll p)))).length≤1048576:=by
   rw [List.length_zip,hu.lu]
   have:=XN.out trivial;omega
  have HT:Hid (TestsX ⟨w.heap.size,0,none⟩ ⟨w.heap.size+1,0,none⟩ (fun q => !allowB p m q.2.2) (us.zip (ds.zip (allX (evAll p)))) w6 (Slc.v ⟨ua,un,uc⟩).ownBlock):=hide (by
   intro q hq w' hgr
   have hrow:=((zipX_row HU.out hq).2.grown HU.out.own hgr).now
   have hbb:Below w5.heap.size w5 w':=hb6.trans (below_row hgr hsz (fun k hk=>(World.ownsRow.lt HU.out.own k hk).1))
   have hqL:q.2.2∈allX (evAll p):=by
    have:=(zipX HU.out.lu HU.out.ld).1
    rw [← this];exact List.mem_map.2 ⟨q,hq,rfl⟩
   have h1:=(hbb.cell (p:=⟨w.heap.size,0,none⟩) (lt_of_cell D1.out)).trans D1.out
   have h2:=(hbb.cell (p:=⟨w.heap.size+1,0,none⟩) (lt_of_cell D2.out)).trans D2.out
   exact allowedC_any w.heap.size (w.heap.size+1) pa q.1.f.a q.1.o.a a p.length pc q.1.f.n q.1.f.cap q.1.o.n q.1.o.cap n c p q.2.2 m w' h1 h2 ((HP.out.below HB5.out).below hbb) hrow ((HM.out.below HB5.out).below hbb) (XO.out trivial _ hqL) (MV.out trivial) hl)
  have HD:=hide (DeleteFunc_ax ⟨w.heap.size,0,none⟩ ⟨w.heap.size+1,0,none⟩ (Slc.v ⟨ua,un,uc⟩) (us.zip (ds.zip (allX (evAll p)))) (fun q => !allowB p m q.2.2) w6 w5.heap.size (pe_zip hu) hlz HT.out)
  have HB6:=hide (HB.out.trans ((HB5.out.trans (hb6.mono HB5.out.size)).mono HB.out.size))
  have hbs:w.heap.size≤w5.heap.size:=Nat.le_trans HB.out.size HB5.out.size
  clear hu hb6 HT hlz HE5
  go_wp2_with fail
  (with_reducible refine HD.out.mono ?_);rintro e w7 ⟨v7,rfl,o7,hg7, -⟩
  rw [filter_nn (fun q:XP=>allowB p m q.2.2)] at o7
  have R7:=RowsX.filter HU.out (f:=allowB p m) o7 (Nat.le_refl _) (fun q hq=>(zipX_row HU.out hq).2.grown HU.out.own hg7)
  obtain ⟨⟨va,vn,vc⟩,rfl, -⟩:=o7.toSlc
  have HR7:=hide (R7.mono hbs)
  have HB7:=hide (below_row hg7 (B:=w.heap.size) (Nat.le_trans hbs hsz) (fun k hk=>Nat.le_trans hbs (World.ownsRow.lt HU.out.own k hk).1))
  clear R7 o7 hg7
  go_wp2_with fail
  go_ret
  exact ⟨⟨va,vn,vc⟩,rfl,by rw [EL.out];exact HR7.out,HB6.out.trans HB7.out⟩
 ·have EL:Hid (allowV p m=[]):=hide (by
   rw [EV.out,if_neg]
   rintro ⟨rfl,rfl⟩;cases hbb)
  generalize allowV p m=R at *
  clear EV HL
  cases b1
  ·go_enter Tryz.func12,Tryz.ntmps12
   go_wp2_with fail
   clear hW
   (with_reducible refine HV.out.mono ?_);rintro e w5 ⟨rfl,hb5⟩
   go_wp2_with fail
   go_ret
   exact ⟨⟨none,0,0⟩,rfl,by rw [EL.out];exact OwnF.nil _ _ _,HB.out.trans (hb5.mono HB.out.size)⟩
  ·obtain rfl:b2=false:=by simpa using hbb
   go_enter Tryz.func12,Tryz.ntmps12
   go_wp2_with fail
   clear hW
   (with_reducible refine HV.out.mono ?_);rintro e w4 ⟨rfl,hb4⟩
   have g2:=(hb4.cell (p:=⟨w.heap.size+1,0,none⟩) l2).trans c2
   have g2l:=lt_of_cell g2
   have HM4:=hide (HMV.out w4 hb4)
   have HB4:=hide hb4
   clear hb4
   go_wp2_with fail
   (with_reducible refine HM4.out.mono ?_);rintro e w5 ⟨rfl,hb5'⟩
   have hb5:=HB4.out.trans (hb5'.mono HB4.out.size)
   go_wp2_with fail
   go_ret
   exact ⟨⟨none,0,0⟩,rfl,by rw [EL.out];exact OwnF.nil _ _ _,HB.out.trans (hb5.mono HB.out.size)⟩
end Go.Proofs.YtfbgppkdnfljhaaGreatDoor
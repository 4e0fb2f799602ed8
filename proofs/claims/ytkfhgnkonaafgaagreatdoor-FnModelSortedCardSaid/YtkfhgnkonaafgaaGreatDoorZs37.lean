/-
  ExecFor of the program. Condition: bounds on sizes, the listed variables' cells.
-/
import Derived.Test.YtkfhgnkonaafgaaGreatDoorZs35
import Derived.Test.YtkfhgnkonaafgaaGreatDoorZs24
import Derived.Test.YtkfhgnkonaafgaaGreatDoorZs05
import Derived.Test.YtkfhgnkonaafgaaGreatDoorZs09
set_option maxHeartbeats 6400000
set_option maxRecDepth 100000
namespace Go.Proofs.YtkfhgnkonaafgaaGreatDoor
open Go.RowKit
def findX (p:List (List Ins)) (m:List Ru) (o:List Int):Option Xc:=(allowV p m).find? fun x=>decide (outX p x=o)
def execForV (p:List (List Ins)) (m:List Ru) (o:List Int):Option Xc:=if outValid p o=true∧modelOk m=true then findX p m o else none
def xZ:Xc:=⟨[],[]⟩
theorem XO.zero (lo hi:Nat) (W:World):XO lo hi W ⟨none,0,0⟩ ⟨none,0,0⟩ xZ:=
 ⟨[],⟨rfl,Own.nil _ _ _,fun i u r h=>by simp at h,fun i j u u' h=>by simp at h,fun i u h=>by simp at h⟩,Own.nil _ _ _,fun i s h=>by simp at h,fun q h=>by simp [Value.ownBlock] at h,fun q h=>by simp [Value.ownBlock] at h⟩
theorem XO.keepE {lo hi:Nat} {W W':World} {f o:Slc} {x:Xc} (h:XO lo hi W f o x) (hk:∀ q,lo≤q→q < hi→q < W.heap.size→W'.heap[q]? = W.heap[q]?):XO lo hi W' f o x:=by
 obtain ⟨us,⟨h1,h2,h3,h4,h5⟩,hf,hd,hfb,hob⟩:=h
 refine ⟨us,⟨h1,h2.sameV fun q hq=>hk q (World.ownsRow.lt h2 q hq).1 (hob q hq) (World.ownsRow.lt h2 q hq).2,fun i s r hs hr=>(h3 i s r hs hr).sameV fun q hq=>hk q (World.ownsRow.lt (h3 i s r hs hr) q hq).1 (hd i s hs q hq).2 (World.ownsRow.lt (h3 i s r hs hr) q hq).2,h4,h5⟩,
  hf.sameV fun q hq=>hk q (World.ownsRow.lt hf q hq).1 (hfb q hq) (World.ownsRow.lt hf q hq).2,hd,hfb,hob⟩
def RetXF (w:World) (r:Option Xc) (e:Ending) (w':World):Prop:=∃ (f o:Slc) (lo hi:Nat),e = .returned (.tuple #[.agg #[.slice f.a f.n f.cap, .slice o.a o.n o.cap], .bool r.isSome])∧w.heap.size≤lo∧hi≤w'.heap.size∧XO lo hi w' f o (r.getD xZ)∧Below w.heap.size w w'
theorem RetXF.no {w w':World} (h:Below w.heap.size w w'):RetXF w none (.returned (.tuple #[.agg #[.slice none 0 0, .slice none 0 0], .bool false])) w':=
 ⟨⟨none,0,0⟩,⟨none,0,0⟩,w.heap.size,w.heap.size,rfl,Nat.le_refl _,h.size,XO.zero _ _ _,h⟩
theorem ExecFor_any (pv ov:Value) (a:Option Addr) (n c:Nat) (p:List (List Ins)) (m:List Ru) (os:List Int) (w:World) (hp:RepP w pv p) (hm:RepM 0 w ⟨a,n,c⟩ m) (ho:Rep IntE w ov os) (hl:p.flatten.length≤1048576) (hpl:p.length≤1048576) (hg:Glob w) :
 Calls Tryz.prog 12 #[pv, .slice a n c,ov] w (RetXF w (execForV p m os)):=by
 obtain ⟨pa,pc,rfl, -, -, -, -⟩:=hp.open
 obtain ⟨oa,oc,rfl, -, -, -, -⟩:=ho.open
 have HB0:=hide (belowAlloc w (.cells #[.slice none 0 0, .slice none 0 0] 29))
 have HP:=hide (fun W (hb:Below w.heap.size w W)=>hp.below hb)
 have HM:=hide (fun W (hb:Below w.heap.size w W)=>hm.below hb)
 have HOV:=hide (fun W (hb:Below w.heap.size w W)=>ho.below hb)
 have HG:=hide (fun W (hb:Below w.heap.size w W)=>hg.below hb)
 have HV:=hide (OutcomeValid_any _ _ p os _ (HP.out _ HB0.out) (HOV.out _ HB0.out) hl hpl)
 have HMV:=hide (fun W (hb:Below w.heap.size w W)=>ModelValid_any a n c m W (HM.out W hb) (HG.out W hb))
 have HA:=hide (fun W (hb:Below w.heap.size w W)=>AllowedExecs_anyO (.slice pa p.length pc) a n c p m W (HP.out W hb) (HM.out W hb) hl (HG.out W hb))
 have HOK:=hide (fun (x:Xc) (h:x∈allowV p m)=>(allowV_ok h).2)
 have HO:=hide (fun (W:World) (f o:Slc) (x:Xc) (h:RepP W (.slice pa p.length pc) p) (h':RepX W f.v o.v x) (hx:execOk p x=true) (hv:valsOk p x.fr=true)=>(by
  have h1:=outcomeOf_any (.slice pa p.length pc) f.v o.v p x W h h' hl hx
  rw [if_pos hv] at h1
  exact h1:Calls Tryz.prog 43 #[.slice pa p.length pc, .agg #[f.v,o.v]] W (RetNB W (outX p x,true))))
 have ER:Hid (execForV p m os=if outValid p os=true∧modelOk m=true then (allowV p m).find? (fun x=>decide (outX p x=os)) else none):=hide rfl
 have XN:=hide (allowV_le p m)
 have hA4:(w.alloc (.cells #[.slice none 0 0, .slice none 0 0] 29)).heap[w.heap.size]? = some (.cells #[.slice none 0 0, .slice none 0 0] 29 (0,0)):=heap_alloc_new w _
 have HA4:=hide hA4
 have hz0:(w.alloc (.cells #[.slice none 0 0, .slice none 0 0] 29)).heap.size=w.heap.size+1:=by simp
 have HZ0:=hide hz0
 clear hp hm ho hg hA4 hz0
 generalize execForV p m os=R at *
 generalize outValid p os=b1 at *
 generalize modelOk m=b2 at *
 generalize allowV p m=L at *
 generalize outX p=F at *
 generalize p.length=pn at *
 generalize hon:os.length=on at *
 clear hon
 cases b1
 ·obtain rfl:R=none:=by rw [ER.out,if_neg (by simp)]
  go_enter Tryz.func12,Tryz.ntmps12
  go_wp2_with fail
  (with_reducible refine HV.out.mono ?_);rintro e w1 ⟨rfl,hb1⟩
  have hbl:=(hb1.block w.heap.size (by rw [HZ0.out];omega)).trans HA4.out
  have e0:=cell_of_heapV hbl (k:=0) rfl
  have e1:=cell_of_heapV hbl (k:=1) rfl
  have ef:=frozen_of_heapV hbl
  have el:=lt_of_cell e0
  have B1:=hide (HB0.out.trans (hb1.mono HB0.out.size))
  clear hb1 hbl
  go_wp2_with fail
  refine bodyPost_ret (v:=.tuple #[.agg #[.slice none 0 0, .slice none 0 0], .bool false]) (by simp [results,Tryz.results12,go_sem,e0,e1]) rfl (RetXF.no ((B1.out.setCell (Nat.le_refl _) _).setCell (Nat.le_refl _) _))
 ·cases b2
  ·obtain rfl:R=none:=by rw [ER.out,if_neg (by simp)]
   go_enter Tryz.func12,Tryz.ntmps12
   go_wp2_with fail
   (with_reducible refine HV.out.mono ?_);rintro e w1 ⟨rfl,hb1⟩
   have B1:=hide (HB0.out.trans (hb1.mono HB0.out.size))
   have HM1:=hide (HMV.out w1 B1.out)
   have HBL1:=hide ((hb1.block w.heap.size (by rw [HZ0.out];omega)).trans HA4.out)
   have hl1:=(Array.getElem?_eq_some_iff.1 HBL1.out).1
   clear hb1
   go_wp2_with fail
   (with_reducible refine HM1.out.mono ?_);rintro e w2 ⟨rfl,hb2⟩
   have hbl:=(hb2.block w.heap.size hl1).trans HBL1.out
   have e0:=cell_of_heapV hbl (k:=0) rfl
   have e1:=cell_of_heapV hbl (k:=1) rfl
   have ef:=frozen_of_heapV hbl
   have el:=lt_of_cell e0
   have B2:=hide (B1.out.trans (hb2.mono B1.out.size))
   clear hb2 hbl
   go_wp2_with fail
   refine bodyPost_ret (v:=.tuple #[.agg #[.slice none 0 0, .slice none 0 0], .bool false]) (by simp [results,Tryz.results12,go_sem,e0,e1]) rfl (RetXF.no ((B2.out.setCell (Nat.le_refl _) _).setCell (Nat.le_refl _) _))
  ·have ER2:Hid (R=L.find? fun x=>decide (F x=os)):=hide (by rw [ER.out,if_pos ⟨rfl,rfl⟩])
   clear ER
   go_enter Tryz.func12,Tryz.ntmps12
   go_wp2_with fail
   (with_reducible refine HV.out.mono ?_);rintro e w1 ⟨rfl,hb1⟩
   have B1:=hide (HB0.out.trans (hb1.mono HB0.out.size))
   have HM1:=hide (HMV.out w1 B1.out)
   have HBL1:=hide ((hb1.block w.heap.size (by rw [HZ0.out];omega)).trans HA4.out)
   have hl1:=(Array.getElem?_eq_some_iff.1 HBL1.out).1
   clear hb1 HV HMV
   go_wp2_with fail
   (with_reducible refine HM1.out.mono ?_);rintro e w2 ⟨rfl,hb2⟩
   have B2:=hide (B1.out.trans (hb2.mono B1.out.size))
   have HBL2:=hide ((hb2.block w.heap.size hl1).trans HBL1.out)
   have hl2:=(Array.getElem?_eq_some_iff.1 HBL2.out).1
   have HA2:=hide (HA.out w2 B2.out)
   clear hb2 HM1 HBL1 hl1 HA
   go_wp2_with fail
   (with_reducible refine HA2.out.mono ?_);rintro e w3 ⟨⟨ua,un,uc⟩,rfl,⟨us,ds,hu⟩,hb3⟩
   have HU:=hide hu
   have hun:un=L.length:=by
    have h1:=hu.own.len
    rw [hu.lu] at h1;exact h1
   have HUN:=hide hun
   have hU2:un≤3000:=by rw [HUN.out];exact XN.out
   have B3:=hide (B2.out.trans (hb3.mono B2.out.size))
   have HBL3:=hide ((hb3.block w.heap.size hl2).trans HBL2.out)
   have hl3:=(Array.getElem?_eq_some_iff.1 HBL3.out).1
   have HL2:=hide hl2
   clear hu hun HA2 hb3 HBL2 hl2
   go_wp2_with fail
   go_loopw [26] (fun i wr => ∃ k:Nat,k≤un∧i = .int .i64 k∧Hid (∀ x∈L.take k,decide (F x=os)=false)∧Hid (Below w3.heap.size w3 wr)) (fun i _=>un - (intOf i).toNat)
   case atStart=>exact ⟨0,Nat.zero_le _,rfl,hide (by simp),hide (Below.refl _ _)⟩
   case round =>
    obtain ⟨k,hk,rfl,HNO,HBW⟩:=hrel
    by_cases hlt:k < un
    ·have hlt':=nat_of_lt hlt
     obtain ⟨x,hxk⟩:=get_of_lt (xs:=L) (k:=k) (by rw [← HUN.out];exact hlt)
     obtain ⟨u,d,g,hu1,hd1,hga,hg1,hg2,hcell,hdl,hloc⟩:=HU.out.at hxk
     have hdhi:=HU.out.hi d (List.mem_of_getElem? hd1)
     subst hga
     have c0:wr.cell? ⟨g,k * 2,none⟩=some (.slice u.f.a u.f.n u.f.cap):=by
      have:=hcell 0 _ rfl
      exact (HBW.out.cell (p:=⟨g,k * 2,none⟩) hg2).trans (by simpa [XE] using this)
     have c1:wr.cell? ⟨g,k * 2+1,none⟩=some (.slice u.o.a u.o.n u.o.cap):=by
      have:=hcell 1 _ rfl
      exact (HBW.out.cell (p:=⟨g,k * 2+1,none⟩) hg2).trans (by simpa [XE] using this)
     have cl:=lt_of_cell c0
     have BA:=hide (belowAlloc wr (.cells #[.slice u.f.a u.f.n u.f.cap, .slice u.o.a u.o.n u.o.cap] 29))
     have HXO:Hid (XO d.lo d.hi w3 u.f u.o x):=hide hloc.now
     have hRX:RepX wr u.f.v u.o.v x:=(HXO.out.rep).below HBW.out
     have hok:=HOK.out x (List.mem_of_getElem? hxk)
     have HO1:=hide (HO.out _ u.f u.o x ((HP.out wr (B3.out.trans (HBW.out.mono B3.out.size))).below BA.out) (hRX.below BA.out) hok.1 hok.2)
     have HXK:=hide hxk
     have HDL:=hide hdl;have HDH:=hide hdhi
     have HBL:=hide ((HBW.out.block w.heap.size hl3).trans HBL3.out)
     have hAx:=heap_alloc_new wr (.cells #[.slice u.f.a u.f.n u.f.cap, .slice u.o.a u.o.n u.o.cap] 29)
     have HAX:=hide hAx
     have hzr:(wr.alloc (.cells #[.slice u.f.a u.f.n u.f.cap, .slice u.o.a u.o.n u.o.cap] 29)).heap.size=wr.heap.size+1:=by simp
     have HZR:=hide hzr
     obtain ⟨⟨fa,fn,fc⟩,⟨qa,qn,qc⟩⟩:=u
     simp only at c0 c1
     clear hu1 hd1 hcell hloc hxk hRX hok hdl hdhi hAx hzr
     go_wp2_with fail
     (with_reducible refine HO1.out.mono ?_);rintro e w4 ⟨⟨va,vn,vc⟩,rfl,oo,hb4⟩
     have B4:=hide (BA.out.trans (hb4.mono BA.out.size))
     have HAX4:=hide ((hb4.block wr.heap.size (by rw [HZR.out];omega)).trans HAX.out)
     have HEQ:=hide (EqualN_any (Slc.v ⟨va,vn,vc⟩) _ (F x) os w4 oo.rep (HOV.out w4 (B3.out.trans ((HBW.out.trans (B4.out.mono HBW.out.size)).mono B3.out.size))))
     clear hb4 oo HO1 c0 c1 cl HAX
     generalize hD:decide (F x=os)=D at *
     have HD:=hide hD
     clear hD
     cases D
     ·go_wp2_with fail
      (with_reducible refine HEQ.out.mono ?_);rintro e w5 ⟨rfl,hb5⟩
      have B5:=hide (HBW.out.trans ((B4.out.trans (hb5.mono B4.out.size)).mono HBW.out.size))
      have NO:Hid (∀ x∈L.take (k+1),decide (F x=os)=false):=hide (fun y hy=>by
       rw [List.take_add_one,HXK.out,List.mem_append] at hy
       rcases hy with hy | hy
       ·exact HNO.out y hy
       ·simp at hy;subst hy;exact HD.out)
      clear hb5
      go_wp2_with fail
      go_roundw
      case rel=>exact ⟨k+1,by omega,by go_num,NO,B5⟩
      case measure=>simp [intOf];omega
     ·go_wp2_with fail
      (with_reducible refine HEQ.out.mono ?_);rintro e w5 ⟨rfl,hb5⟩
      have h4l:=(Array.getElem?_eq_some_iff.1 HAX4.out).1
      have hbx:=(hb5.block wr.heap.size h4l).trans HAX4.out
      have x0:=cell_of_heapV hbx (k:=0) rfl
      have x1:=cell_of_heapV hbx (k:=1) rfl
      have xl:=lt_of_cell x0
      have B45:=hide (B4.out.trans (hb5.mono B4.out.size))
      have hrl:w.heap.size < wr.heap.size:=Nat.lt_of_lt_of_le hl3 HBW.out.size
      have hbl:=(B45.out.block w.heap.size hrl).trans HBL.out
      have e0:=cell_of_heapV hbl (k:=0) rfl
      have e1:=cell_of_heapV hbl (k:=1) rfl
      have ef:=frozen_of_heapV hbl
      have el:=lt_of_cell e0
      have hne:wr.heap.size≠w.heap.size:=by omega
      have B5:=hide (HBW.out.trans (B45.out.mono HBW.out.size))
      have BW5:=hide (B3.out.trans (B5.out.mono B3.out.size))
      have FR:Hid (R=some x):=hide (by
       rw [ER2.out]
       have h1:=List.take_append_drop k L
       rw [← h1,List.find?_append,List.find?_eq_none.2 (fun y hy=>by rw [HNO.out y hy];simp),Option.none_or]
       have hk2:=(List.getElem?_eq_some_iff.1 HXK.out)
       obtain ⟨hk3,hk4⟩:=hk2
       rw [List.drop_eq_getElem_cons hk3,hk4,List.find?_cons]
       simp only [HD.out])
      clear hbx hbl hb5
      go_wp2_with fail
      refine bodyPost_ret (v:=.tuple #[.agg #[.slice fa fn fc, .slice qa qn qc], .bool true]) (by simp [results,Tryz.results12,go_sem,e0,e1]) rfl ?_
      rw [FR.out]
      refine ⟨⟨fa,fn,fc⟩,⟨qa,qn,qc⟩,d.lo,d.hi,rfl,Nat.le_trans B2.out.size HDL.out, ?_, ?_,(BW5.out.setCell (Nat.le_refl _) _).setCell (Nat.le_refl _) _⟩
      ·simp
       have:=HDH.out;have:=B5.out.size;omega
      ·refine XO.keepE HXO.out fun q h1 h2 h3 => ?_
       have h4:=HL2.out
       have h5:=HDL.out
       rw [heap_setCell_other _ _ q _ (show q≠w.heap.size by omega),heap_setCell_other _ _ q _ (show q≠w.heap.size by omega)]
       exact B5.out.block q h3
    ·obtain rfl:k=un:=by omega
     obtain rfl:R=none:=by
      rw [ER2.out,List.find?_eq_none]
      intro x hx
      rw [HNO.out x (by rw [List.take_of_length_le (by rw [HUN.out];exact Nat.le_refl _)];exact hx)]
      simp
     have hbl:=(HBW.out.block w.heap.size hl3).trans HBL3.out
     have e0:=cell_of_heapV hbl (k:=0) rfl
     have e1:=cell_of_heapV hbl (k:=1) rfl
     have ef:=frozen_of_heapV hbl
     have el:=lt_of_cell e0
     have BW5:=hide (B3.out.trans (HBW.out.mono B3.out.size))
     clear hbl
     go_wp2_with fail
     refine bodyPost_ret (v:=.tuple #[.agg #[.slice none 0 0, .slice none 0 0], .bool false]) (by simp [results,Tryz.results12,go_sem,e0,e1]) rfl (RetXF.no ((BW5.out.setCell (Nat.le_refl _) _).setCell (Nat.le_refl _) _))
end Go.Proofs.YtkfhgnkonaafgaaGreatDoor
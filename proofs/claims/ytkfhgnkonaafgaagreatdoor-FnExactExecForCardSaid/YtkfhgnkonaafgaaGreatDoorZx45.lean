/-
  FnExactExecFor: for every input the law returns true and the input reads afterwards as it read before; the tied card. Condition: none beyond the row's own (the listed variable starts as the program's text lays it, which the card ties).
-/
import Derived.Test.YtkfhgnkonaafgaaGreatDoorZx38
import Derived.Test.YtkfhgnkonaafgaaGreatDoorZx43
import Derived.Test.YtkfhgnkonaafgaaGreatDoorZx42
import Derived.Test.YtkfhgnkonaafgaaGreatDoorZx40
import Derived.Test.YtkfhgnkonaafgaaGreatDoorZx05
import Derived.Test.YtkfhgnkonaafgaaGreatDoorZx41
import Derived.Test.YtkfhgnkonaafgaaGreatDoorZx10
import Derived.Test.YtkfhgnkonaafgaaGreatDoorZx27
import Derived.Test.YtkfhgnkonaafgaaGreatDoorZx44
import Derived.Test.YtkfhgnkonaafgaaGreatDoorZx04
import Derived.Test.YtkfhgnkonaafgaaGreatDoorZx25
import Derived.Test.YtkfhgnkonaafgaaGreatDoorTie
import Derived.Test.YtkfhgnkonaafgaaGreatDoorCards
import Derived.SevenTiedAt
set_option maxHeartbeats 6400000
set_option maxRecDepth 100000
namespace Go.Proofs.YtkfhgnkonaafgaaGreatDoor
open Go.RowKit
theorem markExec_xo (f o : Slc) (x : Xc) (m : Int) (lo hi : Nat) (w : World) (h : XO lo hi w f o x) (hod : x.od.length ≤ 1048576) (hm0 : 0 ≤ m) (hm1 : m + (wX x : Nat) ≤ 268435456) :
    Calls Tryz.prog 20 #[.agg #[.slice f.a f.n f.cap, .slice o.a o.n o.cap], .int .i64 m] w fun e w' => e = .returned (.int .i64 (m + (wX x : Nat))) ∧ RepX w' f.v o.v (mkX x m) ∧ Turn (fun b => lo ≤ b ∧ b < hi) w w' := by
  obtain ⟨rs, hU, hf, hdd, hfb, hob⟩ := h
  have hwx := wX_le (x := x)
  have HWX : Hid (wX x = x.fr.length + sumN (x.od.map List.length)) := hide rfl
  have hb0 := belowAlloc w (.cells #[.slice f.a f.n f.cap, .slice o.a o.n o.cap] 29)
  have HB0 := hide hb0
  have B0 := heap_alloc_new w (.cells #[.slice f.a f.n f.cap, .slice o.a o.n o.cap] 29)
  have HBX := hide B0
  have hfl : ∀ q, f.v.ownBlock = some q → q < w.heap.size := fun q hq => (World.ownsRow.lt hf q hq).2
  have HFL := hide hfl
  have HRL : Hid (∀ q, rowsOf rs q → lo ≤ q ∧ q < hi) := hide (by
    rintro q ⟨j, s, hs, hq⟩
    obtain ⟨r, hr⟩ := get_of_lt (xs := x.od) (k := j) (by rw [← hU.1]; exact (List.getElem?_eq_some_iff.1 hs).1)
    exact ⟨(World.ownsRow.lt (hU.2.2.1 j s r hs hr) q hq).1, (hdd j s hs q hq).2⟩)
  have HFLO : Hid (∀ q, f.v.ownBlock = some q → lo ≤ q ∧ q < hi) := hide (fun q hq => ⟨(World.ownsRow.lt hf q hq).1, hfb q hq⟩)
  have e0 := cell_of_heapV B0 (k := 0) rfl
  have e1 := cell_of_heapV B0 (k := 1) rfl
  have el := lt_of_cell e0
  have HM1 := hide (markIntS_any f.v x.fr m _ lo (hf.below hb0) (by omega) (by omega) (by omega))
  have HM2 := hide (fun (w1 : World) (hg : (w.alloc (.cells #[.slice f.a f.n f.cap, .slice o.a o.n o.cap] 29)).grownBy w1 f.v.ownBlock) => markIntSS_turn rs o.v x.od (m + x.fr.length) w1 lo (⟨hU.1, (hU.2.1.below hb0).sameV (fun q hq => hg.block q (World.ownsRow.lt (hU.2.1.below hb0) q hq).2 (fun e => by
            obtain ⟨b1, hb1⟩ := hU.2.1.typed hq
            obtain ⟨b2, hb2⟩ := hf.typed e.symm
            rw [hb1] at hb2; simp at hb2)), fun i s r hs hr => ((hU.2.2.1 i s r hs hr).below hb0).sameV (fun q hq => hg.block q (World.ownsRow.lt ((hU.2.2.1 i s r hs hr).below hb0) q hq).2 (fun e => (hdd i s hs q hq).1 e.symm)), hU.2.2.2⟩) (by omega) hod (by omega) (by omega))
  have HDD := hide hdd
  obtain ⟨fa, fn, fc⟩ := f
  obtain ⟨oa, on, oc⟩ := o
  clear hU hf hdd hfb hob hb0 B0 hfl hwx hod
  have HFIN : Hid (∀ w1 w2 w3 : World, w3 = w2 → Own IntE 3 w1 lo (Slc.v ⟨fa, fn, fc⟩) (marksN x.fr.length m) → (w.alloc (.cells #[.slice fa fn fc, .slice oa on oc] 29)).grownBy w1 (Slc.v ⟨fa, fn, fc⟩).ownBlock → Own2U IntE 24 3 rs w2 lo (Slc.v ⟨oa, on, oc⟩) (marksQ (x.od.map List.length) (m + x.fr.length)) → Turn (rowsOf rs) w1 w2 →
      RepX w2 (Slc.v ⟨fa, fn, fc⟩) (Slc.v ⟨oa, on, oc⟩) (mkX x m) ∧ Turn (fun b => lo ≤ b ∧ b < hi) w w2) := hide (by
    intro w1 w2 w3 _ g1 g2 g3 g4
    refine ⟨⟨(g1.sameV fun q hq => g4.block q (World.ownsRow.lt g1 q hq).2 ?_).rep, rs, g3.1, g3.2.1.rep, fun i u r hu hr => (g3.2.2.1 i u r hu hr).rep⟩, ((Turn.of_below HB0.out).trans ((Turn.refl _ _).grown g2 fun q hq => HFLO.out q hq)).trans (g4.weak fun q hq => HRL.out q hq)⟩
    rintro ⟨k, s, hs, hsq⟩
    exact (HDD.out k s hs q hsq).1 hq)
  generalize x.fr.length = fl at *
  generalize sumN (x.od.map List.length) = ol at *
  go_enter Tryz.func20, Tryz.ntmps20
  go_wp2_with fail
  generalize w.alloc (.cells #[.slice fa fn fc, .slice oa on oc] 29) = wA at *
  (with_reducible refine HM1.out.mono ?_); rintro e w2 ⟨rfl, g1, g2⟩
  have B2 := (g2.block w.heap.size el (fun e => by have := HFL.out _ e.symm; omega)).trans HBX.out
  have f1 := cell_of_heapV B2 (k := 1) rfl
  have l1 := lt_of_cell f1
  have HM3 := hide (HM2.out w2 g2)
  have G1 := hide g1; have G2 := hide g2
  clear e0 e1 el g1 g2 B2 HM2
  go_wp2_with fail
  (with_reducible refine HM3.out.mono ?_); rintro e w3 ⟨rfl, g3, g4⟩
  have F := hide (HFIN.out w2 w3 w3 rfl G1.out G2.out g3 g4)
  clear g3 g4 f1 l1
  go_wp2_with fail
  go_ret
  rw [HWX.out]
  exact ⟨congrArg (fun q => Ending.returned (Value.int .i64 q)) (by omega), F.out⟩
theorem heldExec_any (f o:Slc) (x:Xc) (m:Int) (w:World) (h:RepX w f.v o.v (mkX x m)) (hm0:0≤m) (hm1:m+(wX x:Nat)≤268435456) :
 Calls Tryz.prog 21 #[.agg #[.slice f.a f.n f.cap, .slice o.a o.n o.cap], .int .i64 m] w fun e w'=>e = .returned (.int .i64 (m+(wX x:Nat)))∧Below w.heap.size w w':=by
 have hwx:=wX_le (x:=x)
 have HWX:Hid (wX x=x.fr.length+sumN (x.od.map List.length)):=hide rfl
 have hb0:=belowAlloc w (.cells #[.slice f.a f.n f.cap, .slice o.a o.n o.cap] 29)
 have HB0:=hide hb0
 have B0:=heap_alloc_new w (.cells #[.slice f.a f.n f.cap, .slice o.a o.n o.cap] 29)
 have e0:=cell_of_heapV B0 (k:=0) rfl
 have e1:=cell_of_heapV B0 (k:=1) rfl
 have el:=lt_of_cell e0
 have hx:=h.below hb0
 have HC1:=hide (heldIntS_any f.v x.fr.length m _ hx.fr (by omega) (by omega) (by omega))
 have HC2:=hide (heldIntSS_any o.v (x.od.map List.length) (m+x.fr.length) _ hx.od (by omega) (by omega) (by omega))
 obtain ⟨fa,fn,fc⟩:=f
 obtain ⟨oa,on,oc⟩:=o
 clear h hb0 B0 hx hwx
 generalize x.fr.length=fl at *
 generalize sumN (x.od.map List.length)=ol at *
 have hn1:¬ (m+(fl:Int) < 0):=by omega
 have hn2:¬ (m+(fl:Int)+ol < 0):=by omega
 go_enter Tryz.func21,Tryz.ntmps21
 go_wp2_with fail
 generalize w.alloc (.cells #[.slice fa fn fc, .slice oa on oc] 29)=wA at *
 (with_reducible refine HC1.out.mono ?_);rintro e w1 ⟨rfl,rfl⟩
 go_wp2_with fail
 (with_reducible refine HC2.out.mono ?_);rintro e w2 ⟨rfl,rfl⟩
 go_wp2_with fail
 go_ret
 rw [HWX.out]
 exact ⟨congrArg (fun q=>Ending.returned (Value.int .i64 q)) (by omega),HB0.out⟩
theorem execFor_few (p:List (List Ins)) (m:List Ru) (o:List Int):((execForV p m o).getD xZ).od.length≤1048576∧wX ((execForV p m o).getD xZ)≤1000000:=by
 obtain ⟨h1,h2⟩:=allowV_few p m
 cases hx:execForV p m o with
 | none=>exact ⟨by simp [xZ],by simp [xZ,wX,sumN]⟩
 | some x =>
  have hm:x∈allowV p m:=by
   unfold execForV at hx
   split at hx
   ·exact List.mem_of_find?_eq_some hx
   ·cases hx
  refine ⟨h1 x hm, ?_⟩
  obtain ⟨k,hk⟩:=List.mem_iff_getElem?.1 hm
  have:=wXs_kid hk
  simp only [Option.getD_some]
  omega
end Go.Proofs.YtkfhgnkonaafgaaGreatDoor
namespace Go.Proofs.YtkfhgnkonaafgaaGreatDoor
open Go.RowKit
theorem szMm_leE (m:List Ru) (l:Int) (h:¬ szMm m l < 0) (hl:l≤1048576):wtM m≤1048576:=by
 unfold szMm at h
 split at h <;> omega
theorem lawFnExactExecFor (v:Value) (p:List (List Ins)) (a:Option Addr) (n c:Nat) (m:List Ru) (v2:Value) (os:List Int) (w:World) (hp:RepP w v p) (hm:RepM 0 w ⟨a,n,c⟩ m) (hnm:∀ r∈m,NmOk r.e) (ho:Rep IntE w v2 os) (hg:Glob w) :
 Calls Tryz.prog 3 #[v, .slice a n c,v2] w fun e w'=>e = .returned (.bool true)∧Below w.heap.size w w':=by
 have HP:=hide (fun W (hb:Below w.heap.size w W)=>hp.below hb)
 have HM:=hide (fun W (hb:Below w.heap.size w W)=>hm.below hb)
 have HO:=hide (fun W (hb:Below w.heap.size w W)=>ho.below hb)
 have HG:=hide (fun W (hb:Below w.heap.size w W)=>hg.below hb)
 have HZ0:=hide (szInstrSS_any v p 1048576 w hp (by omega) (by omega))
 have HS:=hide (fun l W (hb:Below w.heap.size w W) h0 h1=>szRuleS_any m a n c l W (hm.below hb) hnm h0 h1)
 have LE0:=hide (szPP_le2 p 1048576)
 have LE1:=hide (szMm_leE m)
 obtain ⟨pa,pc,rfl, -, -, -, -⟩:=hp.open
 obtain ⟨oa,oc,rfl, -, -, -, -⟩:=ho.open
 clear hp hm hnm ho hg
 generalize hpn:p.length=pn at *
 have HPN:=hide hpn;clear hpn
 generalize szPP p 1048576=Z0 at *
 generalize hon:os.length=on at *
 have HON:Hid (os.length=on):=hide hon
 clear hon
 by_cases hbig:(on:Int) > 1048576
 ·go_enter Tryz.func3,Tryz.ntmps3
  go_wp2_with fail
  go_ret
  exact ⟨rfl,Below.refl _ _⟩
 have hol:on≤1048576:=by omega
 by_cases hz0:Z0 < 0
 ·have hz0':decide (Z0 < 0)=true:=decide_eq_true hz0
  go_enter Tryz.func3,Tryz.ntmps3
  go_wp2_with fail
  (with_reducible refine HZ0.out.mono ?_);rintro e w1 ⟨rfl,hb1⟩
  go_wp2_with fail
  go_ret
  exact ⟨rfl,hb1⟩
 have hz0':decide (Z0 < 0)=false:=decide_eq_false hz0
 obtain ⟨⟨hz1,hz2⟩,hpl,hpf,hpr⟩:=LE0.out hz0 (by omega)
 have HS1:=hide (fun W hb=>HS.out Z0 W hb hz1 hz2)
 have LE2:=hide (fun h=>LE1.out Z0 h hz2)
 clear HS LE1 LE0
 generalize szMm m Z0=Z1 at *
 by_cases hz3:Z1 < 0
 ·have hz3':decide (Z1 < 0)=true:=decide_eq_true hz3
  go_enter Tryz.func3,Tryz.ntmps3
  go_wp2_with fail
  (with_reducible refine HZ0.out.mono ?_);rintro e w1 ⟨rfl,hb1⟩
  go_wp2_with fail
  (with_reducible refine (HS1.out w1 hb1).mono ?_);rintro e w2 ⟨rfl,hb2⟩
  go_wp2_with fail
  go_ret
  exact ⟨rfl,hb1.trans (hb2.mono hb1.size)⟩
 have hz3':decide (Z1 < 0)=false:=decide_eq_false hz3
 have hmw:=LE2.out hz3
 have HTP:=hide (fun W hb=>toInstrSS_any _ p W (HP.out W hb) (by rw [HPN.out];exact hpl) hpr)
 have HTM:=hide (fun W hb=>toRuleS_anyO m a n c W (HM.out W hb) hmw)
 have HTO:=hide (fun W hb=>toIntS_any _ os W (HO.out W hb) (by rw [HON.out];exact hol))
 have HSA:=hide (fun pv ov a n c W h1 h2 h3=>sExecFor_any pv ov a n c p m os W h1 h2 h3 hpf (by rw [HPN.out];exact hpl) hmw)
 have HIA:=hide (fun pv ov a n c W h1 h2 h3 h4=>ExecFor_any pv ov a n c p m os W h1 h2 h3 hpf (by rw [HPN.out];exact hpl) h4)
 have HEP:=hide (fun x y W h1 h2=>eqInstrSS_any x y p p W h1 h2)
 have HEM:=hide (fun a a' n c n' c' W h1 h2=>eqRuleS_any m m a a' n c n' c' true W h1 h2 (by simp))
 have HEO:=hide (fun x y W h1 h2=>eqIntS_any x y os os W h1 h2)
 have hsum:sumN (p.map List.length)≤1048576:=by rw [sumN_flatten];exact hpf
 have HMP:=hide (fun x w0 W base h1 h2=>markInstrSS_any x p 1 w0 W base h1 h2 (by omega) (by rw [HPN.out];exact hpl) (by omega) (by omega))
 have hdsc:dscM m≤3145728:=by have:=dscM_wt m;omega
 have HMM:=hide (fun a n c (k:Int) W base us ds HH h1 h2 h5 (h3:0≤k) (h4:k≤100000000)=>markRuleS_any m base a n c k W us ds HH h1 h2 h5 h3 (by omega))
 have HMO:=hide (fun x (k:Int) W base h1 (h3:0≤k) (h4:k≤1000000000)=>markIntS_any x os k W base h1 (by rw [HON.out];omega) h3 (by omega))
 obtain ⟨hod,hwx⟩:=execFor_few p m os
 have HMX:=hide (fun f o W lo hi h1=>markExec_xo f o ((execForV p m os).getD xZ) 1 lo hi W h1 hod (by omega) (by omega))
 have HHX:=hide (fun f o W h1=>heldExec_any f o ((execForV p m os).getD xZ) 1 W h1 (by omega) (by omega))
 have HEX:=hide (fun vf vo uf uo W h1 h2=>eqX_same vf vo uf uo ((execForV p m os).getD xZ) W h1 h2)
 have hdd:decide (p=p)=true:=decide_eq_true rfl
 have hdo:decide (os=os)=true:=decide_eq_true rfl
 rw [hdd] at HEP
 rw [hdo] at HEO
 clear hdd hdo hod hdsc hmw hpl hpf hpr hz1 hz2 LE2
 generalize sumN (p.map List.length)=SP at *
 generalize hR:execForV p m os=R at *
 clear hR
 generalize hX:R.getD xZ=X at *
 have HX:=hide hX
 generalize hB:R.isSome=B at *
 have HB:=hide hB
 clear hX hB
 generalize wX X=WX at *
 have hwn:¬ ((1:Int)+WX < 0):=by omega
 have HXF:Hid (∀ W e W',RetXF W R e W'→∃ (f o:Slc) (lo hi:Nat),e = .returned (.tuple #[.agg #[.slice f.a f.n f.cap, .slice o.a o.n o.cap], .bool B])∧W.heap.size≤lo∧hi≤W'.heap.size∧XO lo hi W' f o X∧Below W.heap.size W W'):=hide (by
  rintro W e W' ⟨f,o,lo,hi,h1,h2,h3,h4,h5⟩
  rw [HB.out] at h1;rw [HX.out] at h4
  exact ⟨f,o,lo,hi,h1,h2,h3,h4,h5⟩)
 have HXS:Hid (∀ W e W',RetXS W R e W'→∃ (f o:Slc),e = .returned (.tuple #[.agg #[.slice f.a f.n f.cap, .slice o.a o.n o.cap], .bool B])∧RepX W' f.v o.v X∧Below W.heap.size W W'):=hide (by
  rintro W e W' ⟨f,o,h1,h2,h3⟩
  rw [HB.out] at h1;rw [HX.out] at h2
  exact ⟨f,o,h1,h2,h3⟩)
 go_enter Tryz.func3,Tryz.ntmps3
 go_wp2_with fail
 (with_reducible refine HZ0.out.mono ?_);rintro e w1 ⟨rfl,hb1⟩
 go_wp2_with fail
 (with_reducible refine (HS1.out w1 hb1).mono ?_);rintro e w2 ⟨rfl,hb2⟩
 have H2:=hide (hb1.trans (hb2.mono hb1.size))
 clear hb1 hb2 HZ0 HS1
 go_wp2_with fail
 (with_reducible refine (HTP.out w2 H2.out).mono ?_);rintro e w3 ⟨v3,rfl,o3,hb3⟩
 have H3:=hide (H2.out.trans (hb3.mono H2.out.size))
 have O3:=hide o3.rep
 clear hb3 o3
 go_wp2_with fail
 (with_reducible refine (HTM.out w3 H3.out).mono ?_);rintro e w4 ⟨⟨s1,s2,s3⟩,rfl,o4,hb4⟩
 have J4:=hide hb4
 have H4:=hide (H3.out.trans (hb4.mono H3.out.size))
 have O4:=hide (o4.weak.rep.low (Nat.zero_le _))
 clear hb4 o4
 go_wp2_with fail
 (with_reducible refine (HTO.out w4 H4.out).mono ?_);rintro e w4' ⟨v4,rfl,o4',hb4'⟩
 have H4':=hide (H4.out.trans (hb4'.mono H4.out.size))
 have HSC:=hide (HSA.out v3 v4 s1 s2 s3 w4' (O3.out.below (J4.out.trans (hb4'.mono J4.out.size))) (O4.out.below hb4') o4'.rep)
 clear hb4' o4' O3 O4 J4
 go_wp2_with fail
 refine HSC.out.mono ?_;intro e w5' hx5
 obtain ⟨⟨tfa,tfn,tfc⟩,⟨toa,ton,toc⟩,rfl,o5,hb5⟩:=HXS.out _ _ _ hx5
 obtain ⟨w5,hw5⟩:∃ W,W=w5'.alloc (.cells #[.slice tfa tfn tfc, .slice toa ton toc] 29):=⟨_,rfl⟩
 have ba5:Below w5'.heap.size w5' w5:=by rw [hw5];exact belowAlloc _ _
 have hTB:w5.heap[w5'.heap.size]? = some (.cells #[.slice tfa tfn tfc, .slice toa ton toc] 29 (0,0)):=by rw [hw5];exact heap_alloc_new _ _
 have TB:=hide hTB
 have htl:=(Array.getElem?_eq_some_iff.1 hTB).1
 have H5:=hide (H4'.out.trans ((hb5.trans (ba5.mono hb5.size)).mono H4'.out.size))
 have T5:=hide (o5.below ba5)
 clear hb5 o5 HSC hx5 ba5 hTB
 go_wp2_with fail
 rw [← hw5]
 clear hw5
 (with_reducible refine (HTP.out w5 H5.out).mono ?_);rintro e w6 ⟨v6,rfl,o6,hb6⟩
 have OP6:=hide o6
 have K6:=hide hb6
 obtain ⟨⟨x1,x2,x3⟩,rfl⟩:=own2_slc o6
 have H6:=hide (H5.out.trans (hb6.mono H5.out.size))
 clear hb6 o6
 go_wp2_with fail
 (with_reducible refine (HTM.out w6 H6.out).mono ?_);rintro e w7 ⟨⟨y1,y2,y3⟩,rfl,o7,hb7⟩
 have OM7:=hide o7
 obtain ⟨usm,dsm,hU7⟩:=id o7
 have OMU7:=hide hU7
 have HGH:=hide (fun g hg=>(World.ownsRow.lt hU7.own g hg).2)
 have HLE:=hide (fun d hd=>hU7.hi d hd)
 clear hU7
 have P7:=hide hb7
 have K7:=hide (K6.out.trans (hb7.mono K6.out.size))
 have H7:=hide (H5.out.trans (K7.out.mono H5.out.size))
 clear hb7 o7
 go_wp2_with fail
 (with_reducible refine (HTO.out w7 H7.out).mono ?_);rintro e wz ⟨vz,rfl,oz,hbz⟩
 have OZ:=hide oz
 have PZ:=hide (P7.out.trans (hbz.mono P7.out.size))
 have MZ:=hide hbz
 have KZ:=hide (K7.out.trans (hbz.mono K7.out.size))
 have HZ:=hide (H5.out.trans (KZ.out.mono H5.out.size))
 have HIC:=hide (HIA.out _ vz y1 y2 y3 wz (OP6.out.rep.below PZ.out) ((OM7.out.weak.rep.low (Nat.zero_le _)).below hbz) oz.rep (HG.out wz HZ.out))
 clear hbz oz
 go_wp2_with fail
 refine HIC.out.mono ?_;intro e w8' hx8
 obtain ⟨⟨gfa,gfn,gfc⟩,⟨goa,gon,goc⟩,lo,hi,rfl,hlo8,hhi8,o8,hb8'⟩:=HXF.out _ _ _ hx8
 obtain ⟨w8,hw8⟩:∃ W,W=w8'.alloc (.cells #[.slice gfa gfn gfc, .slice goa gon goc] 29):=⟨_,rfl⟩
 have ba8:Below w8'.heap.size w8' w8:=by rw [hw8];exact belowAlloc _ _
 have hGB:w8.heap[w8'.heap.size]? = some (.cells #[.slice gfa gfn gfc, .slice goa gon goc] 29 (0,0)):=by rw [hw8];exact heap_alloc_new _ _
 have hb8:=hb8'.trans (ba8.mono hb8'.size)
 have GB8:=hide hGB
 have OX8:=hide (XO.keepE (W':=w8) o8 fun q _ _ h=>ba8.block q h)
 have Z8:=hide hb8
 have HLO:=hide hlo8;have HHI:=hide hhi8;have HSZ8:=hide hb8'.size
 have P8:=hide (PZ.out.trans (hb8.mono PZ.out.size))
 have M8:=hide (MZ.out.trans (hb8.mono MZ.out.size))
 have K8:=hide (KZ.out.trans (hb8.mono KZ.out.size))
 have HEC:=hide (HEX.out (.slice gfa gfn gfc) (.slice goa gon goc) (.slice tfa tfn tfc) (.slice toa ton toc) w8 OX8.out.rep (T5.out.below K8.out))
 have tb:=((KZ.out.trans (hb8'.mono KZ.out.size)).block w5'.heap.size htl).trans TB.out
 have t0:=cell_of_heapV tb (k:=0) rfl;have t1:=cell_of_heapV tb (k:=1) rfl;have tl:=lt_of_cell t0
 clear hb8 hb8' ba8 hGB o8 HIC hx8 hlo8 hhi8 tb
 go_wp2_with fail
 rw [← hw8]
 clear hw8
 (with_reducible refine HEC.out.mono ?_);rintro e w9 ⟨rfl,hb9⟩
 have OX9:=hide (XO.keepE (W':=w9) OX8.out fun q _ _ h=>hb9.block q h)
 have GB9:=hide ((hb9.block w8'.heap.size (Array.getElem?_eq_some_iff.1 GB8.out).1).trans GB8.out)
 have Z9:=hide (Z8.out.trans (hb9.mono Z8.out.size))
 have P9:=hide (P8.out.trans (hb9.mono P8.out.size))
 have M9:=hide (M8.out.trans (hb9.mono M8.out.size))
 have K9:=hide (K8.out.trans (hb9.mono K8.out.size))
 clear hb9 HEC t0 t1 tl OX8 GB8 Z8 P8 M8 K8
 have H9:=hide (H5.out.trans (K9.out.mono H5.out.size))
 go_wp2_with fail
 (with_reducible refine (HTP.out w9 H9.out).mono ?_);rintro e w10 ⟨v10,rfl,o10,hb10⟩
 have HEC:=hide (HEP.out _ v10 w10 (OP6.out.rep.below (P9.out.trans (hb10.mono P9.out.size))) o10.rep)
 clear o10 H9
 have OX10:=hide (XO.keepE (W':=w10) OX9.out fun q _ _ h=>hb10.block q h)
 have GB10:=hide ((hb10.block w8'.heap.size (Array.getElem?_eq_some_iff.1 GB9.out).1).trans GB9.out)
 have Z10:=hide (Z9.out.trans (hb10.mono Z9.out.size))
 have P10:=hide (P9.out.trans (hb10.mono P9.out.size))
 have M10:=hide (M9.out.trans (hb10.mono M9.out.size))
 have K10:=hide (K9.out.trans (hb10.mono K9.out.size))
 clear hb10  OX9 GB9 Z9 P9 M9 K9
 go_wp2_with fail
 (with_reducible refine HEC.out.mono ?_);rintro e w11 ⟨rfl,hb11⟩
 have OX11:=hide (XO.keepE (W':=w11) OX10.out fun q _ _ h=>hb11.block q h)
 have GB11:=hide ((hb11.block w8'.heap.size (Array.getElem?_eq_some_iff.1 GB10.out).1).trans GB10.out)
 have Z11:=hide (Z10.out.trans (hb11.mono Z10.out.size))
 have P11:=hide (P10.out.trans (hb11.mono P10.out.size))
 have M11:=hide (M10.out.trans (hb11.mono M10.out.size))
 have K11:=hide (K10.out.trans (hb11.mono K10.out.size))
 clear hb11 HEC OX10 GB10 Z10 P10 M10 K10
 have H11:=hide (H5.out.trans (K11.out.mono H5.out.size))
 go_wp2_with fail
 (with_reducible refine (HTM.out w11 H11.out).mono ?_);rintro e w12 ⟨⟨q1,q2,q3⟩,rfl,o12,hb12⟩
 have HEC:=hide (HEM.out y1 q1 y2 y3 q2 q3 w12 ((OM7.out.weak.rep.low (Nat.zero_le _)).below (M11.out.trans (hb12.mono M11.out.size))) (o12.weak.rep.low (Nat.zero_le _)))
 clear o12 H11
 have OX12:=hide (XO.keepE (W':=w12) OX11.out fun q _ _ h=>hb12.block q h)
 have GB12:=hide ((hb12.block w8'.heap.size (Array.getElem?_eq_some_iff.1 GB11.out).1).trans GB11.out)
 have Z12:=hide (Z11.out.trans (hb12.mono Z11.out.size))
 have P12:=hide (P11.out.trans (hb12.mono P11.out.size))
 have M12:=hide (M11.out.trans (hb12.mono M11.out.size))
 have K12:=hide (K11.out.trans (hb12.mono K11.out.size))
 clear hb12  OX11 GB11 Z11 P11 M11 K11
 go_wp2_with fail
 (with_reducible refine HEC.out.mono ?_);rintro e w13 ⟨rfl,hb13⟩
 have OX13:=hide (XO.keepE (W':=w13) OX12.out fun q _ _ h=>hb13.block q h)
 have GB13:=hide ((hb13.block w8'.heap.size (Array.getElem?_eq_some_iff.1 GB12.out).1).trans GB12.out)
 have Z13:=hide (Z12.out.trans (hb13.mono Z12.out.size))
 have P13:=hide (P12.out.trans (hb13.mono P12.out.size))
 have M13:=hide (M12.out.trans (hb13.mono M12.out.size))
 have K13:=hide (K12.out.trans (hb13.mono K12.out.size))
 clear hb13 HEC OX12 GB12 Z12 P12 M12 K12
 have H13:=hide (H5.out.trans (K13.out.mono H5.out.size))
 go_wp2_with fail
 (with_reducible refine (HTO.out w13 H13.out).mono ?_);rintro e wa ⟨va,rfl,oa',hba⟩
 have HEC:=hide (HEO.out vz va wa (OZ.out.rep.below (Z13.out.trans (hba.mono Z13.out.size))) oa'.rep)
 clear oa' H13
 have OXa:=hide (XO.keepE (W':=wa) OX13.out fun q _ _ h=>hba.block q h)
 have GBa:=hide ((hba.block w8'.heap.size (Array.getElem?_eq_some_iff.1 GB13.out).1).trans GB13.out)
 have Za:=hide (Z13.out.trans (hba.mono Z13.out.size))
 have Pa:=hide (P13.out.trans (hba.mono P13.out.size))
 have Ma:=hide (M13.out.trans (hba.mono M13.out.size))
 have Ka:=hide (K13.out.trans (hba.mono K13.out.size))
 clear hba  OX13 GB13 Z13 P13 M13 K13
 go_wp2_with fail
 (with_reducible refine HEC.out.mono ?_);rintro e wb ⟨rfl,hbb⟩
 have OXb:=hide (XO.keepE (W':=wb) OXa.out fun q _ _ h=>hbb.block q h)
 have GBb:=hide ((hbb.block w8'.heap.size (Array.getElem?_eq_some_iff.1 GBa.out).1).trans GBa.out)
 have Zb:=hide (Za.out.trans (hbb.mono Za.out.size))
 have Pb:=hide (Pa.out.trans (hbb.mono Pa.out.size))
 have Mb:=hide (Ma.out.trans (hbb.mono Ma.out.size))
 have Kb:=hide (Ka.out.trans (hbb.mono Ka.out.size))
 clear hbb HEC OXa GBa Za Pa Ma Ka
 have HKP:=hide (HMP.out _ w6 wb w5.heap.size OP6.out Pb.out)
 go_wp2_with fail
 (with_reducible refine HKP.out.mono ?_);rintro e w14 ⟨rfl, -,ht14⟩
 have hs67:=P7.out.size
 have hs56:=K6.out.size
 have hs7z:=MZ.out.size
 have hlo:=HLO.out
 have hhi:=HHI.out
 have hzg:=Nat.lt_of_lt_of_le (Array.getElem?_eq_some_iff.1 GBb.out).1 (Nat.le_refl _)
 have hz8:wz.heap.size≤w8'.heap.size:=HSZ8.out
 have OMUb:=hide (OMU7.out.below Mb.out)
 have OMU14:=hide (OMUb.out.outsA ht14 (Nat.le_refl _))
 have OZb:=hide (OZ.out.below Zb.out)
 have OZ14:=hide (ht14.own OZb.out fun q hq => .inr (by have:=(World.ownsRow.lt OZb.out q hq).1;omega))
 have OX14:=hide (XO.keepE (W':=w14) OXb.out fun q h1 _ h=>ht14.block q h (by omega))
 have GB14:=hide ((ht14.block w8'.heap.size hzg (by omega)).trans GBb.out)
 have K14:=hide (Kb.out.trans (ht14.below (Nat.le_refl _) Kb.out.size))
 have HKM:=hide (HMM.out y1 y2 y3 (1+4 * SP) w14 w6.heap.size usm dsm w7.heap.size OMU14.out HGH.out HLE.out (by omega) (by omega))
 have hzg14:=(Array.getElem?_eq_some_iff.1 GB14.out).1
 clear ht14 HKP OXb Kb OMUb OMU14 OMU7 Mb Pb OZb Zb GBb hzg
 go_wp2_with fail
 (with_reducible refine HKM.out.mono ?_);rintro e w15 ⟨q15,xs15,rfl,hmk,hq15b, -,ht15⟩
 have hq15:=hmk.pos
 have hqn:¬ q15 < 0:=by omega
 have hqd:decide (q15 < 0)=false:=decide_eq_false hqn
 have hqn2:¬ q15+(on:Int) < 0:=by omega
 have hqd2:decide (q15+(on:Int) < 0)=false:=decide_eq_false hqn2
 have HTO15:=hide ht15.outside
 have OZ15:=hide (HTO15.out.own OZ14.out fun q hq => .inr (World.ownsRow.lt OZ14.out q hq).1)
 have OX15:=hide (XO.keepE (W':=w15) OX14.out fun q h1 _ h=>HTO15.out.block q h (by omega))
 have GB15:=hide ((HTO15.out.block w8'.heap.size hzg14 (by omega)).trans GB14.out)
 have K15:=hide (K14.out.trans (ht15.below (fun q hq=>by omega) K14.out.size))
 have HKZ:=hide (HMO.out vz q15 w15 w7.heap.size OZ15.out (by omega) (by omega))
 rw [HON.out] at HKZ
 have hzlt:∀ q,vz.ownBlock=some q→w7.heap.size≤q∧q < wz.heap.size:=fun q hq=>World.ownsRow.lt OZ.out q hq
 have HZLT:=hide hzlt
 have hzg15:=(Array.getElem?_eq_some_iff.1 GB15.out).1
 clear ht15 hmk HKM OX14 K14 HTO15 OZ14 hzlt GB14 hzg14
 go_wp2_with fail
 (with_reducible refine HKZ.out.mono ?_);rintro e w16 ⟨rfl, -,hg16⟩
 have OX16:=hide (XO.keepE (W':=w16) OX15.out fun q h1 _ h=>hg16.block q h (fun e=>by have:=(HZLT.out q e.symm).2;omega))
 have GB16:=hide ((hg16.block w8'.heap.size hzg15 (fun e=>by have:=(HZLT.out _ e.symm).2;omega)).trans GB15.out)
 have K16:=hide (K15.out.grown hg16 K15.out.size (fun q hq=>by have:=(HZLT.out q hq).1;omega))
 have HEC:=hide (HEX.out (.slice gfa gfn gfc) (.slice goa gon goc) (.slice tfa tfn tfc) (.slice toa ton toc) w16 OX16.out.rep (T5.out.below K16.out))
 have g0:=cell_of_heapV GB16.out (k:=0) rfl;have g1:=cell_of_heapV GB16.out (k:=1) rfl;have gl:=lt_of_cell g0
 have tb:=(K16.out.block w5'.heap.size htl).trans TB.out
 have t0:=cell_of_heapV tb (k:=0) rfl;have t1:=cell_of_heapV tb (k:=1) rfl;have tl:=lt_of_cell t0
 clear hg16 HKZ OX15 K15 OZ15 GB15 hzg15 tb
 go_wp2_with fail
 (with_reducible refine HEC.out.mono ?_);rintro e w17 ⟨rfl,hb17⟩
 have OX17:=hide (XO.keepE (W':=w17) OX16.out fun q _ _ h=>hb17.block q h)
 have GB17:=hide ((hb17.block w8'.heap.size (Array.getElem?_eq_some_iff.1 GB16.out).1).trans GB16.out)
 have K17:=hide (K16.out.trans (hb17.mono K16.out.size))
 clear hb17 HEC g0 g1 gl t0 t1 tl OX16 GB16 K16
 have HKX:=hide (HMX.out ⟨gfa,gfn,gfc⟩ ⟨goa,gon,goc⟩ w17 lo hi OX17.out)
 have g0:=cell_of_heapV GB17.out (k:=0) rfl;have g1:=cell_of_heapV GB17.out (k:=1) rfl;have gl:=lt_of_cell g0
 go_wp2_with fail
 (with_reducible refine HKX.out.mono ?_);rintro e w18 ⟨rfl,hr18,ht18⟩
 have GB18:=hide ((ht18.block w8'.heap.size gl (by omega)).trans GB17.out)
 have K18:=hide (K17.out.trans (ht18.below (fun q hq=>by omega) K17.out.size))
 have R18:=hide hr18
 have HH18:=hide (HHX.out ⟨gfa,gfn,gfc⟩ ⟨goa,gon,goc⟩ w18 hr18)
 have H18:=hide (H5.out.trans (K18.out.mono H5.out.size))
 clear ht18 hr18 HKX OX17 K17 GB17 g0 g1 gl
 have g0:=cell_of_heapV GB18.out (k:=0) rfl;have g1:=cell_of_heapV GB18.out (k:=1) rfl;have gl:=lt_of_cell g0
 go_wp2_with fail
 (with_reducible refine HH18.out.mono ?_);rintro e w19 ⟨rfl,hb19⟩
 have R19:=hide (R18.out.below hb19)
 have GB19:=hide ((hb19.block w8'.heap.size gl).trans GB18.out)
 have K19:=hide (K18.out.trans (hb19.mono K18.out.size))
 have H19:=hide (H18.out.trans (hb19.mono H18.out.size))
 clear hb19 HH18 R18 K18 H18 GB18 g0 g1 gl
 go_wp2_with fail
 (with_reducible refine (HTP.out w19 H19.out).mono ?_);rintro e w20 ⟨v20,rfl,o20,hb20⟩
 have O20:=hide o20.rep
 have J20:=hide hb20
 have H20:=hide (H19.out.trans (hb20.mono H19.out.size))
 clear hb20 o20
 go_wp2_with fail
 (with_reducible refine (HTM.out w20 H20.out).mono ?_);rintro e w21 ⟨⟨r1,r2,r3⟩,rfl,o21,hb21⟩
 have O21:=hide (o21.weak.rep.low (Nat.zero_le _))
 have L21:=hide hb21
 have J21:=hide (J20.out.trans (hb21.mono J20.out.size))
 have H21:=hide (H20.out.trans (hb21.mono H20.out.size))
 clear hb21 o21
 go_wp2_with fail
 (with_reducible refine (HTO.out w21 H21.out).mono ?_);rintro e w22 ⟨v22,rfl,o22,hb22⟩
 have J22:=hide (J21.out.trans (hb22.mono J21.out.size))
 have H22:=hide (H21.out.trans (hb22.mono H21.out.size))
 have HIC:=hide (HIA.out v20 v22 r1 r2 r3 w22 (O20.out.below (L21.out.trans (hb22.mono L21.out.size))) (O21.out.below hb22) o22.rep (HG.out w22 H22.out))
 clear hb22 o22 O20 O21 L21
 go_wp2_with fail
 refine HIC.out.mono ?_;intro e w23' hx23
 obtain ⟨⟨hfa,hfn,hfc⟩,⟨hoa,hon,hoc⟩,lo2,hi2,rfl, -, -,o23,hb23⟩:=HXF.out _ _ _ hx23
 obtain ⟨w23,hw23⟩:∃ W,W=w23'.alloc (.cells #[.slice hfa hfn hfc, .slice hoa hon hoc] 29):=⟨_,rfl⟩
 have ba23:Below w23'.heap.size w23' w23:=by rw [hw23];exact belowAlloc _ _
 have hHB:w23.heap[w23'.heap.size]? = some (.cells #[.slice hfa hfn hfc, .slice hoa hon hoc] 29 (0,0)):=by rw [hw23];exact heap_alloc_new _ _
 have J23:=hide (J22.out.trans ((hb23.trans (ba23.mono hb23.size)).mono J22.out.size))
 have K23:=hide (K19.out.trans (J23.out.mono K19.out.size))
 have HEC:=hide (HEX.out (.slice hfa hfn hfc) (.slice hoa hon hoc) (.slice tfa tfn tfc) (.slice toa ton toc) w23 (o23.rep.below ba23) (T5.out.below K23.out))
 have tb:=((K19.out.trans ((J22.out.trans (hb23.mono J22.out.size)).mono K19.out.size)).block w5'.heap.size htl).trans TB.out
 have t0:=cell_of_heapV tb (k:=0) rfl;have t1:=cell_of_heapV tb (k:=1) rfl;have tl:=lt_of_cell t0
 clear hb23 o23 HIC hx23 ba23 hHB tb
 go_wp2_with fail
 rw [← hw23]
 clear hw23
 (with_reducible refine HEC.out.mono ?_);rintro e w24 ⟨rfl,hb24⟩
 have J24:=hide (J23.out.trans (hb24.mono J23.out.size))
 have H24:=hide (H19.out.trans (J24.out.mono H19.out.size))
 have HH24:=hide (HHX.out ⟨gfa,gfn,gfc⟩ ⟨goa,gon,goc⟩ w24 (R19.out.below J24.out))
 have gb24:=(J24.out.block w8'.heap.size (Array.getElem?_eq_some_iff.1 GB19.out).1).trans GB19.out
 clear hb24 HEC t0 t1 tl
 have g0:=cell_of_heapV gb24 (k:=0) rfl;have g1:=cell_of_heapV gb24 (k:=1) rfl;have gl:=lt_of_cell g0
 clear gb24
 go_wp2_with fail
 (with_reducible refine HH24.out.mono ?_);rintro e w25 ⟨rfl,hb25⟩
 have H25:=hide (H24.out.trans (hb25.mono H24.out.size))
 clear hb25
 go_wp2_with fail
 go_ret
 exact ⟨rfl,H25.out⟩
end Go.Proofs.YtkfhgnkonaafgaaGreatDoor
namespace Go.Proofs.YtkfhgnkonaafgaaGreatDoor
open Go Go.RowKit Go.ChangeShapes Go.WideShapes Go.ChangeAt
open Go.ChangeMaps (open_string)
theorem fnExactExecFor_reads:∀ t∈Tryz.f3.params.toList,Tryz.prog.readableRec t=true∧t < Tryz.prog.types.size:=by
 intro t ht
 have:t=22∨t=23∨t=24:=by simpa [Tryz.params3] using ht
 rcases this with rfl | rfl | rfl
 ·exact ⟨by kernel_rfl,of_decide_eq_true (by kernel_rfl)⟩
 ·exact ⟨by kernel_rfl,of_decide_eq_true (by kernel_rfl)⟩
 ·exact ⟨by kernel_rfl,of_decide_eq_true (by kernel_rfl)⟩
theorem fnExactExecFor_lifted (os:Os) (started:os.Started) (H:Type) (enc:TypeId × Value→H) :
 ReturnsInHanded {} Tryz.checked os 3 .any (fun w args=>(Rows.fnExactExecForSpec.pre enc Tryz.prog Tryz.f3 [] false w args∧laidMetH Tryz.prog laidL w)∧sizedMet enc Tryz.prog Tryz.f3 (OpenSpec.ofChange Rows.fnExactExecForSpec) false w args)
  (Rows.fnExactExecForSpec.post enc Tryz.prog Tryz.f3 false true false false):=by
 refine returnsInHanded_of_change_and (C:=Tryz.checked) (X:=fun w _=>laidMetH Tryz.prog laidL w) (fun _ _ _ hh h=>h.of_heap hh) Tryz.own started (by kernel_rfl) Tryz.func3
  (ChangeSpec.witness_shaped (enc:=enc) (C:=Tryz.checked) (os:=os) (X:=fun w _=>laidMetH Tryz.prog laidL w) false (World.doorLaid Tryz.prog 14 os) #[.slice none 0 0, .slice none 0 0, .slice none 0 0] 8 rfl (World.shaped_of_RefB (by kernel_rfl) (by kernel_rfl)) (by kernel_rfl) (by kernel_rfl) (by kernel_rfl) (door_met os _)) ?_
 intro W base args ds gs before hval0 hW _ _ hL _
 have hval:∀ (j:Nat) t v,Tryz.f3.params[j]? = some t→args[j]? = some v→Value.okWide Tryz.prog W .any base t v:=hval0
 have hW':=hW
 obtain ⟨p,q,hA0,hV,rfl,hfz,hnd⟩:=hW
 have hA:DataW.TrodAll enc Tryz.prog W 0 (fun _=>true) true Tryz.f3.params.toList args.toList ds p:=hA0
 rw [Tryz.params3] at hA hval
 obtain ⟨v0,v1,v2,d0,d1,d2,p0,p1,p2,rfl,rfl,rfl,h0,h1,h2⟩:=trodAll_three hA
 obtain ⟨g1,rfl⟩:∃ g1,gs=[g1]:=by
  match gs,hV with
  | [g1],_=>exact ⟨g1,rfl⟩
  | [],h=>exact h.elim
  | _ :: _ :: _,⟨_,_,_,_,_,_,_,_,_,_,h,_⟩=>exact h.elim
 obtain ⟨P0,hP0⟩:=progR_of_trod (okWide_slice Tryz.underlying22 (hval 0 22 v0 rfl rfl)) h0
 obtain ⟨ma,mn,mc,M0,rfl,hM0,hN0⟩:=model_of_trod (okWide_slice Tryz.underlying23 (hval 1 23 v1 rfl rfl)) h1
 obtain ⟨os0,hOs⟩:=intsR_of_trod (okWide_slice Tryz.underlying24 (hval 2 24 v2 rfl rfl)) h2
 refine (lawFnExactExecFor v0 P0 ma mn mc M0 v2 os0 W hP0 hM0 hN0 hOs (glob_of_laid hL)).mono fun e W' ⟨he,hb⟩ => ?_
 exact ⟨_,he,post_lawV Tryz.laidOut fnExactExecFor_reads (by kernel_rfl) rfl (by kernel_rfl) Tryz.underlying4 hW' hb⟩
theorem fnExactExecFor_named:Tryz.prog.funcNamed Rows.fnExactExecForRow.func=some 3:=by kernel_rfl
theorem fnExactExecFor_closed:joinedFacts Tryz.prog 3 Tryz.f3 Rows.fnExactExecForSpec Rows.fnExactExecForRow=true:=by kernel_rfl
theorem fnExactExecFor_inst:Func.isInstance Tryz.prog Tryz.f3 Rows.fnExactExecForRow.origin Rows.fnExactExecForRow.targs:=of_decide_eq_true (by kernel_rfl)
theorem fnExactExecFor_wrap:Func.isWrapper Tryz.prog Tryz.f3 Rows.fnExactExecForRow.wrapper Rows.fnExactExecForRow.mainSum:=by unfold Func.isWrapper;first | (rw [if_pos (by decide +kernel)];kernel_rfl) | (rw [if_neg (by decide +kernel)];exact ⟨rfl,rfl⟩)
theorem fnExactExecFor_wf:Rows.fnExactExecForRow.wfByText (OpenSpec.ofChange Rows.fnExactExecForSpec)=true:=by kernel_rfl
theorem fnExactExecFor_main:Tryz.prog.mainIs=some (Rows.fnExactExecForCard.stood.harness.1,Rows.fnExactExecForCard.stood.harness.2.toList):=by kernel_rfl
theorem fnExactExecFor_looks:false=Tryz.prog.looks []:=by kernel_rfl
theorem fnExactExecFor_goes:false=Rows.fnExactExecForRow.goesBy Tryz.prog:=by kernel_rfl
theorem fnExactExecFor_row:Rows.FnExactExecForSaid:=
 OpenClaim.holds_of_wide 3 Tryz.f3 rfl rfl rfl rfl rfl rfl rfl ⟨rfl,rfl,rfl,rfl,rfl⟩ rfl rfl rfl rfl rfl fnExactExecFor_named Tryz.func3 fnExactExecFor_closed fnExactExecFor_inst fnExactExecFor_wrap
  (fun os started H enc _=>fnExactExecFor_lifted os started H enc)
theorem fnExactExecFor_holds:Rows.FnExactExecForCardSaid:=
 Claim7.holds_tied_plain_at .later [] [.widerDeep] true Rows.fnExactExecForCard.stood.harness false
  fnExactExecFor_row (fun _ h=>by cases h) fnExactExecFor_wf (fun _ h=>by cases h) fnExactExecFor_row_tie rfl ⟨rfl,rfl⟩ fnExactExecFor_main rfl
  (fun f fn hf hfn=>by
   obtain rfl:f=3:=Option.some.inj (fnExactExecFor_named.symm.trans hf) |>.symm
   obtain rfl:fn=Tryz.f3:=(Option.some.inj (Tryz.func3.symm.trans hfn)).symm
   exact ⟨fnExactExecFor_looks,fun j t ht=>by
    rw [Tryz.params3] at ht
    have hm:t∈[22,23,24]:=by simpa using Array.mem_of_getElem? ht
    have hall:([22,23,24].all fun u => !Tryz.prog.wantsStandIn u)=true:=by kernel_rfl
    exact (show Tryz.prog.wantsStandIn t=false by simpa using List.all_eq_true.1 hall t hm)⟩)
  fnExactExecFor_goes
end Go.Proofs.YtkfhgnkonaafgaaGreatDoor
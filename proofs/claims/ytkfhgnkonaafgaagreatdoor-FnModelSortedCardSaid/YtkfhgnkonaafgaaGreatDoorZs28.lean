/-
  l6Pair of the reference, name by name. Condition: the candidate is one of a valid program.
-/
import Derived.Test.YtkfhgnkonaafgaaGreatDoorZs24
import Derived.Test.YtkfhgnkonaafgaaGreatDoorZs16
import Derived.Test.YtkfhgnkonaafgaaGreatDoorZs12
set_option maxHeartbeats 6400000
set_option maxRecDepth 100000
namespace Go.Proofs.YtkfhgnkonaafgaaGreatDoor
open Go.RowKit
theorem l6Pair_rf (pv:Value) (f1 o1 la:Option Addr) (f2 f3 o2 o3 lc:Nat) (p:List (List Ins)) (x:Xc) (i k:Nat) (w:World) (hp:RepP w pv p) (hx:RepX w (.slice f1 f2 f3) (.slice o1 o2 o3) x) (hL:Rep EvE w (.slice la (evAll p).length lc) (evAll p)) (hi:i < (evAll p).length) (hk:k < (evAll p).length) (hX:execOk p x=true) :
 Calls Tryz.prog 194 #[pv, .agg #[.slice f1 f2 f3, .slice o1 o2 o3], .slice la (evAll p).length lc, .string ⟨#[114,102]⟩, .int .i64 i, .int .i64 k] w fun e w'=>e = .returned (.bool (relN p x 3 i k))∧Below w.heap.size w w':=by
 obtain ⟨a,ha⟩:=get_of_lt hi
 obtain ⟨b,hbb⟩:=get_of_lt hk
 have CE:Hid (relN p x 3 i k=relE p x 3 a b i k):=hide (relN_eq ha hbb)
 obtain ⟨d,o,rfl,hd,i0,i1,i2,i3,i4⟩:=hL.ev ha
 obtain ⟨d',o',hde,hd',j0,j1,j2,j3,j4⟩:=hL.ev hbb
 simp only [Option.some.injEq,Addr.mk.injEq,and_true] at hde
 obtain ⟨rfl,rfl⟩:=hde
 have HBW:=hide (belowAlloc w (.cells #[.slice f1 f2 f3, .slice o1 o2 o3] 29))
 have HBX:=hide (heap_alloc_new w (.cells #[.slice f1 f2 f3, .slice o1 o2 o3] 29))
 have hi':=nat_of_lt hi;have hk':=nat_of_lt hk
 have C:=cand_of hX
 have hX2:=hX
 unfold execOk at hX2
 simp only [Bool.and_eq_true,decide_eq_true_eq] at hX2
 obtain ⟨hpv,hfl,hol, -, -⟩:=hX2
 obtain ⟨al,hal3,hal⟩:=ev_loc hpv ha
 obtain ⟨fv,hfv⟩:=get_of_lt (xs:=x.fr) (k:=k) (by omega)
 have HFV:=hide hfv
 have FA:Hid (frA x k=fv):=hide (by simp [frA,hfv])
 have HNR:=hide (C.nrf k b hbb)
 have RV:Hid (relE p x 3 a b i k=(frA x k==(i:Int))):=hide rfl
 clear hfl hol hal3 hal hpv hX hfv C
 have HP:=hide (hp.below HBW.out);have HX:=hide (hx.below HBW.out)
 clear hbb hL hp hx
 generalize relN p x 3 i k=R at *
 have RE:Hid (R=relE p x 3 a b i k):=CE
 clear CE
 generalize (evAll p).length=n at *
 generalize hW:w.alloc (.cells #[.slice f1 f2 f3, .slice o1 o2 o3] 29)=W0 at *
 have hWs:W0.heap.size=w.heap.size+1:=by rw [← hW];simp
 have e0:=(HBW.out.cell (p:=⟨d,o+i * 5,none⟩) hd).trans i0;have e1:=(HBW.out.cell (p:=⟨d,o+i * 5+1,none⟩) hd).trans i1;have e2:=(HBW.out.cell (p:=⟨d,o+i * 5+2,none⟩) hd).trans i2;have e3:=(HBW.out.cell (p:=⟨d,o+i * 5+3,none⟩) hd).trans i3;have e4:=(HBW.out.cell (p:=⟨d,o+i * 5+4,none⟩) hd).trans i4
 have u0:=(HBW.out.cell (p:=⟨d,o+k * 5,none⟩) hd').trans j0;have u1:=(HBW.out.cell (p:=⟨d,o+k * 5+1,none⟩) hd').trans j1;have u2:=(HBW.out.cell (p:=⟨d,o+k * 5+2,none⟩) hd').trans j2;have u3:=(HBW.out.cell (p:=⟨d,o+k * 5+3,none⟩) hd').trans j3;have u4:=(HBW.out.cell (p:=⟨d,o+k * 5+4,none⟩) hd').trans j4
 have hdW:=lt_of_cell e0
 have HWS:=hide hWs
 have EA:EvAt ((W0.alloc (.cells #[.int .i64 a.t, .int .i64 a.i, .int .i64 a.l, .bool a.r, .bool a.w] 99)).alloc (.cells #[.int .i64 b.t, .int .i64 b.i, .int .i64 b.l, .bool b.r, .bool b.w] 99)) W0.heap.size (W0.heap.size+1) a b:=
  ⟨by simp;omega,by simp,by simp [go_sem],by simp [go_sem],by simp [go_sem],by simp [go_sem],by simp [go_sem],by simp [go_sem],by simp [go_sem],by simp [go_sem],by simp [go_sem],by simp [go_sem]⟩
 have hbW:Below W0.heap.size W0 ((W0.alloc (.cells #[.int .i64 a.t, .int .i64 a.i, .int .i64 a.l, .bool a.r, .bool a.w] 99)).alloc (.cells #[.int .i64 b.t, .int .i64 b.i, .int .i64 b.l, .bool b.r, .bool b.w] 99)):=((Below.refl _ _).alloc (Nat.le_refl _) _).alloc (by simp) _
 have HE:=hide EA;have HB0:=hide hbW
 clear i0 i1 i2 i3 i4 j0 j1 j2 j3 j4 ha hWs EA hbW
 go_enter Tryz.func194,Tryz.ntmps194
 go_upto_region 3 with fail
 clear hW
 clear e0 e1 e2 e3 e4 u0 u1 u2 u3 u4
 generalize ((W0.alloc (.cells #[.int .i64 a.t, .int .i64 a.i, .int .i64 a.l, .bool a.r, .bool a.w] 99)).alloc (.cells #[.int .i64 b.t, .int .i64 b.i, .int .i64 b.l, .bool b.r, .bool b.w] 99))=wc at *
 obtain ⟨h7,h8,a0,a1,a2,a3,a4,c0,c1,c2,c3,c4⟩:=HE.out
 have HBC:=hide (HBW.out.trans (HB0.out.mono HBW.out.size))
 have hwx:=(HB0.out.block w.heap.size (Array.getElem?_eq_some_iff.1 HBX.out).1).trans HBX.out
 have x0:wc.cell? ⟨w.heap.size,0,none⟩=some (.slice f1 f2 f3):=cell_of_heapV hwx (k:=0) rfl
 have x1:wc.cell? ⟨w.heap.size,1,none⟩=some (.slice o1 o2 o3):=cell_of_heapV hwx (k:=1) rfl
 have xl:=lt_of_cell x0
 clear hwx
 obtain ⟨SM,hSM⟩:∃ SM,SM=((a.t==b.t)&&decide (0≤a.t)):=⟨_,rfl⟩
 have HSM:=hide hSM
 clear hSM
 go_cut [15] (fun s15 W=>s15 = .bool SM∧W=wc)
 case first =>
  by_cases g2:a.t=b.t
  ·have k2:(a.t==b.t)=true:=by simp [g2]
   have E:Hid (SM=decide (0≤a.t)):=hide (by rw [HSM.out,k2];rfl)
   clear g2
   go_wp2_with fail
   go_meet
   exact ⟨by rw [E.out],rfl⟩
  ·have k2:(a.t==b.t)=false:=by simp [g2]
   have E:Hid (SM=false):=hide (by rw [HSM.out,k2];rfl)
   clear g2
   go_wp2_with fail
   go_meet
   exact ⟨by rw [E.out],rfl⟩
 case rest =>
  obtain ⟨rfl,rfl⟩:=hcut
  have n0:((⟨#[114,102]⟩:ByteArray).toList==[112,111])=false:=by kernel_rfl
  have n1:((⟨#[114,102]⟩:ByteArray).toList==[108,111,99])=false:=by kernel_rfl
  have n2:((⟨#[114,102]⟩:ByteArray).toList==[101,120,116])=false:=by kernel_rfl
  have n3:((⟨#[114,102]⟩:ByteArray).toList==[114,102])=true:=by kernel_rfl
  have hxr:=HX.out.fr.below (HB0.out)
  obtain ⟨fa,fc,hfe, -, -, -,hxf⟩:=hxr.open
  simp only [Value.slice.injEq] at hfe
  obtain ⟨rfl,rfl,rfl⟩:=hfe
  obtain ⟨q1,q2,rfl,hq,hc⟩:=hxf.int HFV.out
  have hkf':k < x.fr.length:=(List.getElem?_eq_some_iff.1 HFV.out).1
  have hkf:(k:Int) < (x.fr.length:Int):=by omega
  have RV2:Hid (R=(fv==(i:Int))):=hide (by rw [RE.out,RV.out,FA.out])
  clear hxr hxf RV
  rcases Bool.eq_false_or_eq_true b.r with gr | gr
  ·rw [gr] at c3
   have RP:Hid (R=(fv==(i:Int))):=RV2
   go_wp2_with fail
   go_ret
   exact ⟨by rw [RP.out];rfl,HBC.out⟩
  ·have h1:=HNR.out gr
   have RP:Hid (R=false):=hide (by
    rw [RV2.out,← FA.out,h1]
    simp)
   rw [gr] at c3
   clear h1
   go_wp2_with fail
   go_ret
   exact ⟨by rw [RP.out];rfl,HBC.out⟩
theorem l6Pair_co (pv:Value) (f1 o1 la:Option Addr) (f2 f3 o2 o3 lc:Nat) (p:List (List Ins)) (x:Xc) (i k:Nat) (w:World) (hp:RepP w pv p) (hx:RepX w (.slice f1 f2 f3) (.slice o1 o2 o3) x) (hL:Rep EvE w (.slice la (evAll p).length lc) (evAll p)) (hi:i < (evAll p).length) (hk:k < (evAll p).length) (hX:execOk p x=true) :
 Calls Tryz.prog 194 #[pv, .agg #[.slice f1 f2 f3, .slice o1 o2 o3], .slice la (evAll p).length lc, .string ⟨#[99,111]⟩, .int .i64 i, .int .i64 k] w fun e w'=>e = .returned (.bool (relN p x 4 i k))∧Below w.heap.size w w':=by
 obtain ⟨a,ha⟩:=get_of_lt hi
 obtain ⟨b,hbb⟩:=get_of_lt hk
 have CE:Hid (relN p x 4 i k=relE p x 4 a b i k):=hide (relN_eq ha hbb)
 obtain ⟨d,o,rfl,hd,i0,i1,i2,i3,i4⟩:=hL.ev ha
 obtain ⟨d',o',hde,hd',j0,j1,j2,j3,j4⟩:=hL.ev hbb
 simp only [Option.some.injEq,Addr.mk.injEq,and_true] at hde
 obtain ⟨rfl,rfl⟩:=hde
 have HBW:=hide (belowAlloc w (.cells #[.slice f1 f2 f3, .slice o1 o2 o3] 29))
 have HBX:=hide (heap_alloc_new w (.cells #[.slice f1 f2 f3, .slice o1 o2 o3] 29))
 have hi':=nat_of_lt hi;have hk':=nat_of_lt hk
 have C:=cand_of hX
 have hX2:=hX
 unfold execOk at hX2
 simp only [Bool.and_eq_true,decide_eq_true_eq] at hX2
 obtain ⟨hpv,hfl,hol, -, -⟩:=hX2
 obtain ⟨al,hal3,hal⟩:=ev_loc hpv ha
 have HBF:=hide (fun (iv kv:Int) w' h=>l6Before_any f1 o1 f2 f3 o2 o3 x al iv kv w' h (by omega))
 have HAL:Hid (a.l=(al:Int)):=hide hal
 have RV:Hid (relE p x 4 a b i k=bef (odA x a.l) (i:Int) (k:Int)):=hide rfl
 have OI:Hid (0≤plc (odA x a.l) (i:Int)↔a.w=true):=hide (by rw [← plc_mem,C.od i a a i ha ha];simp)
 have OK:Hid (0≤plc (odA x a.l) (k:Int)↔(b.w=true∧b.l=a.l)):=hide (by rw [← plc_mem,C.od i a b k ha hbb])
 clear hfl hol hal3 hpv hX C hal
 have HP:=hide (hp.below HBW.out);have HX:=hide (hx.below HBW.out)
 clear hbb hL hp hx
 generalize relN p x 4 i k=R at *
 have RE:Hid (R=relE p x 4 a b i k):=CE
 clear CE
 generalize (evAll p).length=n at *
 generalize hW:w.alloc (.cells #[.slice f1 f2 f3, .slice o1 o2 o3] 29)=W0 at *
 have hWs:W0.heap.size=w.heap.size+1:=by rw [← hW];simp
 have e0:=(HBW.out.cell (p:=⟨d,o+i * 5,none⟩) hd).trans i0;have e1:=(HBW.out.cell (p:=⟨d,o+i * 5+1,none⟩) hd).trans i1;have e2:=(HBW.out.cell (p:=⟨d,o+i * 5+2,none⟩) hd).trans i2;have e3:=(HBW.out.cell (p:=⟨d,o+i * 5+3,none⟩) hd).trans i3;have e4:=(HBW.out.cell (p:=⟨d,o+i * 5+4,none⟩) hd).trans i4
 have u0:=(HBW.out.cell (p:=⟨d,o+k * 5,none⟩) hd').trans j0;have u1:=(HBW.out.cell (p:=⟨d,o+k * 5+1,none⟩) hd').trans j1;have u2:=(HBW.out.cell (p:=⟨d,o+k * 5+2,none⟩) hd').trans j2;have u3:=(HBW.out.cell (p:=⟨d,o+k * 5+3,none⟩) hd').trans j3;have u4:=(HBW.out.cell (p:=⟨d,o+k * 5+4,none⟩) hd').trans j4
 have hdW:=lt_of_cell e0
 have HWS:=hide hWs
 have EA:EvAt ((W0.alloc (.cells #[.int .i64 a.t, .int .i64 a.i, .int .i64 a.l, .bool a.r, .bool a.w] 99)).alloc (.cells #[.int .i64 b.t, .int .i64 b.i, .int .i64 b.l, .bool b.r, .bool b.w] 99)) W0.heap.size (W0.heap.size+1) a b:=
  ⟨by simp;omega,by simp,by simp [go_sem],by simp [go_sem],by simp [go_sem],by simp [go_sem],by simp [go_sem],by simp [go_sem],by simp [go_sem],by simp [go_sem],by simp [go_sem],by simp [go_sem]⟩
 have hbW:Below W0.heap.size W0 ((W0.alloc (.cells #[.int .i64 a.t, .int .i64 a.i, .int .i64 a.l, .bool a.r, .bool a.w] 99)).alloc (.cells #[.int .i64 b.t, .int .i64 b.i, .int .i64 b.l, .bool b.r, .bool b.w] 99)):=((Below.refl _ _).alloc (Nat.le_refl _) _).alloc (by simp) _
 have HE:=hide EA;have HB0:=hide hbW
 clear i0 i1 i2 i3 i4 j0 j1 j2 j3 j4 ha hWs EA hbW
 go_enter Tryz.func194,Tryz.ntmps194
 go_upto_region 3 with fail
 clear hW
 clear e0 e1 e2 e3 e4 u0 u1 u2 u3 u4
 generalize ((W0.alloc (.cells #[.int .i64 a.t, .int .i64 a.i, .int .i64 a.l, .bool a.r, .bool a.w] 99)).alloc (.cells #[.int .i64 b.t, .int .i64 b.i, .int .i64 b.l, .bool b.r, .bool b.w] 99))=wc at *
 obtain ⟨h7,h8,a0,a1,a2,a3,a4,c0,c1,c2,c3,c4⟩:=HE.out
 have HBC:=hide (HBW.out.trans (HB0.out.mono HBW.out.size))
 have hwx:=(HB0.out.block w.heap.size (Array.getElem?_eq_some_iff.1 HBX.out).1).trans HBX.out
 have x0:wc.cell? ⟨w.heap.size,0,none⟩=some (.slice f1 f2 f3):=cell_of_heapV hwx (k:=0) rfl
 have x1:wc.cell? ⟨w.heap.size,1,none⟩=some (.slice o1 o2 o3):=cell_of_heapV hwx (k:=1) rfl
 have xl:=lt_of_cell x0
 clear hwx
 obtain ⟨SM,hSM⟩:∃ SM,SM=((a.t==b.t)&&decide (0≤a.t)):=⟨_,rfl⟩
 have HSM:=hide hSM
 clear hSM
 go_cut [15] (fun s15 W=>s15 = .bool SM∧W=wc)
 case first =>
  by_cases g2:a.t=b.t
  ·have k2:(a.t==b.t)=true:=by simp [g2]
   have E:Hid (SM=decide (0≤a.t)):=hide (by rw [HSM.out,k2];rfl)
   clear g2
   go_wp2_with fail
   go_meet
   exact ⟨by rw [E.out],rfl⟩
  ·have k2:(a.t==b.t)=false:=by simp [g2]
   have E:Hid (SM=false):=hide (by rw [HSM.out,k2];rfl)
   clear g2
   go_wp2_with fail
   go_meet
   exact ⟨by rw [E.out],rfl⟩
 case rest =>
  obtain ⟨rfl,rfl⟩:=hcut
  have n0:((⟨#[99,111]⟩:ByteArray).toList==[112,111])=false:=by kernel_rfl
  have n1:((⟨#[99,111]⟩:ByteArray).toList==[108,111,99])=false:=by kernel_rfl
  have n2:((⟨#[99,111]⟩:ByteArray).toList==[101,120,116])=false:=by kernel_rfl
  have n3:((⟨#[99,111]⟩:ByteArray).toList==[114,102])=false:=by kernel_rfl
  have n4:((⟨#[99,111]⟩:ByteArray).toList==[99,111])=true:=by kernel_rfl
  have HC:=hide (HBF.out i k _ (HX.out.below HB0.out))
  have RV2:Hid (R=(decide (0≤plc (odA x a.l) (i:Int))&&(decide (0≤plc (odA x a.l) (k:Int))&&decide (plc (odA x a.l) (i:Int) < plc (odA x a.l) (k:Int))))):=hide (by rw [RE.out,RV.out];rfl)
  rcases Bool.eq_false_or_eq_true a.w with gr | gr
  ·have hI:=OI.out.2 gr
   rw [gr] at a4
   rcases Bool.eq_false_or_eq_true b.w with gw | gw
   ·by_cases gl:a.l=b.l
    ·have hK:=OK.out.2 ⟨gw,gl.symm⟩
     have gl':((al:Int)==b.l)=true:=by rw [← HAL.out];simp [gl]
     rw [gw] at c4
     have RP:Hid (R=decide (plc (odA x (al:Int)) (i:Int) < plc (odA x (al:Int)) (k:Int))):=hide (by rw [RV2.out,decide_eq_true hI,decide_eq_true hK,HAL.out];rfl)
     rw [HAL.out] at a2
     clear hI hK gl RV RV2 OI OK
     go_wp2_with fail
     (with_reducible refine HC.out.mono ?_);rintro e w5 ⟨rfl,hb5⟩
     go_wp2_with fail
     go_ret
     exact ⟨by rw [RP.out];rfl,HBC.out.trans (hb5.mono HBC.out.size)⟩
    ·have hK:¬ 0≤plc (odA x a.l) (k:Int):=fun h=>gl (OK.out.1 h).2.symm
     have gl':(a.l==b.l)=false:=by simp [gl]
     rw [gw] at c4
     have RP:Hid (R=false):=hide (by rw [RV2.out,decide_eq_false hK];simp)
     clear hI hK gl RV RV2 OI OK
     go_wp2_with fail
     go_ret
     exact ⟨by rw [RP.out];rfl,HBC.out⟩
   ·have hK:¬ 0≤plc (odA x a.l) (k:Int):=fun h=>by have:=(OK.out.1 h).1;rw [gw] at this;cases this
    rw [gw] at c4
    have RP:Hid (R=false):=hide (by rw [RV2.out,decide_eq_false hK];simp)
    clear hI hK RV RV2 OI OK
    go_wp2_with fail
    go_ret
    exact ⟨by rw [RP.out];rfl,HBC.out⟩
  ·have hI:¬ 0≤plc (odA x a.l) (i:Int):=fun h=>by have:=OI.out.1 h;rw [gr] at this;cases this
   rw [gr] at a4
   have RP:Hid (R=false):=hide (by rw [RV2.out,decide_eq_false hI];rfl)
   clear hI RV RV2 OI OK
   go_wp2_with fail
   go_ret
   exact ⟨by rw [RP.out];rfl,HBC.out⟩
theorem l6Pair_fr (pv:Value) (f1 o1 la:Option Addr) (f2 f3 o2 o3 lc:Nat) (p:List (List Ins)) (x:Xc) (i k:Nat) (w:World) (hp:RepP w pv p) (hx:RepX w (.slice f1 f2 f3) (.slice o1 o2 o3) x) (hL:Rep EvE w (.slice la (evAll p).length lc) (evAll p)) (hi:i < (evAll p).length) (hk:k < (evAll p).length) (hX:execOk p x=true) :
 Calls Tryz.prog 194 #[pv, .agg #[.slice f1 f2 f3, .slice o1 o2 o3], .slice la (evAll p).length lc, .string ⟨#[102,114]⟩, .int .i64 i, .int .i64 k] w fun e w'=>e = .returned (.bool (relN p x 5 i k))∧Below w.heap.size w w':=by
 obtain ⟨a,ha⟩:=get_of_lt hi
 obtain ⟨b,hbb⟩:=get_of_lt hk
 have CE:Hid (relN p x 5 i k=relE p x 5 a b i k):=hide (relN_eq ha hbb)
 obtain ⟨d,o,rfl,hd,i0,i1,i2,i3,i4⟩:=hL.ev ha
 obtain ⟨d',o',hde,hd',j0,j1,j2,j3,j4⟩:=hL.ev hbb
 simp only [Option.some.injEq,Addr.mk.injEq,and_true] at hde
 obtain ⟨rfl,rfl⟩:=hde
 have HBW:=hide (belowAlloc w (.cells #[.slice f1 f2 f3, .slice o1 o2 o3] 29))
 have HBX:=hide (heap_alloc_new w (.cells #[.slice f1 f2 f3, .slice o1 o2 o3] 29))
 have hi':=nat_of_lt hi;have hk':=nat_of_lt hk
 have C:=cand_of hX
 have hX2:=hX
 unfold execOk at hX2
 simp only [Bool.and_eq_true,decide_eq_true_eq] at hX2
 obtain ⟨hpv,hfl,hol, -, -⟩:=hX2
 obtain ⟨al,hal3,hal⟩:=ev_loc hpv ha
 obtain ⟨fv,hfv⟩:=get_of_lt (xs:=x.fr) (k:=i) (by omega)
 have HFV:=hide hfv
 have FA:Hid (frA x i=fv):=hide (by simp [frA,hfv])
 have HBF:=hide (fun (iv kv:Int) w' h=>l6Before_any f1 o1 f2 f3 o2 o3 x al iv kv w' h (by omega))
 have HAL:Hid (a.l=(al:Int)):=hide hal
 have RV:Hid (relE p x 5 a b i k=(a.r&&(b.w&&((i != k)&&bef (odA x a.l) (frA x i) (k:Int))))):=hide rfl
 have OI:Hid (a.r=true→0≤plc (odA x a.l) (frA x i)):=hide (fun hr=>by
  obtain ⟨s,c,h1,h2,h3,h4, -⟩:=C.rf i a ha hr
  rw [h1,← plc_mem,C.od i a c s ha h2];exact ⟨h3,h4⟩)
 have OK:Hid (0≤plc (odA x a.l) (k:Int)↔(b.w=true∧b.l=a.l)):=hide (by rw [← plc_mem,C.od i a b k ha hbb])
 clear hfl hol hal3 hpv hX C hal hfv
 have HP:=hide (hp.below HBW.out);have HX:=hide (hx.below HBW.out)
 clear hbb hL hp hx
 generalize relN p x 5 i k=R at *
 have RE:Hid (R=relE p x 5 a b i k):=CE
 clear CE
 generalize (evAll p).length=n at *
 generalize hW:w.alloc (.cells #[.slice f1 f2 f3, .slice o1 o2 o3] 29)=W0 at *
 have hWs:W0.heap.size=w.heap.size+1:=by rw [← hW];simp
 have e0:=(HBW.out.cell (p:=⟨d,o+i * 5,none⟩) hd).trans i0;have e1:=(HBW.out.cell (p:=⟨d,o+i * 5+1,none⟩) hd).trans i1;have e2:=(HBW.out.cell (p:=⟨d,o+i * 5+2,none⟩) hd).trans i2;have e3:=(HBW.out.cell (p:=⟨d,o+i * 5+3,none⟩) hd).trans i3;have e4:=(HBW.out.cell (p:=⟨d,o+i * 5+4,none⟩) hd).trans i4
 have u0:=(HBW.out.cell (p:=⟨d,o+k * 5,none⟩) hd').trans j0;have u1:=(HBW.out.cell (p:=⟨d,o+k * 5+1,none⟩) hd').trans j1;have u2:=(HBW.out.cell (p:=⟨d,o+k * 5+2,none⟩) hd').trans j2;have u3:=(HBW.out.cell (p:=⟨d,o+k * 5+3,none⟩) hd').trans j3;have u4:=(HBW.out.cell (p:=⟨d,o+k * 5+4,none⟩) hd').trans j4
 have hdW:=lt_of_cell e0
 have HWS:=hide hWs
 have EA:EvAt ((W0.alloc (.cells #[.int .i64 a.t, .int .i64 a.i, .int .i64 a.l, .bool a.r, .bool a.w] 99)).alloc (.cells #[.int .i64 b.t, .int .i64 b.i, .int .i64 b.l, .bool b.r, .bool b.w] 99)) W0.heap.size (W0.heap.size+1) a b:=
  ⟨by simp;omega,by simp,by simp [go_sem],by simp [go_sem],by simp [go_sem],by simp [go_sem],by simp [go_sem],by simp [go_sem],by simp [go_sem],by simp [go_sem],by simp [go_sem],by simp [go_sem]⟩
 have hbW:Below W0.heap.size W0 ((W0.alloc (.cells #[.int .i64 a.t, .int .i64 a.i, .int .i64 a.l, .bool a.r, .bool a.w] 99)).alloc (.cells #[.int .i64 b.t, .int .i64 b.i, .int .i64 b.l, .bool b.r, .bool b.w] 99)):=((Below.refl _ _).alloc (Nat.le_refl _) _).alloc (by simp) _
 have HE:=hide EA;have HB0:=hide hbW
 clear i0 i1 i2 i3 i4 j0 j1 j2 j3 j4 ha hWs EA hbW
 go_enter Tryz.func194,Tryz.ntmps194
 go_upto_region 3 with fail
 clear hW
 clear e0 e1 e2 e3 e4 u0 u1 u2 u3 u4
 generalize ((W0.alloc (.cells #[.int .i64 a.t, .int .i64 a.i, .int .i64 a.l, .bool a.r, .bool a.w] 99)).alloc (.cells #[.int .i64 b.t, .int .i64 b.i, .int .i64 b.l, .bool b.r, .bool b.w] 99))=wc at *
 obtain ⟨h7,h8,a0,a1,a2,a3,a4,c0,c1,c2,c3,c4⟩:=HE.out
 have HBC:=hide (HBW.out.trans (HB0.out.mono HBW.out.size))
 have hwx:=(HB0.out.block w.heap.size (Array.getElem?_eq_some_iff.1 HBX.out).1).trans HBX.out
 have x0:wc.cell? ⟨w.heap.size,0,none⟩=some (.slice f1 f2 f3):=cell_of_heapV hwx (k:=0) rfl
 have x1:wc.cell? ⟨w.heap.size,1,none⟩=some (.slice o1 o2 o3):=cell_of_heapV hwx (k:=1) rfl
 have xl:=lt_of_cell x0
 clear hwx
 obtain ⟨SM,hSM⟩:∃ SM,SM=((a.t==b.t)&&decide (0≤a.t)):=⟨_,rfl⟩
 have HSM:=hide hSM
 clear hSM
 go_cut [15] (fun s15 W=>s15 = .bool SM∧W=wc)
 case first =>
  by_cases g2:a.t=b.t
  ·have k2:(a.t==b.t)=true:=by simp [g2]
   have E:Hid (SM=decide (0≤a.t)):=hide (by rw [HSM.out,k2];rfl)
   clear g2
   go_wp2_with fail
   go_meet
   exact ⟨by rw [E.out],rfl⟩
  ·have k2:(a.t==b.t)=false:=by simp [g2]
   have E:Hid (SM=false):=hide (by rw [HSM.out,k2];rfl)
   clear g2
   go_wp2_with fail
   go_meet
   exact ⟨by rw [E.out],rfl⟩
 case rest =>
  obtain ⟨rfl,rfl⟩:=hcut
  have n0:((⟨#[102,114]⟩:ByteArray).toList==[112,111])=false:=by kernel_rfl
  have n1:((⟨#[102,114]⟩:ByteArray).toList==[108,111,99])=false:=by kernel_rfl
  have n2:((⟨#[102,114]⟩:ByteArray).toList==[101,120,116])=false:=by kernel_rfl
  have n3:((⟨#[102,114]⟩:ByteArray).toList==[114,102])=false:=by kernel_rfl
  have n4:((⟨#[102,114]⟩:ByteArray).toList==[99,111])=false:=by kernel_rfl
  have n5:((⟨#[102,114]⟩:ByteArray).toList==[102,114])=true:=by kernel_rfl
  have hxr:=HX.out.fr.below (HB0.out)
  obtain ⟨fa,fc,hfe, -, -, -,hxf⟩:=hxr.open
  simp only [Value.slice.injEq] at hfe
  obtain ⟨rfl,rfl,rfl⟩:=hfe
  obtain ⟨q1,q2,rfl,hq,hc⟩:=hxf.int HFV.out
  have hkf:i < x.fr.length:=(List.getElem?_eq_some_iff.1 HFV.out).1
  have hkf':(i:Int) < (x.fr.length:Int):=by omega
  have HBQ:=hide (fun (y:BW wc)=>HBF.out fv k y.val ((HX.out.below HB0.out).below y.prop))
  have RV2:Hid (R=(a.r&&(b.w&&((i != k)&&(decide (0≤plc (odA x a.l) fv)&&(decide (0≤plc (odA x a.l) (k:Int))&&decide (plc (odA x a.l) fv < plc (odA x a.l) (k:Int)))))))):=hide (by rw [RE.out,RV.out,FA.out];rfl)
  have OI2:Hid (a.r=true→0≤plc (odA x a.l) fv):=hide (by rw [← FA.out];exact OI.out)
  clear hxr hxf HBF FA RV OI
  rcases Bool.eq_false_or_eq_true a.r with gr | gr
  ·have hI:=OI2.out gr
   rw [gr] at a3
   rcases Bool.eq_false_or_eq_true b.w with gw | gw
   ·by_cases gl:a.l=b.l
    ·have hK:=OK.out.2 ⟨gw,gl.symm⟩
     have gl':((al:Int)==b.l)=true:=by rw [← HAL.out];simp [gl]
     rw [gw] at c4
     by_cases gi:i=k
     ·have gi':((i:Int) != (k:Int))=false:=by simp [gi]
      have RP:Hid (R=false):=hide (by rw [RV2.out];simp [gi])
      rw [HAL.out] at a2
      clear gi hI hK gl RV2 OI2 OK
      go_wp2_with fail
      refine wp_region_bw (by kernel_rfl) (by kernel_rfl) ?_
      repeat (go_big_quiet_step ((go_at_call 218;(with_reducible exact Calls.bw (HBQ.out _)))))
      refine wpQuiet_nil ?_
      intro w5 hb5
      have HB5:=hide (HBC.out.trans (hb5.mono HBC.out.size))
      clear hb5
      go_wp2_with fail
      go_ret
      exact ⟨by rw [RP.out];rfl,HB5.out⟩
     ·have gi':((i:Int) != (k:Int))=true:=by simp;omega
      have RP:Hid (R=decide (plc (odA x (al:Int)) fv < plc (odA x (al:Int)) (k:Int))):=hide (by rw [RV2.out,gr,gw,decide_eq_true hI,decide_eq_true hK,HAL.out];simp [gi])
      rw [HAL.out] at a2
      clear gi hI hK gl RV2 OI2 OK
      go_wp2_with fail
      refine wp_region_bw (by kernel_rfl) (by kernel_rfl) ?_
      repeat (go_big_quiet_step ((go_at_call 218;(with_reducible exact Calls.bw (HBQ.out _)))))
      refine wpQuiet_nil ?_
      intro w5 hb5
      have HB5:=hide (HBC.out.trans (hb5.mono HBC.out.size))
      clear hb5
      go_wp2_with fail
      go_ret
      exact ⟨by rw [RP.out];rfl,HB5.out⟩
    ·have hK:¬ 0≤plc (odA x a.l) (k:Int):=fun h=>gl (OK.out.1 h).2.symm
     have gl':(a.l==b.l)=false:=by simp [gl]
     rw [gw] at c4
     have RP:Hid (R=false):=hide (by rw [RV2.out,decide_eq_false hK];simp)
     clear hI hK gl RV2 OI2 OK
     go_wp2_with fail
     refine wp_region_bw (by kernel_rfl) (by kernel_rfl) ?_
     repeat (go_big_quiet_step ((go_at_call 218;(with_reducible exact Calls.bw (HBQ.out _)))))
     refine wpQuiet_nil ?_
     intro w5 hb5
     have HB5:=hide (HBC.out.trans (hb5.mono HBC.out.size))
     clear hb5
     go_wp2_with fail
     go_ret
     exact ⟨by rw [RP.out];rfl,HB5.out⟩
   ·rw [gw] at c4
    have RP:Hid (R=false):=hide (by rw [RV2.out,gw];simp)
    clear hI RV2 OI2 OK
    go_wp2_with fail
    refine wp_region_bw (by kernel_rfl) (by kernel_rfl) ?_
    repeat (go_big_quiet_step ((go_at_call 218;(with_reducible exact Calls.bw (HBQ.out _)))))
    refine wpQuiet_nil ?_
    intro w5 hb5
    have HB5:=hide (HBC.out.trans (hb5.mono HBC.out.size))
    clear hb5
    go_wp2_with fail
    go_ret
    exact ⟨by rw [RP.out];rfl,HB5.out⟩
  ·rw [gr] at a3
   have RP:Hid (R=false):=hide (by rw [RV2.out,gr];rfl)
   clear RV2 OI2 OK
   go_wp2_with fail
   refine wp_region_bw (by kernel_rfl) (by kernel_rfl) ?_
   repeat (go_big_quiet_step ((go_at_call 218;(with_reducible exact Calls.bw (HBQ.out _)))))
   refine wpQuiet_nil ?_
   intro w5 hb5
   have HB5:=hide (HBC.out.trans (hb5.mono HBC.out.size))
   clear hb5
   go_wp2_with fail
   go_ret
   exact ⟨by rw [RP.out];rfl,HB5.out⟩
theorem l6Pair_fence (pv:Value) (f1 o1 la:Option Addr) (f2 f3 o2 o3 lc:Nat) (p:List (List Ins)) (x:Xc) (i k:Nat) (w:World) (hp:RepP w pv p) (hx:RepX w (.slice f1 f2 f3) (.slice o1 o2 o3) x) (hL:Rep EvE w (.slice la (evAll p).length lc) (evAll p)) (hi:i < (evAll p).length) (hk:k < (evAll p).length) :
 Calls Tryz.prog 194 #[pv, .agg #[.slice f1 f2 f3, .slice o1 o2 o3], .slice la (evAll p).length lc, .string ⟨#[102,101,110,99,101]⟩, .int .i64 i, .int .i64 k] w fun e w'=>e = .returned (.bool (relN p x 6 i k))∧Below w.heap.size w w':=by
 obtain ⟨a,ha⟩:=get_of_lt hi
 obtain ⟨b,hbb⟩:=get_of_lt hk
 have CE:Hid (relN p x 6 i k=relE p x 6 a b i k):=hide (relN_eq ha hbb)
 obtain ⟨d,o,rfl,hd,i0,i1,i2,i3,i4⟩:=hL.ev ha
 obtain ⟨d',o',hde,hd',j0,j1,j2,j3,j4⟩:=hL.ev hbb
 simp only [Option.some.injEq,Addr.mk.injEq,and_true] at hde
 obtain ⟨rfl,rfl⟩:=hde
 have HBW:=hide (belowAlloc w (.cells #[.slice f1 f2 f3, .slice o1 o2 o3] 29))
 have HBX:=hide (heap_alloc_new w (.cells #[.slice f1 f2 f3, .slice o1 o2 o3] 29))
 have hi':=nat_of_lt hi;have hk':=nat_of_lt hk
 obtain ⟨pa,pc,rfl, -, -, -, -⟩:=hp.open
 have MA:=hide (mem_evAll (List.mem_of_getElem? ha))
 have MB:=hide (mem_evAll (List.mem_of_getElem? hbb))
 have RV:Hid (relE p x 6 a b i k=(poE a b&&fenB p a b)):=hide rfl
 have HP:=hide (hp.below HBW.out);have HX:=hide (hx.below HBW.out)
 clear hbb hL hp hx
 generalize relN p x 6 i k=R at *
 have RE:Hid (R=relE p x 6 a b i k):=CE
 clear CE
 generalize (evAll p).length=n at *
 generalize hW:w.alloc (.cells #[.slice f1 f2 f3, .slice o1 o2 o3] 29)=W0 at *
 have hWs:W0.heap.size=w.heap.size+1:=by rw [← hW];simp
 have e0:=(HBW.out.cell (p:=⟨d,o+i * 5,none⟩) hd).trans i0;have e1:=(HBW.out.cell (p:=⟨d,o+i * 5+1,none⟩) hd).trans i1;have e2:=(HBW.out.cell (p:=⟨d,o+i * 5+2,none⟩) hd).trans i2;have e3:=(HBW.out.cell (p:=⟨d,o+i * 5+3,none⟩) hd).trans i3;have e4:=(HBW.out.cell (p:=⟨d,o+i * 5+4,none⟩) hd).trans i4
 have u0:=(HBW.out.cell (p:=⟨d,o+k * 5,none⟩) hd').trans j0;have u1:=(HBW.out.cell (p:=⟨d,o+k * 5+1,none⟩) hd').trans j1;have u2:=(HBW.out.cell (p:=⟨d,o+k * 5+2,none⟩) hd').trans j2;have u3:=(HBW.out.cell (p:=⟨d,o+k * 5+3,none⟩) hd').trans j3;have u4:=(HBW.out.cell (p:=⟨d,o+k * 5+4,none⟩) hd').trans j4
 have hdW:=lt_of_cell e0
 have HWS:=hide hWs
 have EA:EvAt ((W0.alloc (.cells #[.int .i64 a.t, .int .i64 a.i, .int .i64 a.l, .bool a.r, .bool a.w] 99)).alloc (.cells #[.int .i64 b.t, .int .i64 b.i, .int .i64 b.l, .bool b.r, .bool b.w] 99)) W0.heap.size (W0.heap.size+1) a b:=
  ⟨by simp;omega,by simp,by simp [go_sem],by simp [go_sem],by simp [go_sem],by simp [go_sem],by simp [go_sem],by simp [go_sem],by simp [go_sem],by simp [go_sem],by simp [go_sem],by simp [go_sem]⟩
 have hbW:Below W0.heap.size W0 ((W0.alloc (.cells #[.int .i64 a.t, .int .i64 a.i, .int .i64 a.l, .bool a.r, .bool a.w] 99)).alloc (.cells #[.int .i64 b.t, .int .i64 b.i, .int .i64 b.l, .bool b.r, .bool b.w] 99)):=((Below.refl _ _).alloc (Nat.le_refl _) _).alloc (by simp) _
 have HE:=hide EA;have HB0:=hide hbW
 clear i0 i1 i2 i3 i4 j0 j1 j2 j3 j4 ha hWs EA hbW
 go_enter Tryz.func194,Tryz.ntmps194
 go_upto_region 3 with fail
 clear hW
 clear e0 e1 e2 e3 e4 u0 u1 u2 u3 u4
 generalize ((W0.alloc (.cells #[.int .i64 a.t, .int .i64 a.i, .int .i64 a.l, .bool a.r, .bool a.w] 99)).alloc (.cells #[.int .i64 b.t, .int .i64 b.i, .int .i64 b.l, .bool b.r, .bool b.w] 99))=wc at *
 obtain ⟨h7,h8,a0,a1,a2,a3,a4,c0,c1,c2,c3,c4⟩:=HE.out
 have HBC:=hide (HBW.out.trans (HB0.out.mono HBW.out.size))
 have hwx:=(HB0.out.block w.heap.size (Array.getElem?_eq_some_iff.1 HBX.out).1).trans HBX.out
 have x0:wc.cell? ⟨w.heap.size,0,none⟩=some (.slice f1 f2 f3):=cell_of_heapV hwx (k:=0) rfl
 have x1:wc.cell? ⟨w.heap.size,1,none⟩=some (.slice o1 o2 o3):=cell_of_heapV hwx (k:=1) rfl
 have xl:=lt_of_cell x0
 clear hwx
 obtain ⟨SM,hSM⟩:∃ SM,SM=((a.t==b.t)&&decide (0≤a.t)):=⟨_,rfl⟩
 have HSM:=hide hSM
 clear hSM
 go_cut [15] (fun s15 W=>s15 = .bool SM∧W=wc)
 case first =>
  by_cases g2:a.t=b.t
  ·have k2:(a.t==b.t)=true:=by simp [g2]
   have E:Hid (SM=decide (0≤a.t)):=hide (by rw [HSM.out,k2];rfl)
   clear g2
   go_wp2_with fail
   go_meet
   exact ⟨by rw [E.out],rfl⟩
  ·have k2:(a.t==b.t)=false:=by simp [g2]
   have E:Hid (SM=false):=hide (by rw [HSM.out,k2];rfl)
   clear g2
   go_wp2_with fail
   go_meet
   exact ⟨by rw [E.out],rfl⟩
 case rest =>
  obtain ⟨rfl,rfl⟩:=hcut
  have n0:((⟨#[102,101,110,99,101]⟩:ByteArray).toList==[112,111])=false:=by kernel_rfl
  have n1:((⟨#[102,101,110,99,101]⟩:ByteArray).toList==[108,111,99])=false:=by kernel_rfl
  have n2:((⟨#[102,101,110,99,101]⟩:ByteArray).toList==[101,120,116])=false:=by kernel_rfl
  have n3:((⟨#[102,101,110,99,101]⟩:ByteArray).toList==[114,102])=false:=by kernel_rfl
  have n4:((⟨#[102,101,110,99,101]⟩:ByteArray).toList==[99,111])=false:=by kernel_rfl
  have n5:((⟨#[102,101,110,99,101]⟩:ByteArray).toList==[102,114])=false:=by kernel_rfl
  have n6:((⟨#[102,101,110,99,101]⟩:ByteArray).toList==[102,101,110,99,101])=true:=by kernel_rfl
  have RV2:Hid (R=((SM&&decide (a.i < b.i))&&fenB p a b)):=hide (by
   rw [RE.out,RV.out,HSM.out]
   show ((decide (0≤a.t)&&((a.t==b.t)&&decide (a.i < b.i)))&&fenB p a b)=_
   cases decide (0≤a.t) <;> cases (a.t==b.t) <;> rfl)
  clear RV
  cases SM
  ·have RP:Hid (R=false):=hide (by rw [RV2.out];rfl)
   clear RV2
   go_wp2_with fail
   refine wp_region_bw (by kernel_rfl) (by kernel_rfl) ?_
   repeat (go_big_quiet_step (fail))
   refine wpQuiet_nil ?_
   intro w5 hb5
   have HB5:=hide (HBC.out.trans (hb5.mono HBC.out.size))
   clear hb5
   go_wp2_with fail
   go_ret
   exact ⟨by rw [RP.out];rfl,HB5.out⟩
  ·by_cases g3:a.i < b.i
   ·have h1:=HSM.out
    rw [eq_comm] at h1
    simp only [Bool.and_eq_true,decide_eq_true_eq,beq_iff_eq] at h1
    obtain ⟨g2,g1⟩:=h1
    rcases MA.out with hh | ⟨t,i1,r,y,hr,hy,rfl,hy4⟩
    ·exfalso;omega
    rcases MB.out with hh | ⟨t',i1',r',y',hr',hy',rfl,hy4'⟩
    ·exfalso;simp only at g2;omega
    simp only at g1 g2 g3 a0 a1 a2 a3 a4 c0 c1 c2 c3 c4
    have ht:t=t':=by omega
    subst ht
    rw [hr] at hr';simp only [Option.some.injEq] at hr';subst hr'
    have hle:i1 < i1':=by omega
    have hrl:=(List.getElem?_eq_some_iff.1 hy').1
    obtain ⟨d0,e0,ra,rc,rfl,hd0,p0,p1⟩:=(HP.out.below HB0.out).row hr
    have HCF:=hide (fun (q:BW wc)=>l6Fence_any _ r i1 i1' q.val (p1.below q.prop) (by omega) hle)
    have FB:Hid (fenB p ⟨t,i1,y.loc,isRop y.op,isWop y.op⟩ ⟨t,i1',y'.loc,isRop y'.op,isWop y'.op⟩=((r.drop (i1+1)).take (i1' - (i1+1))).any fun y=>y.op==4):=hide (by
     rw [← fence_skip hy hy4 hle]
     unfold fenB
     simp only [Int.toNat_natCast,hr,Option.getD_some]
     rw [show ((i1':Int) - (i1:Int)).toNat=i1' - i1 by omega])
    have hd3:decide ((i1:Int) < (i1':Int))=true:=by simp;omega
    have RP:Hid (R=((r.drop (i1+1)).take (i1' - (i1+1))).any fun y=>y.op==4):=hide (by
     rw [RV2.out,FB.out]
     show ((true&&decide ((i1:Int) < (i1':Int)))&&_)=_
     rw [hd3];rfl)
    have n4:t < p.length:=(List.getElem?_eq_some_iff.1 hr).1
    have n5:(t:Int) < (p.length:Int):=by omega
    clear p1 FB MA MB RV2 hd3
    go_wp2_with fail
    refine wp_region_bw (by kernel_rfl) (by kernel_rfl) ?_
    repeat (go_big_quiet_step ((go_at_call 219;(with_reducible exact Calls.bw (HCF.out _)))))
    refine wpQuiet_nil ?_
    intro w5 hb5
    have HB5:=hide (HBC.out.trans (hb5.mono HBC.out.size))
    clear hb5
    go_wp2_with fail
    go_ret
    exact ⟨by rw [RP.out];rfl,HB5.out⟩
   ·have g3':decide (a.i < b.i)=false:=decide_eq_false g3
    have RP:Hid (R=false):=hide (by rw [RV2.out,g3'];rfl)
    clear g3 RV2
    go_wp2_with fail
    refine wp_region_bw (by kernel_rfl) (by kernel_rfl) ?_
    repeat (go_big_quiet_step (fail))
    refine wpQuiet_nil ?_
    intro w5 hb5
    have HB5:=hide (HBC.out.trans (hb5.mono HBC.out.size))
    clear hb5
    go_wp2_with fail
    go_ret
    exact ⟨by rw [RP.out];rfl,HB5.out⟩
end Go.Proofs.YtkfhgnkonaafgaaGreatDoor
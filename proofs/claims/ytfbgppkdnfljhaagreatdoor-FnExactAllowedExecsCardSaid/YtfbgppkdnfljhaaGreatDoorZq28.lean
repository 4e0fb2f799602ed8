/-
  l6Pair of the reference, name by name. Condition: the candidate is one of a valid program.
-/
import Derived.Test.YtfbgppkdnfljhaaGreatDoorZq24
import Derived.Test.YtfbgppkdnfljhaaGreatDoorZq20
import Derived.Test.YtfbgppkdnfljhaaGreatDoorZq16
set_option maxHeartbeats 6400000
set_option maxRecDepth 100000
namespace Go.Proofs.YtfbgppkdnfljhaaGreatDoor
open Go.RowKit
theorem l6Pair_plain (nm:ByteArray) (t:Nat) (hn:Hid ((nm=⟨#[112,111]⟩∧t=0)∨(nm=⟨#[108,111,99]⟩∧t=1)∨(nm=⟨#[101,120,116]⟩∧t=2)∨(nm=⟨#[119,114]⟩∧t=7)∨(nm=⟨#[119,119]⟩∧t=8)∨(nm=⟨#[105,100]⟩∧t=9))) (pv:Value) (f1 o1 la:Option Addr) (f2 f3 o2 o3 lc:Nat) (p:List (List Ins)) (x:Xc) (i k:Nat) (w:World) (hp:RepP w pv p) (hx:RepX w (.slice f1 f2 f3) (.slice o1 o2 o3) x) (hL:Rep EvE w (.slice la (evAll p).length lc) (evAll p)) (hi:i < (evAll p).length) (hk:k < (evAll p).length) :
 Calls Tryz.prog 244 #[pv, .agg #[.slice f1 f2 f3, .slice o1 o2 o3], .slice la (evAll p).length lc, .string nm, .int .i64 i, .int .i64 k] w fun e w'=>e = .returned (.bool (relN p x t i k))∧Below w.heap.size w w':=by
 obtain ⟨a,ha⟩:=get_of_lt hi
 obtain ⟨b,hbb⟩:=get_of_lt hk
 have CE:Hid (relN p x t i k=relE p x t a b i k):=hide (relN_eq ha hbb)
 obtain ⟨d,o,rfl,hd,i0,i1,i2,i3,i4⟩:=hL.ev ha
 obtain ⟨d',o',hde,hd',j0,j1,j2,j3,j4⟩:=hL.ev hbb
 simp only [Option.some.injEq,Addr.mk.injEq,and_true] at hde
 obtain ⟨rfl,rfl⟩:=hde
 have HBW:=hide (belowAlloc w (.cells #[.slice f1 f2 f3, .slice o1 o2 o3] 60))
 have HBX:=hide (heap_alloc_new w (.cells #[.slice f1 f2 f3, .slice o1 o2 o3] 60))
 have hi':=nat_of_lt hi;have hk':=nat_of_lt hk
 have HP:=hide (hp.below HBW.out);have HX:=hide (hx.below HBW.out)
 clear hbb hL hp hx
 generalize relN p x t i k=R at *
 have RE:Hid (R=relE p x t a b i k):=CE
 clear CE
 generalize (evAll p).length=n at *
 generalize hW:w.alloc (.cells #[.slice f1 f2 f3, .slice o1 o2 o3] 60)=W0 at *
 have hWs:W0.heap.size=w.heap.size+1:=by rw [← hW];simp
 have e0:=(HBW.out.cell (p:=⟨d,o+i * 5,none⟩) hd).trans i0;have e1:=(HBW.out.cell (p:=⟨d,o+i * 5+1,none⟩) hd).trans i1;have e2:=(HBW.out.cell (p:=⟨d,o+i * 5+2,none⟩) hd).trans i2;have e3:=(HBW.out.cell (p:=⟨d,o+i * 5+3,none⟩) hd).trans i3;have e4:=(HBW.out.cell (p:=⟨d,o+i * 5+4,none⟩) hd).trans i4
 have u0:=(HBW.out.cell (p:=⟨d,o+k * 5,none⟩) hd').trans j0;have u1:=(HBW.out.cell (p:=⟨d,o+k * 5+1,none⟩) hd').trans j1;have u2:=(HBW.out.cell (p:=⟨d,o+k * 5+2,none⟩) hd').trans j2;have u3:=(HBW.out.cell (p:=⟨d,o+k * 5+3,none⟩) hd').trans j3;have u4:=(HBW.out.cell (p:=⟨d,o+k * 5+4,none⟩) hd').trans j4
 have hdW:=lt_of_cell e0
 have HWS:=hide hWs
 have EA:EvAt ((W0.alloc (.cells #[.int .i64 a.t, .int .i64 a.i, .int .i64 a.l, .bool a.r, .bool a.w] 130)).alloc (.cells #[.int .i64 b.t, .int .i64 b.i, .int .i64 b.l, .bool b.r, .bool b.w] 130)) W0.heap.size (W0.heap.size+1) a b:=
  ⟨by simp;omega,by simp,by simp [go_sem],by simp [go_sem],by simp [go_sem],by simp [go_sem],by simp [go_sem],by simp [go_sem],by simp [go_sem],by simp [go_sem],by simp [go_sem],by simp [go_sem]⟩
 have hbW:Below W0.heap.size W0 ((W0.alloc (.cells #[.int .i64 a.t, .int .i64 a.i, .int .i64 a.l, .bool a.r, .bool a.w] 130)).alloc (.cells #[.int .i64 b.t, .int .i64 b.i, .int .i64 b.l, .bool b.r, .bool b.w] 130)):=((Below.refl _ _).alloc (Nat.le_refl _) _).alloc (by simp) _
 have HE:=hide EA;have HB0:=hide hbW
 clear i0 i1 i2 i3 i4 j0 j1 j2 j3 j4 ha hWs EA hbW
 go_enter Tryz.func244,Tryz.ntmps244
 go_upto_region 3 with fail
 clear hW
 clear e0 e1 e2 e3 e4 u0 u1 u2 u3 u4
 generalize ((W0.alloc (.cells #[.int .i64 a.t, .int .i64 a.i, .int .i64 a.l, .bool a.r, .bool a.w] 130)).alloc (.cells #[.int .i64 b.t, .int .i64 b.i, .int .i64 b.l, .bool b.r, .bool b.w] 130))=wc at *
 obtain ⟨h7,h8,a0,a1,a2,a3,a4,c0,c1,c2,c3,c4⟩:=HE.out
 have HBC:=hide (HBW.out.trans (HB0.out.mono HBW.out.size))
 have hwx:=(HB0.out.block w.heap.size (Array.getElem?_eq_some_iff.1 HBX.out).1).trans HBX.out
 have x0:wc.cell? ⟨w.heap.size,0,none⟩=some (.slice f1 f2 f3):=cell_of_heapV hwx (k:=0) rfl
 have x1:wc.cell? ⟨w.heap.size,1,none⟩=some (.slice o1 o2 o3):=cell_of_heapV hwx (k:=1) rfl
 have xl:=lt_of_cell x0
 clear hwx
 obtain ⟨SM,hSM⟩:∃ SM,SM=((a.t==b.t)&&decide (0≤a.t)):=⟨_,rfl⟩
 have HSM:=hide hSM
 clear hSM
 go_cut [15] (fun s15 W=>s15 = .bool SM∧W=wc)
 case first =>
  by_cases g2:a.t=b.t
  ·have k2:(a.t==b.t)=true:=by simp [g2]
   have E:Hid (SM=decide (0≤a.t)):=hide (by rw [HSM.out,k2];rfl)
   clear g2
   go_wp2_with fail
   go_meet
   exact ⟨by rw [E.out],rfl⟩
  ·have k2:(a.t==b.t)=false:=by simp [g2]
   have E:Hid (SM=false):=hide (by rw [HSM.out,k2];rfl)
   clear g2
   go_wp2_with fail
   go_meet
   exact ⟨by rw [E.out],rfl⟩
 case rest =>
  obtain ⟨rfl,rfl⟩:=hcut
  rcases hn.out with ⟨rfl,rfl⟩ | ⟨rfl,rfl⟩ | ⟨rfl,rfl⟩ | ⟨rfl,rfl⟩ | ⟨rfl,rfl⟩ | ⟨rfl,rfl⟩
  ·have n0:((⟨#[112,111]⟩:ByteArray).toList==[112,111])=true:=by kernel_rfl
   have RV:Hid (R=(SM&&decide (a.i < b.i))):=hide (by
    rw [RE.out,HSM.out]
    show (decide (0≤a.t)&&((a.t==b.t)&&decide (a.i < b.i)))=_
    cases decide (0≤a.t) <;> cases (a.t==b.t) <;> rfl)
   cases SM
   ·have RP:Hid (R=false):=hide (by rw [RV.out];rfl)
    go_wp2_with fail
    go_ret
    exact ⟨by rw [RP.out];rfl,HBC.out⟩
   ·have RP:Hid (R=decide (a.i < b.i)):=hide (by rw [RV.out];rfl)
    go_wp2_with fail
    go_ret
    exact ⟨by rw [RP.out];rfl,HBC.out⟩
  ·have n0:((⟨#[108,111,99]⟩:ByteArray).toList==[112,111])=false:=by kernel_rfl
   have n1:((⟨#[108,111,99]⟩:ByteArray).toList==[108,111,99])=true:=by kernel_rfl
   have RP:Hid (R=(a.l==b.l)):=hide (by rw [RE.out];rfl)
   go_wp2_with fail
   go_ret
   exact ⟨by rw [RP.out];rfl,HBC.out⟩
  ·have n0:((⟨#[101,120,116]⟩:ByteArray).toList==[112,111])=false:=by kernel_rfl
   have n1:((⟨#[101,120,116]⟩:ByteArray).toList==[108,111,99])=false:=by kernel_rfl
   have n2:((⟨#[101,120,116]⟩:ByteArray).toList==[101,120,116])=true:=by kernel_rfl
   have RP:Hid (R = !SM):=hide (by
    rw [RE.out,HSM.out]
    show ((a.t != b.t)||decide (a.t < 0))=_
    have h1:decide (a.t < 0) = !decide (0≤a.t):=by
     by_cases h:a.t < 0
     ·have h':¬ 0≤a.t:=by omega
      simp [h,h']
     ·have h':0≤a.t:=by omega
      simp [h,h']
    rw [h1]
    simp only [bne]
    cases (a.t==b.t) <;> cases decide (0≤a.t) <;> rfl)
   go_wp2_with fail
   go_ret
   exact ⟨by rw [RP.out];rfl,HBC.out⟩
  ·have n0:((⟨#[119,114]⟩:ByteArray).toList==[112,111])=false:=by kernel_rfl
   have n1:((⟨#[119,114]⟩:ByteArray).toList==[108,111,99])=false:=by kernel_rfl
   have n2:((⟨#[119,114]⟩:ByteArray).toList==[101,120,116])=false:=by kernel_rfl
   have n3:((⟨#[119,114]⟩:ByteArray).toList==[114,102])=false:=by kernel_rfl
   have n4:((⟨#[119,114]⟩:ByteArray).toList==[99,111])=false:=by kernel_rfl
   have n5:((⟨#[119,114]⟩:ByteArray).toList==[102,114])=false:=by kernel_rfl
   have n6:((⟨#[119,114]⟩:ByteArray).toList==[102,101,110,99,101])=false:=by kernel_rfl
   have n7:((⟨#[119,114]⟩:ByteArray).toList==[119,114])=true:=by kernel_rfl
   obtain ⟨at',ai,al,ar,aw⟩:=a
   obtain ⟨bt,bi,bl,br,bw⟩:=b
   simp only at a0 a1 a2 a3 a4 c0 c1 c2 c3 c4
   have RP:Hid (R=((aw && !ar)&&(br && !bw))):=hide (by rw [RE.out];rfl)
   clear HSM HE
   cases aw <;> cases ar <;> cases br <;> cases bw
   all_goals
    go_wp2_with fail
    go_ret
    exact ⟨by rw [RP.out];rfl,HBC.out⟩
  ·have n0:((⟨#[119,119]⟩:ByteArray).toList==[112,111])=false:=by kernel_rfl
   have n1:((⟨#[119,119]⟩:ByteArray).toList==[108,111,99])=false:=by kernel_rfl
   have n2:((⟨#[119,119]⟩:ByteArray).toList==[101,120,116])=false:=by kernel_rfl
   have n3:((⟨#[119,119]⟩:ByteArray).toList==[114,102])=false:=by kernel_rfl
   have n4:((⟨#[119,119]⟩:ByteArray).toList==[99,111])=false:=by kernel_rfl
   have n5:((⟨#[119,119]⟩:ByteArray).toList==[102,114])=false:=by kernel_rfl
   have n6:((⟨#[119,119]⟩:ByteArray).toList==[102,101,110,99,101])=false:=by kernel_rfl
   have n7:((⟨#[119,119]⟩:ByteArray).toList==[119,114])=false:=by kernel_rfl
   have n8:((⟨#[119,119]⟩:ByteArray).toList==[119,119])=true:=by kernel_rfl
   obtain ⟨at',ai,al,ar,aw⟩:=a
   obtain ⟨bt,bi,bl,br,bw⟩:=b
   simp only at a0 a1 a2 a3 a4 c0 c1 c2 c3 c4
   have RP:Hid (R=((aw && !ar)&&(bw && !br))):=hide (by rw [RE.out];rfl)
   clear HSM HE
   cases aw <;> cases ar <;> cases br <;> cases bw
   all_goals
    go_wp2_with fail
    go_ret
    exact ⟨by rw [RP.out];rfl,HBC.out⟩
  ·have n0:((⟨#[105,100]⟩:ByteArray).toList==[112,111])=false:=by kernel_rfl
   have n1:((⟨#[105,100]⟩:ByteArray).toList==[108,111,99])=false:=by kernel_rfl
   have n2:((⟨#[105,100]⟩:ByteArray).toList==[101,120,116])=false:=by kernel_rfl
   have n3:((⟨#[105,100]⟩:ByteArray).toList==[114,102])=false:=by kernel_rfl
   have n4:((⟨#[105,100]⟩:ByteArray).toList==[99,111])=false:=by kernel_rfl
   have n5:((⟨#[105,100]⟩:ByteArray).toList==[102,114])=false:=by kernel_rfl
   have n6:((⟨#[105,100]⟩:ByteArray).toList==[102,101,110,99,101])=false:=by kernel_rfl
   have n7:((⟨#[105,100]⟩:ByteArray).toList==[119,114])=false:=by kernel_rfl
   have n8:((⟨#[105,100]⟩:ByteArray).toList==[119,119])=false:=by kernel_rfl
   have n9:((⟨#[105,100]⟩:ByteArray).toList==[105,100])=true:=by kernel_rfl
   have RP:Hid (R=((i:Int)==(k:Int))):=hide (by
    rw [RE.out]
    show (i==k)=_
    rw [Bool.eq_iff_iff];simp only [beq_iff_eq];omega)
   go_wp2_with fail
   go_ret
   exact ⟨by rw [RP.out];rfl,HBC.out⟩
end Go.Proofs.YtfbgppkdnfljhaaGreatDoor
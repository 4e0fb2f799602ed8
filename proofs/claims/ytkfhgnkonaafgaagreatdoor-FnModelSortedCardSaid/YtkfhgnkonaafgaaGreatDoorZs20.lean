/-
  isPair of the program, name by name. Condition: the candidate is one of a valid program.
-/
import Derived.Test.YtkfhgnkonaafgaaGreatDoorZs16
import Derived.Test.YtkfhgnkonaafgaaGreatDoorZs12
set_option maxHeartbeats 6400000
set_option maxRecDepth 100000
namespace Go.Proofs.YtkfhgnkonaafgaaGreatDoor
open Go.RowKit
structure EvAt (W:World) (b7 b8:Nat) (a b:Ev):Prop where
 h7:b7 < W.heap.size
 h8:b8 < W.heap.size
 a0:W.cell? ⟨b7,0,none⟩=some (.int .i64 a.t)
 a1:W.cell? ⟨b7,1,none⟩=some (.int .i64 a.i)
 a2:W.cell? ⟨b7,2,none⟩=some (.int .i64 a.l)
 a3:W.cell? ⟨b7,3,none⟩=some (.bool a.r)
 a4:W.cell? ⟨b7,4,none⟩=some (.bool a.w)
 c0:W.cell? ⟨b8,0,none⟩=some (.int .i64 b.t)
 c1:W.cell? ⟨b8,1,none⟩=some (.int .i64 b.i)
 c2:W.cell? ⟨b8,2,none⟩=some (.int .i64 b.l)
 c3:W.cell? ⟨b8,3,none⟩=some (.bool b.r)
 c4:W.cell? ⟨b8,4,none⟩=some (.bool b.w)
theorem isPair_plain (nm:ByteArray) (t:Nat) (hn:Hid ((nm=⟨#[112,111]⟩∧t=0)∨(nm=⟨#[108,111,99]⟩∧t=1)∨(nm=⟨#[101,120,116]⟩∧t=2)∨(nm=⟨#[119,114]⟩∧t=7)∨(nm=⟨#[119,119]⟩∧t=8)∨(nm=⟨#[105,100]⟩∧t=9))) (pv:Value) (f1 o1 la:Option Addr) (f2 f3 o2 o3 lc:Nat) (p:List (List Ins)) (x:Xc) (i k:Nat) (w:World) (hp:RepP w pv p) (hx:RepX w (.slice f1 f2 f3) (.slice o1 o2 o3) x) (hL:Rep EvE w (.slice la (evAll p).length lc) (evAll p)) (hi:i < (evAll p).length) (hk:k < (evAll p).length) :
 Calls Tryz.prog 208 #[pv, .agg #[.slice f1 f2 f3, .slice o1 o2 o3], .slice la (evAll p).length lc, .string nm, .int .i64 i, .int .i64 k] w fun e w'=>e = .returned (.bool (relN p x t i k))∧Below w.heap.size w w':=by
 obtain ⟨a,ha⟩:=get_of_lt hi
 obtain ⟨b,hbb⟩:=get_of_lt hk
 have CE:Hid (relN p x t i k=relE p x t a b i k):=hide (relN_eq ha hbb)
 have HPO:Hid (poE a b=(decide (0≤a.t)&&((a.t==b.t)&&decide (a.i < b.i)))):=hide rfl
 obtain ⟨d,o,rfl,hd,i0,i1,i2,i3,i4⟩:=hL.ev ha
 obtain ⟨d',o',hde,hd',j0,j1,j2,j3,j4⟩:=hL.ev hbb
 simp only [Option.some.injEq,Addr.mk.injEq,and_true] at hde
 obtain ⟨rfl,rfl⟩:=hde
 have HBW:=hide (belowAlloc w (.cells #[.slice f1 f2 f3, .slice o1 o2 o3] 29))
 have HBX:=hide (heap_alloc_new w (.cells #[.slice f1 f2 f3, .slice o1 o2 o3] 29))
 have hi':=nat_of_lt hi;have hk':=nat_of_lt hk
 have HP:=hide (hp.below HBW.out);have HX:=hide (hx.below HBW.out)
 clear hbb hL hp hx
 generalize relN p x t i k=R at *
 have RE:Hid (R=relE p x t a b i k):=CE
 clear CE
 generalize (evAll p).length=n at *
 generalize hW:w.alloc (.cells #[.slice f1 f2 f3, .slice o1 o2 o3] 29)=W0 at *
 have e0:=(HBW.out.cell (p:=⟨d,o+i * 5,none⟩) hd).trans i0;have e1:=(HBW.out.cell (p:=⟨d,o+i * 5+1,none⟩) hd).trans i1;have e2:=(HBW.out.cell (p:=⟨d,o+i * 5+2,none⟩) hd).trans i2;have e3:=(HBW.out.cell (p:=⟨d,o+i * 5+3,none⟩) hd).trans i3;have e4:=(HBW.out.cell (p:=⟨d,o+i * 5+4,none⟩) hd).trans i4
 have u0:=(HBW.out.cell (p:=⟨d,o+k * 5,none⟩) hd').trans j0;have u1:=(HBW.out.cell (p:=⟨d,o+k * 5+1,none⟩) hd').trans j1;have u2:=(HBW.out.cell (p:=⟨d,o+k * 5+2,none⟩) hd').trans j2;have u3:=(HBW.out.cell (p:=⟨d,o+k * 5+3,none⟩) hd').trans j3;have u4:=(HBW.out.cell (p:=⟨d,o+k * 5+4,none⟩) hd').trans j4
 have hdW:=lt_of_cell e0
 generalize hPB:poE a b=PB at *
 clear i0 i1 i2 i3 i4 j0 j1 j2 j3 j4 ha
 go_enter Tryz.func208,Tryz.ntmps208
 go_wp2_with fail
 clear hW
 go_cut [13,14] (fun s13 s14 W => ∃ b7 b8:Nat,s13 = .pointer (some ⟨b7,0,none⟩)∧s14 = .pointer (some ⟨b8,0,none⟩)∧EvAt W b7 b8 a b∧Below W0.heap.size W0 W)
 case first =>
  go_region_held3 (fun W=>W.cell? ⟨d,o+i * 5,none⟩=some (.int .i64 a.t)∧W.cell? ⟨d,o+i * 5+1,none⟩=some (.int .i64 a.i)∧W.cell? ⟨d,o+i * 5+2,none⟩=some (.int .i64 a.l)∧W.cell? ⟨d,o+i * 5+3,none⟩=some (.bool a.r)∧W.cell? ⟨d,o+i * 5+4,none⟩=some (.bool a.w) ∧
   W.cell? ⟨d,o+k * 5,none⟩=some (.int .i64 b.t)∧W.cell? ⟨d,o+k * 5+1,none⟩=some (.int .i64 b.i)∧W.cell? ⟨d,o+k * 5+2,none⟩=some (.int .i64 b.l)∧W.cell? ⟨d,o+k * 5+3,none⟩=some (.bool b.r)∧W.cell? ⟨d,o+k * 5+4,none⟩=some (.bool b.w)) ((simp [go_sem, *])) (first | fail)
  all_goals
   go_wp2_with fail
   go_meet
   refine ⟨_,_,rfl,rfl,⟨by first | (simp;done) | (simp;omega),by first | (simp;done) | (simp;omega),by simp [go_sem],by simp [go_sem],by simp [go_sem],by simp [go_sem],by simp [go_sem],by simp [go_sem],by simp [go_sem],by simp [go_sem],by simp [go_sem],by simp [go_sem]⟩, ?_⟩
   exact (((Below.refl _ _).alloc (Nat.le_refl _) _).alloc (by simp) _).drew
 case rest =>
  obtain ⟨b7,b8,rfl,rfl,EA,hbW⟩:=hcut
  have HE:=hide EA
  obtain ⟨h7,h8,a0,a1,a2,a3,a4,c0,c1,c2,c3,c4⟩:=EA
  have HBC:=hide (HBW.out.trans (hbW.mono HBW.out.size))
  have HB0:=hide hbW
  have hwx:=(hbW.block w.heap.size (Array.getElem?_eq_some_iff.1 HBX.out).1).trans HBX.out
  have x0:wc.cell? ⟨w.heap.size,0,none⟩=some (.slice f1 f2 f3):=cell_of_heapV hwx (k:=0) rfl
  have x1:wc.cell? ⟨w.heap.size,1,none⟩=some (.slice o1 o2 o3):=cell_of_heapV hwx (k:=1) rfl
  have xl:=lt_of_cell x0
  clear e0 e1 e2 e3 e4 u0 u1 u2 u3 u4 hwx hbW
  go_upto_region 2 with fail
  go_cut [15] (fun s15 W=>s15 = .bool PB∧W=wc)
  case first =>
   by_cases g1:0≤a.t
   ·by_cases g2:a.t=b.t
    ·have k2:(a.t==b.t)=true:=by simp [g2]
     have E:Hid (PB=decide (a.i < b.i)):=hide (by rw [HPO.out,k2];simp [g1])
     clear g2
     go_wp2_with fail
     go_meet
     exact ⟨by rw [E.out],rfl⟩
    ·have k2:(a.t==b.t)=false:=by simp [g2]
     have E:Hid (PB=false):=hide (by rw [HPO.out,k2];simp)
     clear g2
     go_wp2_with fail
     go_meet
     exact ⟨by rw [E.out],rfl⟩
   ·have k1:decide (0≤a.t)=false:=decide_eq_false g1
    have E:Hid (PB=false):=hide (by rw [HPO.out,k1];simp)
    clear g1
    go_wp2_with fail
    go_meet
    exact ⟨by rw [E.out],rfl⟩
  case rest =>
   obtain ⟨rfl,rfl⟩:=hcut
   rcases hn.out with ⟨rfl,rfl⟩ | ⟨rfl,rfl⟩ | ⟨rfl,rfl⟩ | ⟨rfl,rfl⟩ | ⟨rfl,rfl⟩ | ⟨rfl,rfl⟩
   ·have n0:((⟨#[112,111]⟩:ByteArray).toList==[112,111])=true:=by kernel_rfl
    have RP:Hid (R=PB):=hide (by rw [RE.out];exact hPB)
    go_wp2_with fail
    go_ret
    exact ⟨by rw [RP.out];rfl,HBC.out⟩
   ·have n0:((⟨#[108,111,99]⟩:ByteArray).toList==[112,111])=false:=by kernel_rfl
    have n1:((⟨#[108,111,99]⟩:ByteArray).toList==[108,111,99])=true:=by kernel_rfl
    have RP:Hid (R=(a.l==b.l)):=hide (by rw [RE.out];rfl)
    go_wp2_with fail
    go_ret
    exact ⟨by rw [RP.out];rfl,HBC.out⟩
   ·have n0:((⟨#[101,120,116]⟩:ByteArray).toList==[112,111])=false:=by kernel_rfl
    have n1:((⟨#[101,120,116]⟩:ByteArray).toList==[108,111,99])=false:=by kernel_rfl
    have n2:((⟨#[101,120,116]⟩:ByteArray).toList==[101,120,116])=true:=by kernel_rfl
    by_cases g1:a.t=b.t
    ·have k1:(a.t != b.t)=false:=by simp [g1]
     have RP:Hid (R=decide (a.t < 0)):=hide (by rw [RE.out];show ((a.t != b.t)||decide (a.t < 0))=_;rw [k1];rfl)
     clear g1
     go_wp2_with fail
     go_ret
     exact ⟨by rw [RP.out];rfl,HBC.out⟩
    ·have k1:(a.t != b.t)=true:=by simp [g1]
     have RP:Hid (R=true):=hide (by rw [RE.out];show ((a.t != b.t)||decide (a.t < 0))=_;rw [k1];rfl)
     clear g1
     go_wp2_with fail
     go_ret
     exact ⟨by rw [RP.out];rfl,HBC.out⟩
   ·have n0:((⟨#[119,114]⟩:ByteArray).toList==[112,111])=false:=by kernel_rfl
    have n1:((⟨#[119,114]⟩:ByteArray).toList==[108,111,99])=false:=by kernel_rfl
    have n2:((⟨#[119,114]⟩:ByteArray).toList==[101,120,116])=false:=by kernel_rfl
    have n3:((⟨#[119,114]⟩:ByteArray).toList==[114,102])=false:=by kernel_rfl
    have n4:((⟨#[119,114]⟩:ByteArray).toList==[99,111])=false:=by kernel_rfl
    have n5:((⟨#[119,114]⟩:ByteArray).toList==[102,114])=false:=by kernel_rfl
    have n6:((⟨#[119,114]⟩:ByteArray).toList==[102,101,110,99,101])=false:=by kernel_rfl
    have n7:((⟨#[119,114]⟩:ByteArray).toList==[119,114])=true:=by kernel_rfl
    obtain ⟨at',ai,al,ar,aw⟩:=a
    obtain ⟨bt,bi,bl,br,bw⟩:=b
    simp only at a0 a1 a2 a3 a4 c0 c1 c2 c3 c4
    have HPA:=hide (fun w'=>pure_any at' ai al ar aw true w')
    have HPB2:=hide (fun w'=>pure_any bt bi bl br bw false w')
    have RV:Hid (R=((aw && !ar)&&(br && !bw))):=hide (by rw [RE.out];rfl)
    rcases Bool.eq_false_or_eq_true ((aw==true)&&(ar != true)) with gA | gA
    ·rw [gA] at HPA
     have RP:Hid (R=(!bw&&br)):=hide (by
      rw [RV.out]
      cases aw <;> cases ar <;> simp at gA <;> cases bw <;> cases br <;> rfl)
     go_wp2_with fail
     (with_reducible refine (HPA.out _).mono ?_);rintro e w5 ⟨rfl,hb5⟩
     have s0:=(hb5.cell (p:=⟨b8,0,none⟩) h8).trans c0;have s1:=(hb5.cell (p:=⟨b8,1,none⟩) h8).trans c1;have s2:=(hb5.cell (p:=⟨b8,2,none⟩) h8).trans c2;have s3:=(hb5.cell (p:=⟨b8,3,none⟩) h8).trans c3;have s4:=(hb5.cell (p:=⟨b8,4,none⟩) h8).trans c4
     have sl:=lt_of_cell s0
     have HB5:=hide (HBC.out.trans (hb5.mono HBC.out.size))
     clear hb5
     go_wp2_with fail
     (with_reducible refine (HPB2.out _).mono ?_);rintro e w6 ⟨rfl,hb6⟩
     go_wp2_with fail
     go_ret
     exact ⟨by rw [RP.out];rfl,HB5.out.trans (hb6.mono HB5.out.size)⟩
    ·rw [gA] at HPA
     have RP:Hid (R=false):=hide (by
      rw [RV.out]
      cases aw <;> cases ar <;> simp at gA <;> rfl)
     go_wp2_with fail
     (with_reducible refine (HPA.out _).mono ?_);rintro e w5 ⟨rfl,hb5⟩
     have HB5:=hide (HBC.out.trans (hb5.mono HBC.out.size))
     clear hb5
     go_wp2_with fail
     go_ret
     exact ⟨by rw [RP.out];rfl,HB5.out⟩
   ·have n0:((⟨#[119,119]⟩:ByteArray).toList==[112,111])=false:=by kernel_rfl
    have n1:((⟨#[119,119]⟩:ByteArray).toList==[108,111,99])=false:=by kernel_rfl
    have n2:((⟨#[119,119]⟩:ByteArray).toList==[101,120,116])=false:=by kernel_rfl
    have n3:((⟨#[119,119]⟩:ByteArray).toList==[114,102])=false:=by kernel_rfl
    have n4:((⟨#[119,119]⟩:ByteArray).toList==[99,111])=false:=by kernel_rfl
    have n5:((⟨#[119,119]⟩:ByteArray).toList==[102,114])=false:=by kernel_rfl
    have n6:((⟨#[119,119]⟩:ByteArray).toList==[102,101,110,99,101])=false:=by kernel_rfl
    have n7:((⟨#[119,119]⟩:ByteArray).toList==[119,114])=false:=by kernel_rfl
    have n8:((⟨#[119,119]⟩:ByteArray).toList==[119,119])=true:=by kernel_rfl
    obtain ⟨at',ai,al,ar,aw⟩:=a
    obtain ⟨bt,bi,bl,br,bw⟩:=b
    simp only at a0 a1 a2 a3 a4 c0 c1 c2 c3 c4
    have HPA:=hide (fun w'=>pure_any at' ai al ar aw true w')
    have HPB2:=hide (fun w'=>pure_any bt bi bl br bw true w')
    have RV:Hid (R=((aw && !ar)&&(bw && !br))):=hide (by rw [RE.out];rfl)
    rcases Bool.eq_false_or_eq_true ((aw==true)&&(ar != true)) with gA | gA
    ·rw [gA] at HPA
     have RP:Hid (R=(bw && !br)):=hide (by
      rw [RV.out]
      cases aw <;> cases ar <;> simp at gA <;> cases bw <;> cases br <;> rfl)
     go_wp2_with fail
     (with_reducible refine (HPA.out _).mono ?_);rintro e w5 ⟨rfl,hb5⟩
     have s0:=(hb5.cell (p:=⟨b8,0,none⟩) h8).trans c0;have s1:=(hb5.cell (p:=⟨b8,1,none⟩) h8).trans c1;have s2:=(hb5.cell (p:=⟨b8,2,none⟩) h8).trans c2;have s3:=(hb5.cell (p:=⟨b8,3,none⟩) h8).trans c3;have s4:=(hb5.cell (p:=⟨b8,4,none⟩) h8).trans c4
     have sl:=lt_of_cell s0
     have HB5:=hide (HBC.out.trans (hb5.mono HBC.out.size))
     clear hb5
     go_wp2_with fail
     (with_reducible refine (HPB2.out _).mono ?_);rintro e w6 ⟨rfl,hb6⟩
     go_wp2_with fail
     go_ret
     exact ⟨by rw [RP.out];rfl,HB5.out.trans (hb6.mono HB5.out.size)⟩
    ·rw [gA] at HPA
     have RP:Hid (R=false):=hide (by
      rw [RV.out]
      cases aw <;> cases ar <;> simp at gA <;> rfl)
     go_wp2_with fail
     (with_reducible refine (HPA.out _).mono ?_);rintro e w5 ⟨rfl,hb5⟩
     have HB5:=hide (HBC.out.trans (hb5.mono HBC.out.size))
     clear hb5
     go_wp2_with fail
     go_ret
     exact ⟨by rw [RP.out];rfl,HB5.out⟩
   ·have n0:((⟨#[105,100]⟩:ByteArray).toList==[112,111])=false:=by kernel_rfl
    have n1:((⟨#[105,100]⟩:ByteArray).toList==[108,111,99])=false:=by kernel_rfl
    have n2:((⟨#[105,100]⟩:ByteArray).toList==[101,120,116])=false:=by kernel_rfl
    have n3:((⟨#[105,100]⟩:ByteArray).toList==[114,102])=false:=by kernel_rfl
    have n4:((⟨#[105,100]⟩:ByteArray).toList==[99,111])=false:=by kernel_rfl
    have n5:((⟨#[105,100]⟩:ByteArray).toList==[102,114])=false:=by kernel_rfl
    have n6:((⟨#[105,100]⟩:ByteArray).toList==[102,101,110,99,101])=false:=by kernel_rfl
    have n7:((⟨#[105,100]⟩:ByteArray).toList==[119,114])=false:=by kernel_rfl
    have n8:((⟨#[105,100]⟩:ByteArray).toList==[119,119])=false:=by kernel_rfl
    have RP:Hid (R=((i:Int)==(k:Int))):=hide (by
     rw [RE.out]
     show (i==k)=_
     rw [Bool.eq_iff_iff];simp only [beq_iff_eq];omega)
    go_wp2_with fail
    go_ret
    exact ⟨by rw [RP.out];rfl,HBC.out⟩
end Go.Proofs.YtkfhgnkonaafgaaGreatDoor
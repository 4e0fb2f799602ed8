/-
  isPair of the program, name by name, the second part. Condition: the candidate is one of a valid program.
-/
import Derived.Test.YtkfhgnkonaafgaaGreatDoorZs20
set_option maxHeartbeats 6400000
set_option maxRecDepth 100000
namespace Go.Proofs.YtkfhgnkonaafgaaGreatDoor
open Go.RowKit
theorem isPair_rf (pv:Value) (f1 o1 la:Option Addr) (f2 f3 o2 o3 lc:Nat) (p:List (List Ins)) (x:Xc) (i k:Nat) (w:World) (hp:RepP w pv p) (hx:RepX w (.slice f1 f2 f3) (.slice o1 o2 o3) x) (hL:Rep EvE w (.slice la (evAll p).length lc) (evAll p)) (hi:i < (evAll p).length) (hk:k < (evAll p).length) (hX:execOk p x=true) :
 Calls Tryz.prog 208 #[pv, .agg #[.slice f1 f2 f3, .slice o1 o2 o3], .slice la (evAll p).length lc, .string ⟨#[114,102]⟩, .int .i64 i, .int .i64 k] w fun e w'=>e = .returned (.bool (relN p x 3 i k))∧Below w.heap.size w w':=by
 obtain ⟨a,ha⟩:=get_of_lt hi
 obtain ⟨b,hbb⟩:=get_of_lt hk
 have CE:Hid (relN p x 3 i k=relE p x 3 a b i k):=hide (relN_eq ha hbb)
 have HPO:Hid (poE a b=(decide (0≤a.t)&&((a.t==b.t)&&decide (a.i < b.i)))):=hide rfl
 obtain ⟨d,o,rfl,hd,i0,i1,i2,i3,i4⟩:=hL.ev ha
 obtain ⟨d',o',hde,hd',j0,j1,j2,j3,j4⟩:=hL.ev hbb
 simp only [Option.some.injEq,Addr.mk.injEq,and_true] at hde
 obtain ⟨rfl,rfl⟩:=hde
 have HBW:=hide (belowAlloc w (.cells #[.slice f1 f2 f3, .slice o1 o2 o3] 29))
 have HBX:=hide (heap_alloc_new w (.cells #[.slice f1 f2 f3, .slice o1 o2 o3] 29))
 have hi':=nat_of_lt hi;have hk':=nat_of_lt hk
 have hX2:=hX
 unfold execOk at hX2
 simp only [Bool.and_eq_true,decide_eq_true_eq] at hX2
 obtain ⟨hpv,hfl,hol, -, -⟩:=hX2
 obtain ⟨al,hal3,hal⟩:=ev_loc hpv ha
 obtain ⟨fv,hfv⟩:=get_of_lt (xs:=x.fr) (k:=k) (by omega)
 have HFV:=hide hfv;have HFL:=hide hfl
 have FA:Hid (frA x k=fv):=hide (by simp [frA,hfv])
 have RV:Hid (relE p x 3 a b i k=(frA x k==(i:Int))):=hide rfl
 clear hfl hol hal3 hal hpv hX hfv
 have HP:=hide (hp.below HBW.out);have HX:=hide (hx.below HBW.out)
 clear hbb hL hp hx
 generalize relN p x 3 i k=R at *
 have RE:Hid (R=relE p x 3 a b i k):=CE
 clear CE
 generalize (evAll p).length=n at *
 generalize hW:w.alloc (.cells #[.slice f1 f2 f3, .slice o1 o2 o3] 29)=W0 at *
 have e0:=(HBW.out.cell (p:=⟨d,o+i * 5,none⟩) hd).trans i0;have e1:=(HBW.out.cell (p:=⟨d,o+i * 5+1,none⟩) hd).trans i1;have e2:=(HBW.out.cell (p:=⟨d,o+i * 5+2,none⟩) hd).trans i2;have e3:=(HBW.out.cell (p:=⟨d,o+i * 5+3,none⟩) hd).trans i3;have e4:=(HBW.out.cell (p:=⟨d,o+i * 5+4,none⟩) hd).trans i4
 have u0:=(HBW.out.cell (p:=⟨d,o+k * 5,none⟩) hd').trans j0;have u1:=(HBW.out.cell (p:=⟨d,o+k * 5+1,none⟩) hd').trans j1;have u2:=(HBW.out.cell (p:=⟨d,o+k * 5+2,none⟩) hd').trans j2;have u3:=(HBW.out.cell (p:=⟨d,o+k * 5+3,none⟩) hd').trans j3;have u4:=(HBW.out.cell (p:=⟨d,o+k * 5+4,none⟩) hd').trans j4
 have hdW:=lt_of_cell e0
 generalize hPB:poE a b=PB at *
 clear i0 i1 i2 i3 i4 j0 j1 j2 j3 j4 ha
 go_enter Tryz.func208,Tryz.ntmps208
 go_wp2_with fail
 clear hW
 go_cut [13,14] (fun s13 s14 W => ∃ b7 b8:Nat,s13 = .pointer (some ⟨b7,0,none⟩)∧s14 = .pointer (some ⟨b8,0,none⟩)∧EvAt W b7 b8 a b∧Below W0.heap.size W0 W)
 case first =>
  go_region_held3 (fun W=>W.cell? ⟨d,o+i * 5,none⟩=some (.int .i64 a.t)∧W.cell? ⟨d,o+i * 5+1,none⟩=some (.int .i64 a.i)∧W.cell? ⟨d,o+i * 5+2,none⟩=some (.int .i64 a.l)∧W.cell? ⟨d,o+i * 5+3,none⟩=some (.bool a.r)∧W.cell? ⟨d,o+i * 5+4,none⟩=some (.bool a.w) ∧
   W.cell? ⟨d,o+k * 5,none⟩=some (.int .i64 b.t)∧W.cell? ⟨d,o+k * 5+1,none⟩=some (.int .i64 b.i)∧W.cell? ⟨d,o+k * 5+2,none⟩=some (.int .i64 b.l)∧W.cell? ⟨d,o+k * 5+3,none⟩=some (.bool b.r)∧W.cell? ⟨d,o+k * 5+4,none⟩=some (.bool b.w)) ((simp [go_sem, *])) (first | fail)
  all_goals
   go_wp2_with fail
   go_meet
   refine ⟨_,_,rfl,rfl,⟨by first | (simp;done) | (simp;omega),by first | (simp;done) | (simp;omega),by simp [go_sem],by simp [go_sem],by simp [go_sem],by simp [go_sem],by simp [go_sem],by simp [go_sem],by simp [go_sem],by simp [go_sem],by simp [go_sem],by simp [go_sem]⟩, ?_⟩
   exact (((Below.refl _ _).alloc (Nat.le_refl _) _).alloc (by simp) _).drew
 case rest =>
  obtain ⟨b7,b8,rfl,rfl,EA,hbW⟩:=hcut
  have HE:=hide EA
  obtain ⟨h7,h8,a0,a1,a2,a3,a4,c0,c1,c2,c3,c4⟩:=EA
  have HBC:=hide (HBW.out.trans (hbW.mono HBW.out.size))
  have HB0:=hide hbW
  have hwx:=(hbW.block w.heap.size (Array.getElem?_eq_some_iff.1 HBX.out).1).trans HBX.out
  have x0:wc.cell? ⟨w.heap.size,0,none⟩=some (.slice f1 f2 f3):=cell_of_heapV hwx (k:=0) rfl
  have x1:wc.cell? ⟨w.heap.size,1,none⟩=some (.slice o1 o2 o3):=cell_of_heapV hwx (k:=1) rfl
  have xl:=lt_of_cell x0
  clear e0 e1 e2 e3 e4 u0 u1 u2 u3 u4 hwx hbW
  go_upto_region 2 with fail
  go_cut [15] (fun s15 W=>s15 = .bool PB∧W=wc)
  case first =>
   by_cases g1:0≤a.t
   ·by_cases g2:a.t=b.t
    ·have k2:(a.t==b.t)=true:=by simp [g2]
     have E:Hid (PB=decide (a.i < b.i)):=hide (by rw [HPO.out,k2];simp [g1])
     clear g2
     go_wp2_with fail
     go_meet
     exact ⟨by rw [E.out],rfl⟩
    ·have k2:(a.t==b.t)=false:=by simp [g2]
     have E:Hid (PB=false):=hide (by rw [HPO.out,k2];simp)
     clear g2
     go_wp2_with fail
     go_meet
     exact ⟨by rw [E.out],rfl⟩
   ·have k1:decide (0≤a.t)=false:=decide_eq_false g1
    have E:Hid (PB=false):=hide (by rw [HPO.out,k1];simp)
    clear g1
    go_wp2_with fail
    go_meet
    exact ⟨by rw [E.out],rfl⟩
  case rest =>
   obtain ⟨rfl,rfl⟩:=hcut
   have n0:((⟨#[114,102]⟩:ByteArray).toList==[112,111])=false:=by kernel_rfl
   have n1:((⟨#[114,102]⟩:ByteArray).toList==[108,111,99])=false:=by kernel_rfl
   have n2:((⟨#[114,102]⟩:ByteArray).toList==[101,120,116])=false:=by kernel_rfl
   have n3:((⟨#[114,102]⟩:ByteArray).toList==[114,102])=true:=by kernel_rfl
   have hxr:=HX.out.fr.below (HB0.out)
   obtain ⟨fa,fc,hfe, -, -, -,hxf⟩:=hxr.open
   simp only [Value.slice.injEq] at hfe
   obtain ⟨rfl,rfl,rfl⟩:=hfe
   obtain ⟨q1,q2,rfl,hq,hc⟩:=hxf.int HFV.out
   have hkf:(k:Int) < (x.fr.length:Int):=by have:=(List.getElem?_eq_some_iff.1 HFV.out).1;omega
   have hkf':k < x.fr.length:=by omega
   have RP:Hid (R=(fv==(i:Int))):=hide (by rw [RE.out,RV.out,FA.out])
   clear hxr hxf
   go_wp2_with fail
   go_ret
   exact ⟨by rw [RP.out];rfl,HBC.out⟩
theorem isPair_co (pv:Value) (f1 o1 la:Option Addr) (f2 f3 o2 o3 lc:Nat) (p:List (List Ins)) (x:Xc) (i k:Nat) (w:World) (hp:RepP w pv p) (hx:RepX w (.slice f1 f2 f3) (.slice o1 o2 o3) x) (hL:Rep EvE w (.slice la (evAll p).length lc) (evAll p)) (hi:i < (evAll p).length) (hk:k < (evAll p).length) (hX:execOk p x=true) :
 Calls Tryz.prog 208 #[pv, .agg #[.slice f1 f2 f3, .slice o1 o2 o3], .slice la (evAll p).length lc, .string ⟨#[99,111]⟩, .int .i64 i, .int .i64 k] w fun e w'=>e = .returned (.bool (relN p x 4 i k))∧Below w.heap.size w w':=by
 obtain ⟨a,ha⟩:=get_of_lt hi
 obtain ⟨b,hbb⟩:=get_of_lt hk
 have CE:Hid (relN p x 4 i k=relE p x 4 a b i k):=hide (relN_eq ha hbb)
 have HPO:Hid (poE a b=(decide (0≤a.t)&&((a.t==b.t)&&decide (a.i < b.i)))):=hide rfl
 obtain ⟨d,o,rfl,hd,i0,i1,i2,i3,i4⟩:=hL.ev ha
 obtain ⟨d',o',hde,hd',j0,j1,j2,j3,j4⟩:=hL.ev hbb
 simp only [Option.some.injEq,Addr.mk.injEq,and_true] at hde
 obtain ⟨rfl,rfl⟩:=hde
 have HBW:=hide (belowAlloc w (.cells #[.slice f1 f2 f3, .slice o1 o2 o3] 29))
 have HBX:=hide (heap_alloc_new w (.cells #[.slice f1 f2 f3, .slice o1 o2 o3] 29))
 have hi':=nat_of_lt hi;have hk':=nat_of_lt hk
 have hX2:=hX
 unfold execOk at hX2
 simp only [Bool.and_eq_true,decide_eq_true_eq] at hX2
 obtain ⟨hpv,hfl,hol, -, -⟩:=hX2
 obtain ⟨al,hal3,hal⟩:=ev_loc hpv ha
 have HBF:=hide (fun (iv kv:Int) w' h=>isBefore_any f1 o1 f2 f3 o2 o3 x al iv kv w' h (by omega))
 have HAL:Hid (a.l=(al:Int)):=hide hal
 have RV:Hid (relE p x 4 a b i k=bef (odA x (al:Int)) (i:Int) (k:Int)):=hide (by rw [← hal];rfl)
 clear hfl hol hal3 hpv hX hal
 have HP:=hide (hp.below HBW.out);have HX:=hide (hx.below HBW.out)
 clear hbb hL hp hx
 generalize relN p x 4 i k=R at *
 have RE:Hid (R=relE p x 4 a b i k):=CE
 clear CE
 generalize (evAll p).length=n at *
 generalize hW:w.alloc (.cells #[.slice f1 f2 f3, .slice o1 o2 o3] 29)=W0 at *
 have e0:=(HBW.out.cell (p:=⟨d,o+i * 5,none⟩) hd).trans i0;have e1:=(HBW.out.cell (p:=⟨d,o+i * 5+1,none⟩) hd).trans i1;have e2:=(HBW.out.cell (p:=⟨d,o+i * 5+2,none⟩) hd).trans i2;have e3:=(HBW.out.cell (p:=⟨d,o+i * 5+3,none⟩) hd).trans i3;have e4:=(HBW.out.cell (p:=⟨d,o+i * 5+4,none⟩) hd).trans i4
 have u0:=(HBW.out.cell (p:=⟨d,o+k * 5,none⟩) hd').trans j0;have u1:=(HBW.out.cell (p:=⟨d,o+k * 5+1,none⟩) hd').trans j1;have u2:=(HBW.out.cell (p:=⟨d,o+k * 5+2,none⟩) hd').trans j2;have u3:=(HBW.out.cell (p:=⟨d,o+k * 5+3,none⟩) hd').trans j3;have u4:=(HBW.out.cell (p:=⟨d,o+k * 5+4,none⟩) hd').trans j4
 have hdW:=lt_of_cell e0
 generalize hPB:poE a b=PB at *
 clear i0 i1 i2 i3 i4 j0 j1 j2 j3 j4 ha
 go_enter Tryz.func208,Tryz.ntmps208
 go_wp2_with fail
 clear hW
 go_cut [13,14] (fun s13 s14 W => ∃ b7 b8:Nat,s13 = .pointer (some ⟨b7,0,none⟩)∧s14 = .pointer (some ⟨b8,0,none⟩)∧EvAt W b7 b8 a b∧Below W0.heap.size W0 W)
 case first =>
  go_region_held3 (fun W=>W.cell? ⟨d,o+i * 5,none⟩=some (.int .i64 a.t)∧W.cell? ⟨d,o+i * 5+1,none⟩=some (.int .i64 a.i)∧W.cell? ⟨d,o+i * 5+2,none⟩=some (.int .i64 a.l)∧W.cell? ⟨d,o+i * 5+3,none⟩=some (.bool a.r)∧W.cell? ⟨d,o+i * 5+4,none⟩=some (.bool a.w) ∧
   W.cell? ⟨d,o+k * 5,none⟩=some (.int .i64 b.t)∧W.cell? ⟨d,o+k * 5+1,none⟩=some (.int .i64 b.i)∧W.cell? ⟨d,o+k * 5+2,none⟩=some (.int .i64 b.l)∧W.cell? ⟨d,o+k * 5+3,none⟩=some (.bool b.r)∧W.cell? ⟨d,o+k * 5+4,none⟩=some (.bool b.w)) ((simp [go_sem, *])) (first | fail)
  all_goals
   go_wp2_with fail
   go_meet
   refine ⟨_,_,rfl,rfl,⟨by first | (simp;done) | (simp;omega),by first | (simp;done) | (simp;omega),by simp [go_sem],by simp [go_sem],by simp [go_sem],by simp [go_sem],by simp [go_sem],by simp [go_sem],by simp [go_sem],by simp [go_sem],by simp [go_sem],by simp [go_sem]⟩, ?_⟩
   exact (((Below.refl _ _).alloc (Nat.le_refl _) _).alloc (by simp) _).drew
 case rest =>
  obtain ⟨b7,b8,rfl,rfl,EA,hbW⟩:=hcut
  have HE:=hide EA
  obtain ⟨h7,h8,a0,a1,a2,a3,a4,c0,c1,c2,c3,c4⟩:=EA
  have HBC:=hide (HBW.out.trans (hbW.mono HBW.out.size))
  have HB0:=hide hbW
  have hwx:=(hbW.block w.heap.size (Array.getElem?_eq_some_iff.1 HBX.out).1).trans HBX.out
  have x0:wc.cell? ⟨w.heap.size,0,none⟩=some (.slice f1 f2 f3):=cell_of_heapV hwx (k:=0) rfl
  have x1:wc.cell? ⟨w.heap.size,1,none⟩=some (.slice o1 o2 o3):=cell_of_heapV hwx (k:=1) rfl
  have xl:=lt_of_cell x0
  clear e0 e1 e2 e3 e4 u0 u1 u2 u3 u4 hwx hbW
  go_upto_region 2 with fail
  go_cut [15] (fun s15 W=>s15 = .bool PB∧W=wc)
  case first =>
   by_cases g1:0≤a.t
   ·by_cases g2:a.t=b.t
    ·have k2:(a.t==b.t)=true:=by simp [g2]
     have E:Hid (PB=decide (a.i < b.i)):=hide (by rw [HPO.out,k2];simp [g1])
     clear g2
     go_wp2_with fail
     go_meet
     exact ⟨by rw [E.out],rfl⟩
    ·have k2:(a.t==b.t)=false:=by simp [g2]
     have E:Hid (PB=false):=hide (by rw [HPO.out,k2];simp)
     clear g2
     go_wp2_with fail
     go_meet
     exact ⟨by rw [E.out],rfl⟩
   ·have k1:decide (0≤a.t)=false:=decide_eq_false g1
    have E:Hid (PB=false):=hide (by rw [HPO.out,k1];simp)
    clear g1
    go_wp2_with fail
    go_meet
    exact ⟨by rw [E.out],rfl⟩
  case rest =>
   obtain ⟨rfl,rfl⟩:=hcut
   have n0:((⟨#[99,111]⟩:ByteArray).toList==[112,111])=false:=by kernel_rfl
   have n1:((⟨#[99,111]⟩:ByteArray).toList==[108,111,99])=false:=by kernel_rfl
   have n2:((⟨#[99,111]⟩:ByteArray).toList==[101,120,116])=false:=by kernel_rfl
   have n3:((⟨#[99,111]⟩:ByteArray).toList==[114,102])=false:=by kernel_rfl
   have n4:((⟨#[99,111]⟩:ByteArray).toList==[99,111])=true:=by kernel_rfl
   have HC:=hide (HBF.out i k _ (HX.out.below HB0.out))
   rw [HAL.out] at a2
   have RP:Hid (R=bef (odA x (al:Int)) (i:Int) (k:Int)):=hide (by rw [RE.out,RV.out])
   clear HBF
   go_wp2_with fail
   (with_reducible refine HC.out.mono ?_);rintro e w5 ⟨rfl,hb5⟩
   go_wp2_with fail
   go_ret
   exact ⟨by rw [RP.out];rfl,HBC.out.trans (hb5.mono HBC.out.size)⟩
theorem isPair_fr (pv:Value) (f1 o1 la:Option Addr) (f2 f3 o2 o3 lc:Nat) (p:List (List Ins)) (x:Xc) (i k:Nat) (w:World) (hp:RepP w pv p) (hx:RepX w (.slice f1 f2 f3) (.slice o1 o2 o3) x) (hL:Rep EvE w (.slice la (evAll p).length lc) (evAll p)) (hi:i < (evAll p).length) (hk:k < (evAll p).length) (hX:execOk p x=true) :
 Calls Tryz.prog 208 #[pv, .agg #[.slice f1 f2 f3, .slice o1 o2 o3], .slice la (evAll p).length lc, .string ⟨#[102,114]⟩, .int .i64 i, .int .i64 k] w fun e w'=>e = .returned (.bool (relN p x 5 i k))∧Below w.heap.size w w':=by
 obtain ⟨a,ha⟩:=get_of_lt hi
 obtain ⟨b,hbb⟩:=get_of_lt hk
 have CE:Hid (relN p x 5 i k=relE p x 5 a b i k):=hide (relN_eq ha hbb)
 have HPO:Hid (poE a b=(decide (0≤a.t)&&((a.t==b.t)&&decide (a.i < b.i)))):=hide rfl
 obtain ⟨d,o,rfl,hd,i0,i1,i2,i3,i4⟩:=hL.ev ha
 obtain ⟨d',o',hde,hd',j0,j1,j2,j3,j4⟩:=hL.ev hbb
 simp only [Option.some.injEq,Addr.mk.injEq,and_true] at hde
 obtain ⟨rfl,rfl⟩:=hde
 have HBW:=hide (belowAlloc w (.cells #[.slice f1 f2 f3, .slice o1 o2 o3] 29))
 have HBX:=hide (heap_alloc_new w (.cells #[.slice f1 f2 f3, .slice o1 o2 o3] 29))
 have hi':=nat_of_lt hi;have hk':=nat_of_lt hk
 have hX2:=hX
 unfold execOk at hX2
 simp only [Bool.and_eq_true,decide_eq_true_eq] at hX2
 obtain ⟨hpv,hfl,hol, -, -⟩:=hX2
 obtain ⟨al,hal3,hal⟩:=ev_loc hpv ha
 obtain ⟨fv,hfv⟩:=get_of_lt (xs:=x.fr) (k:=i) (by omega)
 have HFV:=hide hfv
 have FA:Hid (frA x i=fv):=hide (by simp [frA,hfv])
 have HBF:=hide (fun (iv kv:Int) w' h=>isBefore_any f1 o1 f2 f3 o2 o3 x al iv kv w' h (by omega))
 have HAL:Hid (a.l=(al:Int)):=hide hal
 have RV:Hid (relE p x 5 a b i k=(a.r&&(b.w&&((i != k)&&bef (odA x (al:Int)) (frA x i) (k:Int))))):=hide (by rw [← hal];rfl)
 clear hfl hol hal3 hpv hX hal hfv
 have HP:=hide (hp.below HBW.out);have HX:=hide (hx.below HBW.out)
 clear hbb hL hp hx
 generalize relN p x 5 i k=R at *
 have RE:Hid (R=relE p x 5 a b i k):=CE
 clear CE
 generalize (evAll p).length=n at *
 generalize hW:w.alloc (.cells #[.slice f1 f2 f3, .slice o1 o2 o3] 29)=W0 at *
 have e0:=(HBW.out.cell (p:=⟨d,o+i * 5,none⟩) hd).trans i0;have e1:=(HBW.out.cell (p:=⟨d,o+i * 5+1,none⟩) hd).trans i1;have e2:=(HBW.out.cell (p:=⟨d,o+i * 5+2,none⟩) hd).trans i2;have e3:=(HBW.out.cell (p:=⟨d,o+i * 5+3,none⟩) hd).trans i3;have e4:=(HBW.out.cell (p:=⟨d,o+i * 5+4,none⟩) hd).trans i4
 have u0:=(HBW.out.cell (p:=⟨d,o+k * 5,none⟩) hd').trans j0;have u1:=(HBW.out.cell (p:=⟨d,o+k * 5+1,none⟩) hd').trans j1;have u2:=(HBW.out.cell (p:=⟨d,o+k * 5+2,none⟩) hd').trans j2;have u3:=(HBW.out.cell (p:=⟨d,o+k * 5+3,none⟩) hd').trans j3;have u4:=(HBW.out.cell (p:=⟨d,o+k * 5+4,none⟩) hd').trans j4
 have hdW:=lt_of_cell e0
 generalize hPB:poE a b=PB at *
 clear i0 i1 i2 i3 i4 j0 j1 j2 j3 j4 ha
 go_enter Tryz.func208,Tryz.ntmps208
 go_wp2_with fail
 clear hW
 go_cut [13,14] (fun s13 s14 W => ∃ b7 b8:Nat,s13 = .pointer (some ⟨b7,0,none⟩)∧s14 = .pointer (some ⟨b8,0,none⟩)∧EvAt W b7 b8 a b∧Below W0.heap.size W0 W)
 case first =>
  go_region_held3 (fun W=>W.cell? ⟨d,o+i * 5,none⟩=some (.int .i64 a.t)∧W.cell? ⟨d,o+i * 5+1,none⟩=some (.int .i64 a.i)∧W.cell? ⟨d,o+i * 5+2,none⟩=some (.int .i64 a.l)∧W.cell? ⟨d,o+i * 5+3,none⟩=some (.bool a.r)∧W.cell? ⟨d,o+i * 5+4,none⟩=some (.bool a.w) ∧
   W.cell? ⟨d,o+k * 5,none⟩=some (.int .i64 b.t)∧W.cell? ⟨d,o+k * 5+1,none⟩=some (.int .i64 b.i)∧W.cell? ⟨d,o+k * 5+2,none⟩=some (.int .i64 b.l)∧W.cell? ⟨d,o+k * 5+3,none⟩=some (.bool b.r)∧W.cell? ⟨d,o+k * 5+4,none⟩=some (.bool b.w)) ((simp [go_sem, *])) (first | fail)
  all_goals
   go_wp2_with fail
   go_meet
   refine ⟨_,_,rfl,rfl,⟨by first | (simp;done) | (simp;omega),by first | (simp;done) | (simp;omega),by simp [go_sem],by simp [go_sem],by simp [go_sem],by simp [go_sem],by simp [go_sem],by simp [go_sem],by simp [go_sem],by simp [go_sem],by simp [go_sem],by simp [go_sem]⟩, ?_⟩
   exact (((Below.refl _ _).alloc (Nat.le_refl _) _).alloc (by simp) _).drew
 case rest =>
  obtain ⟨b7,b8,rfl,rfl,EA,hbW⟩:=hcut
  have HE:=hide EA
  obtain ⟨h7,h8,a0,a1,a2,a3,a4,c0,c1,c2,c3,c4⟩:=EA
  have HBC:=hide (HBW.out.trans (hbW.mono HBW.out.size))
  have HB0:=hide hbW
  have hwx:=(hbW.block w.heap.size (Array.getElem?_eq_some_iff.1 HBX.out).1).trans HBX.out
  have x0:wc.cell? ⟨w.heap.size,0,none⟩=some (.slice f1 f2 f3):=cell_of_heapV hwx (k:=0) rfl
  have x1:wc.cell? ⟨w.heap.size,1,none⟩=some (.slice o1 o2 o3):=cell_of_heapV hwx (k:=1) rfl
  have xl:=lt_of_cell x0
  clear e0 e1 e2 e3 e4 u0 u1 u2 u3 u4 hwx hbW
  go_upto_region 2 with fail
  go_cut [15] (fun s15 W=>s15 = .bool PB∧W=wc)
  case first =>
   by_cases g1:0≤a.t
   ·by_cases g2:a.t=b.t
    ·have k2:(a.t==b.t)=true:=by simp [g2]
     have E:Hid (PB=decide (a.i < b.i)):=hide (by rw [HPO.out,k2];simp [g1])
     clear g2
     go_wp2_with fail
     go_meet
     exact ⟨by rw [E.out],rfl⟩
    ·have k2:(a.t==b.t)=false:=by simp [g2]
     have E:Hid (PB=false):=hide (by rw [HPO.out,k2];simp)
     clear g2
     go_wp2_with fail
     go_meet
     exact ⟨by rw [E.out],rfl⟩
   ·have k1:decide (0≤a.t)=false:=decide_eq_false g1
    have E:Hid (PB=false):=hide (by rw [HPO.out,k1];simp)
    clear g1
    go_wp2_with fail
    go_meet
    exact ⟨by rw [E.out],rfl⟩
  case rest =>
   obtain ⟨rfl,rfl⟩:=hcut
   have n0:((⟨#[102,114]⟩:ByteArray).toList==[112,111])=false:=by kernel_rfl
   have n1:((⟨#[102,114]⟩:ByteArray).toList==[108,111,99])=false:=by kernel_rfl
   have n2:((⟨#[102,114]⟩:ByteArray).toList==[101,120,116])=false:=by kernel_rfl
   have n3:((⟨#[102,114]⟩:ByteArray).toList==[114,102])=false:=by kernel_rfl
   have n4:((⟨#[102,114]⟩:ByteArray).toList==[99,111])=false:=by kernel_rfl
   have n5:((⟨#[102,114]⟩:ByteArray).toList==[102,114])=true:=by kernel_rfl
   have hxr:=HX.out.fr.below (HB0.out)
   obtain ⟨fa,fc,hfe, -, -, -,hxf⟩:=hxr.open
   simp only [Value.slice.injEq] at hfe
   obtain ⟨rfl,rfl,rfl⟩:=hfe
   obtain ⟨q1,q2,rfl,hq,hc⟩:=hxf.int HFV.out
   have hkf:i < x.fr.length:=(List.getElem?_eq_some_iff.1 HFV.out).1
   have hkf':(i:Int) < (x.fr.length:Int):=by omega
   have HBQ:=hide (fun (y:BW wc)=>HBF.out fv k y.val ((HX.out.below HB0.out).below y.prop))
   rw [HAL.out] at a2
   have RV2:Hid (R=(a.r&&(b.w&&((i != k)&&bef (odA x (al:Int)) fv (k:Int))))):=hide (by rw [RE.out,RV.out,FA.out])
   generalize bef (odA x (al:Int)) fv (k:Int)=BV at *
   clear hxr hxf HBF FA RV
   rcases Bool.eq_false_or_eq_true a.r with gr | gr
   ·rw [gr] at a3
    rcases Bool.eq_false_or_eq_true b.w with gw | gw
    ·rw [gw] at c4
     by_cases gi:i=k
     ·have gi':((i:Int) != (k:Int))=false:=by simp [gi]
      have RP:Hid (R=false):=hide (by rw [RV2.out];simp [gi])
      clear gi
      go_wp2_with fail
      refine wp_region_bw (by kernel_rfl) (by kernel_rfl) ?_
      repeat (go_big_quiet_step ((go_at_call 229;(with_reducible exact Calls.bw (HBQ.out _)))))
      refine wpQuiet_nil ?_
      intro w5 hb5
      have HB5:=hide (HBC.out.trans (hb5.mono HBC.out.size))
      clear hb5
      go_wp2_with fail
      go_ret
      exact ⟨by rw [RP.out];rfl,HB5.out⟩
     ·have gi':((i:Int) != (k:Int))=true:=by simp;omega
      have RP:Hid (R=BV):=hide (by rw [RV2.out,gr,gw];simp [gi])
      clear gi
      go_wp2_with fail
      refine wp_region_bw (by kernel_rfl) (by kernel_rfl) ?_
      repeat (go_big_quiet_step ((go_at_call 229;(with_reducible exact Calls.bw (HBQ.out _)))))
      refine wpQuiet_nil ?_
      intro w5 hb5
      have HB5:=hide (HBC.out.trans (hb5.mono HBC.out.size))
      clear hb5
      go_wp2_with fail
      go_ret
      exact ⟨by rw [RP.out];rfl,HB5.out⟩
    ·rw [gw] at c4
     have RP:Hid (R=false):=hide (by rw [RV2.out,gw];simp)
     go_wp2_with fail
     refine wp_region_bw (by kernel_rfl) (by kernel_rfl) ?_
     repeat (go_big_quiet_step ((go_at_call 229;(with_reducible exact Calls.bw (HBQ.out _)))))
     refine wpQuiet_nil ?_
     intro w5 hb5
     have HB5:=hide (HBC.out.trans (hb5.mono HBC.out.size))
     clear hb5
     go_wp2_with fail
     go_ret
     exact ⟨by rw [RP.out];rfl,HB5.out⟩
   ·rw [gr] at a3
    have RP:Hid (R=false):=hide (by rw [RV2.out,gr];rfl)
    go_wp2_with fail
    refine wp_region_bw (by kernel_rfl) (by kernel_rfl) ?_
    repeat (go_big_quiet_step ((go_at_call 229;(with_reducible exact Calls.bw (HBQ.out _)))))
    refine wpQuiet_nil ?_
    intro w5 hb5
    have HB5:=hide (HBC.out.trans (hb5.mono HBC.out.size))
    clear hb5
    go_wp2_with fail
    go_ret
    exact ⟨by rw [RP.out];rfl,HB5.out⟩
theorem isPair_fence (pv:Value) (f1 o1 la:Option Addr) (f2 f3 o2 o3 lc:Nat) (p:List (List Ins)) (x:Xc) (i k:Nat) (w:World) (hp:RepP w pv p) (hx:RepX w (.slice f1 f2 f3) (.slice o1 o2 o3) x) (hL:Rep EvE w (.slice la (evAll p).length lc) (evAll p)) (hi:i < (evAll p).length) (hk:k < (evAll p).length) :
 Calls Tryz.prog 208 #[pv, .agg #[.slice f1 f2 f3, .slice o1 o2 o3], .slice la (evAll p).length lc, .string ⟨#[102,101,110,99,101]⟩, .int .i64 i, .int .i64 k] w fun e w'=>e = .returned (.bool (relN p x 6 i k))∧Below w.heap.size w w':=by
 obtain ⟨a,ha⟩:=get_of_lt hi
 obtain ⟨b,hbb⟩:=get_of_lt hk
 have CE:Hid (relN p x 6 i k=relE p x 6 a b i k):=hide (relN_eq ha hbb)
 have HPO:Hid (poE a b=(decide (0≤a.t)&&((a.t==b.t)&&decide (a.i < b.i)))):=hide rfl
 obtain ⟨d,o,rfl,hd,i0,i1,i2,i3,i4⟩:=hL.ev ha
 obtain ⟨d',o',hde,hd',j0,j1,j2,j3,j4⟩:=hL.ev hbb
 simp only [Option.some.injEq,Addr.mk.injEq,and_true] at hde
 obtain ⟨rfl,rfl⟩:=hde
 have HBW:=hide (belowAlloc w (.cells #[.slice f1 f2 f3, .slice o1 o2 o3] 29))
 have HBX:=hide (heap_alloc_new w (.cells #[.slice f1 f2 f3, .slice o1 o2 o3] 29))
 have hi':=nat_of_lt hi;have hk':=nat_of_lt hk
 obtain ⟨pa,pc,rfl, -, -, -, -⟩:=hp.open
 have MA:=hide (mem_evAll (List.mem_of_getElem? ha))
 have MB:=hide (mem_evAll (List.mem_of_getElem? hbb))
 have RV:Hid (relE p x 6 a b i k=(poE a b&&fenB p a b)):=hide rfl
 have HP:=hide (hp.below HBW.out);have HX:=hide (hx.below HBW.out)
 clear hbb hL hp hx
 generalize relN p x 6 i k=R at *
 have RE:Hid (R=relE p x 6 a b i k):=CE
 clear CE
 generalize (evAll p).length=n at *
 generalize hW:w.alloc (.cells #[.slice f1 f2 f3, .slice o1 o2 o3] 29)=W0 at *
 have e0:=(HBW.out.cell (p:=⟨d,o+i * 5,none⟩) hd).trans i0;have e1:=(HBW.out.cell (p:=⟨d,o+i * 5+1,none⟩) hd).trans i1;have e2:=(HBW.out.cell (p:=⟨d,o+i * 5+2,none⟩) hd).trans i2;have e3:=(HBW.out.cell (p:=⟨d,o+i * 5+3,none⟩) hd).trans i3;have e4:=(HBW.out.cell (p:=⟨d,o+i * 5+4,none⟩) hd).trans i4
 have u0:=(HBW.out.cell (p:=⟨d,o+k * 5,none⟩) hd').trans j0;have u1:=(HBW.out.cell (p:=⟨d,o+k * 5+1,none⟩) hd').trans j1;have u2:=(HBW.out.cell (p:=⟨d,o+k * 5+2,none⟩) hd').trans j2;have u3:=(HBW.out.cell (p:=⟨d,o+k * 5+3,none⟩) hd').trans j3;have u4:=(HBW.out.cell (p:=⟨d,o+k * 5+4,none⟩) hd').trans j4
 have hdW:=lt_of_cell e0
 generalize hPB:poE a b=PB at *
 clear i0 i1 i2 i3 i4 j0 j1 j2 j3 j4 ha
 go_enter Tryz.func208,Tryz.ntmps208
 go_wp2_with fail
 clear hW
 go_cut [13,14] (fun s13 s14 W => ∃ b7 b8:Nat,s13 = .pointer (some ⟨b7,0,none⟩)∧s14 = .pointer (some ⟨b8,0,none⟩)∧EvAt W b7 b8 a b∧Below W0.heap.size W0 W)
 case first =>
  go_region_held3 (fun W=>W.cell? ⟨d,o+i * 5,none⟩=some (.int .i64 a.t)∧W.cell? ⟨d,o+i * 5+1,none⟩=some (.int .i64 a.i)∧W.cell? ⟨d,o+i * 5+2,none⟩=some (.int .i64 a.l)∧W.cell? ⟨d,o+i * 5+3,none⟩=some (.bool a.r)∧W.cell? ⟨d,o+i * 5+4,none⟩=some (.bool a.w) ∧
   W.cell? ⟨d,o+k * 5,none⟩=some (.int .i64 b.t)∧W.cell? ⟨d,o+k * 5+1,none⟩=some (.int .i64 b.i)∧W.cell? ⟨d,o+k * 5+2,none⟩=some (.int .i64 b.l)∧W.cell? ⟨d,o+k * 5+3,none⟩=some (.bool b.r)∧W.cell? ⟨d,o+k * 5+4,none⟩=some (.bool b.w)) ((simp [go_sem, *])) (first | fail)
  all_goals
   go_wp2_with fail
   go_meet
   refine ⟨_,_,rfl,rfl,⟨by first | (simp;done) | (simp;omega),by first | (simp;done) | (simp;omega),by simp [go_sem],by simp [go_sem],by simp [go_sem],by simp [go_sem],by simp [go_sem],by simp [go_sem],by simp [go_sem],by simp [go_sem],by simp [go_sem],by simp [go_sem]⟩, ?_⟩
   exact (((Below.refl _ _).alloc (Nat.le_refl _) _).alloc (by simp) _).drew
 case rest =>
  obtain ⟨b7,b8,rfl,rfl,EA,hbW⟩:=hcut
  have HE:=hide EA
  obtain ⟨h7,h8,a0,a1,a2,a3,a4,c0,c1,c2,c3,c4⟩:=EA
  have HBC:=hide (HBW.out.trans (hbW.mono HBW.out.size))
  have HB0:=hide hbW
  have hwx:=(hbW.block w.heap.size (Array.getElem?_eq_some_iff.1 HBX.out).1).trans HBX.out
  have x0:wc.cell? ⟨w.heap.size,0,none⟩=some (.slice f1 f2 f3):=cell_of_heapV hwx (k:=0) rfl
  have x1:wc.cell? ⟨w.heap.size,1,none⟩=some (.slice o1 o2 o3):=cell_of_heapV hwx (k:=1) rfl
  have xl:=lt_of_cell x0
  clear e0 e1 e2 e3 e4 u0 u1 u2 u3 u4 hwx hbW
  go_upto_region 2 with fail
  go_cut [15] (fun s15 W=>s15 = .bool PB∧W=wc)
  case first =>
   by_cases g1:0≤a.t
   ·by_cases g2:a.t=b.t
    ·have k2:(a.t==b.t)=true:=by simp [g2]
     have E:Hid (PB=decide (a.i < b.i)):=hide (by rw [HPO.out,k2];simp [g1])
     clear g2
     go_wp2_with fail
     go_meet
     exact ⟨by rw [E.out],rfl⟩
    ·have k2:(a.t==b.t)=false:=by simp [g2]
     have E:Hid (PB=false):=hide (by rw [HPO.out,k2];simp)
     clear g2
     go_wp2_with fail
     go_meet
     exact ⟨by rw [E.out],rfl⟩
   ·have k1:decide (0≤a.t)=false:=decide_eq_false g1
    have E:Hid (PB=false):=hide (by rw [HPO.out,k1];simp)
    clear g1
    go_wp2_with fail
    go_meet
    exact ⟨by rw [E.out],rfl⟩
  case rest =>
   obtain ⟨rfl,rfl⟩:=hcut
   have n0:((⟨#[102,101,110,99,101]⟩:ByteArray).toList==[112,111])=false:=by kernel_rfl
   have n1:((⟨#[102,101,110,99,101]⟩:ByteArray).toList==[108,111,99])=false:=by kernel_rfl
   have n2:((⟨#[102,101,110,99,101]⟩:ByteArray).toList==[101,120,116])=false:=by kernel_rfl
   have n3:((⟨#[102,101,110,99,101]⟩:ByteArray).toList==[114,102])=false:=by kernel_rfl
   have n4:((⟨#[102,101,110,99,101]⟩:ByteArray).toList==[99,111])=false:=by kernel_rfl
   have n5:((⟨#[102,101,110,99,101]⟩:ByteArray).toList==[102,114])=false:=by kernel_rfl
   have n6:((⟨#[102,101,110,99,101]⟩:ByteArray).toList==[102,101,110,99,101])=true:=by kernel_rfl
   have RV2:Hid (R=(PB&&fenB p a b)):=hide (by rw [RE.out,RV.out])
   clear RV
   cases PB
   ·have RP:Hid (R=false):=hide (by rw [RV2.out];rfl)
    go_wp2_with fail
    refine wp_region_bw (by kernel_rfl) (by kernel_rfl) ?_
    repeat (go_big_quiet_step (fail))
    refine wpQuiet_nil ?_
    intro w5 hb5
    have HB5:=hide (HBC.out.trans (hb5.mono HBC.out.size))
    clear hb5
    go_wp2_with fail
    go_ret
    exact ⟨by rw [RP.out];rfl,HB5.out⟩
   ·have h1:=HPO.out
    rw [eq_comm] at h1
    simp only [Bool.and_eq_true,decide_eq_true_eq,beq_iff_eq] at h1
    obtain ⟨g1,g2,g3⟩:=h1
    rcases MA.out with hh | ⟨t,i1,r,y,hr,hy,rfl,hy4⟩
    ·exfalso;omega
    rcases MB.out with hh | ⟨t',i1',r',y',hr',hy',rfl,hy4'⟩
    ·exfalso;simp only at g2;omega
    simp only at g1 g2 g3 a0 a1 a2 a3 a4 c0 c1 c2 c3 c4
    have ht:t=t':=by omega
    subst ht
    rw [hr] at hr';simp only [Option.some.injEq] at hr';subst hr'
    have hle:i1 < i1':=by omega
    have hrl:=(List.getElem?_eq_some_iff.1 hy').1
    obtain ⟨d0,e0,ra,rc,rfl,hd0,p0,p1⟩:=(HP.out.below HB0.out).row hr
    obtain ⟨ra',rc',hre,hrc, -, -,p1⟩:=p1.open
    simp only [Value.slice.injEq,true_and] at hre
    obtain ⟨rfl,rfl⟩:=hre
    obtain ⟨d1,e1,rfl,hd1,s0, -, -, -⟩:=p1.ins hy
    have hsub:Rep InsE wc (.slice (some ⟨d1,e1+i1 * 4,none⟩) (i1' - i1) (rc - i1)) ((r.drop i1).take (i1' - i1)):=p1.subE (i:=i1) (j:=i1') (by omega) (by omega)
    have HCF:=hide (fun (q:BW wc)=>anyFence_any _ _ q.val (hsub.below q.prop))
    have FB:Hid (fenB p ⟨t,i1,y.loc,isRop y.op,isWop y.op⟩ ⟨t,i1',y'.loc,isRop y'.op,isWop y'.op⟩=((r.drop i1).take (i1' - i1)).any fun y=>y.op==4):=hide (by
     unfold fenB
     simp only [Int.toNat_natCast,hr,Option.getD_some]
     rw [show ((i1':Int) - (i1:Int)).toNat=i1' - i1 by omega])
    have RP:Hid (R=((r.drop i1).take (i1' - i1)).any fun y=>y.op==4):=hide (by rw [RV2.out,FB.out];rfl)
    have n1:¬ rc=i1:=by omega
    have n2:(i1:Int)≤(i1':Int):=by omega
    have n3:(i1':Int)≤(rc:Int):=by omega
    have n4:t < p.length:=(List.getElem?_eq_some_iff.1 hr).1
    have n5:(t:Int) < (p.length:Int):=by omega
    clear hsub p1 FB MA MB
    go_wp2_with fail
    refine wp_region_bw (by kernel_rfl) (by kernel_rfl) ?_
    repeat (go_big_quiet_step ((go_at_call 230;(with_reducible exact Calls.bw (HCF.out _)))))
    refine wpQuiet_nil ?_
    intro w5 hb5
    have HB5:=hide (HBC.out.trans (hb5.mono HBC.out.size))
    clear hb5
    go_wp2_with fail
    go_ret
    exact ⟨by rw [RP.out];rfl,HB5.out⟩
end Go.Proofs.YtkfhgnkonaafgaaGreatDoor
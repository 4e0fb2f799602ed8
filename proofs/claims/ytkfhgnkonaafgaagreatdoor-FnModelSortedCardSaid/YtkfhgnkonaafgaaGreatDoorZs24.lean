/-
  The program's outcomeOf, of a valid candidate. Condition: bounds on lengths.
-/
import Derived.Test.YtkfhgnkonaafgaaGreatDoorZs20
import Derived.Test.YtkfhgnkonaafgaaGreatDoorZs16
import Derived.Test.YtkfhgnkonaafgaaGreatDoorZs12
import Derived.Test.YtkfhgnkonaafgaaGreatDoorZs22
import Derived.Test.YtkfhgnkonaafgaaGreatDoorZs21
import Derived.Test.YtkfhgnkonaafgaaGreatDoorZs14
import Derived.Test.YtkfhgnkonaafgaaGreatDoorZs19
set_option maxHeartbeats 6400000
set_option maxRecDepth 100000
namespace Go.Proofs.YtkfhgnkonaafgaaGreatDoor
open Go.RowKit
theorem l6Pair_plain (nm:ByteArray) (t:Nat) (hn:Hid ((nm=⟨#[112,111]⟩∧t=0)∨(nm=⟨#[108,111,99]⟩∧t=1)∨(nm=⟨#[101,120,116]⟩∧t=2)∨(nm=⟨#[119,114]⟩∧t=7)∨(nm=⟨#[119,119]⟩∧t=8)∨(nm=⟨#[105,100]⟩∧t=9))) (pv:Value) (f1 o1 la:Option Addr) (f2 f3 o2 o3 lc:Nat) (p:List (List Ins)) (x:Xc) (i k:Nat) (w:World) (hp:RepP w pv p) (hx:RepX w (.slice f1 f2 f3) (.slice o1 o2 o3) x) (hL:Rep EvE w (.slice la (evAll p).length lc) (evAll p)) (hi:i < (evAll p).length) (hk:k < (evAll p).length) :
 Calls Tryz.prog 194 #[pv, .agg #[.slice f1 f2 f3, .slice o1 o2 o3], .slice la (evAll p).length lc, .string nm, .int .i64 i, .int .i64 k] w fun e w'=>e = .returned (.bool (relN p x t i k))∧Below w.heap.size w w':=by
 obtain ⟨a,ha⟩:=get_of_lt hi
 obtain ⟨b,hbb⟩:=get_of_lt hk
 have CE:Hid (relN p x t i k=relE p x t a b i k):=hide (relN_eq ha hbb)
 obtain ⟨d,o,rfl,hd,i0,i1,i2,i3,i4⟩:=hL.ev ha
 obtain ⟨d',o',hde,hd',j0,j1,j2,j3,j4⟩:=hL.ev hbb
 simp only [Option.some.injEq,Addr.mk.injEq,and_true] at hde
 obtain ⟨rfl,rfl⟩:=hde
 have HBW:=hide (belowAlloc w (.cells #[.slice f1 f2 f3, .slice o1 o2 o3] 29))
 have HBX:=hide (heap_alloc_new w (.cells #[.slice f1 f2 f3, .slice o1 o2 o3] 29))
 have hi':=nat_of_lt hi;have hk':=nat_of_lt hk
 have HP:=hide (hp.below HBW.out);have HX:=hide (hx.below HBW.out)
 clear hbb hL hp hx
 generalize relN p x t i k=R at *
 have RE:Hid (R=relE p x t a b i k):=CE
 clear CE
 generalize (evAll p).length=n at *
 generalize hW:w.alloc (.cells #[.slice f1 f2 f3, .slice o1 o2 o3] 29)=W0 at *
 have hWs:W0.heap.size=w.heap.size+1:=by rw [← hW];simp
 have e0:=(HBW.out.cell (p:=⟨d,o+i * 5,none⟩) hd).trans i0;have e1:=(HBW.out.cell (p:=⟨d,o+i * 5+1,none⟩) hd).trans i1;have e2:=(HBW.out.cell (p:=⟨d,o+i * 5+2,none⟩) hd).trans i2;have e3:=(HBW.out.cell (p:=⟨d,o+i * 5+3,none⟩) hd).trans i3;have e4:=(HBW.out.cell (p:=⟨d,o+i * 5+4,none⟩) hd).trans i4
 have u0:=(HBW.out.cell (p:=⟨d,o+k * 5,none⟩) hd').trans j0;have u1:=(HBW.out.cell (p:=⟨d,o+k * 5+1,none⟩) hd').trans j1;have u2:=(HBW.out.cell (p:=⟨d,o+k * 5+2,none⟩) hd').trans j2;have u3:=(HBW.out.cell (p:=⟨d,o+k * 5+3,none⟩) hd').trans j3;have u4:=(HBW.out.cell (p:=⟨d,o+k * 5+4,none⟩) hd').trans j4
 have hdW:=lt_of_cell e0
 have HWS:=hide hWs
 have EA:EvAt ((W0.alloc (.cells #[.int .i64 a.t, .int .i64 a.i, .int .i64 a.l, .bool a.r, .bool a.w] 99)).alloc (.cells #[.int .i64 b.t, .int .i64 b.i, .int .i64 b.l, .bool b.r, .bool b.w] 99)) W0.heap.size (W0.heap.size+1) a b:=
  ⟨by simp;omega,by simp,by simp [go_sem],by simp [go_sem],by simp [go_sem],by simp [go_sem],by simp [go_sem],by simp [go_sem],by simp [go_sem],by simp [go_sem],by simp [go_sem],by simp [go_sem]⟩
 have hbW:Below W0.heap.size W0 ((W0.alloc (.cells #[.int .i64 a.t, .int .i64 a.i, .int .i64 a.l, .bool a.r, .bool a.w] 99)).alloc (.cells #[.int .i64 b.t, .int .i64 b.i, .int .i64 b.l, .bool b.r, .bool b.w] 99)):=((Below.refl _ _).alloc (Nat.le_refl _) _).alloc (by simp) _
 have HE:=hide EA;have HB0:=hide hbW
 clear i0 i1 i2 i3 i4 j0 j1 j2 j3 j4 ha hWs EA hbW
 go_enter Tryz.func194,Tryz.ntmps194
 go_upto_region 3 with fail
 clear hW
 clear e0 e1 e2 e3 e4 u0 u1 u2 u3 u4
 generalize ((W0.alloc (.cells #[.int .i64 a.t, .int .i64 a.i, .int .i64 a.l, .bool a.r, .bool a.w] 99)).alloc (.cells #[.int .i64 b.t, .int .i64 b.i, .int .i64 b.l, .bool b.r, .bool b.w] 99))=wc at *
 obtain ⟨h7,h8,a0,a1,a2,a3,a4,c0,c1,c2,c3,c4⟩:=HE.out
 have HBC:=hide (HBW.out.trans (HB0.out.mono HBW.out.size))
 have hwx:=(HB0.out.block w.heap.size (Array.getElem?_eq_some_iff.1 HBX.out).1).trans HBX.out
 have x0:wc.cell? ⟨w.heap.size,0,none⟩=some (.slice f1 f2 f3):=cell_of_heapV hwx (k:=0) rfl
 have x1:wc.cell? ⟨w.heap.size,1,none⟩=some (.slice o1 o2 o3):=cell_of_heapV hwx (k:=1) rfl
 have xl:=lt_of_cell x0
 clear hwx
 obtain ⟨SM,hSM⟩:∃ SM,SM=((a.t==b.t)&&decide (0≤a.t)):=⟨_,rfl⟩
 have HSM:=hide hSM
 clear hSM
 go_cut [15] (fun s15 W=>s15 = .bool SM∧W=wc)
 case first =>
  by_cases g2:a.t=b.t
  ·have k2:(a.t==b.t)=true:=by simp [g2]
   have E:Hid (SM=decide (0≤a.t)):=hide (by rw [HSM.out,k2];rfl)
   clear g2
   go_wp2_with fail
   go_meet
   exact ⟨by rw [E.out],rfl⟩
  ·have k2:(a.t==b.t)=false:=by simp [g2]
   have E:Hid (SM=false):=hide (by rw [HSM.out,k2];rfl)
   clear g2
   go_wp2_with fail
   go_meet
   exact ⟨by rw [E.out],rfl⟩
 case rest =>
  obtain ⟨rfl,rfl⟩:=hcut
  rcases hn.out with ⟨rfl,rfl⟩ | ⟨rfl,rfl⟩ | ⟨rfl,rfl⟩ | ⟨rfl,rfl⟩ | ⟨rfl,rfl⟩ | ⟨rfl,rfl⟩
  ·have n0:((⟨#[112,111]⟩:ByteArray).toList==[112,111])=true:=by kernel_rfl
   have RV:Hid (R=(SM&&decide (a.i < b.i))):=hide (by
    rw [RE.out,HSM.out]
    show (decide (0≤a.t)&&((a.t==b.t)&&decide (a.i < b.i)))=_
    cases decide (0≤a.t) <;> cases (a.t==b.t) <;> rfl)
   cases SM
   ·have RP:Hid (R=false):=hide (by rw [RV.out];rfl)
    go_wp2_with fail
    go_ret
    exact ⟨by rw [RP.out];rfl,HBC.out⟩
   ·have RP:Hid (R=decide (a.i < b.i)):=hide (by rw [RV.out];rfl)
    go_wp2_with fail
    go_ret
    exact ⟨by rw [RP.out];rfl,HBC.out⟩
  ·have n0:((⟨#[108,111,99]⟩:ByteArray).toList==[112,111])=false:=by kernel_rfl
   have n1:((⟨#[108,111,99]⟩:ByteArray).toList==[108,111,99])=true:=by kernel_rfl
   have RP:Hid (R=(a.l==b.l)):=hide (by rw [RE.out];rfl)
   go_wp2_with fail
   go_ret
   exact ⟨by rw [RP.out];rfl,HBC.out⟩
  ·have n0:((⟨#[101,120,116]⟩:ByteArray).toList==[112,111])=false:=by kernel_rfl
   have n1:((⟨#[101,120,116]⟩:ByteArray).toList==[108,111,99])=false:=by kernel_rfl
   have n2:((⟨#[101,120,116]⟩:ByteArray).toList==[101,120,116])=true:=by kernel_rfl
   have RP:Hid (R = !SM):=hide (by
    rw [RE.out,HSM.out]
    show ((a.t != b.t)||decide (a.t < 0))=_
    have h1:decide (a.t < 0) = !decide (0≤a.t):=by
     by_cases h:a.t < 0
     ·have h':¬ 0≤a.t:=by omega
      simp [h,h']
     ·have h':0≤a.t:=by omega
      simp [h,h']
    rw [h1]
    simp only [bne]
    cases (a.t==b.t) <;> cases decide (0≤a.t) <;> rfl)
   go_wp2_with fail
   go_ret
   exact ⟨by rw [RP.out];rfl,HBC.out⟩
  ·have n0:((⟨#[119,114]⟩:ByteArray).toList==[112,111])=false:=by kernel_rfl
   have n1:((⟨#[119,114]⟩:ByteArray).toList==[108,111,99])=false:=by kernel_rfl
   have n2:((⟨#[119,114]⟩:ByteArray).toList==[101,120,116])=false:=by kernel_rfl
   have n3:((⟨#[119,114]⟩:ByteArray).toList==[114,102])=false:=by kernel_rfl
   have n4:((⟨#[119,114]⟩:ByteArray).toList==[99,111])=false:=by kernel_rfl
   have n5:((⟨#[119,114]⟩:ByteArray).toList==[102,114])=false:=by kernel_rfl
   have n6:((⟨#[119,114]⟩:ByteArray).toList==[102,101,110,99,101])=false:=by kernel_rfl
   have n7:((⟨#[119,114]⟩:ByteArray).toList==[119,114])=true:=by kernel_rfl
   obtain ⟨at',ai,al,ar,aw⟩:=a
   obtain ⟨bt,bi,bl,br,bw⟩:=b
   simp only at a0 a1 a2 a3 a4 c0 c1 c2 c3 c4
   have RP:Hid (R=((aw && !ar)&&(br && !bw))):=hide (by rw [RE.out];rfl)
   clear HSM HE
   cases aw <;> cases ar <;> cases br <;> cases bw
   all_goals
    go_wp2_with fail
    go_ret
    exact ⟨by rw [RP.out];rfl,HBC.out⟩
  ·have n0:((⟨#[119,119]⟩:ByteArray).toList==[112,111])=false:=by kernel_rfl
   have n1:((⟨#[119,119]⟩:ByteArray).toList==[108,111,99])=false:=by kernel_rfl
   have n2:((⟨#[119,119]⟩:ByteArray).toList==[101,120,116])=false:=by kernel_rfl
   have n3:((⟨#[119,119]⟩:ByteArray).toList==[114,102])=false:=by kernel_rfl
   have n4:((⟨#[119,119]⟩:ByteArray).toList==[99,111])=false:=by kernel_rfl
   have n5:((⟨#[119,119]⟩:ByteArray).toList==[102,114])=false:=by kernel_rfl
   have n6:((⟨#[119,119]⟩:ByteArray).toList==[102,101,110,99,101])=false:=by kernel_rfl
   have n7:((⟨#[119,119]⟩:ByteArray).toList==[119,114])=false:=by kernel_rfl
   have n8:((⟨#[119,119]⟩:ByteArray).toList==[119,119])=true:=by kernel_rfl
   obtain ⟨at',ai,al,ar,aw⟩:=a
   obtain ⟨bt,bi,bl,br,bw⟩:=b
   simp only at a0 a1 a2 a3 a4 c0 c1 c2 c3 c4
   have RP:Hid (R=((aw && !ar)&&(bw && !br))):=hide (by rw [RE.out];rfl)
   clear HSM HE
   cases aw <;> cases ar <;> cases br <;> cases bw
   all_goals
    go_wp2_with fail
    go_ret
    exact ⟨by rw [RP.out];rfl,HBC.out⟩
  ·have n0:((⟨#[105,100]⟩:ByteArray).toList==[112,111])=false:=by kernel_rfl
   have n1:((⟨#[105,100]⟩:ByteArray).toList==[108,111,99])=false:=by kernel_rfl
   have n2:((⟨#[105,100]⟩:ByteArray).toList==[101,120,116])=false:=by kernel_rfl
   have n3:((⟨#[105,100]⟩:ByteArray).toList==[114,102])=false:=by kernel_rfl
   have n4:((⟨#[105,100]⟩:ByteArray).toList==[99,111])=false:=by kernel_rfl
   have n5:((⟨#[105,100]⟩:ByteArray).toList==[102,114])=false:=by kernel_rfl
   have n6:((⟨#[105,100]⟩:ByteArray).toList==[102,101,110,99,101])=false:=by kernel_rfl
   have n7:((⟨#[105,100]⟩:ByteArray).toList==[119,114])=false:=by kernel_rfl
   have n8:((⟨#[105,100]⟩:ByteArray).toList==[119,119])=false:=by kernel_rfl
   have n9:((⟨#[105,100]⟩:ByteArray).toList==[105,100])=true:=by kernel_rfl
   have RP:Hid (R=((i:Int)==(k:Int))):=hide (by
    rw [RE.out]
    show (i==k)=_
    rw [Bool.eq_iff_iff];simp only [beq_iff_eq];omega)
   go_wp2_with fail
   go_ret
   exact ⟨by rw [RP.out];rfl,HBC.out⟩
end Go.Proofs.YtkfhgnkonaafgaaGreatDoor
namespace Go.Proofs.YtkfhgnkonaafgaaGreatDoor
open Go.RowKit
theorem ruleOk_eq (k o:Int) (p:ByteArray) (ks:List Re):ruleOk ⟨k, .mk o p ks⟩=(inB k 1 3&&validR (.mk o p ks)):=rfl
theorem ModelValid_1 (k o:Int) (p:ByteArray) (a:Option Addr) (n c:Nat) (ks:List Re) (w:World) (h:RepRk 0 w ⟨a,n,c⟩ ks) (hg:Glob w) :
 Calls Tryz.prog 77 #[.agg #[.int .i64 k, .int .i64 o, .string p, .slice a n c]] w fun e w'=>e = .returned (.bool (!ruleOk ⟨k, .mk o p ks⟩))∧Below w.heap.size w w':=by
 have HB:=hide (belowAlloc w (.cells #[.int .i64 k, .int .i64 o, .string p, .slice a n c] 77))
 have HV:=hide (RelExprValid_raw o p ks a n c _ (h.below HB.out) (hg.below HB.out))
 have HW:=hide (within_any k 1 3)
 rw [ruleOk_eq]
 generalize inB k 1 3=b1 at *
 generalize validR (.mk o p ks)=b2 at *
 clear h hg
 cases b1
 ·go_enter Tryz.func77,Tryz.ntmps77
  go_wp2_with fail
  (with_reducible refine (HW.out _).mono ?_);rintro e w1 ⟨rfl,rfl⟩
  go_wp2_with fail
  go_ret
  exact ⟨rfl,HB.out⟩
 ·go_enter Tryz.func77,Tryz.ntmps77
  go_wp2_with fail
  (with_reducible refine (HW.out _).mono ?_);rintro e w1 ⟨rfl,rfl⟩
  go_wp2_with fail
  (with_reducible refine HV.out.mono ?_);rintro e w2 ⟨rfl,hb2⟩
  go_wp2_with fail
  go_ret
  exact ⟨by cases b2 <;> rfl,HB.out.trans (hb2.mono HB.out.size)⟩
def IdxBad (m:List Ru) (q:Int):Prop:=(q = -1∧m.all ruleOk=true)∨(∃ t:Nat,q=t∧m.all ruleOk=false)
theorem allR_take {f:Ru→Bool} {m:List Ru} {k:Nat} (h:∀ r∈m.take k,f r=true) (hk:m.length≤k):m.all f=true:=by
 rw [List.take_of_length_le hk] at h
 exact List.all_eq_true.2 h
theorem allR_succ {f:Ru→Bool} {m:List Ru} {k:Nat} {r:Ru} (h:∀ r∈m.take k,f r=true) (hr:m[k]? = some r) (hf:f r=true):∀ r∈m.take (k+1),f r=true:=by
 intro y hy
 rw [List.take_add_one,hr] at hy
 simp at hy
 rcases hy with hy | rfl
 ·exact h y hy
 ·exact hf
theorem allR_not {f:Ru→Bool} {m:List Ru} {k:Nat} {r:Ru} (hr:m[k]? = some r) (hf:f r=false):m.all f=false:=by
 cases h:m.all f with
 | false=>rfl
 | true =>
  have:=List.all_eq_true.1 h r (List.mem_of_getElem? hr)
  rw [hf] at this;cases this
theorem IndexFunc_mv (a:Option Addr) (n c:Nat) (m:List Ru) (w:World) (hx:RepM 0 w ⟨a,n,c⟩ m) (hg:Glob w) :
 Calls Tryz.prog 119 #[.slice a n c, .func (.func 77) #[] #[]] w fun e w'=>(∃ q:Int,e = .returned (.int .i64 q)∧IdxBad m q)∧Below w.heap.size w w':=by
 obtain ⟨e1,hc1,hc2,hc3⟩:=hx.open
 simp only at e1 hc1 hc2 hc3
 have HX:=hide hx;have HG:=hide hg
 clear hx hg
 have H:=hide e1.symm;clear e1
 rw [H.out] at hc1 hc2
 go_enter Tryz.func119,Tryz.ntmps119
 go_wp2_with fail
 go_loopw [8] (fun i wr => ∃ t:Nat,t≤n∧i = .int .i64 t∧Hid (∀ r∈m.take t,ruleOk r=true)∧Below w.heap.size w wr) (fun i _=>n - (intOf i).toNat)
 case atStart=>exact ⟨0,Nat.zero_le _,rfl,hide (by simp),Below.refl _ _⟩
 case round =>
  obtain ⟨t,ht,rfl,hno,hb⟩:=hrel
  by_cases hlt:t < n
  ·obtain ⟨r,hrk⟩:=get_of_lt (xs:=m) (k:=t) (by rw [H.out];exact hlt)
   obtain ⟨b,o,s,rfl,hbl,i0,i1,i2,i3,i4⟩:=(HX.out.below hb).row hrk
   have hlt':=nat_of_lt hlt
   have hcall:=ModelValid_1 r.kind r.e.op r.e.nm s.a s.n s.cap r.e.kids wr i4 (HG.out.below hb)
   rw [Ru.eta] at hcall
   have X:=hide hrk;clear hrk i4
   generalize hfx:ruleOk r=fx at *
   have FX:=hide hfx;clear hfx
   have HC:=hide hcall;clear hcall
   cases fx
   ·have NO:=hide (allR_not X.out FX.out)
    go_wp2_with fail
    (with_reducible refine HC.out.mono ?_);rintro e w2 ⟨rfl,hb2⟩
    go_wp2_with fail
    go_ret
    exact ⟨⟨_,rfl, .inr ⟨t,rfl,NO.out⟩⟩,hb.trans (hb2.mono hb.size)⟩
   ·have NO:=hide (allR_succ hno.out X.out FX.out)
    go_wp2_with fail
    (with_reducible refine HC.out.mono ?_);rintro e w2 ⟨rfl,hb2⟩
    go_wp2_with fail
    go_roundw
    case rel=>exact ⟨t+1,by omega,by go_num,NO,hb.trans (hb2.mono hb.size)⟩
    case measure=>simp [intOf];omega
  ·have NO:=hide (allR_take hno.out (by rw [H.out];omega))
   go_wp2_with fail
   go_ret
   exact ⟨⟨_,rfl, .inl ⟨rfl,NO.out⟩⟩,hb⟩
theorem ContainsFunc_mv (a:Option Addr) (n c:Nat) (m:List Ru) (w:World) (hx:RepM 0 w ⟨a,n,c⟩ m) (hg:Glob w) :
 Calls Tryz.prog 76 #[.slice a n c, .func (.func 77) #[] #[]] w fun e w'=>e = .returned (.bool (!m.all ruleOk))∧Below w.heap.size w w':=by
 have HI:=hide (IndexFunc_mv a n c m w hx hg)
 clear hx hg
 go_enter Tryz.func76,Tryz.ntmps76
 go_wp2_with fail
 (with_reducible refine HI.out.mono ?_);rintro e w1 ⟨⟨q,rfl,hq⟩,hb1⟩
 have HQ:Hid (decide (q≥0) = !m.all ruleOk):=hide (by
  rcases hq with ⟨rfl,h⟩ | ⟨t,rfl,h⟩
  ·rw [h];rfl
  ·rw [h];simp)
 clear hq
 go_wp2_with fail
 go_ret
 exact ⟨by rw [← HQ.out];rfl,hb1⟩
theorem modelOk_eq (m:List Ru):modelOk m=(inB (m.length:Int) 1 5&&m.all ruleOk):=by
 unfold modelOk inB
 have h1:decide (1≤m.length)=decide ((1:Int)≤(m.length:Int)):=by rw [decide_eq_decide];omega
 have h2:decide (m.length≤5)=decide ((m.length:Int)≤5):=by rw [decide_eq_decide];omega
 rw [h1,h2,Bool.and_assoc]
theorem ModelValid_any (a:Option Addr) (n c:Nat) (m:List Ru) (w:World) (hx:RepM 0 w ⟨a,n,c⟩ m) (hg:Glob w) :
 Calls Tryz.prog 42 #[.slice a n c] w fun e w'=>e = .returned (.bool (modelOk m))∧Below w.heap.size w w':=by
 obtain ⟨e1,hc1,hc2,hc3⟩:=hx.open
 simp only at e1 hc1 hc2 hc3
 have HC:=hide (ContainsFunc_mv a n c m w hx hg)
 have HW:=hide (within_any (n:Int) 1 5)
 rw [modelOk_eq,← e1]
 clear hx hg e1
 generalize inB (n:Int) 1 5=b1 at *
 generalize m.all ruleOk=b2 at *
 cases b1
 ·go_enter Tryz.func42,Tryz.ntmps42
  go_wp2_with fail
  (with_reducible refine (HW.out _).mono ?_);rintro e w1 ⟨rfl,rfl⟩
  go_wp2_with fail
  go_ret
  exact ⟨rfl,Below.refl _ _⟩
 ·go_enter Tryz.func42,Tryz.ntmps42
  go_wp2_with fail
  (with_reducible refine (HW.out _).mono ?_);rintro e w1 ⟨rfl,rfl⟩
  go_wp2_with fail
  (with_reducible refine HC.out.mono ?_);rintro e w2 ⟨rfl,hb2⟩
  go_wp2_with fail
  go_ret
  exact ⟨by cases b2 <;> rfl,hb2⟩
theorem RepM.bound {w:World} {s:Slc} {m:List Ru} (_:RepM 0 w s m) {r:Ru} (hr:r∈m) (hl:wtM m≤1048576):descR r.e.kids≤1048576:=by
 have h1:=wtM_mem hr;have h2:=descR_le_wtR r.e.kids;omega
theorem sModelValid_any (a:Option Addr) (n c:Nat) (m:List Ru) (w:World) (hx:RepM 0 w ⟨a,n,c⟩ m) (hl:wtM m≤1048576) :
 Calls Tryz.prog 34 #[.slice a n c] w fun e w'=>e = .returned (.bool (modelOk m))∧Below w.heap.size w w':=by
 obtain ⟨e1,hc1,hc2,hc3⟩:=hx.open
 simp only at e1 hc1 hc2 hc3
 have HX:=hide hx
 have HBD:=hide (fun r (hr:r∈m)=>hx.bound hr hl)
 have ME:=hide (modelOk_eq m)
 have IE:Hid (inB (m.length:Int) 1 5=(decide (1≤(m.length:Int))&&decide ((m.length:Int)≤5))):=hide rfl
 clear hx
 have H:=hide e1.symm;clear e1
 rw [H.out] at hc1 hc2 ME IE
 generalize modelOk m=R at *
 generalize inB (n:Int) 1 5=I5 at *
 go_enter Tryz.func34,Tryz.ntmps34
 go_wp2_with fail
 go_loopw [3] (fun i wr => ∃ t:Nat,t≤n∧t≤6∧i = .int .i64 t∧Hid (∀ r∈m.take t,ruleOk r=true)∧Below w.heap.size w wr) (fun i _=>n - (intOf i).toNat)
 case atStart=>exact ⟨0,Nat.zero_le _,by omega,rfl,hide (by simp),Below.refl _ _⟩
 case round =>
  obtain ⟨t,ht,ht6,rfl,hno,hb⟩:=hrel
  by_cases hlt:t < n
  ·have hlt':=nat_of_lt hlt
   by_cases h5:t≤5
   ·obtain ⟨r,hrk⟩:=get_of_lt (xs:=m) (k:=t) (by rw [H.out];exact hlt)
    obtain ⟨b,o,s,rfl,hbl,i0,i1,i2,i3,i4⟩:=(HX.out.below hb).row hrk
    have h5':(t:Int)≤5:=by omega
    have HV:=hide (RelExprValidS_raw r.e.op r.e.nm r.e.kids s.a s.n s.cap wr i4 (HBD.out r (List.mem_of_getElem? hrk)))
    have RO:Hid (ruleOk r=(inB r.kind 1 3&&validR (.mk r.e.op r.e.nm r.e.kids))):=hide (by rw [Re.eta];rfl)
    have X:=hide hrk;clear hrk i4
    generalize validR (.mk r.e.op r.e.nm r.e.kids)=b2 at *
    generalize hfx:ruleOk r=fx at *
    have FX:=hide hfx;clear hfx
    generalize r.kind=kd at *
    by_cases g1:kd < 1
    ·have g1':decide (kd < 1)=true:=decide_eq_true g1
     obtain rfl:fx=false:=by rw [RO.out];unfold inB;rw [decide_eq_false (show ¬ 1≤kd by omega)];rfl
     have NO:=hide (allR_not X.out FX.out)
     have RF:Hid (R=false):=hide (by rw [ME.out,NO.out,Bool.and_false])
     clear g1
     go_wp2_with fail
     go_ret
     exact ⟨by rw [RF.out];rfl,hb⟩
    ·have g1':decide (kd < 1)=false:=decide_eq_false g1
     by_cases g2:kd > 3
     ·have g2':decide (kd > 3)=true:=decide_eq_true g2
      obtain rfl:fx=false:=by rw [RO.out];unfold inB;rw [decide_eq_false (show ¬ kd≤3 by omega),Bool.and_false];rfl
      have NO:=hide (allR_not X.out FX.out)
      have RF:Hid (R=false):=hide (by rw [ME.out,NO.out,Bool.and_false])
      clear g1 g2
      go_wp2_with fail
      go_ret
      exact ⟨by rw [RF.out];rfl,hb⟩
     ·have g2':decide (kd > 3)=false:=decide_eq_false g2
      obtain rfl:fx=b2:=by rw [RO.out];unfold inB;rw [decide_eq_true (show 1≤kd by omega),decide_eq_true (show kd≤3 by omega)];rfl
      clear g1 g2
      cases fx
      ·have NO:=hide (allR_not X.out FX.out)
       have RF:Hid (R=false):=hide (by rw [ME.out,NO.out,Bool.and_false])
       go_wp2_with fail
       (with_reducible refine HV.out.mono ?_);rintro e w5 ⟨rfl,hb5⟩
       go_wp2_with fail
       go_ret
       exact ⟨by rw [RF.out];rfl,hb.trans (hb5.mono hb.size)⟩
      ·have NO:=hide (allR_succ hno.out X.out FX.out)
       go_wp2_with fail
       (with_reducible refine HV.out.mono ?_);rintro e w5 ⟨rfl,hb5⟩
       go_wp2_with fail
       go_roundw
       case rel=>exact ⟨t+1,by omega,by omega,by go_num,NO,hb.trans (hb5.mono hb.size)⟩
       case measure=>simp [intOf];omega
   ·have h5':decide ((t:Int)≤5)=false:=decide_eq_false (by omega)
    have h6:decide ((n:Int)≤5)=false:=decide_eq_false (by omega)
    have RF:Hid (R=false):=hide (by rw [ME.out,IE.out,h6,Bool.and_false];rfl)
    have h7:(n:Int) > 0:=by omega
    go_wp2_with fail
    go_ret
    exact ⟨by rw [RF.out];rfl,hb⟩
  ·obtain rfl:t=n:=by omega
   have NO:=hide (allR_take hno.out (by rw [H.out];omega))
   have RF:Hid (R=(decide (1≤(t:Int))&&decide ((t:Int)≤5))):=hide (by rw [ME.out,IE.out,NO.out,Bool.and_true])
   by_cases h0:(t:Int) > 0
   ·have RG:Hid (R=decide ((t:Int)≤5)):=hide (by rw [RF.out,decide_eq_true (show (1:Int)≤t by omega)];rfl)
    go_wp2_with fail
    go_ret
    exact ⟨by rw [RG.out];rfl,hb⟩
   ·have h0':decide ((t:Int) > 0)=false:=decide_eq_false h0
    have RG:Hid (R=false):=hide (by rw [RF.out,decide_eq_false (show ¬ (1:Int)≤t by omega)];rfl)
    go_wp2_with fail
    go_ret
    exact ⟨by rw [RG.out];rfl,hb⟩
end Go.Proofs.YtkfhgnkonaafgaaGreatDoor
namespace Go.Proofs.YtkfhgnkonaafgaaGreatDoor
open Go.RowKit
structure HB (w:World) (vb:Nat) (ps:Slc) (xs:List Int):Prop where
 blk:w.heap[vb]? = some (.cells (.slice ps.a ps.n ps.cap :: xs.map (Value.int .u8)).toArray 115 (0,0))
theorem HB.vb {w:World} {vb:Nat} {ps:Slc} {xs:List Int} (h:HB w vb ps xs):VB w vb ps xs:=
 ⟨cell_of_heapV h.blk (k:=0) rfl,fun i x hx=>cell_of_heapV h.blk (k:=1+i) (by simp [Nat.add_comm 1 i,hx])⟩
theorem HB.below {w w':World} {vb:Nat} {ps:Slc} {xs:List Int} (h:HB w vb ps xs) (hb:Below w.heap.size w w'):HB w' vb ps xs:=⟨(hb.block vb (Array.getElem?_eq_some_iff.1 h.blk).1).trans h.blk⟩
theorem HB.set {w:World} {vb:Nat} {ps:Slc} {xs:List Int} (h:HB w vb ps xs) (i q:Nat) (v:Int) (hq:q=1+i):HB (w.setCell ⟨vb,q,none⟩ (.int .u8 v)) vb ps (xs.set i v):=by
 subst hq
 refine ⟨(heap_setCell_same w vb (1+i) _ _ (.int .u8 v) h.blk).trans ?_⟩
 rw [List.setIfInBounds_toArray,Nat.add_comm,List.set_cons_succ,List.map_set]
theorem HB.lt {w:World} {vb:Nat} {ps:Slc} {xs:List Int} (h:HB w vb ps xs):vb < w.heap.size:=(Array.getElem?_eq_some_iff.1 h.blk).1
theorem evAll_ge0 (p:List (List Ins)):3≤(evAll p).length:=by unfold evAll;simp [evHead_length]
theorem insValid_reg {x:Ins} (h:insValid x=true):0≤x.reg∧x.reg≤2:=by
 unfold insValid inB at h
 split at h
 ·simp at h;omega
 ·split at h
  ·simp at h;omega
  ·split at h
   ·simp at h;omega
   ·split at h
    ·simp at h;omega
    ·cases h
theorem order_le {p:List (List Ins)} {x:Xc} (hok:execOk p x=true) {l:Nat} {o:List Int} (hl:l < 3) (ho:x.od[l]? = some o):o.length≤(evAll p).length:=by
 unfold execOk at hok
 simp only [Bool.and_eq_true] at hok
 obtain ⟨o',h1,h2⟩:=ordersOk_get hok.2.2.2.2 hl
 obtain rfl:o'=o:=by rw [h1] at ho;simpa using ho
 unfold orderOk at h2
 simp only [Bool.and_eq_true,decide_eq_true_eq] at h2
 rw [h2.1.length_eq]
 exact wrL_length _ _
theorem outcomeOf_any (v vf vo:Value) (p:List (List Ins)) (x:Xc) (w:World) (hp:RepP w v p) (hx:RepX w vf vo x) (hl:p.flatten.length≤1048576) (hok:execOk p x=true) :
 Calls Tryz.prog 43 #[v, .agg #[vf,vo]] w (RetNB w (if valsOk p x.fr=true then (outL p (evAll p) x (valsL p x.fr),true) else ([],false))):=by
 have HE:=hide (fun w' h=>events_any v p w' h hl)
 have HVO:=hide (fun w' h h'=>valuesOf_any v vf vo p x w' h h' hl hok)
 have hok2:=hok
 unfold execOk at hok2
 simp only [Bool.and_eq_true,decide_eq_true_eq] at hok2
 obtain ⟨hpv,hfl,hol, -, -⟩:=hok2
 have hen:=evAll_le hpv
 have hen3:=evAll_ge0 p
 have hp3:=(valid_le hpv).1
 have HVL:=hide (valid_le hpv).2.2.1
 have HVR:=hide (fun k e (h:valsOk p x.fr=true) h1 h2=>val_read (k:=k) (e:=e) hok h h1 h2)
 have HVD:=hide (fun l (h:valsOk p x.fr=true) h1=>val_order (l:=l) hok h h1)
 have HOLN:=hide (fun l o (h1:l < 3) h2=>order_le (l:=l) (o:=o) hok h1 h2)
 have HBB:=hide (fun k (h:valsOk p x.fr=true) (hk:k≤3)=>finB_bound hok h hk)
 have HOB:=hide (outB_eq x (valsL p x.fr) hp3)
 have HEVC:=hide (fun k e (h:(evAll p)[k]? = some e) h2=>ev_read (p:=p) h h2)
 have HK0:=hide (bytesK_zero p (evAll p) x.fr (valsL p x.fr))
 have HKS:=hide (fun k e h h2=>bytesK_skip (p:=p) (es:=evAll p) x.fr (valsL p x.fr) (k:=k) (e:=e) h h2)
 have HKR:=hide (fun k t g e h h2 h3 h4 h5 h6=>bytesK_read (p:=p) (es:=evAll p) x.fr (valsL p x.fr) (k:=k) (t:=t) (g:=g) (e:=e) h h2 h3 h4 h5 h6)
 have HKL:=hide (bytesK_length p (evAll p) x.fr (valsL p x.fr))
 have HF0:=hide (finB_zero p (evAll p) x (valsL p x.fr))
 have HFS:=hide (fun k hk=>finB_succ p (evAll p) x (valsL p x.fr) (k:=k) hk)
 have HFL:=hide (finB_length p (evAll p) x (valsL p x.fr))
 have HLV:=hide (valTo_length (evAll p) (cX p x.fr))
 have HLL:Hid ((valsL p x.fr).length=(evAll p).length):=hide (valTo_length _ _ _ (Nat.le_refl _))
 clear hpv
 have HP:=hide hp;have HX:=hide hx
 have HFLE:=hide hfl;have HOLE:=hide hol
 obtain ⟨pa,pc,rfl, -,hpn, -, -⟩:=hp.open
 obtain ⟨fa,fc,rfl, -,hfn, -, -⟩:=hx.fr.open
 obtain ⟨oa,oc,rfl, -,hon, -, -⟩:=hx.od.open
 clear hp hx hok hfl hol
 have HRV:Hid ((if valsOk p x.fr=true then (outL p (evAll p) x (valsL p x.fr),true) else ([],false))=if valsOk p x.fr=true then (outL p (evAll p) x (valsL p x.fr),true) else ([],false)):=hide rfl
 generalize hRR:(if valsOk p x.fr=true then (outL p (evAll p) x (valsL p x.fr),true) else ([],false))=R
 have HR:=hide hRR
 clear hRR HRV
 have HB0:=hide ((Below.refl w.heap.size w).alloc (Nat.le_refl _) (.cells #[.slice fa x.fr.length fc, .slice oa x.od.length oc] 29))
 have HBX:=hide (heap_alloc_new w (.cells #[.slice fa x.fr.length fc, .slice oa x.od.length oc] 29))
 have HP0:=hide (HP.out.below HB0.out);have HX0:=hide (HX.out.below HB0.out)
 generalize hes:evAll p=es at *
 generalize hvv:valsL p x.fr=vals at *
 generalize hvo:valsOk p x.fr=ok at *
 clear hes hvv hvo
 generalize hfn':x.fr.length=fn at *
 generalize hon':x.od.length=on at *
 generalize hpn':p.length=pn at *
 generalize hen':es.length=en at *
 generalize hvn':vals.length=vn at *
 have HFN:=hide hfn';have HON:=hide hon';have HPN:=hide hpn';have HEN:=hide hen';have HVN:=hide hvn'
 clear hfn' hon' hpn' hen' hvn'
 have e0:=cell_of_heapV HBX.out (k:=0) rfl
 have e1:=cell_of_heapV HBX.out (k:=1) rfl
 have lb:=lt_of_cell e0
 go_enter Tryz.func43,Tryz.ntmps43
 go_wp2_with fail
 generalize hw1:w.alloc (.cells #[.slice fa fn fc, .slice oa on oc] 29)=w1 at *
 clear hw1
 (with_reducible refine (HVO.out _ HP0.out HX0.out).mono ?_);rintro e w2 ⟨u,rfl,ou,hb2⟩
 cases ok
 ·obtain rfl:R=([],false):=by rw [← HR.out,if_neg (by simp)]
  have HB2:=hide (HB0.out.trans (hb2.mono HB0.out.size))
  clear ou hb2 e0 e1 lb
  go_wp2_with fail
  go_ret2
  exact RetNB.no HB2.out
 ·have ou2:Own IntE 3 w2 w1.heap.size u.v vals:=ou
  have HR2:Hid (R=(outL p es x vals,true)):=hide (by rw [← HR.out,if_pos rfl])
  clear ou HR
  obtain ⟨ua,un,uc⟩:=u
  obtain ⟨ua',uc',heq, -, -, -,hur⟩:=ou2.rep.open
  simp only [Value.slice.injEq] at heq
  obtain ⟨rfl,rfl,rfl⟩:=heq
  rw [HVN.out] at hur ⊢
  have HU:=hide hur
  have hx2:=(hb2.block w.heap.size (Array.getElem?_eq_some_iff.1 HBX.out).1).trans HBX.out
  have HX2B:=hide hx2
  have HP2:=hide (HP0.out.below hb2);have HX2:=hide (HX0.out.below hb2)
  have HB2:=hide (HB0.out.trans (hb2.mono HB0.out.size))
  have HA:=hide (heap_alloc_new w2 (.cells (.slice pa pn pc :: (List.replicate 15 (0:Int)).map (Value.int .u8)).toArray 115))
  have hb3:=(Below.refl w2.heap.size w2).alloc (Nat.le_refl _) (.cells (.slice pa pn pc :: (List.replicate 15 (0:Int)).map (Value.int .u8)).toArray 115)
  have HE3:=hide (HE.out _ (HP2.out.below hb3))
  have HB3:=hide hb3
  have hz3:w2.heap.size < (w2.alloc (.cells (.slice pa pn pc :: (List.replicate 15 (0:Int)).map (Value.int .u8)).toArray 115)).heap.size:=by simp
  simp only [List.replicate,List.map_cons,List.map_nil] at HA HE3 HB3 hz3
  clear hur ou2 e0 e1 lb hx2 hb2 HB0 HBX HP0 HX0 hb3
  go_wp2_with fail
  (with_reducible refine HE3.out.mono ?_);rintro e w4 ⟨ve,rfl,oe,hb4⟩
  rcases oe.shape with ⟨rfl,h0⟩ | ⟨ge,ec,rfl,hge1,hge2,hge3,hge4⟩
  ·exfalso
   have h1:=HEN.out
   rw [h0] at h1
   simp at h1
   omega
  rw [HEN.out] at oe hge3 ⊢
  have HB4:=hide (HB3.out.trans (hb4.mono HB3.out.size))
  have HV4:Hid (HB w4 w2.heap.size ⟨pa,pn,pc⟩ (bytesK p es x.fr vals 0)):=hide ⟨by rw [HK0.out];exact (hb4.block w2.heap.size (Array.getElem?_eq_some_iff.1 HA.out).1).trans HA.out⟩
  have HOE:=hide oe
  have hgv:w2.heap.size < ge:=Nat.lt_of_lt_of_le hz3 hge1
  clear oe hb4 HE3 HA hge1 HK0
  go_wp2_with fail
  go_loopw [26] (fun i wr => ∃ k:Nat,k≤en∧i = .int .i64 k∧HB wr w2.heap.size ⟨pa,pn,pc⟩ (bytesK p es x.fr vals k)∧Own EvE 99 wr (w2.heap.size+1) (.slice (some ⟨ge,0,none⟩) en ec) es∧Below w2.heap.size w2 wr) (fun i _=>en - (intOf i).toNat)
  case atStart=>exact ⟨0,Nat.zero_le _,rfl,HV4.out,HOE.out.mono hz3,HB4.out⟩
  case round =>
   obtain ⟨k,hk,rfl,hv,hoe,hbr⟩:=hrel
   by_cases hlt:k < en
   ·obtain ⟨e,hek⟩:=get_of_lt (xs:=es) (k:=k) (by rw [HEN.out];exact hlt)
    obtain ⟨b,o,hbo,hbl,i0,i1,i2,i3,i4⟩:=hoe.rep.ev hek
    simp only [Option.some.injEq,Addr.mk.injEq,and_true] at hbo
    obtain ⟨rfl,rfl⟩:=hbo
    simp only [Nat.zero_add] at i0 i1 i2 i3 i4
    have hlt':=nat_of_lt hlt
    have HOEr:=hide hoe;have HVr:=hide hv;have HBr:=hide hbr
    have hba:=(Below.refl wr.heap.size wr).alloc (Nat.le_refl _) (.cells #[.int .i64 e.t, .int .i64 e.i, .int .i64 e.l, .bool e.r, .bool e.w] 99)
    have HVA:=hide (hv.below hba);have HOA:=hide (hoe.below hba);have HBA:=hide (hbr.trans (hba.mono hbr.size))
    cases her:e.r
    ·have KS:=hide (HKS.out k e hek her)
     rw [her] at i3 HVA HOA HBA
     clear hek her hv hoe hba
     go_wp2_with fail
     go_roundw
     case rel=>exact ⟨k+1,by omega,by go_num,by rw [KS.out];exact HVA.out,HOA.out,HBA.out⟩
     case measure=>simp [intOf];omega
    ·obtain ⟨t',i',r,het,hei,hpt,hri⟩:=HEVC.out k e (by first | exact hek | (rw [← HEN.out];exact hek)) her
     obtain ⟨j,vv,hfj,hvj,hv0,hv3⟩:=HVR.out k e trivial hek her
     have hreg:=insValid_reg ((HVL.out r (List.mem_of_getElem? hpt)).2 _ (List.mem_of_getElem? hri))
     obtain ⟨g,hg⟩:∃ g:Nat,(insE p e).reg=g:=⟨(insE p e).reg.toNat,by omega⟩
     obtain ⟨b2,o2,ra,rc,rfl,hbl2,q0,q1⟩:=HP2.out.row hpt
     obtain ⟨b3,o3,rfl,hbl3,r0,r1,r2,r3⟩:=q1.ins hri
     obtain ⟨b4,o4,rfl,hbl4,f0⟩:=HX2.out.fr.int hfj
     obtain ⟨b5,o5,rfl,hbl5,u0⟩:=HU.out.int hvj
     have htp:t' < pn:=by have:=(List.getElem?_eq_some_iff.1 hpt).1;have:=HPN.out;omega
     have htn:(t':Int) < (pn:Int):=by omega
     have ht3:(t':Int) < 3:=by omega
     have hg3:(g:Int) < 3:=by omega
     have hin:(i':Int) < (r.length:Int):=by have:=(List.getElem?_eq_some_iff.1 hri).1;omega
     have hkf:(k:Int) < (fn:Int):=by have:=(List.getElem?_eq_some_iff.1 hfj).1;have:=HFN.out;omega
     have hjv:(j:Int) < (vn:Int):=by have:=(List.getElem?_eq_some_iff.1 hvj).1;have:=HVN.out;omega
     have KR:=hide (HKR.out k t' g e hek her het hg (by omega) (by omega))
     have VE:=hide (valAt_eq hfj hvj)
     have q0:=(hbr.cell (p:=⟨b2,o2+t',none⟩) hbl2).trans q0
     have r2:=(hbr.cell (p:=⟨b3,o3+i' * 4+2,none⟩) hbl3).trans r2
     rw [hg] at r2
     have f0:=(hbr.cell (p:=⟨b4,o4+k,none⟩) hbl4).trans f0
     have u0:=(hbr.cell (p:=⟨b5,o5+j,none⟩) hbl5).trans u0
     have hwl2:=(Array.getElem?_eq_some_iff.1 HX2B.out).1
     have x0:=(hbr.cell (p:=⟨w.heap.size,0,none⟩) hwl2).trans (cell_of_heapV HX2B.out (k:=0) rfl)
     have hbrz:=hbr.size
     have n2:b2≠w2.heap.size:=by omega
     have n3:b3≠w2.heap.size:=by omega
     have n4:b4≠w2.heap.size:=by omega
     have n5:b5≠w2.heap.size:=by omega
     have n6:w.heap.size≠w2.heap.size:=by omega
     have hvl:=hv.lt
     have n7:wr.heap.size≠w2.heap.size:=by omega
     have l2:b2 < wr.heap.size:=by omega
     have l3:b3 < wr.heap.size:=by omega
     have l4:b4 < wr.heap.size:=by omega
     have l5:b5 < wr.heap.size:=by omega
     have l6:w.heap.size < wr.heap.size:=by omega
     have vfz:=frozen_of_heapV hv.blk
     obtain ⟨yv,hyv⟩:=get_of_lt (xs:=bytesK p es x.fr vals k) (k:=3+3 * t'+g) (by rw [HKL.out];omega)
     have y0:=hv.vb.cs _ _ hyv
     rw [show 1+(3+3 * t'+g)=4+t' * 3+g by omega] at y0
     have hw8:IntKind.u8.wrap vv=vv:=by rw [IntKind.wrap_u8];omega
     obtain ⟨et,ei,el,er,ew⟩:=e
     simp only at het hei her i0 i1 i2 i3 i4 HVA HOA HBA
     subst het
     subst hei
     subst her
     generalize r.length=rl at *
     clear hek hpt hri hfj hvj hv hoe hba q1 r0 r1 r3 hyv hreg hg
     go_wp2_with fail
     go_region_held3 (fun V=>V.cell? ⟨wr.heap.size,0,none⟩=some (.int .i64 (t':Int))∧V.cell? ⟨wr.heap.size,1,none⟩=some (.int .i64 (i':Int))∧V.cell? ⟨b2,o2+t',none⟩=some (.slice (some ⟨b3,o3,none⟩) rl rc)∧V.cell? ⟨b3,o3+i' * 4+2,none⟩=some (.int .i64 (g:Int)) ∧
      V.cell? ⟨w.heap.size,0,none⟩=some (.slice (some ⟨b4,o4,none⟩) fn fc)∧V.cell? ⟨b4,o4+k,none⟩=some (.int .i64 (j:Int))∧V.cell? ⟨b5,o5+j,none⟩=some (.int .i64 vv)) ((simp [go_sem, *])) (first | fail)
     all_goals
      go_wp2_with fail
      go_roundw
      case rel =>
       have hbE:=((Below.refl (wr.setCell ⟨w2.heap.size,4+t' * 3+g,none⟩ (.int .u8 vv)).heap.size (wr.setCell ⟨w2.heap.size,4+t' * 3+g,none⟩ (.int .u8 vv))).alloc (Nat.le_refl _) (.cells #[.int .i64 (t':Int), .int .i64 (i':Int), .int .i64 el, .bool true, .bool ew] 99)).drew
       have o1:Own EvE 99 (wr.setCell ⟨w2.heap.size,4+t' * 3+g,none⟩ (.int .u8 vv)) (w2.heap.size+1) (.slice (some ⟨ge,0,none⟩) en ec) es:=HOEr.out.sameV (fun q hq=>heap_setCell_other wr ⟨w2.heap.size,4+t' * 3+g,none⟩ q _ (show q≠w2.heap.size by have:=World.ownsRow.lt HOEr.out q hq;omega))
       exact ⟨k+1,by omega,by go_num,by rw [KR.out,VE.out];exact (HVr.out.set _ _ vv (show 4+t' * 3+g=1+(3+3 * t'+g) by omega)).below hbE,o1.below hbE,((HBr.out.setCell (Nat.le_refl _) _).alloc (by simp;omega) _).drew⟩
      case measure=>simp [intOf];omega
   ·obtain rfl:k=en:=by omega
    have hF0:HB wr w2.heap.size ⟨pa,pn,pc⟩ (finB p es x vals 0):=by rw [HF0.out];exact hv
    have HV5:=hide hF0;have HB5:=hide hbr
    have hwl2:=(Array.getElem?_eq_some_iff.1 HX2B.out).1
    have x1:=(hbr.cell (p:=⟨w.heap.size,1,none⟩) hwl2).trans (cell_of_heapV HX2B.out (k:=1) rfl)
    have l6:w.heap.size < wr.heap.size:=by have:=hbr.size;omega
    clear hv hoe hbr hF0
    go_wp2_with fail
    clear x1
    go_loopw [61] (fun i wr => ∃ l:Nat,l≤3∧i = .int .i64 l∧HB wr w2.heap.size ⟨pa,pn,pc⟩ (finB p es x vals l)∧Below w2.heap.size w2 wr) (fun i _=>3 - (intOf i).toNat)
    case atStart=>exact ⟨0,by omega,rfl,HV5.out,HB5.out⟩
    case round =>
     obtain ⟨l,hl3,rfl,hv,hbr⟩:=hrel
     by_cases hlt3:l < 3
     ·obtain ⟨o,j,vv,hod,ho0,hoj,hvj,hv0,hv3⟩:=HVD.out l trivial hlt3
      have holn:=HOLN.out l o hlt3 hod
      obtain ⟨b2,o2,ra,rc,rfl,hbl2,q0,q1⟩:=HX2.out.od.row hod
      obtain ⟨b4,o4,rfl,hbl4,f0⟩:=q1.int hoj
      obtain ⟨b5,o5,rfl,hbl5,u0⟩:=HU.out.int hvj
      have hlon:(l:Int) < (on:Int):=by have:=HON.out;have:=HOLE.out;omega
      have hjv:(j:Int) < (vn:Int):=by have:=(List.getElem?_eq_some_iff.1 hvj).1;have:=HVN.out;omega
      have q0:=(hbr.cell (p:=⟨b2,o2+l,none⟩) hbl2).trans q0
      have f0:=(hbr.cell (p:=⟨b4,o4+(o.length - 1),none⟩) hbl4).trans f0
      have u0:=(hbr.cell (p:=⟨b5,o5+j,none⟩) hbl5).trans u0
      have hbrz:=hbr.size
      have n2:b2≠w2.heap.size:=by omega
      have n4:b4≠w2.heap.size:=by omega
      have n5:b5≠w2.heap.size:=by omega
      have hvl:=hv.lt
      have l2:b2 < wr.heap.size:=by omega
      have l4:b4 < wr.heap.size:=by omega
      have l5:b5 < wr.heap.size:=by omega
      have vfz:=frozen_of_heapV hv.blk
      obtain ⟨yv,hyv⟩:=get_of_lt (xs:=finB p es x vals l) (k:=12+l) (by rw [HFL.out];omega)
      have y0:=hv.vb.cs _ _ hyv
      rw [show 1+(12+l)=13+l by omega] at y0
      have hw8:IntKind.u8.wrap vv=vv:=by rw [IntKind.wrap_u8];omega
      have hl3':(l:Int) < 3:=by omega
      obtain ⟨q,hq⟩:∃ q,o.length=q+1:=⟨o.length - 1,by omega⟩
      rw [hq] at f0 q0 holn
      simp only [Nat.add_sub_cancel] at f0
      have hwq:wrap64 (q:Int)=q:=by unfold wrap64;omega
      have hqq:((q+1:Nat):Int) - 1=(q:Int):=by omega
      have hq1:(q:Int) < ((q+1:Nat):Int):=by omega
      have FS:=hide (HFS.out l hlt3)
      have ME:=hide (memV_eq hod hoj hvj)
      have HVr:=hide hv;have HBr:=hide hbr
      clear hod hoj hvj hv hbr hyv q1 ho0 hq
      have hon3:on=3:=by have:=HON.out;have:=HOLE.out;omega
      go_wp2_with fail
      go_roundw
      case rel=>exact ⟨l+1,by omega,by go_num,by rw [FS.out,ME.out];exact HVr.out.set _ _ vv (by omega),HBr.out.setCell (Nat.le_refl _) _⟩
      case measure=>simp [intOf];omega
     ·obtain rfl:l=3:=by omega
      have hon3:on=3:=by have:=HON.out;have:=HOLE.out;omega
      subst hon3
      have HBD:=hide (fun y hy=>HBB.out 3 trivial (Nat.le_refl _) y hy)
      have HOC:=hide (outcome_any w2.heap.size ⟨pa,pn,pc⟩ (finB p es x vals 3) wr hv.vb (HFL.out 3) (fun y hy=>by have:=HBD.out y hy;omega) hp3)
      have HBr:=hide hbr
      clear hv hbr
      go_wp2_with fail
      (with_reducible refine HOC.out.mono ?_);rintro e w9 ⟨uo,rfl,ouo,hb9⟩
      obtain ⟨⟨qa,qn,qc⟩,rfl, -⟩:=ouo.toSlc
      have HOU:=hide ouo;have HB9:=hide (HBr.out.trans (hb9.mono HBr.out.size))
      clear ouo hb9
      go_wp2_with fail
      go_ret2
      rw [HR2.out]
      refine ⟨⟨qa,qn,qc⟩,rfl, ?_,HB2.out.trans (HB9.out.mono HB2.out.size)⟩
      rw [← HOB.out]
      exact HOU.out.mono (Nat.le_trans HB2.out.size HBr.out.size)
end Go.Proofs.YtkfhgnkonaafgaaGreatDoor
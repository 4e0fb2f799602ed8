/-
  Arguments that are programs and models, as the laws take them.
-/
import Derived.Test.YtkfhgnkonaafgaaGreatDoorZx23
import Derived.Test.YtkfhgnkonaafgaaGreatDoorZx19
import Derived.Test.YtkfhgnkonaafgaaGreatDoorZx15
import Derived.Test.YtkfhgnkonaafgaaGreatDoorZx04
import Derived.Test.YtkfhgnkonaafgaaGreatDoorZx25
import Derived.Test.YtkfhgnkonaafgaaGreatDoorZx00
set_option maxHeartbeats 6400000
set_option maxRecDepth 100000
namespace Go.Proofs.YtkfhgnkonaafgaaGreatDoor
open Go.RowKit
theorem l6Pair_plain (nm:ByteArray) (t:Nat) (hn:Hid ((nm=⟨#[112,111]⟩∧t=0)∨(nm=⟨#[108,111,99]⟩∧t=1)∨(nm=⟨#[101,120,116]⟩∧t=2)∨(nm=⟨#[119,114]⟩∧t=7)∨(nm=⟨#[119,119]⟩∧t=8)∨(nm=⟨#[105,100]⟩∧t=9))) (pv:Value) (f1 o1 la:Option Addr) (f2 f3 o2 o3 lc:Nat) (p:List (List Ins)) (x:Xc) (i k:Nat) (w:World) (hp:RepP w pv p) (hx:RepX w (.slice f1 f2 f3) (.slice o1 o2 o3) x) (hL:Rep EvE w (.slice la (evAll p).length lc) (evAll p)) (hi:i < (evAll p).length) (hk:k < (evAll p).length) :
 Calls Tryz.prog 194 #[pv, .agg #[.slice f1 f2 f3, .slice o1 o2 o3], .slice la (evAll p).length lc, .string nm, .int .i64 i, .int .i64 k] w fun e w'=>e = .returned (.bool (relN p x t i k))∧Below w.heap.size w w':=by
 obtain ⟨a,ha⟩:=get_of_lt hi
 obtain ⟨b,hbb⟩:=get_of_lt hk
 have CE:Hid (relN p x t i k=relE p x t a b i k):=hide (relN_eq ha hbb)
 obtain ⟨d,o,rfl,hd,i0,i1,i2,i3,i4⟩:=hL.ev ha
 obtain ⟨d',o',hde,hd',j0,j1,j2,j3,j4⟩:=hL.ev hbb
 simp only [Option.some.injEq,Addr.mk.injEq,and_true] at hde
 obtain ⟨rfl,rfl⟩:=hde
 have HBW:=hide (belowAlloc w (.cells #[.slice f1 f2 f3, .slice o1 o2 o3] 29))
 have HBX:=hide (heap_alloc_new w (.cells #[.slice f1 f2 f3, .slice o1 o2 o3] 29))
 have hi':=nat_of_lt hi;have hk':=nat_of_lt hk
 have HP:=hide (hp.below HBW.out);have HX:=hide (hx.below HBW.out)
 clear hbb hL hp hx
 generalize relN p x t i k=R at *
 have RE:Hid (R=relE p x t a b i k):=CE
 clear CE
 generalize (evAll p).length=n at *
 generalize hW:w.alloc (.cells #[.slice f1 f2 f3, .slice o1 o2 o3] 29)=W0 at *
 have hWs:W0.heap.size=w.heap.size+1:=by rw [← hW];simp
 have e0:=(HBW.out.cell (p:=⟨d,o+i * 5,none⟩) hd).trans i0;have e1:=(HBW.out.cell (p:=⟨d,o+i * 5+1,none⟩) hd).trans i1;have e2:=(HBW.out.cell (p:=⟨d,o+i * 5+2,none⟩) hd).trans i2;have e3:=(HBW.out.cell (p:=⟨d,o+i * 5+3,none⟩) hd).trans i3;have e4:=(HBW.out.cell (p:=⟨d,o+i * 5+4,none⟩) hd).trans i4
 have u0:=(HBW.out.cell (p:=⟨d,o+k * 5,none⟩) hd').trans j0;have u1:=(HBW.out.cell (p:=⟨d,o+k * 5+1,none⟩) hd').trans j1;have u2:=(HBW.out.cell (p:=⟨d,o+k * 5+2,none⟩) hd').trans j2;have u3:=(HBW.out.cell (p:=⟨d,o+k * 5+3,none⟩) hd').trans j3;have u4:=(HBW.out.cell (p:=⟨d,o+k * 5+4,none⟩) hd').trans j4
 have hdW:=lt_of_cell e0
 have HWS:=hide hWs
 have EA:EvAt ((W0.alloc (.cells #[.int .i64 a.t, .int .i64 a.i, .int .i64 a.l, .bool a.r, .bool a.w] 99)).alloc (.cells #[.int .i64 b.t, .int .i64 b.i, .int .i64 b.l, .bool b.r, .bool b.w] 99)) W0.heap.size (W0.heap.size+1) a b:=
  ⟨by simp;omega,by simp,by simp [go_sem],by simp [go_sem],by simp [go_sem],by simp [go_sem],by simp [go_sem],by simp [go_sem],by simp [go_sem],by simp [go_sem],by simp [go_sem],by simp [go_sem]⟩
 have hbW:Below W0.heap.size W0 ((W0.alloc (.cells #[.int .i64 a.t, .int .i64 a.i, .int .i64 a.l, .bool a.r, .bool a.w] 99)).alloc (.cells #[.int .i64 b.t, .int .i64 b.i, .int .i64 b.l, .bool b.r, .bool b.w] 99)):=((Below.refl _ _).alloc (Nat.le_refl _) _).alloc (by simp) _
 have HE:=hide EA;have HB0:=hide hbW
 clear i0 i1 i2 i3 i4 j0 j1 j2 j3 j4 ha hWs EA hbW
 go_enter Tryz.func194,Tryz.ntmps194
 go_upto_region 3 with fail
 clear hW
 clear e0 e1 e2 e3 e4 u0 u1 u2 u3 u4
 generalize ((W0.alloc (.cells #[.int .i64 a.t, .int .i64 a.i, .int .i64 a.l, .bool a.r, .bool a.w] 99)).alloc (.cells #[.int .i64 b.t, .int .i64 b.i, .int .i64 b.l, .bool b.r, .bool b.w] 99))=wc at *
 obtain ⟨h7,h8,a0,a1,a2,a3,a4,c0,c1,c2,c3,c4⟩:=HE.out
 have HBC:=hide (HBW.out.trans (HB0.out.mono HBW.out.size))
 have hwx:=(HB0.out.block w.heap.size (Array.getElem?_eq_some_iff.1 HBX.out).1).trans HBX.out
 have x0:wc.cell? ⟨w.heap.size,0,none⟩=some (.slice f1 f2 f3):=cell_of_heapV hwx (k:=0) rfl
 have x1:wc.cell? ⟨w.heap.size,1,none⟩=some (.slice o1 o2 o3):=cell_of_heapV hwx (k:=1) rfl
 have xl:=lt_of_cell x0
 clear hwx
 obtain ⟨SM,hSM⟩:∃ SM,SM=((a.t==b.t)&&decide (0≤a.t)):=⟨_,rfl⟩
 have HSM:=hide hSM
 clear hSM
 go_cut [15] (fun s15 W=>s15 = .bool SM∧W=wc)
 case first =>
  by_cases g2:a.t=b.t
  ·have k2:(a.t==b.t)=true:=by simp [g2]
   have E:Hid (SM=decide (0≤a.t)):=hide (by rw [HSM.out,k2];rfl)
   clear g2
   go_wp2_with fail
   go_meet
   exact ⟨by rw [E.out],rfl⟩
  ·have k2:(a.t==b.t)=false:=by simp [g2]
   have E:Hid (SM=false):=hide (by rw [HSM.out,k2];rfl)
   clear g2
   go_wp2_with fail
   go_meet
   exact ⟨by rw [E.out],rfl⟩
 case rest =>
  obtain ⟨rfl,rfl⟩:=hcut
  rcases hn.out with ⟨rfl,rfl⟩ | ⟨rfl,rfl⟩ | ⟨rfl,rfl⟩ | ⟨rfl,rfl⟩ | ⟨rfl,rfl⟩ | ⟨rfl,rfl⟩
  ·have n0:((⟨#[112,111]⟩:ByteArray).toList==[112,111])=true:=by kernel_rfl
   have RV:Hid (R=(SM&&decide (a.i < b.i))):=hide (by
    rw [RE.out,HSM.out]
    show (decide (0≤a.t)&&((a.t==b.t)&&decide (a.i < b.i)))=_
    cases decide (0≤a.t) <;> cases (a.t==b.t) <;> rfl)
   cases SM
   ·have RP:Hid (R=false):=hide (by rw [RV.out];rfl)
    go_wp2_with fail
    go_ret
    exact ⟨by rw [RP.out];rfl,HBC.out⟩
   ·have RP:Hid (R=decide (a.i < b.i)):=hide (by rw [RV.out];rfl)
    go_wp2_with fail
    go_ret
    exact ⟨by rw [RP.out];rfl,HBC.out⟩
  ·have n0:((⟨#[108,111,99]⟩:ByteArray).toList==[112,111])=false:=by kernel_rfl
   have n1:((⟨#[108,111,99]⟩:ByteArray).toList==[108,111,99])=true:=by kernel_rfl
   have RP:Hid (R=(a.l==b.l)):=hide (by rw [RE.out];rfl)
   go_wp2_with fail
   go_ret
   exact ⟨by rw [RP.out];rfl,HBC.out⟩
  ·have n0:((⟨#[101,120,116]⟩:ByteArray).toList==[112,111])=false:=by kernel_rfl
   have n1:((⟨#[101,120,116]⟩:ByteArray).toList==[108,111,99])=false:=by kernel_rfl
   have n2:((⟨#[101,120,116]⟩:ByteArray).toList==[101,120,116])=true:=by kernel_rfl
   have RP:Hid (R = !SM):=hide (by
    rw [RE.out,HSM.out]
    show ((a.t != b.t)||decide (a.t < 0))=_
    have h1:decide (a.t < 0) = !decide (0≤a.t):=by
     by_cases h:a.t < 0
     ·have h':¬ 0≤a.t:=by omega
      simp [h,h']
     ·have h':0≤a.t:=by omega
      simp [h,h']
    rw [h1]
    simp only [bne]
    cases (a.t==b.t) <;> cases decide (0≤a.t) <;> rfl)
   go_wp2_with fail
   go_ret
   exact ⟨by rw [RP.out];rfl,HBC.out⟩
  ·have n0:((⟨#[119,114]⟩:ByteArray).toList==[112,111])=false:=by kernel_rfl
   have n1:((⟨#[119,114]⟩:ByteArray).toList==[108,111,99])=false:=by kernel_rfl
   have n2:((⟨#[119,114]⟩:ByteArray).toList==[101,120,116])=false:=by kernel_rfl
   have n3:((⟨#[119,114]⟩:ByteArray).toList==[114,102])=false:=by kernel_rfl
   have n4:((⟨#[119,114]⟩:ByteArray).toList==[99,111])=false:=by kernel_rfl
   have n5:((⟨#[119,114]⟩:ByteArray).toList==[102,114])=false:=by kernel_rfl
   have n6:((⟨#[119,114]⟩:ByteArray).toList==[102,101,110,99,101])=false:=by kernel_rfl
   have n7:((⟨#[119,114]⟩:ByteArray).toList==[119,114])=true:=by kernel_rfl
   obtain ⟨at',ai,al,ar,aw⟩:=a
   obtain ⟨bt,bi,bl,br,bw⟩:=b
   simp only at a0 a1 a2 a3 a4 c0 c1 c2 c3 c4
   have RP:Hid (R=((aw && !ar)&&(br && !bw))):=hide (by rw [RE.out];rfl)
   clear HSM HE
   cases aw <;> cases ar <;> cases br <;> cases bw
   all_goals
    go_wp2_with fail
    go_ret
    exact ⟨by rw [RP.out];rfl,HBC.out⟩
  ·have n0:((⟨#[119,119]⟩:ByteArray).toList==[112,111])=false:=by kernel_rfl
   have n1:((⟨#[119,119]⟩:ByteArray).toList==[108,111,99])=false:=by kernel_rfl
   have n2:((⟨#[119,119]⟩:ByteArray).toList==[101,120,116])=false:=by kernel_rfl
   have n3:((⟨#[119,119]⟩:ByteArray).toList==[114,102])=false:=by kernel_rfl
   have n4:((⟨#[119,119]⟩:ByteArray).toList==[99,111])=false:=by kernel_rfl
   have n5:((⟨#[119,119]⟩:ByteArray).toList==[102,114])=false:=by kernel_rfl
   have n6:((⟨#[119,119]⟩:ByteArray).toList==[102,101,110,99,101])=false:=by kernel_rfl
   have n7:((⟨#[119,119]⟩:ByteArray).toList==[119,114])=false:=by kernel_rfl
   have n8:((⟨#[119,119]⟩:ByteArray).toList==[119,119])=true:=by kernel_rfl
   obtain ⟨at',ai,al,ar,aw⟩:=a
   obtain ⟨bt,bi,bl,br,bw⟩:=b
   simp only at a0 a1 a2 a3 a4 c0 c1 c2 c3 c4
   have RP:Hid (R=((aw && !ar)&&(bw && !br))):=hide (by rw [RE.out];rfl)
   clear HSM HE
   cases aw <;> cases ar <;> cases br <;> cases bw
   all_goals
    go_wp2_with fail
    go_ret
    exact ⟨by rw [RP.out];rfl,HBC.out⟩
  ·have n0:((⟨#[105,100]⟩:ByteArray).toList==[112,111])=false:=by kernel_rfl
   have n1:((⟨#[105,100]⟩:ByteArray).toList==[108,111,99])=false:=by kernel_rfl
   have n2:((⟨#[105,100]⟩:ByteArray).toList==[101,120,116])=false:=by kernel_rfl
   have n3:((⟨#[105,100]⟩:ByteArray).toList==[114,102])=false:=by kernel_rfl
   have n4:((⟨#[105,100]⟩:ByteArray).toList==[99,111])=false:=by kernel_rfl
   have n5:((⟨#[105,100]⟩:ByteArray).toList==[102,114])=false:=by kernel_rfl
   have n6:((⟨#[105,100]⟩:ByteArray).toList==[102,101,110,99,101])=false:=by kernel_rfl
   have n7:((⟨#[105,100]⟩:ByteArray).toList==[119,114])=false:=by kernel_rfl
   have n8:((⟨#[105,100]⟩:ByteArray).toList==[119,119])=false:=by kernel_rfl
   have n9:((⟨#[105,100]⟩:ByteArray).toList==[105,100])=true:=by kernel_rfl
   have RP:Hid (R=((i:Int)==(k:Int))):=hide (by
    rw [RE.out]
    show (i==k)=_
    rw [Bool.eq_iff_iff];simp only [beq_iff_eq];omega)
   go_wp2_with fail
   go_ret
   exact ⟨by rw [RP.out];rfl,HBC.out⟩
end Go.Proofs.YtkfhgnkonaafgaaGreatDoor
namespace Go.Proofs.YtkfhgnkonaafgaaGreatDoor
open Go.RowKit Go.Deep Go.ChangeShapes Go.WideShapes Go.ChangeAt
theorem Tryz.cellsInsR:Tryz.prog.cellsOf 105=4:=by kernel_rfl
theorem Tryz.cellsInsSR:Tryz.prog.cellsOf 58=1:=by kernel_rfl
theorem Tryz.cellsIntR:Tryz.prog.cellsOf 3=1:=by kernel_rfl
theorem Tryz.cellsStrR:Tryz.prog.cellsOf 9=1:=by kernel_rfl
theorem Tryz.cellsRelR:Tryz.prog.cellsOf 62=3:=by kernel_rfl
theorem Tryz.cellsRelSR:Tryz.prog.cellsOf 60=1:=by kernel_rfl
theorem Tryz.cellsRuR:Tryz.prog.cellsOf 64=4:=by kernel_rfl
theorem fourR {l:List Value} (h:l.length=4):∃ a b c d,l=[a,b,c,d]:=by
 match l,h with
 | [a,b,c,d],_=>exact ⟨a,b,c,d,rfl⟩
theorem threeR {l:List Value} (h:l.length=3):∃ a b c,l=[a,b,c]:=by
 match l,h with
 | [a,b,c],_=>exact ⟨a,b,c,rfl⟩
instance:Inhabited Rs:=⟨⟨0,⟨#[]⟩,⟨none,0,0⟩⟩⟩
instance:Inhabited Us:=⟨⟨0,0,⟨#[]⟩,⟨none,0,0⟩⟩⟩
section
variable {H : Type} {enc : TypeId × Value → H} {P : Program} {w : World} {base : Nat} {spare : Nat → Bool} {held : Bool}
theorem rep_of_trod_r {fuel:Nat} {cs:List Value} {x:DataW H × List MemPlace} {α:Type} [Inhabited α] (E:El α) {t e:TypeId} (ht:P.underlying t=some (.slice e)) (hc:P.cellsOf e=E.sz) (Q:α→Prop)
 (hel:∀ n,n < fuel→∀ cs x,DataW.trod enc P w base spare held n e cs=some x→∃ y,cs=E.c y∧Q y) (h:DataW.trod enc P w base spare held fuel t cs=some x):∃ v xs,cs=[v]∧Rep E w v xs∧∀ y∈xs,Q y:=by
 rcases DataW.trod_slice ht h with ⟨rfl,_⟩ | ⟨a,len,cap,elems,rest,n,rfl,rfl,_,hb,hl,hm,hlen,hx,_,_⟩
 ·exact ⟨_,[],rfl,Rep.nil w,fun y h=>by simp at h⟩
 ·have each:∀ i,i < len→∃ y,w.cells? base (a.add (i * E.sz)) E.sz=some (E.c y)∧Q y:=fun i hi=>by
   have key:=hx i hi
   rw [List.getElem?_eq_getElem (by omega)] at key
   obtain ⟨cs',h1,h2⟩:=Option.bind_eq_some_iff.1 key
   obtain ⟨y,rfl,hq⟩:=hel n (by omega) cs' _ h2
   rw [hc] at h1
   exact ⟨y,h1,hq⟩
  obtain ⟨f,hf⟩:=choose_lt each
  refine ⟨_,(List.range len).map f,rfl,⟨some a,cap,by simp,by simpa using hl,hm,fun i y hy => ?_⟩, ?_⟩
  ·simp only [List.getElem?_map] at hy
   have hi:i < len:=by
    rcases Nat.lt_or_ge i len with h | h
    ·exact h
    ·rw [List.getElem?_eq_none (by simpa using h)] at hy;simp at hy
   rw [List.getElem?_range hi] at hy
   simp at hy
   subst hy
   have h0:=cells_get (hf 0 (by omega)).1 (El.first (E:=E) (f 0)).choose_spec
   rw [Nat.zero_mul] at h0
   have hsp:a.spot=none:=addr_of_cell (a:=a) (by simpa [Addr.add] using h0)
   obtain ⟨ab,ao,asp⟩:=a
   simp at hsp
   subst hsp
   refine ⟨ab,ao,rfl,fun j u hu => ?_⟩
   have:=cells_get (hf i hi).1 hu
   rwa [add_none,add_none] at this
  ·intro y hy
   simp only [List.mem_map,List.mem_range] at hy
   obtain ⟨i,hi,rfl⟩:=hy
   exact (hf i hi).2
end
theorem mem_of_rows {α β:Type} {Q:α→β→Prop} {us:List α} {ks:List β} (hl:ks.length=us.length) (h:∀ (i:Nat) (u:α) (r:β),us[i]? = some u→ks[i]? = some r→Q u r):∀ k∈ks,∃ u,Q u k:=by
 intro k hk
 obtain ⟨i,hi⟩:=List.getElem?_of_mem hk
 obtain ⟨u,hu⟩:=get_of_lt (xs:=us) (k:=i) (by rw [← hl];exact (List.getElem?_eq_some_iff.1 hi).1)
 exact ⟨u,h i u k hu hi⟩
section
variable {H : Type} {enc : TypeId × Value → H} {w : World} {base : Nat} {spare : Nat → Bool} {held : Bool}
theorem insR_of_trod:∀ (n:Nat) (cs:List Value) (x:DataW H × List MemPlace),DataW.trod enc Tryz.prog w base spare held n 105 cs=some x→∃ y:Ins,cs=InsE.c y:=by
 intro n cs x hx
 obtain ⟨xs,m,rfl,rfl,hlen,hxl,hf⟩:=DataW.trod_struct Tryz.underlying105 hx
 rw [Tryz.cellsInsR] at hlen
 obtain ⟨a,b,c,d,rfl⟩:=fourR hlen
 have h0:DataW.trod enc Tryz.prog w base spare held m 3 (([a,b,c,d].drop 0).take (Tryz.prog.cellsOf 3))=xs[0]?:=hf 0 _ rfl
 have h1:DataW.trod enc Tryz.prog w base spare held m 3 (([a,b,c,d].drop 1).take (Tryz.prog.cellsOf 3))=xs[1]?:=hf 1 _ rfl
 have h2:DataW.trod enc Tryz.prog w base spare held m 3 (([a,b,c,d].drop 2).take (Tryz.prog.cellsOf 3))=xs[2]?:=hf 2 _ rfl
 have h3:DataW.trod enc Tryz.prog w base spare held m 3 (([a,b,c,d].drop 3).take (Tryz.prog.cellsOf 3))=xs[3]?:=hf 3 _ rfl
 rw [Tryz.cellsIntR] at h0 h1 h2 h3
 have hxl':xs.length=4:=hxl
 obtain ⟨i0,rfl⟩:=trod_one (v:=a) Tryz.underlying3 h0 (by rw [List.getElem?_eq_getElem (by omega)];simp)
 obtain ⟨i1,rfl⟩:=trod_one (v:=b) Tryz.underlying3 h1 (by rw [List.getElem?_eq_getElem (by omega)];simp)
 obtain ⟨i2,rfl⟩:=trod_one (v:=c) Tryz.underlying3 h2 (by rw [List.getElem?_eq_getElem (by omega)];simp)
 obtain ⟨i3,rfl⟩:=trod_one (v:=d) Tryz.underlying3 h3 (by rw [List.getElem?_eq_getElem (by omega)];simp)
 exact ⟨⟨i0,i1,i2,i3⟩,rfl⟩
theorem progR_of_trod {v:Value} {d:DataW H} {ps:List MemPlace} (hok:∃ a len cap,v = .slice a len cap) (h:DataW.Trod enc Tryz.prog w base spare held 22 v d ps):∃ p,Rep2 InsE w v p:=by
 obtain ⟨fuel,hf⟩:=h
 obtain ⟨v',p,hv,hp⟩:=rep2_of_trod InsE Tryz.underlying22 Tryz.underlying58 Tryz.cellsInsSR Tryz.cellsInsR insR_of_trod hf
 obtain ⟨a,len,cap,rfl⟩:=hok
 simp [Value.cells] at hv
 subst hv
 exact ⟨p,hp⟩
theorem relL_of_trod:∀ (fuel:Nat) (cs:List Value) (x:DataW H × List MemPlace),DataW.trod enc Tryz.prog w base spare held fuel 60 cs=some x→∃ (s:Slc) (ks:List Re),cs=[s.v]∧RepRk 0 w s ks∧∀ k∈ks,NmOk k:=by
 intro fuel
 induction fuel using Nat.strongRecOn with
 | ind fuel ih =>
  intro cs x h
  obtain ⟨v,us,rfl,hr,hq⟩:=rep_of_trod_r RsE Tryz.underlying60 Tryz.cellsRelR (fun u => ∃ c,RepRe 0 w u c∧NmOk c) (fun n hn cs x hx=>by
   obtain ⟨xs,m,rfl,rfl,hlen,hxl,hf⟩:=DataW.trod_struct Tryz.underlying62 hx
   rw [Tryz.cellsRelR] at hlen
   obtain ⟨a,b,c,rfl⟩:=threeR hlen
   have h0:DataW.trod enc Tryz.prog w base spare held m 3 (([a,b,c].drop 0).take (Tryz.prog.cellsOf 3))=xs[0]?:=hf 0 _ rfl
   have h1:DataW.trod enc Tryz.prog w base spare held m 9 (([a,b,c].drop 1).take (Tryz.prog.cellsOf 9))=xs[1]?:=hf 1 _ rfl
   have h2:DataW.trod enc Tryz.prog w base spare held m 60 (([a,b,c].drop 2).take (Tryz.prog.cellsOf 60))=xs[2]?:=hf 2 _ rfl
   rw [Tryz.cellsIntR] at h0
   rw [Tryz.cellsStrR] at h1
   rw [Tryz.cellsRelSR] at h2
   have hxl':xs.length=3:=hxl
   obtain ⟨i0,rfl⟩:=trod_one (v:=a) Tryz.underlying3 h0 (by rw [List.getElem?_eq_getElem (by omega)];simp)
   rw [List.getElem?_eq_getElem (by omega)] at h1 h2
   obtain ⟨p,hp, -,hps⟩:=DataW.trod_string Tryz.underlying9 h1
   have hp':b = .string p:=by simpa using hp
   subst hp'
   obtain ⟨s,ks,he,hk,hnk⟩:=ih m (by omega) _ _ h2
   have he':c=s.v:=by simpa using he
   subst he'
   exact ⟨⟨i0,p,s⟩,rfl,_,hk.cond i0 p, .mk (by unfold maxLen at hps;omega) hnk⟩) h
  obtain ⟨ks,h1,h2⟩:=choose_rows us hq
  obtain ⟨a,c,rfl,h3,h4,h5⟩:=hr
  exact ⟨⟨a,us.length,c⟩,ks,rfl,⟨us,h1.symm,⟨a,c,rfl,h3,h4,h5⟩, .inr fun b o _=>Nat.zero_le _,fun i u r hu hr=>(h2 i u r hu hr).1⟩,fun k hk=>by
   obtain ⟨u,hu⟩:=mem_of_rows h1 h2 k hk
   exact hu.2⟩
theorem model_of_trod {v:Value} {d:DataW H} {ps:List MemPlace} (hok:∃ a len cap,v = .slice a len cap) (h:DataW.Trod enc Tryz.prog w base spare held 23 v d ps):∃ (a:Option Addr) (n c:Nat) (m:List Ru),v = .slice a n c∧RepM 0 w ⟨a,n,c⟩ m∧∀ r∈m,NmOk r.e:=by
 obtain ⟨fuel,hf⟩:=h
 obtain ⟨v',us,hv,hr,hq⟩:=rep_of_trod_r UsE Tryz.underlying23 Tryz.cellsRuR (fun u => ∃ r,RepU 0 w u r∧NmOk r.e) (fun n hn cs x hx=>by
  obtain ⟨xs,m,rfl,rfl,hlen,hxl,hf⟩:=DataW.trod_struct Tryz.underlying64 hx
  rw [Tryz.cellsRuR] at hlen
  obtain ⟨a,b,c,d,rfl⟩:=fourR hlen
  have h0:DataW.trod enc Tryz.prog w base spare held m 3 (([a,b,c,d].drop 0).take (Tryz.prog.cellsOf 3))=xs[0]?:=hf 0 _ rfl
  have h1:DataW.trod enc Tryz.prog w base spare held m 62 (([a,b,c,d].drop 1).take (Tryz.prog.cellsOf 62))=xs[1]?:=hf 1 _ rfl
  rw [Tryz.cellsIntR] at h0
  rw [Tryz.cellsRelR] at h1
  have hxl':xs.length=2:=hxl
  obtain ⟨i0,rfl⟩:=trod_one (v:=a) Tryz.underlying3 h0 (by rw [List.getElem?_eq_getElem (by omega)];simp)
  rw [List.getElem?_eq_getElem (by omega)] at h1
  obtain ⟨ys,m2, -, -, -,hyl,hf2⟩:=DataW.trod_struct Tryz.underlying62 h1
  have hyl':ys.length=3:=hyl
  have k0:DataW.trod enc Tryz.prog w base spare held m2 3 (([b,c,d].drop 0).take (Tryz.prog.cellsOf 3))=ys[0]?:=hf2 0 _ rfl
  have k1:DataW.trod enc Tryz.prog w base spare held m2 9 (([b,c,d].drop 1).take (Tryz.prog.cellsOf 9))=ys[1]?:=hf2 1 _ rfl
  have k2:DataW.trod enc Tryz.prog w base spare held m2 60 (([b,c,d].drop 2).take (Tryz.prog.cellsOf 60))=ys[2]?:=hf2 2 _ rfl
  rw [Tryz.cellsIntR] at k0
  rw [Tryz.cellsStrR] at k1
  rw [Tryz.cellsRelSR] at k2
  obtain ⟨i1,rfl⟩:=trod_one (v:=b) Tryz.underlying3 k0 (by rw [List.getElem?_eq_getElem (by omega)];simp)
  rw [List.getElem?_eq_getElem (by omega)] at k1 k2
  obtain ⟨p,hp, -,hps⟩:=DataW.trod_string Tryz.underlying9 k1
  have hp':c = .string p:=by simpa using hp
  subst hp'
  obtain ⟨s,ks,he,hk,hnk⟩:=relL_of_trod m2 _ _ k2
  have he':d=s.v:=by simpa using he
  subst he'
  exact ⟨⟨i0,i1,p,s⟩,rfl,⟨i0, .mk i1 p ks⟩,⟨rfl,rfl,rfl,hk⟩, .mk (by unfold maxLen at hps;omega) hnk⟩) hf
 obtain ⟨ms,h1,h2⟩:=choose_rows us hq
 obtain ⟨a,len,cap,rfl⟩:=hok
 simp [Value.cells] at hv
 subst hv
 obtain ⟨a',c',hv,h3,h4,h5⟩:=hr
 simp only [Value.slice.injEq] at hv
 obtain ⟨rfl,rfl,rfl⟩:=hv
 exact ⟨a,us.length,cap,ms,rfl,⟨us,h1.symm,⟨a,cap,rfl,h3,h4,h5⟩, .inr fun b o _=>Nat.zero_le _,fun i u r hu hr=>(h2 i u r hu hr).1⟩,fun r hr=>by
  obtain ⟨u,hu⟩:=mem_of_rows h1 h2 r hr
  exact hu.2⟩
end
end Go.Proofs.YtkfhgnkonaafgaaGreatDoor
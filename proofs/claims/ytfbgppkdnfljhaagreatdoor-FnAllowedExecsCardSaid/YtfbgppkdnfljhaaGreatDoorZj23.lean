/-
  The programs that are drawn for ProgramValid and GapsOf. Condition: bytes.
-/
import Derived.Test.YtfbgppkdnfljhaaGreatDoorZj19
import Derived.Test.YtfbgppkdnfljhaaGreatDoorZj15
import Derived.Test.YtfbgppkdnfljhaaGreatDoorZj11
import Derived.Test.YtfbgppkdnfljhaaGreatDoorZj04
import Derived.Test.YtfbgppkdnfljhaaGreatDoorZj20
import Derived.Deep.AppendLies
import Derived.Test.YtfbgppkdnfljhaaGreatDoorZj22
import Derived.Test.YtfbgppkdnfljhaaGreatDoorZj08
set_option maxHeartbeats 6400000
set_option maxRecDepth 100000
namespace Go.Proofs.YtfbgppkdnfljhaaGreatDoor
open Go.RowKit
theorem l6Pair_plain (nm:ByteArray) (t:Nat) (hn:Hid ((nm=⟨#[112,111]⟩∧t=0)∨(nm=⟨#[108,111,99]⟩∧t=1)∨(nm=⟨#[101,120,116]⟩∧t=2)∨(nm=⟨#[119,114]⟩∧t=7)∨(nm=⟨#[119,119]⟩∧t=8)∨(nm=⟨#[105,100]⟩∧t=9))) (pv:Value) (f1 o1 la:Option Addr) (f2 f3 o2 o3 lc:Nat) (p:List (List Ins)) (x:Xc) (i k:Nat) (w:World) (hp:RepP w pv p) (hx:RepX w (.slice f1 f2 f3) (.slice o1 o2 o3) x) (hL:Rep EvE w (.slice la (evAll p).length lc) (evAll p)) (hi:i < (evAll p).length) (hk:k < (evAll p).length) :
 Calls Tryz.prog 244 #[pv, .agg #[.slice f1 f2 f3, .slice o1 o2 o3], .slice la (evAll p).length lc, .string nm, .int .i64 i, .int .i64 k] w fun e w'=>e = .returned (.bool (relN p x t i k))∧Below w.heap.size w w':=by
 obtain ⟨a,ha⟩:=get_of_lt hi
 obtain ⟨b,hbb⟩:=get_of_lt hk
 have CE:Hid (relN p x t i k=relE p x t a b i k):=hide (relN_eq ha hbb)
 obtain ⟨d,o,rfl,hd,i0,i1,i2,i3,i4⟩:=hL.ev ha
 obtain ⟨d',o',hde,hd',j0,j1,j2,j3,j4⟩:=hL.ev hbb
 simp only [Option.some.injEq,Addr.mk.injEq,and_true] at hde
 obtain ⟨rfl,rfl⟩:=hde
 have HBW:=hide (belowAlloc w (.cells #[.slice f1 f2 f3, .slice o1 o2 o3] 60))
 have HBX:=hide (heap_alloc_new w (.cells #[.slice f1 f2 f3, .slice o1 o2 o3] 60))
 have hi':=nat_of_lt hi;have hk':=nat_of_lt hk
 have HP:=hide (hp.below HBW.out);have HX:=hide (hx.below HBW.out)
 clear hbb hL hp hx
 generalize relN p x t i k=R at *
 have RE:Hid (R=relE p x t a b i k):=CE
 clear CE
 generalize (evAll p).length=n at *
 generalize hW:w.alloc (.cells #[.slice f1 f2 f3, .slice o1 o2 o3] 60)=W0 at *
 have hWs:W0.heap.size=w.heap.size+1:=by rw [← hW];simp
 have e0:=(HBW.out.cell (p:=⟨d,o+i * 5,none⟩) hd).trans i0;have e1:=(HBW.out.cell (p:=⟨d,o+i * 5+1,none⟩) hd).trans i1;have e2:=(HBW.out.cell (p:=⟨d,o+i * 5+2,none⟩) hd).trans i2;have e3:=(HBW.out.cell (p:=⟨d,o+i * 5+3,none⟩) hd).trans i3;have e4:=(HBW.out.cell (p:=⟨d,o+i * 5+4,none⟩) hd).trans i4
 have u0:=(HBW.out.cell (p:=⟨d,o+k * 5,none⟩) hd').trans j0;have u1:=(HBW.out.cell (p:=⟨d,o+k * 5+1,none⟩) hd').trans j1;have u2:=(HBW.out.cell (p:=⟨d,o+k * 5+2,none⟩) hd').trans j2;have u3:=(HBW.out.cell (p:=⟨d,o+k * 5+3,none⟩) hd').trans j3;have u4:=(HBW.out.cell (p:=⟨d,o+k * 5+4,none⟩) hd').trans j4
 have hdW:=lt_of_cell e0
 have HWS:=hide hWs
 have EA:EvAt ((W0.alloc (.cells #[.int .i64 a.t, .int .i64 a.i, .int .i64 a.l, .bool a.r, .bool a.w] 130)).alloc (.cells #[.int .i64 b.t, .int .i64 b.i, .int .i64 b.l, .bool b.r, .bool b.w] 130)) W0.heap.size (W0.heap.size+1) a b:=
  ⟨by simp;omega,by simp,by simp [go_sem],by simp [go_sem],by simp [go_sem],by simp [go_sem],by simp [go_sem],by simp [go_sem],by simp [go_sem],by simp [go_sem],by simp [go_sem],by simp [go_sem]⟩
 have hbW:Below W0.heap.size W0 ((W0.alloc (.cells #[.int .i64 a.t, .int .i64 a.i, .int .i64 a.l, .bool a.r, .bool a.w] 130)).alloc (.cells #[.int .i64 b.t, .int .i64 b.i, .int .i64 b.l, .bool b.r, .bool b.w] 130)):=((Below.refl _ _).alloc (Nat.le_refl _) _).alloc (by simp) _
 have HE:=hide EA;have HB0:=hide hbW
 clear i0 i1 i2 i3 i4 j0 j1 j2 j3 j4 ha hWs EA hbW
 go_enter Tryz.func244,Tryz.ntmps244
 go_upto_region 3 with fail
 clear hW
 clear e0 e1 e2 e3 e4 u0 u1 u2 u3 u4
 generalize ((W0.alloc (.cells #[.int .i64 a.t, .int .i64 a.i, .int .i64 a.l, .bool a.r, .bool a.w] 130)).alloc (.cells #[.int .i64 b.t, .int .i64 b.i, .int .i64 b.l, .bool b.r, .bool b.w] 130))=wc at *
 obtain ⟨h7,h8,a0,a1,a2,a3,a4,c0,c1,c2,c3,c4⟩:=HE.out
 have HBC:=hide (HBW.out.trans (HB0.out.mono HBW.out.size))
 have hwx:=(HB0.out.block w.heap.size (Array.getElem?_eq_some_iff.1 HBX.out).1).trans HBX.out
 have x0:wc.cell? ⟨w.heap.size,0,none⟩=some (.slice f1 f2 f3):=cell_of_heapV hwx (k:=0) rfl
 have x1:wc.cell? ⟨w.heap.size,1,none⟩=some (.slice o1 o2 o3):=cell_of_heapV hwx (k:=1) rfl
 have xl:=lt_of_cell x0
 clear hwx
 obtain ⟨SM,hSM⟩:∃ SM,SM=((a.t==b.t)&&decide (0≤a.t)):=⟨_,rfl⟩
 have HSM:=hide hSM
 clear hSM
 go_cut [15] (fun s15 W=>s15 = .bool SM∧W=wc)
 case first =>
  by_cases g2:a.t=b.t
  ·have k2:(a.t==b.t)=true:=by simp [g2]
   have E:Hid (SM=decide (0≤a.t)):=hide (by rw [HSM.out,k2];rfl)
   clear g2
   go_wp2_with fail
   go_meet
   exact ⟨by rw [E.out],rfl⟩
  ·have k2:(a.t==b.t)=false:=by simp [g2]
   have E:Hid (SM=false):=hide (by rw [HSM.out,k2];rfl)
   clear g2
   go_wp2_with fail
   go_meet
   exact ⟨by rw [E.out],rfl⟩
 case rest =>
  obtain ⟨rfl,rfl⟩:=hcut
  rcases hn.out with ⟨rfl,rfl⟩ | ⟨rfl,rfl⟩ | ⟨rfl,rfl⟩ | ⟨rfl,rfl⟩ | ⟨rfl,rfl⟩ | ⟨rfl,rfl⟩
  ·have n0:((⟨#[112,111]⟩:ByteArray).toList==[112,111])=true:=by kernel_rfl
   have RV:Hid (R=(SM&&decide (a.i < b.i))):=hide (by
    rw [RE.out,HSM.out]
    show (decide (0≤a.t)&&((a.t==b.t)&&decide (a.i < b.i)))=_
    cases decide (0≤a.t) <;> cases (a.t==b.t) <;> rfl)
   cases SM
   ·have RP:Hid (R=false):=hide (by rw [RV.out];rfl)
    go_wp2_with fail
    go_ret
    exact ⟨by rw [RP.out];rfl,HBC.out⟩
   ·have RP:Hid (R=decide (a.i < b.i)):=hide (by rw [RV.out];rfl)
    go_wp2_with fail
    go_ret
    exact ⟨by rw [RP.out];rfl,HBC.out⟩
  ·have n0:((⟨#[108,111,99]⟩:ByteArray).toList==[112,111])=false:=by kernel_rfl
   have n1:((⟨#[108,111,99]⟩:ByteArray).toList==[108,111,99])=true:=by kernel_rfl
   have RP:Hid (R=(a.l==b.l)):=hide (by rw [RE.out];rfl)
   go_wp2_with fail
   go_ret
   exact ⟨by rw [RP.out];rfl,HBC.out⟩
  ·have n0:((⟨#[101,120,116]⟩:ByteArray).toList==[112,111])=false:=by kernel_rfl
   have n1:((⟨#[101,120,116]⟩:ByteArray).toList==[108,111,99])=false:=by kernel_rfl
   have n2:((⟨#[101,120,116]⟩:ByteArray).toList==[101,120,116])=true:=by kernel_rfl
   have RP:Hid (R = !SM):=hide (by
    rw [RE.out,HSM.out]
    show ((a.t != b.t)||decide (a.t < 0))=_
    have h1:decide (a.t < 0) = !decide (0≤a.t):=by
     by_cases h:a.t < 0
     ·have h':¬ 0≤a.t:=by omega
      simp [h,h']
     ·have h':0≤a.t:=by omega
      simp [h,h']
    rw [h1]
    simp only [bne]
    cases (a.t==b.t) <;> cases decide (0≤a.t) <;> rfl)
   go_wp2_with fail
   go_ret
   exact ⟨by rw [RP.out];rfl,HBC.out⟩
  ·have n0:((⟨#[119,114]⟩:ByteArray).toList==[112,111])=false:=by kernel_rfl
   have n1:((⟨#[119,114]⟩:ByteArray).toList==[108,111,99])=false:=by kernel_rfl
   have n2:((⟨#[119,114]⟩:ByteArray).toList==[101,120,116])=false:=by kernel_rfl
   have n3:((⟨#[119,114]⟩:ByteArray).toList==[114,102])=false:=by kernel_rfl
   have n4:((⟨#[119,114]⟩:ByteArray).toList==[99,111])=false:=by kernel_rfl
   have n5:((⟨#[119,114]⟩:ByteArray).toList==[102,114])=false:=by kernel_rfl
   have n6:((⟨#[119,114]⟩:ByteArray).toList==[102,101,110,99,101])=false:=by kernel_rfl
   have n7:((⟨#[119,114]⟩:ByteArray).toList==[119,114])=true:=by kernel_rfl
   obtain ⟨at',ai,al,ar,aw⟩:=a
   obtain ⟨bt,bi,bl,br,bw⟩:=b
   simp only at a0 a1 a2 a3 a4 c0 c1 c2 c3 c4
   have RP:Hid (R=((aw && !ar)&&(br && !bw))):=hide (by rw [RE.out];rfl)
   clear HSM HE
   cases aw <;> cases ar <;> cases br <;> cases bw
   all_goals
    go_wp2_with fail
    go_ret
    exact ⟨by rw [RP.out];rfl,HBC.out⟩
  ·have n0:((⟨#[119,119]⟩:ByteArray).toList==[112,111])=false:=by kernel_rfl
   have n1:((⟨#[119,119]⟩:ByteArray).toList==[108,111,99])=false:=by kernel_rfl
   have n2:((⟨#[119,119]⟩:ByteArray).toList==[101,120,116])=false:=by kernel_rfl
   have n3:((⟨#[119,119]⟩:ByteArray).toList==[114,102])=false:=by kernel_rfl
   have n4:((⟨#[119,119]⟩:ByteArray).toList==[99,111])=false:=by kernel_rfl
   have n5:((⟨#[119,119]⟩:ByteArray).toList==[102,114])=false:=by kernel_rfl
   have n6:((⟨#[119,119]⟩:ByteArray).toList==[102,101,110,99,101])=false:=by kernel_rfl
   have n7:((⟨#[119,119]⟩:ByteArray).toList==[119,114])=false:=by kernel_rfl
   have n8:((⟨#[119,119]⟩:ByteArray).toList==[119,119])=true:=by kernel_rfl
   obtain ⟨at',ai,al,ar,aw⟩:=a
   obtain ⟨bt,bi,bl,br,bw⟩:=b
   simp only at a0 a1 a2 a3 a4 c0 c1 c2 c3 c4
   have RP:Hid (R=((aw && !ar)&&(bw && !br))):=hide (by rw [RE.out];rfl)
   clear HSM HE
   cases aw <;> cases ar <;> cases br <;> cases bw
   all_goals
    go_wp2_with fail
    go_ret
    exact ⟨by rw [RP.out];rfl,HBC.out⟩
  ·have n0:((⟨#[105,100]⟩:ByteArray).toList==[112,111])=false:=by kernel_rfl
   have n1:((⟨#[105,100]⟩:ByteArray).toList==[108,111,99])=false:=by kernel_rfl
   have n2:((⟨#[105,100]⟩:ByteArray).toList==[101,120,116])=false:=by kernel_rfl
   have n3:((⟨#[105,100]⟩:ByteArray).toList==[114,102])=false:=by kernel_rfl
   have n4:((⟨#[105,100]⟩:ByteArray).toList==[99,111])=false:=by kernel_rfl
   have n5:((⟨#[105,100]⟩:ByteArray).toList==[102,114])=false:=by kernel_rfl
   have n6:((⟨#[105,100]⟩:ByteArray).toList==[102,101,110,99,101])=false:=by kernel_rfl
   have n7:((⟨#[105,100]⟩:ByteArray).toList==[119,114])=false:=by kernel_rfl
   have n8:((⟨#[105,100]⟩:ByteArray).toList==[119,119])=false:=by kernel_rfl
   have n9:((⟨#[105,100]⟩:ByteArray).toList==[105,100])=true:=by kernel_rfl
   have RP:Hid (R=((i:Int)==(k:Int))):=hide (by
    rw [RE.out]
    show (i==k)=_
    rw [Bool.eq_iff_iff];simp only [beq_iff_eq];omega)
   go_wp2_with fail
   go_ret
   exact ⟨by rw [RP.out];rfl,HBC.out⟩
end Go.Proofs.YtfbgppkdnfljhaaGreatDoor
namespace Go.Proofs.YtfbgppkdnfljhaaGreatDoor
open Go.RowKit
theorem wpList_appL {α:Type} (E:El α) {P:Program} {w:World} {ops:Array Oper} {rest:List Oper} {o:Oper} {a:Act} {Q:Exit→Act→World→Prop}
 (T:TypeId) {zv:Value} {bytes:Nat} (hinfo:(P.info? T).map (fun i=>(i.zero,i.size,i.bytes))=some (some zv,E.sz,bytes)) (hz:zv.cells.size=E.sz) {t:TypeId} (h1:P.underlying t=some (.slice T))
 (base:Nat) (v:Value) (xs:List α) (x:α) (hown:Own E T w base v xs) (hby:bytes≤256) (hn:xs.length≤68719476736) (hbase:base≤w.heap.size)
 (hg:o.guard=none) (s y:Operand) (hop:o.op = .call { callee:=.builtin .append,args:=#[s,y],argTypes:=#[t,t] })
 (hs:a.eval s=v) (b off c:Nat) (hy:a.eval y = .slice (some ⟨b,off,none⟩) 1 c) (hnews:∀ j u,(E.c x)[j]? = some u→w.cell? ⟨b,off+j,none⟩=some u)
 (hK:∀ (u:Slc) w',Own E T w' base u.v (xs++[x])→w.grownBy w' v.ownBlock→(u.v.ownBlock=v.ownBlock∨u.v.ownBlock=some w.heap.size)→wpList P ops Q rest (a.put o.dst (.slice u.a u.n u.cap)) w') :
 wpList P ops Q (o :: rest) a w:=by
 obtain ⟨it,hi,hz0,hz1,hz2⟩:=info_parts hinfo
 refine wpList_append_lies w hg s y t hop base T it zv E.sz bytes h1 hi hz0 hz1 hz2 hz E.pos v xs.length _ hs hown ⟨b,off,none⟩ 1 c (E.c x) hy (by rw [E.len,Nat.one_mul]) ?_ (E.one x) (by omega) (by unfold maxLen;omega) ?_ hbase _ rfl ?_
 ·intro j u hu
  have hadd:(⟨b,off,none⟩:Addr).add j=⟨b,off+j,none⟩:=by unfold Addr.add;split <;> simp_all
  rw [hadd]
  exact hnews j u hu
 ·have:=Nat.mul_le_mul (show xs.length+1≤68719476737 by omega) hby
  omega
 ·intro g cap w' h2 h3 h4 _
  refine hK ⟨some ⟨g,0,none⟩,xs.length+1,cap⟩ w' ?_ h3 ?_
  ·unfold Own
   simpa [List.flatMap_append,Slc.v] using h2
  ·rcases h4 with h4 | h4
   ·exact .inl (by rw [h4];rfl)
   ·exact .inr (by rw [h4];rfl)
theorem one_nil (w:World):RowsI (w.alloc (.cells #[.slice none 0 0] 57)) w.heap.size (.slice (some ⟨w.heap.size,0,none⟩) 1 1) [[]]:=by
 have h1:=Own.lit1 (E:=SlcE) (T:=57) w (base:=w.heap.size) (Nat.le_refl _) ⟨none,0,0⟩
 refine ⟨[⟨none,0,0⟩],[⟨w.heap.size,w.heap.size,[]⟩],rfl,rfl,by simp,h1,fun i u d x h2 h3 h4 => ?_⟩
 cases i with
 | succ i=>simp at h2
 | zero =>
  simp at h2 h3 h4
  subst h2;subst h3;subst h4
  have h0:=Own.nil (E:=IntE) 3 w w.heap.size
  exact ⟨Nat.le_refl _,(PhiI.loc (u:=⟨none,0,0⟩) h0).below ((Below.refl _ w).alloc (Nat.le_refl _) _)⟩
theorem orders_any (n:Nat):∀ (v:Value) (xs:List Int) (w:World),xs.length=n→fact n≤3000→Rep IntE w v xs →
 Calls Tryz.prog 96 #[v] w fun e w' => ∃ u:Slc,e = .returned (.slice u.a u.n u.cap)∧RowsI w' w.heap.size u.v (permsL xs)∧Below w.heap.size w w':=by
 induction n with
 | zero =>
  intro v xs w hx _ he
  obtain rfl:xs=[]:=List.length_eq_zero_iff.1 hx
  obtain ⟨a,c,rfl, -, -, -, -⟩:=he.open
  rw [permsL_nil]
  go_enter Tryz.func96,Tryz.ntmps96
  go_wp2_with fail
  go_ret
  exact ⟨⟨some ⟨w.heap.size,0,none⟩,1,1⟩,rfl,one_nil w,(Below.refl _ _).alloc (Nat.le_refl _) _⟩
 | succ n ih =>
  intro v xs w hx hfact he
  have hn6:=fact_lt hfact
  have HI:=hide (fun v' xs' w' h1 h2=>ih v' xs' w' h1 (Nat.le_trans (fact_mono (Nat.le_succ n)) hfact) h2)
  have HP0:Hid (permTo xs 0=[]):=hide rfl
  have HPS:=hide (permTo_succ xs)
  have HPL:=hide (fun k (hk:k≤n+1)=>Nat.le_trans (permTo_length xs k (by omega)) (by rw [hx];exact hfact))
  have HPE:Hid (permsL xs=permTo xs (n+1)):=hide (by rw [permsL_step (by omega),hx];rfl)
  have HE:=hide he
  have HXL:=hide hx
  have HCL:=hide (CloneV_any v xs)
  obtain ⟨a,c,rfl,hnc, -, -, -⟩:=he.open
  obtain ⟨x0,hx0⟩:=get_of_lt (xs:=xs) (k:=0) (by omega)
  obtain ⟨b,o,rfl,hbl, -⟩:=he.int hx0
  rw [hx] at hnc ⊢
  have hne:(((n+1:Nat):Int)==0)=false:=by simp;omega
  rw [hx] at HE HCL
  have HFA:Hid (fact (n+1)≤3000):=hide hfact
  clear he ih hx hx0 hfact
  generalize permsL xs=R at *
  generalize hm:n+1=m at *
  have HM:=hide hm
  clear hm
  go_enter Tryz.func96,Tryz.ntmps96
  go_wp2_with fail
  go_loopw [3,14] (fun s i wr => ∃ k:Nat,k≤m∧i = .int .i64 k∧RowsI wr w.heap.size s (permTo xs k)∧Below w.heap.size w wr) (fun _ i _=>m - (intOf i).toNat)
  case atStart=>exact ⟨0,Nat.zero_le _,rfl,by rw [HP0.out];exact OwnF.nil _ w _,Below.refl _ _⟩
  case round =>
   obtain ⟨k,hk,rfl,hrows,hbr⟩:=hrel
   by_cases hlt:k < m
   ·obtain ⟨x,hxk⟩:=get_of_lt (xs:=xs) (k:=k) (by rw [HXL.out];exact hlt)
    have hltk:=nat_of_lt hlt
    have PS:=hide (HPS.out k)
    have hgd:xs.getD k 0=x:=by simp [List.getD,hxk]
    rw [hgd] at PS
    have PL:=hide (HPL.out k hk)
    generalize permTo xs k=G at *
    have HEr:=HE.out.below hbr
    obtain ⟨b',o',hbo,hbf,f0⟩:=HEr.int hxk
    simp only [Option.some.injEq,Addr.mk.injEq,and_true] at hbo
    obtain ⟨rfl,rfl⟩:=hbo
    have hwk:wrap64 ((k:Int)+1)=(k:Int)+1:=by unfold wrap64;omega
    have hwk2:IntKind.i64.wrap ((k:Int)+1)=(k:Int)+1:=by rw [IntKind.wrap_i64];omega
    have HC1:=hide (HCL.out wr HEr (by omega))
    have HEE:=hide HEr
    have HRO:=hide hrows;have HBR:=hide hbr
    clear HEr hrows hbr
    go_wp2_with fail
    (with_reducible refine HC1.out.mono ?_);rintro e w1 ⟨vc,rfl,oc,hb1⟩
    have HD:=hide (Delete_any vc xs w1 wr.heap.size k oc (by rw [HXL.out];exact hlt))
    have HB1:=hide hb1;have HOC:=hide oc
    obtain ⟨⟨ca,cn,cc⟩,rfl, -⟩:=oc.toSlc
    clear oc hb1 HC1
    go_wp2_with fail
    (with_reducible refine HD.out.mono ?_);rintro e w2 ⟨⟨da,dn,dc⟩,rfl,od,hg2⟩
    have HB2:=hide (HB1.out.grown hg2 HB1.out.size (fun q hq=>(World.ownsRow.lt HOC.out q hq).1))
    have HC:=hide (HI.out _ (xs.eraseIdx k) w2 (by rw [List.length_eraseIdx,HXL.out,if_pos hlt];have:=HM.out;omega) od.rep)
    have HRL:=hide (fun r (hr:r∈permsL (xs.eraseIdx k))=>permsL_row n (xs.eraseIdx k) (by rw [List.length_eraseIdx,HXL.out,if_pos hlt];have:=HM.out;omega) r hr)
    have HRN0:=hide (permsL_length (xs.eraseIdx k))
    have HEL:Hid (fact (xs.eraseIdx k).length≤3000):=hide (by
     rw [List.length_eraseIdx,HXL.out,if_pos hlt]
     refine Nat.le_trans (fact_mono (Nat.sub_le m 1)) ?_
     have:=HFA.out
     exact this)
    have HB7:=hide (HBR.out.trans (HB2.out.mono HBR.out.size))
    have HR7:=hide (OwnF.below HRO.out HB2.out)
    have HQ3:Hid (∀ q,u3.ownBlock=some q→q < w2.heap.size):=hide (fun q hq=>by
     obtain ⟨us,ds,hU⟩:=HRO.out
     exact Nat.lt_of_lt_of_le (World.ownsRow.lt hU.own q hq).2 HB2.out.size)
    clear od hg2 HB2 HD HB1 HOC HRO HBR hwk hwk2 hbf f0 HEE
    generalize permsL (xs.eraseIdx k)=RR at *
    go_wp2_with fail
    (with_reducible refine HC.out.mono ?_);rintro e w8 ⟨⟨ra,rn,rc⟩,rfl,ou,hb8⟩
    have hrn:rn=RR.length:=by
     rcases ou.shape with ⟨h1,h2⟩ | ⟨g,cap,h1, -⟩
     ·simp only [Slc.v,Value.slice.injEq] at h1;rw [h1.2.1,h2];rfl
     ·simp only [Slc.v,Value.slice.injEq] at h1;exact h1.2.1
    have HRN:Hid (RR.length=rn):=hide hrn.symm
    have hrb:rn≤3000:=by have:=HRN0.out;have:=HEL.out;omega
    have HRS:=hide ou
    have HQ8:Hid (∀ q,(Slc.v ⟨ra,rn,rc⟩).ownBlock=some q→w2.heap.size≤q∧q < w8.heap.size):=hide (fun q hq=>by
     obtain ⟨us,ds,hU⟩:=ou
     exact World.ownsRow.lt hU.own q hq)
    have HR8:=hide (OwnF.below HR7.out hb8)
    have HB8:=hide (HB7.out.trans (hb8.mono HB7.out.size))
    have h78:=hb8.size
    clear ou hb8 hrn HR7 HB7 HC
    go_wp2_with fail
    go_loopw [3,27] (fun s i wr => ∃ j:Nat,j≤rn∧i = .int .i64 j∧RowsI wr w.heap.size s (G++(RR.take j).map (x :: ·))∧RowsI wr w2.heap.size (.slice ra rn rc) RR∧Hid (∀ q,s.ownBlock=some q→q < w2.heap.size∨w8.heap.size≤q)∧Below w.heap.size w wr∧w8.heap.size≤wr.heap.size) (fun _ i _=>rn - (intOf i).toNat)
    case atStart=>exact ⟨0,Nat.zero_le _,rfl,by rw [List.take_zero,List.map_nil,List.append_nil];exact HR8.out,HRS.out,hide (fun q hq => .inl (HQ3.out q hq)),HB8.out,Nat.le_refl _⟩
    case round =>
     obtain ⟨j,hj,rfl,hrows,hrest,hsq,hbr,hsz⟩:=hrel
     by_cases hltj:j < rn
     ·obtain ⟨r,hrj⟩:=get_of_lt (xs:=RR) (k:=j) (by rw [HRN.out];exact hltj)
      have hltj':=nat_of_lt hltj
      obtain ⟨⟨sa,sn,sc⟩,g,hga,hg,g0,hrep⟩:=RowsI.row hrest hrj
      subst hga
      have hgq:=HQ8.out g rfl
      have RS:Hid (G++(RR.take (j+1)).map (x :: ·)=(G++(RR.take j).map (x :: ·))++[x :: r]):=hide (by rw [map_take_succ (x :: ·) hrj,List.append_assoc])
      have hrl:=HRL.out r (List.mem_of_getElem? hrj)
      have hlen:(G++(RR.take j).map (x :: ·)).length≤68719476736:=by
       rw [List.length_append,List.length_map,List.length_take]
       have:=PL.out;have:=HRN.out;omega
      have hn1:([x]:List Int).length+r.length≤68719476736:=by have:=HM.out;simp;omega
      have HRP:=hide (hrep.below ((Below.refl wr.heap.size wr).alloc (Nat.le_refl _) (.cells #[.int .i64 x] 3)))
      obtain ⟨us,ds,hU⟩:=hrows
      have HUL:Hid (us.length≤68719476736):=hide (by rw [hU.lu];exact hlen)
      have HU:=hide hU
      have HBR2:=hide hbr
      have HRS2:=hide hrest
      have HLT:Hid (Own IntE 3 (wr.alloc (.cells #[.int .i64 x] 3)) wr.heap.size (.slice (some ⟨wr.heap.size,0,none⟩) 1 1) [x]):=hide (Own.lit1 (E:=IntE) (T:=3) wr (Nat.le_refl _) x)
      have hbs:w.heap.size≤wr.heap.size:=hbr.size
      have HQ7:Hid (∀ q,u3.ownBlock=some q→w.heap.size≤q∧q≠g):=hide (fun q hq=>⟨(World.ownsRow.lt hU.own q hq).1,by have:=hsq.out q hq;omega⟩)
      generalize G++(RR.take j).map (x :: ·)=GG at *
      clear hrj hrep hbr hrl hU hlen hrest
      go_wp2_with (at_builtin;first
       | (refine wpList_appS IntE 3 Tryz.infoInt rfl Tryz.underlying57 wr.heap.size _ [x] r _ HLT.out HRP.out (by decide) hn1 (by simp) rfl _ _ rfl rfl rfl ?_;intro v6 w6 hown6 hgr6;obtain ⟨⟨a6,n6,c6⟩,rfl, -⟩:=hown6.toSlc;have O6:=hide hown6;have B6:=hide (((Below.refl wr.heap.size wr).alloc (Nat.le_refl _) (.cells #[.int .i64 x] 3)).grown hgr6 (by simp) (fun q hq=>by simp [Value.ownBlock] at hq;omega));have hb6:=B6.out.size;clear hown6 hgr6)
       | (refine wpList_appL SlcE 57 Tryz.infoIntS rfl Tryz.underlying58 w.heap.size _ us ⟨a6,n6,c6⟩ ((HU.out.own.below B6.out).alloc _) (by decide) HUL.out (by simp;omega) rfl _ _ rfl rfl w6.heap.size 0 1 rfl news_alloc ?_;rintro ⟨ua,un,uc⟩ w9 hown8 hgr8 hv8))
      have R8:=RowsI.app HU.out B6.out hbs rfl O6.out hown8 hgr8
      have B8:=(HBR2.out.trans (B6.out.mono hbs)).alloc (by omega) (.cells #[.slice a6 n6 c6] 57)
      have B9:=B8.grown hgr8 (by simp;omega) (fun q hq=>(HQ7.out q hq).1)
      have ba:=(Below.refl w6.heap.size w6).alloc (Nat.le_refl _) (.cells #[.slice a6 n6 c6] 57)
      have S9:=OwnF.grown_ne (OwnF.below (OwnF.below HRS2.out B6.out) ba) ((HU.out.own.below B6.out).below ba) hgr8 (.inr fun e=>(HQ7.out g e.symm).2 rfl)
      have hs9:=hgr8.size
      simp only [World.size_alloc] at hs9 hv8
      have HQ9:Hid (∀ q,(Value.slice ua un uc).ownBlock=some q→q < w2.heap.size∨w8.heap.size≤q):=hide (fun q hq=>by
       rcases hv8 with h | h
       ·rw [show (Value.slice ua un uc).ownBlock=_ from h] at hq;exact hsq.out q hq
       ·rw [show (Value.slice ua un uc).ownBlock=_ from h] at hq;simp at hq;omega)
      have HR8:=hide R8;have HS9:=hide S9;have HB9:=hide B9
      clear R8 S9 B9 B8
      go_roundw
      case rel=>exact ⟨j+1,by omega,by go_num,by rw [RS.out];exact HR8.out,HS9.out,HQ9,HB9.out,by omega⟩
      case measure=>simp [intOf];omega
     ·obtain rfl:j=rn:=by omega
      rw [List.take_of_length_le (by rw [HRN.out];exact Nat.le_refl _),← PS.out] at hrows
      go_wp2_with fail
      go_roundw
      case rel=>exact ⟨k+1,by omega,by go_num,hrows,hbr⟩
      case measure=>simp [intOf];omega
   ·obtain rfl:k=m:=by omega
    obtain ⟨us,ds,hU⟩:=hrows
    obtain ⟨⟨qa,qn,qc⟩,rfl, -⟩:=hU.own.toSlc
    have hrows:RowsI _ _ _ _:=⟨us,ds,hU⟩
    clear hU
    go_wp2_with fail
    go_ret
    exact ⟨⟨qa,qn,qc⟩,rfl,by rw [HPE.out];exact hrows,hbr⟩
end Go.Proofs.YtfbgppkdnfljhaaGreatDoor
namespace Go.Proofs.YtfbgppkdnfljhaaGreatDoor
open Go.RowKit
theorem flatten_bound9 {P:List (List Ins)} (hl:P.length≤5) (h:∀ r∈P,r.length≤9):P.flatten.length≤45:=by
 have:=flatten_bound P 9 h
 have:P.length * 9≤5 * 9:=Nat.mul_le_mul_right _ hl
 omega
end Go.Proofs.YtfbgppkdnfljhaaGreatDoor
namespace Go.Proofs.YtfbgppkdnfljhaaGreatDoor
open Go.RowKit
end Go.Proofs.YtfbgppkdnfljhaaGreatDoor
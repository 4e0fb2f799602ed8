/-
  GapsOf, of the program and of the reference; the law FnExactGapsOf.
-/
import Derived.Test.YtfbgppkdnfljhaaGreatDoorZt04
import Derived.Test.YtfbgppkdnfljhaaGreatDoorZt05
import Derived.Test.YtfbgppkdnfljhaaGreatDoorZt07
import Derived.RangeFuncNested
import Derived.RangeFuncBound
import Derived.RangeFuncCalls
import Derived.RangeFuncLeaves
import Derived.Shelf.Abstract
import Derived.Shelf.RegionOpen
import Derived.OwnWalkIn
import Derived.TacticsInMore
import Derived.LoopNIn
import Derived.LoopIn
set_option maxHeartbeats 6400000
set_option maxRecDepth 100000
namespace Go.Proofs.YtfbgppkdnfljhaaGreatDoor
open Go.RowKit
theorem news_allocV {w:World} {l:List Value} {T:TypeId} {G:Nat} (hG:w.heap.size=G):∀ (j:Nat) (u:Value),l[j]? = some u→(w.alloc (.cells l.toArray T)).cell? ⟨G,0+j,none⟩=some u:=by
 subst hG;exact news_alloc
theorem below_app2 {α:Type} {E:El α} {T:TypeId} {w wr w1:World} {o o2:Obj} {v:Value} {xs:List α} (hb:Below w.heap.size w wr) (hown:Own E T wr w.heap.size v xs) (hg:((wr.alloc o).alloc o2).grownBy w1 v.ownBlock):Below w.heap.size w w1:=
 below_app (hb.alloc hb.size o) (hown.alloc o) hg
theorem writersOf_any (v:Value) (es:List Ev) (l:Int) (w:World) (hx:Rep EvE w v es) (hl:es.length≤1048676) :
 Calls Tryz.prog 94 #[v, .int .i64 l] w (RetOwn IntE 3 w (wrL es l)):=by
 obtain ⟨a,c,rfl,hc1,hc2,hc3,hx⟩:=hx.open
 have HX:=hide hx;clear hx
 have HW:Hid (wrL es l=wrTo es l es.length):=hide rfl
 have HLEN:=hide (wrTo_length es l)
 generalize hn:es.length=n at *
 have H:=hide hn;clear hn
 go_enter Tryz.func94,Tryz.ntmps94
 go_wp2_with fail
 go_loopw [5,10] (fun s i wr => ∃ t:Nat,t≤n∧i = .int .i64 t∧OwnN wr w.heap.size s (wrTo es l t)∧Below w.heap.size w wr) (fun _ i _=>n - (intOf i).toNat)
 case atStart=>exact ⟨0,Nat.zero_le _,rfl,Own.nil _ _ _,Below.refl _ _⟩
 case round =>
  obtain ⟨t,ht,rfl,hown,hb⟩:=hrel
  by_cases hlt:t < n
  ·obtain ⟨e,hek⟩:=get_of_lt (xs:=es) (k:=t) (by rw [H.out];exact hlt)
   obtain ⟨b,o,rfl,hbl,i0,i1,i2,i3,i4⟩:=(HX.out.below hb).ev hek
   have hlt':=nat_of_lt hlt
   have HS:=hide (wrTo_succ l hek)
   have hlen:(wrTo es l t).length≤68719476736:=Nat.le_trans (HLEN.out t (by omega)) (by omega)
   clear hek
   obtain ⟨et,ei,el,er,ew⟩:=e
   simp only at i0 i1 i2 i3 i4
   generalize wrTo es l t=G at *
   cases ew
   ·have HS2:Hid (wrTo es l (t+1)=G):=hide (by rw [HS.out,wr1];simp)
    go_wp2_with fail
    go_roundw
    case rel=>exact ⟨t+1,by omega,by go_num,by rw [HS2.out];exact hown.alloc _,hb.alloc hb.size _⟩
    case measure=>simp [intOf];omega
   ·by_cases hel:el=l
    ·have HS2:Hid (wrTo es l (t+1)=G++[(t:Int)]):=hide (by rw [HS.out,wr1,if_pos (by simp [hel])])
     have k1:(el==l)=true:=by simp [hel]
     clear hel
     go_wp2_with (at_builtin;refine wpList_app IntE 3 Tryz.infoInt rfl Tryz.underlying57 w.heap.size _ G (t:Int) ((hown.alloc _).alloc _) (by decide) hlen (by simp;have:=hb.size;omega) rfl _ _ rfl rfl _ 0 1 rfl (news_allocV (by simp)) ?_;intro v' w1 hown1 hgr1)
     have hb1:=below_app2 hb hown hgr1
     go_roundw
     case rel=>exact ⟨t+1,by omega,by go_num,by rw [HS2.out];exact hown1,hb1⟩
     case measure=>simp [intOf];omega
    ·have HS2:Hid (wrTo es l (t+1)=G):=hide (by rw [HS.out,wr1,if_neg (by simp [hel])];simp)
     have k1:(el==l)=false:=by simp [hel]
     clear hel
     go_wp2_with fail
     go_roundw
     case rel=>exact ⟨t+1,by omega,by go_num,by rw [HS2.out];exact hown.alloc _,hb.alloc hb.size _⟩
     case measure=>simp [intOf];omega
  ·have e:t=n:=by omega
   go_wp2_with fail
   go_ret
   rw [HW.out,← e]
   exact ⟨_,rfl,hown,hb⟩
def PlaceOf (xs:List Int) (x q:Int):Prop:=(q = -1∧x∉xs)∨∃ k:Nat,q=k∧xs[k]? = some x∧x∉xs.take k
theorem notin_succ {xs:List Int} {x y:Int} {t:Nat} (h:x∉xs.take t) (hy:xs[t]? = some y) (hne:y≠x):x∉xs.take (t+1):=by
 rw [List.take_add_one,hy]
 simp [h,Ne.symm hne]
end Go.Proofs.YtfbgppkdnfljhaaGreatDoor
namespace Go.Proofs.YtfbgppkdnfljhaaGreatDoor
open Go.RowKit
theorem eql_slice_nil (P:Program) (w:World) (t e:TypeId) (a:Option Addr) (n c n' c':Nat) (h:P.underlying t=some (.slice e)):(binOp .eql t (.slice a n c) (.slice none n' c')).run P w = .ok (.bool a.isNone) w:=Lib.run_eql_slice_nil w t e a n c n' c' h
theorem CloneI_any (v:Value) (xs:List Ins) (w:World) (hx:Rep InsE w v xs) (hl:xs.length≤1048576) :
 Calls Tryz.prog 116 #[v] w (RetOwn InsE 104 w xs):=by
 obtain ⟨a,c,rfl,hc1,hc2,hc3,hx⟩:=hx.open
 have HX:=hide hx;clear hx
 have hlen:([]:List Ins).length+xs.length≤68719476736:=by simp;omega
 generalize hn:xs.length=n at *
 have H:=hide hn;clear hn
 cases a with
 | none =>
  have hE:=fun w':World=>eql_slice_nil Tryz.prog w' 73 104 none n c 0 0 Tryz.underlying73
  have hxs:Hid (xs=[]):=hide (by
   cases xs with
   | nil=>rfl
   | cons y ys=>obtain ⟨b,o,hb,_⟩:=HX.out.ins (k:=0) rfl;cases hb)
  go_enter Tryz.func116,Tryz.ntmps116
  go_wp2_with fail
  go_ret
  rw [hxs.out]
  exact ⟨_,rfl,Own.nil _ _ _,Below.refl _ _⟩
 | some ad =>
  have hE:=fun w':World=>eql_slice_nil Tryz.prog w' 73 104 (some ad) n c 0 0 Tryz.underlying73
  go_enter Tryz.func116,Tryz.ntmps116
  go_wp2_with (at_builtin;refine wpList_appS InsE 104 Tryz.infoIns rfl Tryz.underlying73 w.heap.size _ [] xs _ (Own.empty _ w (Nat.le_refl _)) (HX.out.below ((Below.refl _ _).alloc (Nat.le_refl _) _)) (by decide) (by rw [H.out];exact hlen) (by simp) rfl _ _ rfl rfl rfl ?_;intro v' w1 hown1 hgr1)
  go_ret
  exact ⟨_,rfl,by simpa using hown1,((Below.refl _ _).alloc (Nat.le_refl _) _).grown hgr1 (by simp) (fun k hk=>by simp [Value.ownBlock] at hk;omega)⟩
theorem cloneProgram_any (v:Value) (xs:List (List Ins)) (w:World) (hx:RepP w v xs) (hl:xs.length≤1048576) (hl2:∀ r∈xs,r.length≤1048576) :
 Calls Tryz.prog 60 #[v] w (RetOwn2 InsE 73 104 w xs):=by
 obtain ⟨a,c,rfl,hc1,hc2,hc3,hx⟩:=hx.open
 have HX:=hide hx;clear hx
 have HL2:=hide hl2;clear hl2
 generalize hn:xs.length=n at *
 have H:=hide hn;clear hn
 go_enter Tryz.func60,Tryz.ntmps60
 go_wp2_with (at_make;refine wpList_make SlcE 73 ⟨none,0,0⟩ Tryz.infoInsS rfl Tryz.underlying28 n (by decide) (by omega) rfl _ _ rfl rfl rfl ?_;intro w1 hown hgr)
 have hb1:=below_of_grown hgr
 go_loopw [11] (fun i wr => ∃ k:Nat,k≤n∧i = .int .i64 k∧OwnP wr w.heap.size (.slice (some ⟨w.heap.size,0,none⟩) n n) (xs.take k++List.replicate (n - k) [])∧Below w.heap.size w wr) (fun i _=>n - (intOf i).toNat)
 case atStart=>exact ⟨0,Nat.zero_le _,rfl,by simpa using Own2.made hown,hb1⟩
 case round =>
  obtain ⟨k,hk,rfl,ho,hb⟩:=hrel
  by_cases hlt:k < n
  ·obtain ⟨x,hxk⟩:=get_of_lt (xs:=xs) (k:=k) (by rw [H.out];exact hlt)
   obtain ⟨b,o,ra,rc,rfl,hbl,i0,i1⟩:=(HX.out.below hb).row hxk
   have hlt':=nat_of_lt hlt
   have hxl:x.length≤1048576:=HL2.out x (List.mem_of_getElem? hxk)
   have X:=hide hxk;clear hxk
   have I1:=hide i1;clear i1
   go_wp2_with (go_at_call 116;(with_reducible refine (CloneI_any _ x _ I1.out hxl).mono ?_);rintro e w2 ⟨u,rfl,hu,hb2⟩;obtain ⟨s,rfl, -⟩:=hu.toSlc;obtain ⟨hgl,⟨_,f0⟩,hfr⟩:=(ho.below hb2).cellAt (k:=k) (by rw [← H.out,length_pad _ _ (by rw [H.out];omega),H.out];exact hlt))
   have ho2:=ho.put hb2 hb.size (k:=k) (by rw [← H.out,length_pad _ _ (by rw [H.out];omega),H.out];exact hlt) hu
   rw [← H.out,set_pad xs _ X.out,H.out] at ho2
   go_roundw
   case rel=>exact ⟨k+1,by omega,by go_num,ho2,(hb.trans (hb2.mono hb.size)).setCell (Nat.le_refl _) _⟩
   case measure=>simp [intOf];omega
  ·go_wp2_with fail
   go_ret
   rw [← H.out,pad_all xs _ (by rw [H.out];omega),H.out] at ho
   exact ⟨_,rfl,ho,hb⟩
theorem l1Copy_any (v:Value) (xs:List (List Ins)) (w:World) (hx:RepP w v xs) (hl:xs.length≤1048576) (hl2:∀ r∈xs,r.length≤1048576) :
 Calls Tryz.prog 105 #[v] w (RetOwn2 InsE 73 104 w xs):=by
 obtain ⟨a,c,rfl,hc1,hc2,hc3,hx⟩:=hx.open
 have HX:=hide hx;clear hx
 have HL2:=hide hl2;clear hl2
 generalize hn:xs.length=n at *
 have H:=hide hn;clear hn
 go_enter Tryz.func105,Tryz.ntmps105
 go_wp2_with fail
 go_loopw [3,4] (fun s i wr => ∃ k:Nat,k≤n∧i = .int .i64 k∧OwnP wr w.heap.size s (xs.take k)∧Below w.heap.size w wr) (fun _ i _=>n - (intOf i).toNat)
 case atStart=>exact ⟨0,Nat.zero_le _,rfl,by simpa using Own2.empty _ _ w (Nat.le_refl _),(Below.refl _ _).alloc (Nat.le_refl _) _⟩
 case round =>
  obtain ⟨k,hk,rfl,ho,hb⟩:=hrel
  by_cases hlt:k < n
  ·obtain ⟨x,hxk⟩:=get_of_lt (xs:=xs) (k:=k) (by rw [H.out];exact hlt)
   obtain ⟨b,o,ra,rc,rfl,hbl,i0,i1⟩:=(HX.out.below hb).row hxk
   have hlt':=nat_of_lt hlt
   have hxl:x.length≤1048576:=HL2.out x (List.mem_of_getElem? hxk)
   have htk:(xs.take k).length≤1048576:=by simp;omega
   have TS:Hid (xs.take (k+1)=xs.take k++[x]):=hide (by rw [List.take_add_one,hxk];rfl)
   have X:=hide hxk;clear hxk
   have I1:=hide i1;clear i1
   generalize hT:xs.take k=T at *
   clear hT
   have hlen:([]:List Ins).length+x.length≤68719476736:=by simp;omega
   have hbx:=(Below.refl wr.heap.size wr).alloc (Nat.le_refl _) (.cells #[] 104)
   have HBX:=hide hbx;clear hbx
   obtain ⟨us,hU, -⟩:=ho.told
   have HU:=hide hU;clear hU
   have hub:us.length≤68719476736:=by have:=HU.out.1;omega
   go_wp2_with (first | (at_builtin;refine wpList_appS InsE 104 Tryz.infoIns rfl Tryz.underlying73 wr.heap.size _ [] x _ (Own.empty _ wr (Nat.le_refl _)) (I1.out.below HBX.out) (by decide) hlen (by simp) rfl (.tmp 13) (.tmp 17) rfl rfl rfl ?_;intro u w2 hown1 hgr1;obtain ⟨s,rfl, -⟩:=Own.toSlc hown1;have hb2:=HBX.out.grown hgr1 (by simp) (fun k hk=>by simp [Value.ownBlock] at hk;omega)) | (at_builtin;refine wpList_app SlcE 73 Tryz.infoInsS rfl Tryz.underlying28 w.heap.size _ us s ((HU.out.2.1.below hb2).alloc _) (by decide) hub (by simp;have:=hb.size;have:=hb2.size;omega) rfl (.tmp 12) (.tmp 19) rfl rfl w2.heap.size 0 1 rfl news_alloc ?_;intro v' w3 hown3 hgr3))
   have hown1':OwnI w2 wr.heap.size s.v x:=by simpa using hown1
   have ho2:=(HU.out).app (by decide) (hb2.trans ((Below.refl _ _).alloc hb2.size _)) hb.size (hown1'.alloc _) hown3 hgr3
   rw [← TS.out] at ho2
   have hb3:=below_app (hb.trans (hb2.mono hb.size)) (HU.out.2.1.below hb2) hgr3
   go_roundw
   case rel=>exact ⟨k+1,by omega,by go_num,ho2,hb3⟩
   case measure=>simp [intOf];omega
  ·go_wp2_with fail
   go_ret
   rw [List.take_of_length_le (by rw [H.out];omega)] at ho
   exact ⟨_,rfl,ho,hb⟩
end Go.Proofs.YtfbgppkdnfljhaaGreatDoor
namespace Go.Proofs.YtfbgppkdnfljhaaGreatDoor
open Go.RowKit
theorem Rep.gap {w:World} {a:Option Addr} {n c:Nat} {xs:List Gp} (h:Rep GapE w (.slice a n c) xs) {k:Nat} {x:Gp} (hx:xs[k]? = some x) :
 ∃ b o,a=some ⟨b,o,none⟩∧b < w.heap.size∧w.cell? ⟨b,o+k * 2,none⟩=some (.int .i64 x.t)∧w.cell? ⟨b,o+k * 2+1,none⟩=some (.int .i64 x.i):=by
 obtain ⟨a',c',hv,_,_,h⟩:=h
 simp only [Value.slice.injEq] at hv
 obtain ⟨rfl,rfl,rfl⟩:=hv
 obtain ⟨b,o,rfl,h'⟩:=h k x hx
 exact ⟨b,o,rfl,lt_of_cell (h' 0 _ rfl),h' 0 _ rfl,h' 1 _ rfl⟩
theorem l9Gaps_any (v:Value) (p:List (List Ins)) (w:World) (hp:RepP w v p) (hl:p.flatten.length≤1048576) :
 Calls Tryz.prog 63 #[v] w (RetOwn GapE 95 w (gapsP p)):=by
 obtain ⟨a,c,rfl,hc1,hc2,hc3,hp⟩:=hp.open
 have HP:=hide hp;clear hp
 have HL:=hide hl;clear hl
 have PP:Hid (gapsP p=gapsTo p p.length):=hide rfl
 have HGL:=hide (gapsTo_length p)
 generalize hn:p.length=n at *
 have H:=hide hn;clear hn
 go_enter Tryz.func63,Tryz.ntmps63
 go_wp2_with fail
 go_loopw [3,4] (fun s i wr => ∃ j:Nat,j≤n∧i = .int .i64 j∧OwnG wr w.heap.size s (gapsTo p j)∧Below w.heap.size w wr) (fun _ i _=>n - (intOf i).toNat)
 case atStart=>exact ⟨0,by omega,rfl,Own.empty _ w (Nat.le_refl _),(Below.refl _ _).alloc (Nat.le_refl _) _⟩
 case round =>
  obtain ⟨j,hj,rfl,hown,hb2⟩:=hrel
  by_cases hlt2:j < n
  ·obtain ⟨wm,rfl⟩:∃ wm:World,wm=wr:=⟨_,rfl⟩
   obtain ⟨x,hxk⟩:=get_of_lt (xs:=p) (k:=j) (by rw [H.out];exact hlt2)
   obtain ⟨b,o,ra,rc,rfl,hbl,i0,i1⟩:=HP.out.row hxk
   have IW:=hide i0
   have i0:=(hb2.cell (p:=⟨b,o+j,none⟩) hbl).trans i0
   have hlt2':=nat_of_lt hlt2
   have GS:=hide (gapsTo_succ hxk)
   have hgl:=Nat.le_trans (HGL.out j hj) (Nat.le_trans (flatten_take_le p j) HL.out)
   have hxl:=Nat.le_trans (row_le_flatten hxk) HL.out
   have I1:=hide i1;have X:=hide hxk
   clear i1 hxk
   generalize hG:gapsTo p j=G at *
   clear hG
   have HO:=hide hown;clear hown
   go_wp2_with fail
   go_loopw [3,5] (fun s i wr => ∃ t:Nat,(t+1≤x.length∨t=0)∧i = .int .i64 ((t:Int)+1)∧OwnG wr w.heap.size s (G++rowGaps j x (t+1))∧Below w.heap.size w wr) (fun _ i _=>x.length - (intOf i).toNat)
   case atStart=>exact ⟨0, .inr rfl,rfl,by rw [rowGaps_one,List.append_nil];exact HO.out,hb2⟩
   case round =>
    obtain ⟨t,ht,rfl,hown,hb3⟩:=hrel
    have i0w:=(hb3.cell (p:=⟨b,o+j,none⟩) hbl).trans IW.out
    by_cases hlt3:t+1 < x.length
    ·obtain ⟨y,hyk⟩:=get_of_lt (xs:=x) (k:=t) (by omega)
     obtain ⟨z,hzk⟩:=get_of_lt (xs:=x) (k:=t+1) hlt3
     obtain ⟨b',o',rfl,hbl',j0,j1,j2,j3⟩:=(I1.out.below hb3).ins hyk
     obtain ⟨b'',o'',e1,hbl'',k0,k1,k2,k3⟩:=(I1.out.below hb3).ins hzk
     simp only [Option.some.injEq,Addr.mk.injEq,and_true] at e1
     obtain ⟨rfl,rfl⟩:=e1
     have hlt3':(t:Int)+1 < x.length:=by omega
     have ST:=hide (rowGaps_step (t:=j) hyk hzk)
     have hrl:=rowGaps_length j x (t+1)
     have YK:=hide hyk;have ZK:=hide hzk
     clear hyk hzk hbl''
     generalize hRG:rowGaps j x (t+1)=RG at *
     clear hRG
     have hlen:(G++RG).length≤68719476736:=by rw [List.length_append];omega
     by_cases hy:y.op=4
     ·have g4:(y.op != 4)=false:=by simp [hy]
      have ST2:Hid (rowGaps j x (t+1+1)=RG):=hide (by have h:=ST.out;rw [g4] at h;simpa using h)
      clear hy
      go_wp2_with fail
      go_roundw
      case rel=>exact ⟨t+1,by omega,by go_num,by rw [ST2.out];exact hown,hb3⟩
      case measure=>simp [intOf];omega
     ·have g4:(y.op != 4)=true:=by simp [hy]
      clear hy
      by_cases hz:z.op=4
      ·have g5:(z.op != 4)=false:=by simp [hz]
       have ST2:Hid (rowGaps j x (t+1+1)=RG):=hide (by have h:=ST.out;rw [g4,g5] at h;simpa using h)
       clear hz
       go_wp2_with fail
       go_roundw
       case rel=>exact ⟨t+1,by omega,by go_num,by rw [ST2.out];exact hown,hb3⟩
       case measure=>simp [intOf];omega
      ·have g5:(z.op != 4)=true:=by simp [hz]
       have ST2:Hid (rowGaps j x (t+1+1)=RG++[⟨(j:Int),(t:Int)+1⟩]):=hide (by have h:=ST.out;rw [g4,g5] at h;simpa using h)
       clear hz
       go_wp2_with (at_builtin;refine wpList_app GapE 95 Tryz.infoGap rfl Tryz.underlying42 w.heap.size _ _ ⟨(j:Int),(t:Int)+1⟩ (hown.alloc _) (by decide) hlen (by simp;have:=hb3.size;omega) rfl _ _ rfl rfl wr.heap.size 0 1 rfl news_alloc ?_;intro v' w1 hown1 hgr1)
       have hb4:=below_app hb3 hown hgr1
       go_roundw
       case rel=>exact ⟨t+1,by omega,by go_num,by rw [ST2.out,← List.append_assoc];exact hown1,hb4⟩
       case measure=>simp [intOf];omega
    ·have e:rowGaps j x (t+1)=rowGaps j x x.length:=by
      rcases ht with h | h
      ·rw [show t+1=x.length by omega]
      ·subst h
       rw [rowGaps_one]
       by_cases h0:x.length=0
       ·rw [h0,rowGaps_zero]
       ·rw [show x.length=1 by omega,rowGaps_one]
     rw [e] at hown
     have hlt3':(x.length:Int)≤(t:Int)+1:=by omega
     go_wp2_with fail
     go_roundw
     case rel=>exact ⟨j+1,by omega,by go_num,by rw [GS.out];exact hown,hb3⟩
     case measure=>simp [intOf];omega
  ·have e:j=n:=by omega
   go_wp2_with fail
   go_ret
   rw [PP.out,← e]
   exact ⟨_,rfl,hown,hb2⟩
end Go.Proofs.YtfbgppkdnfljhaaGreatDoor
namespace Go.Proofs.YtfbgppkdnfljhaaGreatDoor
open Go.RowKit
end Go.Proofs.YtfbgppkdnfljhaaGreatDoor
namespace Go.Proofs.YtfbgppkdnfljhaaGreatDoor
open Go.RowKit
section
variable {α : Type} {f : α → α} {k : Nat} {xs : List α}
end
def RetOwn2B {α:Type} (E:El α) (T1 T2:TypeId) (w:World) (p:List (List α)) (b:Bool) (e:Ending) (w':World):Prop:=∃ v,e = .returned (.tuple #[v, .bool b])∧Own2 E T1 T2 w' w.heap.size v p∧Below w.heap.size w w'
theorem row_of_valid {p:List (List Ins)} (h:progValid p=true):∀ r∈p,r.length≤1048576:=fun r hr=>by
 have:=((valid_le h).2.2.1 r hr).1;omega
end Go.Proofs.YtfbgppkdnfljhaaGreatDoor
namespace Go.Proofs.YtfbgppkdnfljhaaGreatDoor
open Go.RowKit
end Go.Proofs.YtfbgppkdnfljhaaGreatDoor
namespace Go.Proofs.YtfbgppkdnfljhaaGreatDoor
open Go.RowKit
def fenceI:Ins:=⟨4,0,0,0⟩
def putTo (f:Int→Bool) (r:List Ins):Nat→List Ins
 | 0=>[]
 | n+1=>putTo f r n++((if f n=true then [fenceI] else [])++r[n]?.toList)
def putI (f:Int→Bool) (r:List Ins):List Ins:=putTo f r r.length
def putPT (f:Gp→Bool) (p:List (List Ins)):Nat→List (List Ins)
 | 0=>[]
 | j+1=>putPT f p j++(p[j]?.toList.map (putI fun i=>f ⟨j,i⟩))
def putP (f:Gp→Bool) (p:List (List Ins)):List (List Ins):=putPT f p p.length
theorem putTo_succ {f:Int→Bool} {r:List Ins} {n:Nat} {x:Ins} (h:r[n]? = some x):putTo f r (n+1)=putTo f r n++(if f n=true then [fenceI,x] else [x]):=by
 show putTo f r n++((if f n=true then [fenceI] else [])++r[n]?.toList)=_
 rw [h]
 by_cases e:f n=true <;> simp [e]
theorem putTo_le (f:Int→Bool) (r:List Ins):∀ n,n≤r.length→n≤(putTo f r n).length∧(putTo f r n).length≤2 * n:=by
 intro n
 induction n with
 | zero=>intro _;exact ⟨Nat.le_refl _,Nat.le_refl _⟩
 | succ n ih =>
  intro h
  obtain ⟨x,hx⟩:=get_of_lt (xs:=r) (k:=n) h
  have:=ih (by omega)
  rw [putTo_succ hx]
  by_cases e:f n=true <;> simp [e] <;> omega
theorem putTo_none {f:Int→Bool} {r:List Ins}:∀ n,n≤r.length→(∀ i:Nat,i < n→f i=false)→putTo f r n=r.take n:=by
 intro n
 induction n with
 | zero=>intro _ _;simp [putTo]
 | succ n ih =>
  intro h hf
  obtain ⟨x,hx⟩:=get_of_lt (xs:=r) (k:=n) h
  rw [putTo_succ hx,ih (by omega) (fun i hi=>hf i (by omega)),hf n (by omega),List.take_add_one,hx]
  rfl
theorem putTo_congr {f g:Int→Bool} {r:List Ins}:∀ n,(∀ i:Nat,i < n→f i=g i)→putTo f r n=putTo g r n:=by
 intro n
 induction n with
 | zero=>intro _;rfl
 | succ n ih =>
  intro hf
  unfold putTo
  rw [ih (fun i hi=>hf i (by omega)),hf n (by omega)]
theorem putTo_insert {f:Int→Bool} {r:List Ins} {k:Nat} (h0:∀ i:Nat,i≤k→f i=false):∀ n,k < n→n≤r.length→putTo (fun i=>f i||i==(k:Int)) r n=(putTo f r n).take k++fenceI :: (putTo f r n).drop k:=by
 intro n
 induction n with
 | zero=>intro h;omega
 | succ n ih =>
  intro hk hn
  obtain ⟨x,hx⟩:=get_of_lt (xs:=r) (k:=n) hn
  by_cases e:k=n
  ·subst e
   have e1:putTo (fun i=>f i||i==(k:Int)) r k=r.take k:=putTo_none k (by omega) (fun i hi=>by
    have h1:=h0 i (by omega)
    have h2:((i:Int)==(k:Int))=false:=by rw [beq_eq_false_iff_ne];omega
    rw [h1,h2];rfl)
   have e2:putTo f r k=r.take k:=putTo_none k (by omega) (fun i hi=>h0 i (by omega))
   have hl:(r.take k).length=k:=by simp;omega
   rw [putTo_succ hx,putTo_succ hx,e1,e2,h0 k (Nat.le_refl _)]
   simp only [beq_self_eq_true,Bool.or_true,if_true,Bool.false_eq_true,if_false]
   rw [List.take_left' hl,List.drop_left' hl]
  ·have hl:=(putTo_le f r n (by omega)).1
   have hkn:((n:Int)==(k:Int))=false:=by rw [beq_eq_false_iff_ne];omega
   rw [putTo_succ hx,putTo_succ hx,ih (by omega) (by omega),List.take_append_of_le_length (by omega),List.drop_append_of_le_length (by omega),hkn,Bool.or_false]
   simp
theorem putPT_succ {f:Gp→Bool} {p:List (List Ins)} {j:Nat} {r:List Ins} (h:p[j]? = some r):putPT f p (j+1)=putPT f p j++[putI (fun i=>f ⟨j,i⟩) r]:=by
 show putPT f p j++(p[j]?.toList.map (putI fun i=>f ⟨j,i⟩))=_
 rw [h];rfl
theorem putPT_length (f:Gp→Bool) (p:List (List Ins)):∀ j,j≤p.length→(putPT f p j).length=j:=by
 intro j
 induction j with
 | zero=>intro _;rfl
 | succ j ih =>
  intro h
  obtain ⟨r,hr⟩:=get_of_lt (xs:=p) (k:=j) h
  rw [putPT_succ hr,List.length_append,ih (by omega)];rfl
theorem putPT_get (f:Gp→Bool) (p:List (List Ins)):∀ j,j≤p.length→∀ k,k < j→∀ r,p[k]? = some r→(putPT f p j)[k]? = some (putI (fun i=>f ⟨k,i⟩) r):=by
 intro j
 induction j with
 | zero=>intro _ k hk;omega
 | succ j ih =>
  intro h k hk r hr
  obtain ⟨r',hr'⟩:=get_of_lt (xs:=p) (k:=j) h
  have hl:=putPT_length f p j (by omega)
  rw [putPT_succ hr']
  by_cases e:k=j
  ·subst e
   rw [hr] at hr';simp at hr';subst hr'
   rw [List.getElem?_append_right (by omega),hl,Nat.sub_self];rfl
  ·rw [List.getElem?_append_left (by omega)]
   exact ih (by omega) k (by omega) r hr
theorem putP_length (f:Gp→Bool) (p:List (List Ins)):(putP f p).length=p.length:=putPT_length f p _ (Nat.le_refl _)
theorem putP_get {f:Gp→Bool} {p:List (List Ins)} {k:Nat} {r:List Ins} (h:p[k]? = some r):(putP f p)[k]? = some (putI (fun i=>f ⟨k,i⟩) r):=
 putPT_get f p _ (Nat.le_refl _) k (List.getElem?_eq_some_iff.1 h).1 r h
theorem putP_none {f:Gp→Bool} {p:List (List Ins)} (hf:∀ g,f g=false):putP f p=p:=by
 apply List.ext_getElem?
 intro i
 by_cases h:i < p.length
 ·obtain ⟨r,hr⟩:=get_of_lt (xs:=p) (k:=i) h
  rw [putP_get hr,hr]
  unfold putI
  rw [putTo_none _ (Nat.le_refl _) (fun _ _=>hf _),List.take_length]
 ·rw [List.getElem?_eq_none (by rw [putP_length];omega),List.getElem?_eq_none (by omega)]
theorem putP_congr {f g:Gp→Bool} {p:List (List Ins)} (h:∀ x,f x=g x):putP f p=putP g p:=by rw [funext h]
def gpLt (a b:Gp):Prop:=a.t < b.t∨(a.t=b.t∧a.i < b.i)
theorem rowGaps_mem {t:Nat} {r:List Ins}:∀ n,∀ g∈rowGaps t r n,g.t=(t:Int)∧∃ i:Nat,g.i=(i:Int)∧1≤i∧i < n∧gapAt r i=true:=by
 intro n g hg
 unfold rowGaps at hg
 simp only [List.mem_map,List.mem_filter,List.mem_range] at hg
 obtain ⟨i,⟨h1,h2⟩,rfl⟩:=hg
 refine ⟨rfl,i,rfl, ?_,h1,h2⟩
 unfold gapAt at h2
 split at h2
 ·simp at h2;exact h2.1
 ·cases h2
theorem rowGaps_sorted (t:Nat) (r:List Ins):∀ n,(rowGaps t r n).Pairwise gpLt:=by
 intro n
 induction n with
 | zero=>rw [rowGaps_zero];exact List.Pairwise.nil
 | succ n ih =>
  rw [rowGaps_succ,List.pairwise_append]
  refine ⟨ih, ?_, ?_⟩
  ·by_cases e:gapAt r n=true <;> simp [e]
  ·intro a ha b hb
   obtain ⟨h1,i,h2, -,h3, -⟩:=rowGaps_mem n a ha
   by_cases e:gapAt r n=true
   ·rw [if_pos e] at hb
    simp at hb;subst hb
    exact .inr ⟨h1,by rw [h2];show (i:Int) < (n:Int);omega⟩
   ·rw [if_neg e] at hb;simp at hb
theorem gapsTo_mem {p:List (List Ins)}:∀ j,j≤p.length→∀ g∈gapsTo p j,∃ (t i:Nat) (r:List Ins),g=⟨t,i⟩∧t < j∧p[t]? = some r∧1≤i∧i < r.length∧gapAt r i=true:=by
 intro j
 induction j with
 | zero=>intro _ g hg;simp [gapsTo] at hg
 | succ j ih =>
  intro h g hg
  obtain ⟨r,hr⟩:=get_of_lt (xs:=p) (k:=j) h
  rw [gapsTo_succ hr,List.mem_append] at hg
  rcases hg with hg | hg
  ·obtain ⟨t,i,r',h1,h2,h3⟩:=ih (by omega) g hg
   exact ⟨t,i,r',h1,by omega,h3⟩
  ·obtain ⟨h1,i,h2,h3,h4,h5⟩:=rowGaps_mem _ g hg
   obtain ⟨gt,gi⟩:=g
   simp only at h1 h2
   subst h1;subst h2
   exact ⟨j,i,r,rfl,by omega,hr,h3,h4,h5⟩
theorem gapsTo_sorted (p:List (List Ins)):∀ j,j≤p.length→(gapsTo p j).Pairwise gpLt:=by
 intro j
 induction j with
 | zero=>intro _;simp [gapsTo]
 | succ j ih =>
  intro h
  obtain ⟨r,hr⟩:=get_of_lt (xs:=p) (k:=j) h
  rw [gapsTo_succ hr,List.pairwise_append]
  refine ⟨ih (by omega),rowGaps_sorted _ _ _, ?_⟩
  intro a ha b hb
  obtain ⟨t,i,r',rfl,h2, -⟩:=gapsTo_mem j (by omega) a ha
  obtain ⟨h3, -⟩:=rowGaps_mem _ b hb
  refine .inl ?_
  rw [h3];show (t:Int) < (j:Int);omega
theorem gapsP_mem {p:List (List Ins)} {g:Gp} (h:g∈gapsP p):∃ (t i:Nat) (r:List Ins),g=⟨t,i⟩∧p[t]? = some r∧1≤i∧i < r.length∧gapAt r i=true:=by
 obtain ⟨t,i,r,h1, -,h3⟩:=gapsTo_mem _ (Nat.le_refl _) g h
 exact ⟨t,i,r,h1,h3⟩
def putS (L all:List Gp) (j:Nat) (x:Gp):Bool:=decide (x∈L)&&decide (x∈all.drop j)
theorem putS_all {L all:List Gp} (x:Gp):putS L all all.length x=false:=by simp [putS]
theorem putS_zero {L all:List Gp} (h:∀ g∈L,g∈all) (x:Gp):putS L all 0 x=decide (x∈L):=by
 unfold putS
 by_cases e:x∈L
 ·simp [e,h x e]
 ·simp [e]
theorem drop_mem {all:List Gp} {j:Nat} {g:Gp} (hg:all[j]? = some g) (x:Gp):x∈all.drop j↔x=g∨x∈all.drop (j+1):=by
 have hj:=(List.getElem?_eq_some_iff.1 hg)
 obtain ⟨h1,h2⟩:=hj
 rw [List.drop_eq_getElem_cons h1,h2,List.mem_cons]
theorem putS_skip {L all:List Gp} {j:Nat} {g:Gp} (hg:all[j]? = some g) (hL:g∉L) (x:Gp):putS L all j x=putS L all (j+1) x:=by
 unfold putS
 by_cases e:x=g
 ·subst e;simp [hL]
 ·simp [drop_mem hg,e]
theorem putS_put {L all:List Gp} {j:Nat} {g:Gp} (hg:all[j]? = some g) (hL:g∈L) (x:Gp):putS L all j x=(putS L all (j+1) x||decide (x=g)):=by
 unfold putS
 by_cases e:x=g
 ·subst e;simp [hL,drop_mem hg]
 ·simp [drop_mem hg,e]
theorem sorted_drop {all:List Gp} (hs:all.Pairwise gpLt) {j:Nat} {g x:Gp} (hg:all[j]? = some g) (hx:x∈all.drop (j+1)):gpLt g x:=by
 obtain ⟨h1,h2⟩:=List.getElem?_eq_some_iff.1 hg
 have h3:=hs.sublist (List.drop_sublist j all)
 rw [List.drop_eq_getElem_cons h1,h2,List.pairwise_cons] at h3
 exact h3.1 x hx
theorem putP_step {p:List (List Ins)} {L:List Gp} {j t i:Nat} {r:List Ins} (hg:(gapsP p)[j]? = some ⟨t,i⟩) (hL:(⟨t,i⟩:Gp)∈L) (hr:p[t]? = some r) (hi:i < r.length) :
 (putP (putS L (gapsP p) (j+1)) p).set t ((putI (fun k=>putS L (gapsP p) (j+1) ⟨t,k⟩) r).take i++fenceI :: (putI (fun k=>putS L (gapsP p) (j+1) ⟨t,k⟩) r).drop i)=putP (putS L (gapsP p) j) p:=by
 have hsort:=gapsTo_sorted p _ (Nat.le_refl _)
 apply List.ext_getElem?
 intro k
 rw [List.getElem?_set]
 by_cases e:t=k
 ·subst e
  rw [if_pos rfl,if_pos (by rw [putP_length];exact (List.getElem?_eq_some_iff.1 hr).1),putP_get hr]
  congr 1
  unfold putI
  rw [← putTo_insert (k:=i) (fun q hq => ?_) _ hi (Nat.le_refl _)]
  ·refine putTo_congr _ (fun q _ => ?_)
   rw [putS_put hg hL]
   congr 1
   rw [Bool.eq_iff_iff]
   simp
  ·unfold putS
   by_cases hm:(⟨t,q⟩:Gp)∈(gapsP p).drop (j+1)
   ·rcases sorted_drop hsort hg hm with h | ⟨-,h⟩
    ·exact absurd h (by show ¬ (t:Int) < t;omega)
    ·have:(i:Int) < (q:Int):=h
     omega
   ·simp [hm]
 ·rw [if_neg e]
  by_cases hk:k < p.length
  ·obtain ⟨r',hr'⟩:=get_of_lt (xs:=p) (k:=k) hk
   rw [putP_get hr',putP_get hr']
   congr 1
   refine putTo_congr _ (fun q _ => ?_)
   rw [putS_put hg hL]
   have:decide ((⟨(k:Int),(q:Int)⟩:Gp)=⟨t,i⟩)=false:=by simp;omega
   rw [this,Bool.or_false]
  ·rw [List.getElem?_eq_none (by rw [putP_length];omega),List.getElem?_eq_none (by rw [putP_length];omega)]
theorem putP_skip {p:List (List Ins)} {L:List Gp} {j:Nat} {g:Gp} (hg:(gapsP p)[j]? = some g) (hL:g∉L):putP (putS L (gapsP p) (j+1)) p=putP (putS L (gapsP p) j) p:=
 putP_congr fun x=>(putS_skip hg hL x).symm
def inL (L:List Gp) (x:Gp):Bool:=decide (x∈L)
def subG (L all:List Gp):Bool:=L.all fun g=>decide (g∈all)
def putOk (p:List (List Ins)) (L:List Gp):Bool:=progValid p&&subG L (gapsP p)&&progValid (putP (inL L) p)
def putV (p:List (List Ins)) (L:List Gp):List (List Ins):=if putOk p L=true then putP (inL L) p else []
theorem putI_le (f:Int→Bool) (r:List Ins):(putI f r).length≤2 * r.length:=(putTo_le f r _ (Nat.le_refl _)).2
theorem putP_rows {f:Gp→Bool} {p:List (List Ins)} {n:Nat} (h:∀ r∈p,r.length≤n):∀ r∈putP f p,r.length≤2 * n:=by
 intro r hr
 obtain ⟨k,hk⟩:=List.mem_iff_getElem?.1 hr
 have hkl:k < p.length:=by have:=(List.getElem?_eq_some_iff.1 hk).1;rwa [putP_length] at this
 obtain ⟨r',hr'⟩:=get_of_lt (xs:=p) (k:=k) hkl
 rw [putP_get hr'] at hk
 simp at hk;subst hk
 have:=putI_le (fun i=>f ⟨k,i⟩) r'
 have:=h r' (List.mem_of_getElem? hr')
 omega
end Go.Proofs.YtfbgppkdnfljhaaGreatDoor
namespace Go.Proofs.YtfbgppkdnfljhaaGreatDoor
open Go.RowKit
def IdxOfG (f:Gp→Bool) (xs:List Gp) (q:Int):Prop:=(q = -1∧∀ x∈xs,f x=false)∨∃ (t:Nat) (x:Gp),q=t∧xs[t]? = some x∧f x=true
theorem none_succG {f:Gp→Bool} {xs:List Gp} {t:Nat} {x:Gp} (h:∀ y∈xs.take t,f y=false) (hx:xs[t]? = some x) (hf:f x=false):∀ y∈xs.take (t+1),f y=false:=by
 intro y hy
 rw [List.take_add_one,hx] at hy
 simp at hy
 rcases hy with hy | rfl
 ·exact h y hy
 ·exact hf
theorem IdxOfG.any {f:Gp→Bool} {xs:List Gp} {q:Int} (h:IdxOfG f xs q):decide (0≤q)=xs.any f:=by
 rcases h with ⟨rfl,h⟩ | ⟨t,x,rfl,hx,hf⟩
 ·have:xs.any f=false:=by rw [List.any_eq_false];intro x hx;rw [h x hx];simp
  rw [this];rfl
 ·have:xs.any f=true:=List.any_eq_true.2 ⟨x,List.mem_of_getElem? hx,hf⟩
  rw [this];simp
theorem any_eq_in (L:List Gp) (x:Gp):L.any (fun y=>decide (x=y))=inL L x:=by
 unfold inL
 rw [Bool.eq_iff_iff]
 simp
theorem IndexG_any (v:Value) (xs:List Gp) (x:Gp) (w:World) (hx:Rep GapE w v xs) :
 Calls Tryz.prog 115 #[v,x.v] w fun e w'=>(∃ q:Int,e = .returned (.int .i64 q)∧IdxOfG (fun y=>decide (x=y)) xs q)∧Below w.heap.size w w':=by
 obtain ⟨a,c,rfl,hc1,hc2,hc3,hx⟩:=hx.open
 have HB0:=hide ((Below.refl w.heap.size w).alloc (Nat.le_refl _) (.cells #[.int .i64 x.t, .int .i64 x.i] 95))
 have HX:=hide (hx.below HB0.out);clear hx
 generalize hn:xs.length=n at *
 have H:=hide hn;clear hn
 obtain ⟨x0,x1⟩:=x
 have hb0:w.heap.size < (w.alloc (.cells #[.int .i64 x0, .int .i64 x1] 95)).heap.size:=by simp
 have k0:(w.alloc (.cells #[.int .i64 x0, .int .i64 x1] 95)).cell? ⟨w.heap.size,0,none⟩=some (.int .i64 x0):=by simp [go_sem]
 have k1:(w.alloc (.cells #[.int .i64 x0, .int .i64 x1] 95)).cell? ⟨w.heap.size,1,none⟩=some (.int .i64 x1):=by simp [go_sem]
 go_enter Tryz.func115,Tryz.ntmps115
 go_wp2_with fail
 generalize hW:w.alloc (.cells #[.int .i64 x0, .int .i64 x1] 95)=W at *
 generalize hG:w.heap.size=g at *
 have BG:Hid (∀ w',Below g w w'→Below w.heap.size w w'):=hide (fun w' h=>by rw [hG];exact h)
 clear hG
 go_loopw [8] (fun i wr => ∃ t:Nat,t≤n∧i = .int .i64 t∧Hid (∀ y∈xs.take t,decide ((⟨x0,x1⟩:Gp)=y)=false)∧Below W.heap.size W wr) (fun i _=>n - (intOf i).toNat)
 case atStart=>exact ⟨0,Nat.zero_le _,rfl,hide (by simp),Below.refl _ _⟩
 case round =>
  obtain ⟨t,ht,rfl,hno,hb⟩:=hrel
  have kk0:=(hb.cell (p:=⟨g,0,none⟩) hb0).trans k0
  have kk1:=(hb.cell (p:=⟨g,1,none⟩) hb0).trans k1
  have hgr:g < wr.heap.size:=Nat.lt_of_lt_of_le hb0 hb.size
  by_cases hlt:t < n
  ·obtain ⟨y,hyk⟩:=get_of_lt (xs:=xs) (k:=t) (by rw [H.out];exact hlt)
   obtain ⟨b,o,rfl,hbl,i0,i1⟩:=(HX.out.below hb).gap hyk
   have hlt':=nat_of_lt hlt
   have Y:=hide hyk;clear hyk
   obtain ⟨y0,y1⟩:=y
   simp only at i0 i1
   by_cases hxy:x0=y0∧x1=y1
   ·obtain ⟨rfl,rfl⟩:=hxy
    go_wp2_with fail
    refine wp_region_bw (by kernel_rfl) (by kernel_rfl) ?_
    repeat (go_big_quiet_step (fail))
    refine wpQuiet_nil ?_
    intro w1 hb1
    go_wp2_with fail
    go_ret
    exact ⟨⟨_,rfl, .inr ⟨t,_,rfl,Y.out,by simp⟩⟩,BG.out _ (HB0.out.trans ((hb.trans (hb1.mono hb.size)).mono (Nat.le_of_lt hb0)))⟩
   ·have NO:Hid (∀ y∈xs.take (t+1),decide ((⟨x0,x1⟩:Gp)=y)=false):=hide (none_succG hno.out Y.out (by simpa using hxy))
    by_cases h0:x0=y0
    ·subst h0
     have g1:(x1==y1)=false:=by simp;exact fun e=>hxy ⟨rfl,e⟩
     clear hxy
     go_wp2_with fail
     refine wp_region_bw (by kernel_rfl) (by kernel_rfl) ?_
     repeat (go_big_quiet_step (fail))
     refine wpQuiet_nil ?_
     intro w1 hb1
     go_wp2_with fail
     go_roundw
     case rel=>exact ⟨t+1,by omega,by go_num,NO,hb.trans (hb1.mono hb.size)⟩
     case measure=>simp [intOf];omega
    ·have g0:(x0==y0)=false:=by simp [h0]
     clear hxy h0
     go_wp2_with fail
     refine wp_region_bw (by kernel_rfl) (by kernel_rfl) ?_
     repeat (go_big_quiet_step (fail))
     refine wpQuiet_nil ?_
     intro w1 hb1
     go_wp2_with fail
     go_roundw
     case rel=>exact ⟨t+1,by omega,by go_num,NO,hb.trans (hb1.mono hb.size)⟩
     case measure=>simp [intOf];omega
  ·go_wp2_with fail
   go_ret
   refine ⟨⟨_,rfl, .inl ⟨rfl, ?_⟩⟩,BG.out _ (HB0.out.trans (hb.mono (Nat.le_of_lt hb0)))⟩
   have h:=hno.out
   rwa [List.take_of_length_le (by rw [H.out];omega)] at h
theorem ContainsG_any (v:Value) (xs:List Gp) (x:Gp) (w:World) (hx:Rep GapE w v xs) :
 Calls Tryz.prog 59 #[v,x.v] w fun e w'=>e = .returned (.bool (inL xs x))∧Below w.heap.size w w':=by
 have HB0:=hide ((Below.refl w.heap.size w).alloc (Nat.le_refl _) (.cells #[.int .i64 x.t, .int .i64 x.i] 95))
 have HI:=hide (IndexG_any v xs x _ (hx.below HB0.out))
 have E0:=hide (any_eq_in xs x)
 obtain ⟨a,c,rfl, -⟩:=hx.open
 clear hx
 obtain ⟨x0,x1⟩:=x
 simp only at HI HB0
 go_enter Tryz.func59,Tryz.ntmps59
 go_wp2_with fail
 (with_reducible refine HI.out.mono ?_);rintro e w1 ⟨⟨q,rfl,hq⟩,hb1⟩
 have E:Hid (decide (0≤q)=inL xs ⟨x0,x1⟩):=hide (hq.any.trans E0.out)
 clear hq
 go_wp2_with fail
 all_goals go_ret
 all_goals refine ⟨?_,HB0.out.trans (hb1.mono HB0.out.size)⟩
 all_goals rw [← E.out]
 all_goals simp_all
def TestsPF (a1:Addr) (f:Gp→Bool) (w0:World):Prop:=∀ (x:Gp) (w:World),Below w0.heap.size w0 w→Calls Tryz.prog 58 #[.agg #[.int .i64 x.t, .int .i64 x.i], .pointer (some a1)] w fun e w'=>e = .returned (.bool (f x))∧Below w.heap.size w w'
theorem IndexFunc_pf (a1:Addr) (v:Value) (xs:List Gp) (f:Gp→Bool) (w:World) (hx:Rep GapE w v xs) (hf:TestsPF a1 f w) :
 Calls Tryz.prog 114 #[v, .func (.func 58) #[] #[.pointer (some a1)]] w fun e w'=>(∃ q:Int,e = .returned (.int .i64 q)∧IdxOfG f xs q)∧Below w.heap.size w w':=by
 obtain ⟨a,c,rfl,hc1,hc2,hc3,hx⟩:=hx.open
 have HX:=hide hx;clear hx
 have HF:=hide hf;clear hf
 generalize hn:xs.length=n at *
 have H:=hide hn;clear hn
 go_enter Tryz.func114,Tryz.ntmps114
 go_wp2_with fail
 go_loopw [8] (fun i wr => ∃ t:Nat,t≤n∧i = .int .i64 t∧Hid (∀ x∈xs.take t,f x=false)∧Below w.heap.size w wr) (fun i _=>n - (intOf i).toNat)
 case atStart=>exact ⟨0,Nat.zero_le _,rfl,hide (by simp),Below.refl _ _⟩
 case round =>
  obtain ⟨t,ht,rfl,hno,hb⟩:=hrel
  by_cases hlt:t < n
  ·obtain ⟨x,hxk⟩:=get_of_lt (xs:=xs) (k:=t) (by rw [H.out];exact hlt)
   obtain ⟨b,o,rfl,hbl,i0,i1⟩:=(HX.out.below hb).gap hxk
   have hlt':=nat_of_lt hlt
   have X:=hide hxk;clear hxk
   generalize hfx:f x=fx
   have FX:=hide hfx;clear hfx
   have hcall:=HF.out x _ hb
   rw [FX.out] at hcall
   have HC:=hide hcall;clear hcall
   cases fx
   ·have NO:Hid (∀ x∈xs.take (t+1),f x=false):=hide (none_succG hno.out X.out FX.out)
    go_wp2_with fail
    (with_reducible refine HC.out.mono ?_);rintro e w2 ⟨rfl,hb2⟩
    go_wp2_with fail
    go_roundw
    case rel=>exact ⟨t+1,by omega,by go_num,NO,hb.trans (hb2.mono hb.size)⟩
    case measure=>simp [intOf];omega
   ·go_wp2_with fail
    (with_reducible refine HC.out.mono ?_);rintro e w2 ⟨rfl,hb2⟩
    go_wp2_with fail
    go_ret
    exact ⟨⟨_,rfl, .inr ⟨t,x,rfl,X.out,FX.out⟩⟩,hb.trans (hb2.mono hb.size)⟩
  ·go_wp2_with fail
   go_ret
   refine ⟨⟨_,rfl, .inl ⟨rfl, ?_⟩⟩,hb⟩
   have h:=hno.out
   rwa [List.take_of_length_le (by rw [H.out];omega)] at h
theorem ContainsFunc_pf (a1:Addr) (v:Value) (xs:List Gp) (f:Gp→Bool) (w:World) (hx:Rep GapE w v xs) (hf:TestsPF a1 f w) :
 Calls Tryz.prog 57 #[v, .func (.func 58) #[] #[.pointer (some a1)]] w fun e w'=>e = .returned (.bool (xs.any f))∧Below w.heap.size w w':=by
 have HI:=hide (IndexFunc_pf a1 v xs f w hx hf)
 obtain ⟨a,c,rfl, -⟩:=hx.open
 clear hx hf
 go_enter Tryz.func57,Tryz.ntmps57
 go_wp2_with fail
 (with_reducible refine HI.out.mono ?_);rintro e w1 ⟨⟨q,rfl,hq⟩,hb1⟩
 have E:Hid (decide (0≤q)=xs.any f):=hide hq.any
 clear hq
 go_wp2_with fail
 all_goals go_ret
 all_goals refine ⟨?_,hb1⟩
 all_goals rw [← E.out]
 all_goals simp_all
theorem testPF (g:Nat) (v:Value) (all:List Gp) (w:World) (hg:g < w.heap.size) (hc:w.cell? ⟨g,0,none⟩=some v) (hx:Rep GapE w v all):TestsPF ⟨g,0,none⟩ (fun x => !inL all x) w:=by
 intro x w2 hb
 have hc2:=(hb.cell (p:=⟨g,0,none⟩) hg).trans hc
 have hg2:=Nat.lt_of_lt_of_le hg hb.size
 have HB0:=hide ((Below.refl w2.heap.size w2).alloc (Nat.le_refl _) (.cells #[.int .i64 x.t, .int .i64 x.i] 95))
 have HI:=hide (ContainsG_any v all x _ ((hx.below hb).below HB0.out))
 obtain ⟨a,c,rfl, -⟩:=hx.open
 clear hx hc hb
 obtain ⟨x0,x1⟩:=x
 obtain ⟨r,hr⟩:∃ r,inL all ⟨x0,x1⟩=r:=⟨_,rfl⟩
 simp only at HI HB0
 rw [hr] at HI
 have R:=hide hr
 clear hr
 go_enter Tryz.func58,Tryz.ntmps58
 go_wp2_with fail
 (with_reducible refine HI.out.mono ?_);rintro e w1 ⟨rfl,hb1⟩
 go_wp2_with fail
 go_ret
 exact ⟨by show _=Ending.returned (.bool (!inL all ⟨x0,x1⟩));rw [R.out];rfl,HB0.out.trans (hb1.mono HB0.out.size)⟩
theorem l9Has_any (v:Value) (xs:List Gp) (x:Gp) (w:World) (hx:Rep GapE w v xs) :
 Calls Tryz.prog 64 #[v,x.v] w fun e w'=>e = .returned (.bool (inL xs x))∧Below w.heap.size w w':=by
 have HB0:=hide ((Below.refl w.heap.size w).alloc (Nat.le_refl _) (.cells #[.int .i64 x.t, .int .i64 x.i] 95))
 have E0:=hide (any_eq_in xs x)
 obtain ⟨a,c,rfl,hc1,hc2,hc3,hx⟩:=hx.open
 have HX:=hide (hx.below HB0.out);clear hx
 generalize hn:xs.length=n at *
 have H:=hide hn;clear hn
 obtain ⟨x0,x1⟩:=x
 have hb0:w.heap.size < (w.alloc (.cells #[.int .i64 x0, .int .i64 x1] 95)).heap.size:=by simp
 have k0:(w.alloc (.cells #[.int .i64 x0, .int .i64 x1] 95)).cell? ⟨w.heap.size,0,none⟩=some (.int .i64 x0):=by simp [go_sem]
 have k1:(w.alloc (.cells #[.int .i64 x0, .int .i64 x1] 95)).cell? ⟨w.heap.size,1,none⟩=some (.int .i64 x1):=by simp [go_sem]
 go_enter Tryz.func64,Tryz.ntmps64
 go_wp2_with fail
 generalize hW:w.alloc (.cells #[.int .i64 x0, .int .i64 x1] 95)=W at *
 generalize hG:w.heap.size=g at *
 have BG:Hid (∀ w',Below g w w'→Below w.heap.size w w'):=hide (fun w' h=>by rw [hG];exact h)
 clear hG
 go_loopw [5] (fun i wr => ∃ t:Nat,t≤n∧i = .int .i64 t∧Hid (∀ y∈xs.take t,decide ((⟨x0,x1⟩:Gp)=y)=false)∧Below W.heap.size W wr) (fun i _=>n - (intOf i).toNat)
 case atStart=>exact ⟨0,Nat.zero_le _,rfl,hide (by simp),Below.refl _ _⟩
 case round =>
  obtain ⟨t,ht,rfl,hno,hb⟩:=hrel
  have kk0:=(hb.cell (p:=⟨g,0,none⟩) hb0).trans k0
  have kk1:=(hb.cell (p:=⟨g,1,none⟩) hb0).trans k1
  have hgr:g < wr.heap.size:=Nat.lt_of_lt_of_le hb0 hb.size
  by_cases hlt:t < n
  ·obtain ⟨y,hyk⟩:=get_of_lt (xs:=xs) (k:=t) (by rw [H.out];exact hlt)
   obtain ⟨b,o,rfl,hbl,i0,i1⟩:=(HX.out.below hb).gap hyk
   have hlt':=nat_of_lt hlt
   have Y:=hide hyk;clear hyk
   obtain ⟨y0,y1⟩:=y
   simp only at i0 i1
   by_cases hxy:x0=y0∧x1=y1
   ·obtain ⟨rfl,rfl⟩:=hxy
    have E:Hid (inL xs ⟨x0,x1⟩=true):=hide (by unfold inL;exact decide_eq_true (List.mem_of_getElem? Y.out))
    go_wp2_with fail
    refine wp_region_bw (by kernel_rfl) (by kernel_rfl) ?_
    repeat (go_big_quiet_step (fail))
    refine wpQuiet_nil ?_
    intro w1 hb1
    go_wp2_with fail
    go_ret
    exact ⟨by rw [E.out];rfl,BG.out _ (HB0.out.trans ((hb.trans (hb1.mono hb.size)).mono (Nat.le_of_lt hb0)))⟩
   ·have NO:Hid (∀ y∈xs.take (t+1),decide ((⟨x0,x1⟩:Gp)=y)=false):=hide (none_succG hno.out Y.out (by simpa using hxy))
    by_cases h0:y0=x0
    ·subst h0
     have g1:(y1==x1)=false:=by simp;exact fun e=>hxy ⟨rfl,e.symm⟩
     clear hxy
     go_wp2_with fail
     refine wp_region_bw (by kernel_rfl) (by kernel_rfl) ?_
     repeat (go_big_quiet_step (fail))
     refine wpQuiet_nil ?_
     intro w1 hb1
     go_wp2_with fail
     go_roundw
     case rel=>exact ⟨t+1,by omega,by go_num,NO,hb.trans (hb1.mono hb.size)⟩
     case measure=>simp [intOf];omega
    ·have g0:(y0==x0)=false:=by simp [h0]
     clear hxy h0
     go_wp2_with fail
     refine wp_region_bw (by kernel_rfl) (by kernel_rfl) ?_
     repeat (go_big_quiet_step (fail))
     refine wpQuiet_nil ?_
     intro w1 hb1
     go_wp2_with fail
     go_roundw
     case rel=>exact ⟨t+1,by omega,by go_num,NO,hb.trans (hb1.mono hb.size)⟩
     case measure=>simp [intOf];omega
  ·have h:=hno.out
   rw [List.take_of_length_le (by rw [H.out];omega)] at h
   have E:Hid (inL xs ⟨x0,x1⟩=false):=hide (by rw [← E0.out,List.any_eq_false];intro y hy;rw [h y hy];simp)
   clear h
   go_wp2_with fail
   go_ret
   exact ⟨by rw [E.out];rfl,BG.out _ (HB0.out.trans (hb.mono (Nat.le_of_lt hb0)))⟩
theorem l9Put_any (v v2:Value) (p:List (List Ins)) (L:List Gp) (w:World) (hp:RepP w v p) (hL:Rep GapE w v2 L) (hl:p.length≤1048576) (hl2:∀ r∈p,r.length≤1048576) :
 Calls Tryz.prog 65 #[v,v2] w (RetOwn2 InsE 73 104 w (putP (inL L) p)):=by
 obtain ⟨a,c,rfl,hc1,hc2,hc3,hp⟩:=hp.open
 obtain ⟨a2,c2,rfl,hd1,hd2,hd3,hL⟩:=hL.open
 have HP:=hide hp;clear hp
 have HL:=hide (fun w' (hb:Below w.heap.size w w') x=>l9Has_any (.slice a2 L.length c2) L x w' (hL.below hb))
 have HL2:=hide hl2;clear hl2 hL
 have PP:Hid (putP (inL L) p=putPT (inL L) p p.length):=hide rfl
 generalize L.length=m at *
 have HPL:=hide (putPT_length (inL L) p)
 generalize hn:p.length=n at *
 have H:=hide hn;clear hn
 go_enter Tryz.func65,Tryz.ntmps65
 go_wp2_with fail
 go_loopw [5,6] (fun s i wr => ∃ j:Nat,j≤n∧i = .int .i64 j∧OwnP wr w.heap.size s (putPT (inL L) p j)∧Below w.heap.size w wr) (fun _ i _=>n - (intOf i).toNat)
 case atStart=>exact ⟨0,by omega,rfl,Own2.empty _ _ w (Nat.le_refl _),(Below.refl _ _).alloc (Nat.le_refl _) _⟩
 case round =>
  obtain ⟨j,hj,rfl,ho,hb⟩:=hrel
  by_cases hlt:j < n
  ·obtain ⟨wm,rfl⟩:∃ wm:World,wm=wr:=⟨_,rfl⟩
   obtain ⟨x,hxk⟩:=get_of_lt (xs:=p) (k:=j) (by rw [H.out];exact hlt)
   obtain ⟨b,o,ra,rc,rfl,hbl,i0,i1⟩:=HP.out.row hxk
   have hlt':=nat_of_lt hlt
   have hxl:=HL2.out x (List.mem_of_getElem? hxk)
   have DS:=hide (putPT_succ (f:=inL L) hxk)
   have hdl:(putPT (inL L) p j).length≤1048576:=by rw [HPL.out j hj];omega
   have IW:=hide i0;have I1:=hide i1;have X:=hide hxk
   have i0:=(hb.cell (p:=⟨b,o+j,none⟩) hbl).trans i0
   clear hxk i1
   generalize hD:putPT (inL L) p j=D at *
   clear hD
   obtain ⟨us,hU, -⟩:=ho.told
   have HU:=hide hU;have HO:=hide ho
   clear hU ho
   go_wp2_with fail
   go_loopw [7,8] (fun s i wr => ∃ t:Nat,t≤x.length∧i = .int .i64 t∧OwnI wr wm.heap.size s (putTo (fun i=>inL L ⟨j,i⟩) x t)∧Below wm.heap.size wm wr) (fun _ i _=>x.length - (intOf i).toNat)
   case atStart=>exact ⟨0,by omega,rfl,Own.empty _ wm (Nat.le_refl _),(Below.refl _ _).alloc (Nat.le_refl _) _⟩
   case round =>
    obtain ⟨t,ht,rfl,hr,hb3⟩:=hrel
    have hbw:=hb.trans (hb3.mono hb.size)
    have i0w:=(hbw.cell (p:=⟨b,o+j,none⟩) hbl).trans IW.out
    by_cases hlt3:t < x.length
    ·obtain ⟨y,hyk⟩:=get_of_lt (xs:=x) (k:=t) hlt3
     have hlt3':=nat_of_lt hlt3
     have ST:=hide (putTo_succ (f:=fun i=>inL L ⟨j,i⟩) hyk)
     have hil:(putTo (fun i=>inL L ⟨j,i⟩) x t).length≤2 * 1048576:=by have:=(putTo_le (fun i=>inL L ⟨j,i⟩) x t ht).2;omega
     have Y:=hide hyk;clear hyk
     obtain ⟨r,hr0⟩:∃ r,inL L ⟨(j:Int),(t:Int)⟩=r:=⟨_,rfl⟩
     have HC:=HL.out wr hbw ⟨j,t⟩
     rw [hr0] at HC
     have HC:=hide HC
     have R:=hide hr0
     clear hr0
     generalize hI:putTo (fun i=>inL L ⟨j,i⟩) x t=LL at *
     clear hI
     cases r
     ·have ST2:Hid (putTo (fun i=>inL L ⟨j,i⟩) x (t+1)=LL++[y]):=hide (by have h:=ST.out;rw [if_neg (by rw [R.out];simp)] at h;exact h)
      clear ST
      go_wp2_with fail
      (with_reducible refine HC.out.mono ?_);rintro e w2 ⟨rfl,hb2⟩
      have hb4:=hb3.trans (hb2.mono hb3.size)
      have hbw2:=hb.trans (hb4.mono hb.size)
      have i0w2:=(hbw2.cell (p:=⟨b,o+j,none⟩) hbl).trans IW.out
      have hbl2:=Nat.lt_of_lt_of_le hbl hbw2.size
      obtain ⟨b',o',rfl,hbl',j0,j1,j2,j3⟩:=(I1.out.below hbw2).ins Y.out
      have hr2:=hr.below hb2
      go_wp2_with (at_builtin;refine wpList_app InsE 104 Tryz.infoIns rfl Tryz.underlying73 wm.heap.size _ LL y (hr2.alloc _) (by decide) (by omega) (by have:=hb4.size;simp;omega) rfl _ _ rfl rfl w2.heap.size 0 1 rfl news_alloc ?_;intro v' w3 hown1 hgr1)
      have hb5:=below_app hb4 hr2 hgr1
      go_roundw
      case rel=>exact ⟨t+1,by omega,by go_num,by rw [ST2.out];exact hown1,hb5⟩
      case measure=>simp [intOf];omega
     ·have ST2:Hid (putTo (fun i=>inL L ⟨j,i⟩) x (t+1)=(LL++[fenceI])++[y]):=hide (by have h:=ST.out;rw [if_pos (by rw [R.out])] at h;rw [h];simp)
      clear ST
      go_wp2_with fail
      (with_reducible refine HC.out.mono ?_);rintro e w2 ⟨rfl,hb2⟩
      have hb4:=hb3.trans (hb2.mono hb3.size)
      have hr2:=hr.below hb2
      go_wp2_with (first
       | (at_builtin;refine wpList_app InsE 104 Tryz.infoIns rfl Tryz.underlying73 wm.heap.size _ LL fenceI (hr2.alloc _) (by decide) (by omega) (by have:=hb4.size;simp;omega) rfl (.tmp 31) (.tmp 33) rfl rfl w2.heap.size 0 1 rfl news_alloc ?_;intro v' w3 hown1 hgr1;have hb5:=below_app hb4 hr2 hgr1;have hbw2:=hb.trans (hb5.mono hb.size);have i0w2:=(hbw2.cell (p:=⟨b,o+j,none⟩) hbl).trans IW.out;have hbl2:=Nat.lt_of_lt_of_le hbl hbw2.size;obtain ⟨b',o',rfl,hbl',j0,j1,j2,j3⟩:=(I1.out.below hbw2).ins Y.out;clear hbw2)
       | (at_builtin;refine wpList_app InsE 104 Tryz.infoIns rfl Tryz.underlying73 wm.heap.size _ (LL++[fenceI]) y (hown1.alloc _) (by decide) (by rw [List.length_append];simp;omega) (by have:=hb5.size;simp;omega) rfl (.tmp 35) (.tmp 43) rfl rfl w3.heap.size 0 1 rfl news_alloc ?_;intro v'' w4 hown2 hgr2))
      have hb6:=below_app hb5 hown1 hgr2
      go_roundw
      case rel=>exact ⟨t+1,by omega,by go_num,by rw [ST2.out];exact hown2,hb6⟩
      case measure=>simp [intOf];omega
    ·have e:t=x.length:=by omega
     rw [e] at hr
     replace hr:OwnI wr wm.heap.size _ (putI (fun i=>inL L ⟨j,i⟩) x):=hr
     obtain ⟨s,rfl, -⟩:=hr.toSlc
     have hub:us.length≤68719476736:=by have:=HU.out.1;omega
     go_wp2_with (at_builtin;refine wpList_app SlcE 73 Tryz.infoInsS rfl Tryz.underlying28 w.heap.size _ us s ((HU.out.2.1.below hb3).alloc _) (by decide) hub (by simp;have:=hb.size;have:=hb3.size;omega) rfl _ _ rfl rfl wr.heap.size 0 1 rfl news_alloc ?_;intro v' w3 hown3 hgr3)
     have ho2:=(HU.out).app (by decide) (hb3.trans ((Below.refl _ _).alloc hb3.size _)) hb.size (hr.alloc _) hown3 hgr3
     rw [← DS.out] at ho2
     have hb5:=below_app hbw (HU.out.2.1.below hb3) hgr3
     go_roundw
     case rel=>exact ⟨j+1,by omega,by go_num,ho2,hb5⟩
     case measure=>simp [intOf];omega
  ·go_wp2_with fail
   go_ret
   rw [PP.out,show n=j by omega]
   exact ⟨_,rfl,ho,hb⟩
end Go.Proofs.YtfbgppkdnfljhaaGreatDoor
namespace Go.Proofs.YtfbgppkdnfljhaaGreatDoor
open Go.RowKit Go.Shelf
attribute [local go_sem] Oper.semAt_some
structure Keep2 (x y:Nat) (W W':World):Prop where
 one:W'.heap[x]? = W.heap[x]?
 two:W'.heap[y]? = W.heap[y]?
 size:W.heap.size≤W'.heap.size
theorem Keep2.refl (x y:Nat) (W:World):Keep2 x y W W:=⟨rfl,rfl,Nat.le_refl _⟩
theorem Keep2.trans {x y:Nat} {A B C:World} (h:Keep2 x y A B) (k:Keep2 x y B C):Keep2 x y A C:=⟨k.one.trans h.one,k.two.trans h.two,Nat.le_trans h.size k.size⟩
theorem keep2_b {x y:Nat} {w:World} (hx:x < w.heap.size) (hy:y < w.heap.size) (W:World) (l:Nat) (o o':Obj) (hl:w.heap.size≤l) (h:W.heap[l]? = some o) (_:o.isCells=false) (_:o.isWalk=false):Keep2 x y W (W.putObj l o'):=by
 have hg:=grownBy_putObj' W l o'
 have hlt:=(Array.getElem?_eq_some_iff.1 h).1
 exact ⟨hg.block x (by omega) (by simp;omega),hg.block y (by omega) (by simp;omega),hg.size⟩
theorem cell_of_blk {w w':World} {b:Nat} (h:w'.heap[b]? = w.heap[b]?) {o:Nat} {v:Value} (hc:w.cell? ⟨b,o,none⟩=some v):w'.cell? ⟨b,o,none⟩=some v:=by
 rw [← hc];unfold World.cell?;rw [h]
theorem back_take {α:Type} (zs:List α) {k m:Nat} {z:α} (hz:zs[m]? = some z) (hk:k+(m+1)=zs.length):zs.zipIdx.reverse.take (k+1)=zs.zipIdx.reverse.take k++[(z,m)]:=by
 rw [List.take_add_one]
 congr 1
 have hml:=(List.getElem?_eq_some_iff.1 hz).1
 rw [List.getElem?_reverse (by rw [List.length_zipIdx];omega),List.length_zipIdx,show zs.length - 1 - k=m by omega,List.getElem?_zipIdx,hz]
 simp
theorem backG_in {Pr : Gp → Prop} (n : Nat) (hn : 1 ≤ n) (l Bs b off cap : Nat) (zs : List {g : Gp // Pr g}) (J Jx : List ({g : Gp // Pr g} × Nat) → World → Prop)
    (hY : ∀ pre x W, J pre W → pre.length < zs.length → YieldAt Fence.wide (n - 1) Tryz.prog l #[.int .i64 (x.2 : Int), x.1.1.v] W fun e W' =>
      (e = .returned (.bool true) ∧ J (pre ++ [x]) W' ∧ Keep2 Bs b W W') ∨ (e = .returned (.bool false) ∧ Jx (pre ++ [x]) W'))
    (W : World) (hBs : W.cell? ⟨Bs, 0, none⟩ = some (.slice (some ⟨b, off, none⟩) zs.length cap))
    (hc : ∀ (j : Nat) z, zs[j]? = some z → W.cell? ⟨b, off + j * 2, none⟩ = some (.int .i64 z.1.t) ∧ W.cell? ⟨b, off + j * 2 + 1, none⟩ = some (.int .i64 z.1.i)) (h0 : J [] W) (hl : zs.length ≤ 1048576) :
    CallsIn Fence.wide n Tryz.prog 117 #[.func (.yield l) #[] #[], .pointer (some ⟨Bs, 0, none⟩)] W fun e W' => (∃ v, e = .returned v) ∧
      ((∃ ys, ys = zs.zipIdx.reverse ∧ J ys W') ∨ (∃ pre, Jx pre W')) := by
  refine callsIn_of_wp Tryz.func117 rfl trivial ?_ rfl
  simp only [Tryz.ntmps117, List.size_toArray, List.length_cons, List.length_nil, Nat.reduceAdd, Nat.reduceSub, Array.replicate_succ, Array.replicate_zero, List.push_toArray, List.append_toArray, List.nil_append, List.cons_append]
  have BT := hide (fun (k m : Nat) z h1 h2 => back_take zs (k := k) (m := m) (z := z) h1 h2)
  have BA : Hid (zs.zipIdx.reverse.take zs.length = zs.zipIdx.reverse) := hide (List.take_of_length_le (by simp))
  have BL : Hid (∀ k, k ≤ zs.length → (zs.zipIdx.reverse.take k).length = k) := hide (fun k hk => by simp; omega)
  generalize hlen : zs.length = len at *
  have HLEN := hide hlen
  clear hlen
  have hBlt := lt_of_cell hBs
  gi_wp2
  gi_loopw [3] (fun i wr => ∃ k m : Nat, k + m = len ∧ i = .int .i64 ((m : Int) - 1) ∧ J (zs.zipIdx.reverse.take k) wr ∧ Keep2 Bs b W wr) (fun i _ => (intOf i + 1).toNat)
  case atStart => exact ⟨0, len, by omega, rfl, by simpa using h0, Keep2.refl _ _ _⟩
  case round =>
    obtain ⟨k, m, hkm, rfl, hJs, hkp⟩ := hrel
    have hB2 := cell_of_blk hkp.one hBs
    have hBlt2 := lt_of_cell hB2
    cases m with
    | zero =>
      have e0 : decide ((((0 : Nat) : Int) - 1) ≥ 0) = false := by decide
      gi_wp2
      go_end0
      exact ⟨⟨_, rfl⟩, .inl ⟨_, rfl, by rw [← BA.out]; have : k = len := by omega
                                        rw [← this]; exact hJs⟩⟩
    | succ m =>
      have em : (((m + 1 : Nat) : Int) - 1) = (m : Int) := by omega
      rw [em]
      obtain ⟨z, hz⟩ := get_of_lt (xs := zs) (k := m) (by have := HLEN.out; omega)
      obtain ⟨c0, c1⟩ := hc m z hz
      have d0 := cell_of_blk hkp.two c0
      have d1 := cell_of_blk hkp.two c1
      have hblt2 := lt_of_cell d0
      have hml : (m : Int) < len := by omega
      obtain ⟨fn, tmps, assign, body, hy, hR⟩ := hY _ (z, m) wr hJs (by rw [BL.out k (by omega)]; omega)
      have BT2 := hide (BT.out k m z hz (by have := HLEN.out; omega))
      have HR := hide hR
      clear hR c0 c1 hz
      dsimp only at hy
      gi_wp2
      refine HR.out.mono ?_
      rintro e W3 (⟨rfl, hJ3, hk3⟩ | ⟨rfl, hJx3⟩)
      · gi_wp2
        go_roundw
        case rel => exact ⟨k + 1, m, by omega, by go_num, by rw [BT2.out]; exact hJ3, hkp.trans hk3⟩
        case measure => simp [intOf]
      · gi_wp2
        refine bodyPost_ret (results_none rfl _ _ _) rfl ?_
        exact ⟨⟨_, rfl⟩, .inr ⟨_, hJx3⟩⟩
theorem backG_nil_in {Pr:Gp→Prop} (n:Nat) (l Bs:Nat) (a:Option Addr) (c:Nat) (J:List ({g:Gp // Pr g} × Nat)→World→Prop)
 (W:World) (hBs:W.cell? ⟨Bs,0,none⟩=some (.slice a 0 c)) (h0:J [] W) :
 CallsIn Fence.wide n Tryz.prog 117 #[.func (.yield l) #[] #[], .pointer (some ⟨Bs,0,none⟩)] W fun e W'=>(∃ v,e = .returned v)∧J [] W':=by
 refine callsIn_of_wp Tryz.func117 rfl trivial ?_ rfl
 simp only [Tryz.ntmps117,List.size_toArray,List.length_cons,List.length_nil,Nat.reduceAdd,Nat.reduceSub,Array.replicate_succ,Array.replicate_zero,List.push_toArray,List.append_toArray,List.nil_append,List.cons_append]
 have hBlt:=lt_of_cell hBs
 gi_wp2
 gi_loopw [3] (fun i wr=>i = .int .i64 (-1)∧J [] wr) (fun _ _=>0)
 case atStart=>exact ⟨rfl,h0⟩
 case round =>
  obtain ⟨rfl,hJs⟩:=hrel
  gi_wp2
  go_end0
  exact ⟨⟨_,rfl⟩,hJs⟩
theorem Backward_any (a:Option Addr) (len cap:Nat) (w:World) :
 Calls Tryz.prog 61 #[.slice a len cap] w fun e w'=>e = .returned (.func (.func 117) #[] #[.pointer (some ⟨w.heap.size,0,none⟩)])∧w'=w.alloc (.cells #[.slice a len cap] 42):=by
 go_enter Tryz.func61,Tryz.ntmps61
 go_wp2
 go_ret
 exact ⟨rfl,rfl⟩
theorem backG_stops {Pr:Gp→Prop} (n:Nat) (hn:1≤n) (Bs b:Nat) (v:Value) (zs:List {g:Gp // Pr g}) (hl:zs.length≤1048576) (w:World) (hBs:Bs < w.heap.size) (hc:w.cell? ⟨Bs,0,none⟩=some v)
 (hr:Rep GapE w v (zs.map (·.1))) (hb:∀ g o,v = .slice (some ⟨g,o,none⟩) zs.length (match v with | .slice _ _ c=>c | _=>0)→zs≠[]→g=b) :
 SeqStopsK Fence.wide n Tryz.prog 117 #[.pointer (some ⟨Bs,0,none⟩)] (fun x:{g:Gp // Pr g} × Nat => #[Value.int .i64 (x.2:Int),x.1.1.v]) (Keep2 Bs b) (fun ys=>ys=zs.zipIdx.reverse)
  (fun _=>True) zs.length w:=fun l J Jx W hW _ _ hY h0=>by
 have hc':=(hW.cell (p:=⟨Bs,0,none⟩) hBs).trans hc
 have hr':=hr.below hW
 obtain ⟨a,c,rfl,h1,h2,hx⟩:=hr'
 rw [List.length_map] at hc' h1
 by_cases hz:zs=[]
 ·subst hz
  exact (backG_nil_in n l Bs _ _ J W hc' h0).mono fun e W' ⟨he,hj⟩=>⟨he, .inl ⟨_,rfl,hj⟩⟩
 ·obtain ⟨z0,hz0⟩:=get_of_lt (xs:=zs) (k:=0) (List.length_pos_iff.2 hz)
  obtain ⟨b',o,rfl, -⟩:=hx 0 z0.1 (by rw [List.getElem?_map,hz0];rfl)
  obtain rfl:b'=b:=hb b' o (by rw [List.length_map]) hz
  refine (backG_in n hn l Bs b' o c zs J Jx hY W hc' (fun j z hj => ?_) h0 hl).mono fun e W' ⟨he,h⟩=>⟨he,h.imp (fun ⟨ys,e,hj⟩=>⟨ys,e,hj⟩) (fun ⟨pre,hj⟩=>⟨pre,trivial,hj⟩)⟩
  obtain ⟨b2,o2,e2,h2⟩:=hx j z.1 (by rw [List.getElem?_map,hj];rfl)
  simp only [Option.some.injEq,Addr.mk.injEq,and_true] at e2
  obtain ⟨rfl,rfl⟩:=e2
  exact ⟨h2 0 _ rfl,h2 1 _ rfl⟩
end Go.Proofs.YtfbgppkdnfljhaaGreatDoor
namespace Go.Proofs.YtfbgppkdnfljhaaGreatDoor
open Go.RowKit
def gapsV (p:List (List Ins)):List Gp:=if progValid p=true then gapsP p else []
theorem GapsOf_any (v:Value) (p:List (List Ins)) (w:World) (hp:RepP w v p) (hl:p.flatten.length≤1048576) :
 Calls Tryz.prog 21 #[v] w (RetOwn GapE 95 w (gapsV p)):=by
 have GV:Hid (gapsV p=if progValid p=true then gapsP p else []):=hide rfl
 have HP:=hide hp;clear hp
 have HV:=hide (fun w' h=>ProgramValid_any v p w' h hl)
 have HG:=hide (fun w' h=>gaps_any v p w' h hl)
 generalize hb:progValid p=b at *
 clear hb
 cases b
 ·go_enter Tryz.func21,Tryz.ntmps21
  go_wp2_with (go_at_call 36;(with_reducible refine (HV.out _ HP.out).mono ?_);rintro e w1 ⟨rfl,hb1⟩)
  go_ret
  rw [GV.out]
  exact ⟨_,rfl,Own.nil _ _ _,hb1⟩
 ·go_enter Tryz.func21,Tryz.ntmps21
  go_wp2_with (first | (go_at_call 36;(with_reducible refine (HV.out _ HP.out).mono ?_);rintro e w1 ⟨rfl,hb1⟩) | (go_at_call 56;(with_reducible refine (HG.out _ (HP.out.below hb1)).mono ?_);rintro e w2 ⟨u,rfl,hu,hb2⟩))
  go_ret
  rw [GV.out]
  exact ⟨_,rfl,hu.mono hb1.size,Below.next hb1 hb2⟩
end Go.Proofs.YtfbgppkdnfljhaaGreatDoor
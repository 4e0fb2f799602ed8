/-
  The laws' tests of lists of outcomes: equal, sorted. No condition but what the lists read as.
-/
import Derived.Test.YtkfhgnkonaafgaaGreatDoorZs04
import Derived.Test.YtkfhgnkonaafgaaGreatDoorZs05
import Derived.Test.YtkfhgnkonaafgaaGreatDoorZs07
set_option maxHeartbeats 6400000
set_option maxRecDepth 100000
namespace Go.Proofs.YtkfhgnkonaafgaaGreatDoor
open Go.RowKit
theorem news_allocV {w:World} {l:List Value} {T:TypeId} {G:Nat} (hG:w.heap.size=G):∀ (j:Nat) (u:Value),l[j]? = some u→(w.alloc (.cells l.toArray T)).cell? ⟨G,0+j,none⟩=some u:=by
 subst hG;exact news_alloc
theorem below_app2 {α:Type} {E:El α} {T:TypeId} {w wr w1:World} {o o2:Obj} {v:Value} {xs:List α} (hb:Below w.heap.size w wr) (hown:Own E T wr w.heap.size v xs) (hg:((wr.alloc o).alloc o2).grownBy w1 v.ownBlock):Below w.heap.size w w1:=
 below_app (hb.alloc hb.size o) (hown.alloc o) hg
theorem writersOf_any (v:Value) (es:List Ev) (l:Int) (w:World) (hx:Rep EvE w v es) (hl:es.length≤1048676) :
 Calls Tryz.prog 98 #[v, .int .i64 l] w (RetOwn IntE 3 w (wrL es l)):=by
 obtain ⟨a,c,rfl,hc1,hc2,hc3,hx⟩:=hx.open
 have HX:=hide hx;clear hx
 have HW:Hid (wrL es l=wrTo es l es.length):=hide rfl
 have HLEN:=hide (wrTo_length es l)
 generalize hn:es.length=n at *
 have H:=hide hn;clear hn
 go_enter Tryz.func98,Tryz.ntmps98
 go_wp2_with fail
 go_loopw [5,10] (fun s i wr => ∃ t:Nat,t≤n∧i = .int .i64 t∧OwnN wr w.heap.size s (wrTo es l t)∧Below w.heap.size w wr) (fun _ i _=>n - (intOf i).toNat)
 case atStart=>exact ⟨0,Nat.zero_le _,rfl,Own.nil _ _ _,Below.refl _ _⟩
 case round =>
  obtain ⟨t,ht,rfl,hown,hb⟩:=hrel
  by_cases hlt:t < n
  ·obtain ⟨e,hek⟩:=get_of_lt (xs:=es) (k:=t) (by rw [H.out];exact hlt)
   obtain ⟨b,o,rfl,hbl,i0,i1,i2,i3,i4⟩:=(HX.out.below hb).ev hek
   have hlt':=nat_of_lt hlt
   have HS:=hide (wrTo_succ l hek)
   have hlen:(wrTo es l t).length≤68719476736:=Nat.le_trans (HLEN.out t (by omega)) (by omega)
   clear hek
   obtain ⟨et,ei,el,er,ew⟩:=e
   simp only at i0 i1 i2 i3 i4
   generalize wrTo es l t=G at *
   cases ew
   ·have HS2:Hid (wrTo es l (t+1)=G):=hide (by rw [HS.out,wr1];simp)
    go_wp2_with fail
    go_roundw
    case rel=>exact ⟨t+1,by omega,by go_num,by rw [HS2.out];exact hown.alloc _,hb.alloc hb.size _⟩
    case measure=>simp [intOf];omega
   ·by_cases hel:el=l
    ·have HS2:Hid (wrTo es l (t+1)=G++[(t:Int)]):=hide (by rw [HS.out,wr1,if_pos (by simp [hel])])
     have k1:(el==l)=true:=by simp [hel]
     clear hel
     go_wp2_with (at_builtin;refine wpList_app IntE 3 Tryz.infoInt rfl Tryz.underlying24 w.heap.size _ G (t:Int) ((hown.alloc _).alloc _) (by decide) hlen (by simp;have:=hb.size;omega) rfl _ _ rfl rfl _ 0 1 rfl (news_allocV (by simp)) ?_;intro v' w1 hown1 hgr1)
     have hb1:=below_app2 hb hown hgr1
     go_roundw
     case rel=>exact ⟨t+1,by omega,by go_num,by rw [HS2.out];exact hown1,hb1⟩
     case measure=>simp [intOf];omega
    ·have HS2:Hid (wrTo es l (t+1)=G):=hide (by rw [HS.out,wr1,if_neg (by simp [hel])];simp)
     have k1:(el==l)=false:=by simp [hel]
     clear hel
     go_wp2_with fail
     go_roundw
     case rel=>exact ⟨t+1,by omega,by go_num,by rw [HS2.out];exact hown.alloc _,hb.alloc hb.size _⟩
     case measure=>simp [intOf];omega
  ·have e:t=n:=by omega
   go_wp2_with fail
   go_ret
   rw [HW.out,← e]
   exact ⟨_,rfl,hown,hb⟩
theorem l6Writers_any (v:Value) (es:List Ev) (l:Int) (w:World) (hx:Rep EvE w v es) (hl:es.length≤1048676) :
 Calls Tryz.prog 147 #[v, .int .i64 l] w (RetOwn IntE 3 w (wrL es l)):=by
 obtain ⟨a,c,rfl,hc1,hc2,hc3,hx⟩:=hx.open
 have HX:=hide hx;clear hx
 have HW:Hid (wrL es l=wrTo es l es.length):=hide rfl
 have HLEN:=hide (wrTo_length es l)
 generalize hn:es.length=n at *
 have H:=hide hn;clear hn
 go_enter Tryz.func147,Tryz.ntmps147
 go_wp2_with fail
 go_loopw [5,6] (fun s i wr => ∃ t:Nat,t≤n∧i = .int .i64 t∧OwnN wr w.heap.size s (wrTo es l t)∧Below w.heap.size w wr) (fun _ i _=>n - (intOf i).toNat)
 case atStart=>exact ⟨0,Nat.zero_le _,rfl,Own.empty (E:=IntE) _ w (Nat.le_refl _),(Below.refl _ _).alloc (Nat.le_refl _) _⟩
 case round =>
  obtain ⟨t,ht,rfl,hown,hb⟩:=hrel
  by_cases hlt:t < n
  ·obtain ⟨e,hek⟩:=get_of_lt (xs:=es) (k:=t) (by rw [H.out];exact hlt)
   obtain ⟨b,o,rfl,hbl,i0,i1,i2,i3,i4⟩:=(HX.out.below hb).ev hek
   have hlt':=nat_of_lt hlt
   have HS:=hide (wrTo_succ l hek)
   have hlen:(wrTo es l t).length≤68719476736:=Nat.le_trans (HLEN.out t (by omega)) (by omega)
   clear hek
   obtain ⟨et,ei,el,er,ew⟩:=e
   simp only at i0 i1 i2 i3 i4
   generalize wrTo es l t=G at *
   cases ew
   ·have HS2:Hid (wrTo es l (t+1)=G):=hide (by rw [HS.out,wr1];simp)
    go_wp2_with fail
    go_roundw
    case rel=>exact ⟨t+1,by omega,by go_num,by rw [HS2.out];exact hown,hb⟩
    case measure=>simp [intOf];omega
   ·by_cases hel:el=l
    ·have HS2:Hid (wrTo es l (t+1)=G++[(t:Int)]):=hide (by rw [HS.out,wr1,if_pos (by simp [hel])])
     have k1:(el==l)=true:=by simp [hel]
     clear hel
     go_wp2_with (at_builtin;refine wpList_app IntE 3 Tryz.infoInt rfl Tryz.underlying24 w.heap.size _ G (t:Int) (hown.alloc _) (by decide) hlen (by simp;have:=hb.size;omega) rfl _ _ rfl rfl _ 0 1 rfl (news_allocV (by simp)) ?_;intro v' w1 hown1 hgr1)
     have hb1:=below_app hb hown hgr1
     go_roundw
     case rel=>exact ⟨t+1,by omega,by go_num,by rw [HS2.out];exact hown1,hb1⟩
     case measure=>simp [intOf];omega
    ·have HS2:Hid (wrTo es l (t+1)=G):=hide (by rw [HS.out,wr1,if_neg (by simp [hel])];simp)
     have k1:(el==l)=false:=by simp [hel]
     clear hel
     go_wp2_with fail
     go_roundw
     case rel=>exact ⟨t+1,by omega,by go_num,by rw [HS2.out];exact hown,hb⟩
     case measure=>simp [intOf];omega
  ·have e:t=n:=by omega
   go_wp2_with fail
   go_ret
   rw [HW.out,← e]
   exact ⟨_,rfl,hown,hb⟩
def PlaceOf (xs:List Int) (x q:Int):Prop:=(q = -1∧x∉xs)∨∃ k:Nat,q=k∧xs[k]? = some x∧x∉xs.take k
theorem notin_succ {xs:List Int} {x y:Int} {t:Nat} (h:x∉xs.take t) (hy:xs[t]? = some y) (hne:y≠x):x∉xs.take (t+1):=by
 rw [List.take_add_one,hy]
 simp [h,Ne.symm hne]
theorem l6Place_any (v:Value) (xs:List Int) (x:Int) (w:World) (hx:Rep IntE w v xs) :
 Calls Tryz.prog 236 #[v, .int .i64 x] w fun e w'=>(∃ q:Int,e = .returned (.int .i64 q)∧PlaceOf xs x q)∧w=w':=by
 obtain ⟨a,c,rfl,hc1,hc2,hc3,hx⟩:=hx.open
 have HX:=hide hx;clear hx
 generalize hn:xs.length=n at *
 have H:=hide hn;clear hn
 go_enter Tryz.func236,Tryz.ntmps236
 go_wp2_with fail
 go_loop [5] (fun i => ∃ t:Nat,t≤n∧i = .int .i64 t∧Hid (x∉xs.take t)) (fun i=>n - (intOf i).toNat)
 case atStart=>exact ⟨0,Nat.zero_le _,rfl,hide (by simp)⟩
 case round =>
  obtain ⟨t,ht,rfl,hno⟩:=hrel
  by_cases hlt:t < n
  ·obtain ⟨y,hy⟩:=get_of_lt (xs:=xs) (k:=t) (by rw [H.out];exact hlt)
   obtain ⟨b,o,rfl,hbl,i0⟩:=HX.out.int hy
   have hlt':=nat_of_lt hlt
   have X:=hide hy;clear hy
   by_cases hxy:y=x
   ·have k1:(y==x)=true:=by simp [hxy]
    have XE:=hide hxy
    clear hxy
    go_wp2_with fail
    go_ret
    exact ⟨⟨_,rfl, .inr ⟨t,rfl,XE.out ▸ X.out,hno.out⟩⟩,rfl⟩
   ·have k1:(y==x)=false:=by simp [hxy]
    have NO:Hid (x∉xs.take (t+1)):=hide (notin_succ hno.out X.out hxy)
    clear hxy
    go_wp2_with fail
    go_round
    case rel=>exact ⟨t+1,by omega,by go_num,NO⟩
    case measure=>simp [intOf];omega
  ·go_wp2_with fail
   go_ret
   refine ⟨⟨_,rfl, .inl ⟨rfl, ?_⟩⟩,rfl⟩
   have h:=hno.out
   rwa [List.take_of_length_le (by rw [H.out];omega)] at h
end Go.Proofs.YtkfhgnkonaafgaaGreatDoor
namespace Go.Proofs.YtkfhgnkonaafgaaGreatDoor
open Go.RowKit
end Go.Proofs.YtkfhgnkonaafgaaGreatDoor
namespace Go.Proofs.YtkfhgnkonaafgaaGreatDoor
open Go.RowKit
end Go.Proofs.YtkfhgnkonaafgaaGreatDoor
namespace Go.Proofs.YtkfhgnkonaafgaaGreatDoor
open Go.RowKit
theorem wmInts_any (v v':Value) (xs:List Int) (w:World) (hx:Rep IntE w v xs) (hy:Rep IntE w v' xs) :
 Calls Tryz.prog 55 #[v,v'] w fun e w'=>e = .returned (.bool true)∧Below w.heap.size w w':=by
 obtain ⟨a,c,rfl,hc1,hc2,hc3,hx⟩:=hx.open
 obtain ⟨a',c',rfl,hc1',hc2',hc3',hy⟩:=hy.open
 have HX:=hide hx;clear hx
 have HY:=hide hy;clear hy
 generalize hn:xs.length=n at *
 have H:=hide hn;clear hn
 have hnn:((n:Int) != n)=false:=by simp
 go_enter Tryz.func55,Tryz.ntmps55
 go_wp2_with fail
 go_loopw [5] (fun v wr => ∃ k:Nat,k≤n∧v = .int .i64 k∧Below w.heap.size w wr) (fun v _=>n - (intOf v).toNat)
 case atStart=>exact ⟨0,Nat.zero_le _,rfl,Below.refl _ _⟩
 case round =>
  obtain ⟨k,hk,rfl,hb⟩:=hrel
  by_cases hlt:k < n
  ·obtain ⟨x,hxk⟩:=get_of_lt (xs:=xs) (k:=k) (by rw [H.out];exact hlt)
   obtain ⟨b,o,rfl,hbl,i0⟩:=(HX.out.below hb).int hxk
   obtain ⟨b',o',rfl,hbl',j0⟩:=(HY.out.below hb).int hxk
   have hlt':=nat_of_lt hlt
   clear hxk
   go_wp2_with fail
   refine wp_region_bw (by kernel_rfl) (by kernel_rfl) ?_
   repeat (go_big_quiet_step (fail))
   refine wpQuiet_nil ?_
   intro w1 hb1
   go_wp2_with fail
   go_roundw
   case rel=>exact ⟨k+1,by omega,by go_num,hb.trans (hb1.mono hb.size)⟩
   case measure=>simp [intOf];omega
  ·have hkg:decide (k < n)=false:=decide_eq_false hlt
   go_wp2_with fail
   go_ret
   exact ⟨rfl,hb⟩
end Go.Proofs.YtkfhgnkonaafgaaGreatDoor
namespace Go.Proofs.YtkfhgnkonaafgaaGreatDoor
open Go.RowKit
theorem wmLists_any (v v':Value) (p:List (List Int)) (w:World) (h:Rep2 IntE w v p) (h':Rep2 IntE w v' p) :
 Calls Tryz.prog 28 #[v,v'] w fun e w'=>e = .returned (.bool true)∧Below w.heap.size w w':=by
 have HX:=hide h;have HY:=hide h'
 obtain ⟨a,c,rfl, -,hc1, -, -⟩:=h.open
 obtain ⟨a',c',rfl, -, -, -, -⟩:=h'.open
 clear h h'
 generalize hn:p.length=n at *
 have HN:=hide hn
 clear hn
 go_enter Tryz.func28,Tryz.ntmps28
 go_wp2_with fail
 go_loopw [5] (fun i wr => ∃ k:Nat,k≤n∧i = .int .i64 k∧Below w.heap.size w wr) (fun i _=>n - (intOf i).toNat)
 case atStart=>exact ⟨0,Nat.zero_le _,rfl,Below.refl _ _⟩
 case round =>
  obtain ⟨k,hk,rfl,hb⟩:=hrel
  have HB:=hide hb
  by_cases hlt:k < n
  ·have hlt':=nat_of_lt hlt
   obtain ⟨r,hr⟩:=get_of_lt (xs:=p) (k:=k) (by rw [HN.out];exact hlt)
   obtain ⟨b1,o1,ra1,rc1,rfl,hl1,q1,hr1⟩:=Rep2.row (HX.out.below hb) hr
   obtain ⟨b2,o2,ra2,rc2,rfl,hl2,q2,hr2⟩:=Rep2.row (HY.out.below hb) hr
   have HW:=hide (fun X:BW wr=>wmInts_any (.slice ra1 r.length rc1) (.slice ra2 r.length rc2) r X.val (hr1.below X.prop) (hr2.below X.prop))
   clear hr hb hr1 hr2
   generalize r.length=rn at *
   go_wp2_with fail
   refine wp_region_bw (by kernel_rfl) (by kernel_rfl) ?_
   repeat (go_big_quiet_step ((go_at_call 55;(with_reducible exact Calls.bw (HW.out _)))))
   refine wpQuiet_nil ?_
   intro w1 hw1
   have B1:=hide (HB.out.trans (hw1.mono HB.out.size))
   clear hw1 q1 q2
   go_wp2_with fail
   go_roundw
   case rel=>exact ⟨k+1,by omega,by go_num,B1.out⟩
   case measure=>simp [intOf];omega
  ·obtain rfl:k=n:=by omega
   go_wp2_with fail
   go_ret
   exact ⟨rfl,HB.out⟩
theorem lexO_lt {a b:List Int} (hl:a.length=b.length) (h:lexO a b = -1):∃ (k:Nat) (x y:Int),a[k]? = some x∧b[k]? = some y∧x < y∧∀ j,j < k→a[j]? = b[j]?:=by
 induction a generalizing b with
 | nil=>simp [lexO] at h
 | cons x a ih =>
  cases b with
  | nil=>simp at hl
  | cons y b =>
   unfold lexO at h
   by_cases h1:x < y
   ·exact ⟨0,x,y,rfl,rfl,h1,fun j hj=>by omega⟩
   ·rw [if_neg h1] at h
    by_cases h2:y < x
    ·rw [if_pos h2] at h;omega
    ·rw [if_neg h2] at h
     obtain rfl:x=y:=by omega
     obtain ⟨k,u,v,e1,e2,e3,e4⟩:=ih (by simpa using hl) h
     refine ⟨k+1,u,v,e1,e2,e3,fun j hj => ?_⟩
     cases j with
     | zero=>rfl
     | succ j=>exact e4 j (by omega)
theorem wmSorted_any (v:Value) (p:List (List Int)) (m:Nat) (w:World) (h:Rep2 IntE w v p) (hk:OutsOk m p) (hm:m≤1048576) :
 Calls Tryz.prog 29 #[v] w fun e w'=>e = .returned (.bool true)∧Below w.heap.size w w':=by
 have HX:=hide h;have HK:=hide hk
 obtain ⟨a,c,rfl, -,hc1, -, -⟩:=h.open
 clear h hk
 generalize hn:p.length=n at *
 have HN:=hide hn
 clear hn
 go_enter Tryz.func29,Tryz.ntmps29
 go_wp2_with fail
 go_loopw [3] (fun i wr => ∃ k:Nat,(k≤n∨k=1)∧1≤k∧i = .int .i64 k∧Below w.heap.size w wr) (fun i _=>n+1 - (intOf i).toNat)
 case atStart=>exact ⟨1, .inr rfl,Nat.le_refl _,rfl,Below.refl _ _⟩
 case round =>
  obtain ⟨k,hk,hk1,rfl,hb⟩:=hrel
  have HB:=hide hb
  by_cases hlt:k < n
  ·have hlt':=nat_of_lt hlt
   have hw1:IntKind.i64.wrap ((k:Int) - 1)=((k - 1:Nat):Int):=by rw [IntKind.wrap_i64];omega
   have hltp:((k - 1:Nat):Int) < (n:Int):=by omega
   obtain ⟨r1,hr1⟩:=get_of_lt (xs:=p) (k:=k - 1) (by rw [HN.out];omega)
   obtain ⟨r2,hr2⟩:=get_of_lt (xs:=p) (k:=k) (by rw [HN.out];exact hlt)
   have hl1:=HK.out.len r1 (List.mem_of_getElem? hr1)
   have hl2:=HK.out.len r2 (List.mem_of_getElem? hr2)
   have hlex:lexO r1 r2 = -1:=by
    obtain ⟨a1,e1⟩:=List.getElem?_eq_some_iff.1 hr1
    obtain ⟨a2,e2⟩:=List.getElem?_eq_some_iff.1 hr2
    have:=List.pairwise_iff_getElem.1 HK.out.pw (k - 1) k a1 a2 (by omega)
    rw [e1,e2] at this;exact this
   obtain ⟨d,x,y,hx,hy,hxy,heq⟩:=lexO_lt (hl1.trans hl2.symm) hlex
   obtain ⟨b1,o1,ra1,rc1,hsl,hbl1,q1,rr1⟩:=Rep2.row (HX.out.below hb) hr1
   obtain ⟨b1',o1',ra2,rc2,hsl2,hbl2,q2,rr2⟩:=Rep2.row (HX.out.below hb) hr2
   subst hsl
   simp only [Option.some.injEq,Addr.mk.injEq,and_true] at hsl2
   obtain ⟨rfl,rfl⟩:=hsl2
   rw [hl1] at q1;rw [hl2] at q2
   have hd:=(List.getElem?_eq_some_iff.1 hx).1
   rw [hl1] at hd
   have HEQ:=hide heq
   have R1:=hide rr1;have R2:=hide rr2;have HX1:=hide hx;have HY1:=hide hy
   have HL1:=hide hl1;have HL2:=hide hl2
   clear hr1 hr2 hb rr1 rr2 hlex hx hy heq hl1 hl2
   go_wp2_with fail
   go_loopw [4] (fun j wq => ∃ z:Nat,z≤d∧j = .int .i64 z∧Below wr.heap.size wr wq) (fun j _=>d - (intOf j).toNat)
   case atStart=>exact ⟨0,Nat.zero_le _,rfl,Below.refl _ _⟩
   case round =>
    obtain ⟨z,hz,rfl,hbq⟩:=hrel
    have HBQ:=hide hbq
    have e1:=(hbq.cell (p:=⟨b1,o1+(k - 1),none⟩) hbl1).trans q1
    have e2:=(hbq.cell (p:=⟨b1,o1+k,none⟩) hbl1).trans q2
    have bl:=lt_of_cell e1
    have hzm:(z:Int) < (m:Int):=by omega
    obtain ⟨x1,hx1⟩:=get_of_lt (xs:=r1) (k:=z) (by rw [HL1.out];omega)
    obtain ⟨y1,hy1⟩:=get_of_lt (xs:=r2) (k:=z) (by rw [HL2.out];omega)
    obtain ⟨g1,p1,rfl,gl1,gc1⟩:=(R1.out.below hbq).int hx1
    obtain ⟨g2,p2,rfl,gl2,gc2⟩:=(R2.out.below hbq).int hy1
    by_cases hzd:z < d
    ·have hxe:x1=y1:=by
      have:=HEQ.out z hzd
      rw [hx1,hy1] at this
      simpa using this
     subst hxe
     have hbe:(x1==x1)=true:=by simp
     clear hx1 hy1 hbq
     go_wp2_with fail
     refine wp_region_bw (by kernel_rfl) (by kernel_rfl) ?_
     repeat (go_big_quiet_step (fail))
     refine wpQuiet_nil ?_
     intro w1 hw1
     have B1:=hide (HBQ.out.trans (hw1.mono HBQ.out.size))
     clear hw1
     go_wp2_with fail
     go_roundw
     case rel=>exact ⟨z+1,by omega,by go_num,B1.out⟩
     case measure=>simp [intOf];omega
    ·obtain rfl:z=d:=by omega
     obtain rfl:x1=x:=by have:=HX1.out;rw [hx1] at this;simpa using this
     obtain rfl:y1=y:=by have:=HY1.out;rw [hy1] at this;simpa using this
     have hbe:(x1==y1)=false:=by simp;omega
     have hgt:¬ x1 > y1:=by omega
     have hzne:((z:Int)==(m:Int))=false:=by simp;omega
     clear hx1 hy1 hbq
     go_wp2_with fail
     refine wp_region_bw (by kernel_rfl) (by kernel_rfl) ?_
     repeat (go_big_quiet_step (fail))
     refine wpQuiet_nil ?_
     intro w1 hw1
     have f1:=(hw1.cell (p:=⟨b1,o1+(k - 1),none⟩) bl).trans e1
     have f2:=(hw1.cell (p:=⟨b1,o1+k,none⟩) bl).trans e2
     have fl:=lt_of_cell f1
     have fc1:=(hw1.cell gl1).trans gc1
     have fc2:=(hw1.cell gl2).trans gc2
     have fl1:=lt_of_cell fc1
     have fl2:=lt_of_cell fc2
     have B1:=hide (HBQ.out.trans (hw1.mono HBQ.out.size))
     clear hw1 e1 e2 bl gc1 gc2 gl1 gl2
     go_wp2_with fail
     refine wp_region_bw (by kernel_rfl) (by kernel_rfl) ?_
     repeat (go_big_quiet_step (fail))
     refine wpQuiet_nil ?_
     intro w2 hw2
     have B2:=hide (HB.out.trans ((B1.out.trans (hw2.mono B1.out.size)).mono HB.out.size))
     clear hw2
     go_wp2_with fail
     go_roundw
     case rel=>exact ⟨k+1, .inl (by omega),by omega,by go_num,B2.out⟩
     case measure=>simp [intOf];omega
  ·have hge:¬ ((k:Int) < (n:Int)):=by omega
   go_wp2_with fail
   go_ret
   exact ⟨rfl,HB.out⟩
end Go.Proofs.YtkfhgnkonaafgaaGreatDoor
/-
  Conflicts and the list of all instructions. No condition but bounds on lengths.
-/
import Derived.Test.YtfbgppkdnfljhaaGreatDoorZj03
import Derived.Test.YtfbgppkdnfljhaaGreatDoorZj04
import Derived.Test.YtfbgppkdnfljhaaGreatDoorZj06
set_option maxHeartbeats 6400000
set_option maxRecDepth 100000
namespace Go.Proofs.YtfbgppkdnfljhaaGreatDoor
open Go.RowKit
theorem news_allocV {w:World} {l:List Value} {T:TypeId} {G:Nat} (hG:w.heap.size=G):∀ (j:Nat) (u:Value),l[j]? = some u→(w.alloc (.cells l.toArray T)).cell? ⟨G,0+j,none⟩=some u:=by
 subst hG;exact news_alloc
theorem below_app2 {α:Type} {E:El α} {T:TypeId} {w wr w1:World} {o o2:Obj} {v:Value} {xs:List α} (hb:Below w.heap.size w wr) (hown:Own E T wr w.heap.size v xs) (hg:((wr.alloc o).alloc o2).grownBy w1 v.ownBlock):Below w.heap.size w w1:=
 below_app (hb.alloc hb.size o) (hown.alloc o) hg
theorem writersOf_any (v:Value) (es:List Ev) (l:Int) (w:World) (hx:Rep EvE w v es) (hl:es.length≤1048676) :
 Calls Tryz.prog 94 #[v, .int .i64 l] w (RetOwn IntE 3 w (wrL es l)):=by
 obtain ⟨a,c,rfl,hc1,hc2,hc3,hx⟩:=hx.open
 have HX:=hide hx;clear hx
 have HW:Hid (wrL es l=wrTo es l es.length):=hide rfl
 have HLEN:=hide (wrTo_length es l)
 generalize hn:es.length=n at *
 have H:=hide hn;clear hn
 go_enter Tryz.func94,Tryz.ntmps94
 go_wp2_with fail
 go_loopw [5,10] (fun s i wr => ∃ t:Nat,t≤n∧i = .int .i64 t∧OwnN wr w.heap.size s (wrTo es l t)∧Below w.heap.size w wr) (fun _ i _=>n - (intOf i).toNat)
 case atStart=>exact ⟨0,Nat.zero_le _,rfl,Own.nil _ _ _,Below.refl _ _⟩
 case round =>
  obtain ⟨t,ht,rfl,hown,hb⟩:=hrel
  by_cases hlt:t < n
  ·obtain ⟨e,hek⟩:=get_of_lt (xs:=es) (k:=t) (by rw [H.out];exact hlt)
   obtain ⟨b,o,rfl,hbl,i0,i1,i2,i3,i4⟩:=(HX.out.below hb).ev hek
   have hlt':=nat_of_lt hlt
   have HS:=hide (wrTo_succ l hek)
   have hlen:(wrTo es l t).length≤68719476736:=Nat.le_trans (HLEN.out t (by omega)) (by omega)
   clear hek
   obtain ⟨et,ei,el,er,ew⟩:=e
   simp only at i0 i1 i2 i3 i4
   generalize wrTo es l t=G at *
   cases ew
   ·have HS2:Hid (wrTo es l (t+1)=G):=hide (by rw [HS.out,wr1];simp)
    go_wp2_with fail
    go_roundw
    case rel=>exact ⟨t+1,by omega,by go_num,by rw [HS2.out];exact hown.alloc _,hb.alloc hb.size _⟩
    case measure=>simp [intOf];omega
   ·by_cases hel:el=l
    ·have HS2:Hid (wrTo es l (t+1)=G++[(t:Int)]):=hide (by rw [HS.out,wr1,if_pos (by simp [hel])])
     have k1:(el==l)=true:=by simp [hel]
     clear hel
     go_wp2_with (at_builtin;refine wpList_app IntE 3 Tryz.infoInt rfl Tryz.underlying57 w.heap.size _ G (t:Int) ((hown.alloc _).alloc _) (by decide) hlen (by simp;have:=hb.size;omega) rfl _ _ rfl rfl _ 0 1 rfl (news_allocV (by simp)) ?_;intro v' w1 hown1 hgr1)
     have hb1:=below_app2 hb hown hgr1
     go_roundw
     case rel=>exact ⟨t+1,by omega,by go_num,by rw [HS2.out];exact hown1,hb1⟩
     case measure=>simp [intOf];omega
    ·have HS2:Hid (wrTo es l (t+1)=G):=hide (by rw [HS.out,wr1,if_neg (by simp [hel])];simp)
     have k1:(el==l)=false:=by simp [hel]
     clear hel
     go_wp2_with fail
     go_roundw
     case rel=>exact ⟨t+1,by omega,by go_num,by rw [HS2.out];exact hown.alloc _,hb.alloc hb.size _⟩
     case measure=>simp [intOf];omega
  ·have e:t=n:=by omega
   go_wp2_with fail
   go_ret
   rw [HW.out,← e]
   exact ⟨_,rfl,hown,hb⟩
theorem l6Writers_any (v:Value) (es:List Ev) (l:Int) (w:World) (hx:Rep EvE w v es) (hl:es.length≤1048676) :
 Calls Tryz.prog 189 #[v, .int .i64 l] w (RetOwn IntE 3 w (wrL es l)):=by
 obtain ⟨a,c,rfl,hc1,hc2,hc3,hx⟩:=hx.open
 have HX:=hide hx;clear hx
 have HW:Hid (wrL es l=wrTo es l es.length):=hide rfl
 have HLEN:=hide (wrTo_length es l)
 generalize hn:es.length=n at *
 have H:=hide hn;clear hn
 go_enter Tryz.func189,Tryz.ntmps189
 go_wp2_with fail
 go_loopw [5,6] (fun s i wr => ∃ t:Nat,t≤n∧i = .int .i64 t∧OwnN wr w.heap.size s (wrTo es l t)∧Below w.heap.size w wr) (fun _ i _=>n - (intOf i).toNat)
 case atStart=>exact ⟨0,Nat.zero_le _,rfl,Own.empty (E:=IntE) _ w (Nat.le_refl _),(Below.refl _ _).alloc (Nat.le_refl _) _⟩
 case round =>
  obtain ⟨t,ht,rfl,hown,hb⟩:=hrel
  by_cases hlt:t < n
  ·obtain ⟨e,hek⟩:=get_of_lt (xs:=es) (k:=t) (by rw [H.out];exact hlt)
   obtain ⟨b,o,rfl,hbl,i0,i1,i2,i3,i4⟩:=(HX.out.below hb).ev hek
   have hlt':=nat_of_lt hlt
   have HS:=hide (wrTo_succ l hek)
   have hlen:(wrTo es l t).length≤68719476736:=Nat.le_trans (HLEN.out t (by omega)) (by omega)
   clear hek
   obtain ⟨et,ei,el,er,ew⟩:=e
   simp only at i0 i1 i2 i3 i4
   generalize wrTo es l t=G at *
   cases ew
   ·have HS2:Hid (wrTo es l (t+1)=G):=hide (by rw [HS.out,wr1];simp)
    go_wp2_with fail
    go_roundw
    case rel=>exact ⟨t+1,by omega,by go_num,by rw [HS2.out];exact hown,hb⟩
    case measure=>simp [intOf];omega
   ·by_cases hel:el=l
    ·have HS2:Hid (wrTo es l (t+1)=G++[(t:Int)]):=hide (by rw [HS.out,wr1,if_pos (by simp [hel])])
     have k1:(el==l)=true:=by simp [hel]
     clear hel
     go_wp2_with (at_builtin;refine wpList_app IntE 3 Tryz.infoInt rfl Tryz.underlying57 w.heap.size _ G (t:Int) (hown.alloc _) (by decide) hlen (by simp;have:=hb.size;omega) rfl _ _ rfl rfl _ 0 1 rfl (news_allocV (by simp)) ?_;intro v' w1 hown1 hgr1)
     have hb1:=below_app hb hown hgr1
     go_roundw
     case rel=>exact ⟨t+1,by omega,by go_num,by rw [HS2.out];exact hown1,hb1⟩
     case measure=>simp [intOf];omega
    ·have HS2:Hid (wrTo es l (t+1)=G):=hide (by rw [HS.out,wr1,if_neg (by simp [hel])];simp)
     have k1:(el==l)=false:=by simp [hel]
     clear hel
     go_wp2_with fail
     go_roundw
     case rel=>exact ⟨t+1,by omega,by go_num,by rw [HS2.out];exact hown,hb⟩
     case measure=>simp [intOf];omega
  ·have e:t=n:=by omega
   go_wp2_with fail
   go_ret
   rw [HW.out,← e]
   exact ⟨_,rfl,hown,hb⟩
def PlaceOf (xs:List Int) (x q:Int):Prop:=(q = -1∧x∉xs)∨∃ k:Nat,q=k∧xs[k]? = some x∧x∉xs.take k
theorem notin_succ {xs:List Int} {x y:Int} {t:Nat} (h:x∉xs.take t) (hy:xs[t]? = some y) (hne:y≠x):x∉xs.take (t+1):=by
 rw [List.take_add_one,hy]
 simp [h,Ne.symm hne]
theorem l6Place_any (v:Value) (xs:List Int) (x:Int) (w:World) (hx:Rep IntE w v xs) :
 Calls Tryz.prog 286 #[v, .int .i64 x] w fun e w'=>(∃ q:Int,e = .returned (.int .i64 q)∧PlaceOf xs x q)∧w=w':=by
 obtain ⟨a,c,rfl,hc1,hc2,hc3,hx⟩:=hx.open
 have HX:=hide hx;clear hx
 generalize hn:xs.length=n at *
 have H:=hide hn;clear hn
 go_enter Tryz.func286,Tryz.ntmps286
 go_wp2_with fail
 go_loop [5] (fun i => ∃ t:Nat,t≤n∧i = .int .i64 t∧Hid (x∉xs.take t)) (fun i=>n - (intOf i).toNat)
 case atStart=>exact ⟨0,Nat.zero_le _,rfl,hide (by simp)⟩
 case round =>
  obtain ⟨t,ht,rfl,hno⟩:=hrel
  by_cases hlt:t < n
  ·obtain ⟨y,hy⟩:=get_of_lt (xs:=xs) (k:=t) (by rw [H.out];exact hlt)
   obtain ⟨b,o,rfl,hbl,i0⟩:=HX.out.int hy
   have hlt':=nat_of_lt hlt
   have X:=hide hy;clear hy
   by_cases hxy:y=x
   ·have k1:(y==x)=true:=by simp [hxy]
    have XE:=hide hxy
    clear hxy
    go_wp2_with fail
    go_ret
    exact ⟨⟨_,rfl, .inr ⟨t,rfl,XE.out ▸ X.out,hno.out⟩⟩,rfl⟩
   ·have k1:(y==x)=false:=by simp [hxy]
    have NO:Hid (x∉xs.take (t+1)):=hide (notin_succ hno.out X.out hxy)
    clear hxy
    go_wp2_with fail
    go_round
    case rel=>exact ⟨t+1,by omega,by go_num,NO⟩
    case measure=>simp [intOf];omega
  ·go_wp2_with fail
   go_ret
   refine ⟨⟨_,rfl, .inl ⟨rfl, ?_⟩⟩,rfl⟩
   have h:=hno.out
   rwa [List.take_of_length_le (by rw [H.out];omega)] at h
end Go.Proofs.YtfbgppkdnfljhaaGreatDoor
namespace Go.Proofs.YtfbgppkdnfljhaaGreatDoor
open Go.RowKit
end Go.Proofs.YtfbgppkdnfljhaaGreatDoor
namespace Go.Proofs.YtfbgppkdnfljhaaGreatDoor
open Go.RowKit
end Go.Proofs.YtfbgppkdnfljhaaGreatDoor
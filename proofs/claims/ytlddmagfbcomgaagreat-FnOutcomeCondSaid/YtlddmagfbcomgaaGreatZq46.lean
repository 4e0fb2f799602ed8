/-
  The laws' tests of outcomes: equal, in a list, all in a list. No condition but what the lists read as.
-/
import Derived.Test.YtlddmagfbcomgaaGreatZq06
set_option maxHeartbeats 6400000
set_option maxRecDepth 100000
namespace Go.Proofs.YtlddmagfbcomgaaGreat
open Go.RowKit
theorem wmIntsG_any (v v':Value) (xs ys:List Int) (w:World) (hx:Rep IntE w v xs) (hy:Rep IntE w v' ys) :
 Calls Tryz.prog 29 #[v,v'] w fun e w'=>e = .returned (.bool (decide (xs=ys)))∧Below w.heap.size w w':=by
 obtain ⟨a,c,rfl,hc1,hc2,hc3,hx⟩:=hx.open
 obtain ⟨a',c',rfl,hc1',hc2',hc3',hy⟩:=hy.open
 have HX:=hide hx;clear hx
 have HY:=hide hy;clear hy
 generalize hn:xs.length=n at *
 generalize hn':ys.length=n' at *
 have H:=hide hn;clear hn
 have H':=hide hn';clear hn'
 by_cases hc:n=n'
 ·subst hc
  have hc':((n:Int) != n)=false:=by simp
  go_enter Tryz.func29,Tryz.ntmps29
  go_wp2_with fail
  go_loopw [5] (fun v wr => ∃ k:Nat,k≤n∧v = .int .i64 k∧Hid (xs.take k=ys.take k)∧Below w.heap.size w wr) (fun v _=>n - (intOf v).toNat)
  case atStart=>exact ⟨0,Nat.zero_le _,rfl,hide (by simp),Below.refl _ _⟩
  case round =>
   obtain ⟨k,hk,rfl,T,hb⟩:=hrel
   by_cases hlt:k < n
   ·obtain ⟨x,hxk⟩:=get_of_lt (xs:=xs) (k:=k) (by rw [H.out];exact hlt)
    obtain ⟨y,hyk⟩:=get_of_lt (xs:=ys) (k:=k) (by rw [H'.out];exact hlt)
    obtain ⟨b,o,rfl,hbl,i0⟩:=(HX.out.below hb).int hxk
    obtain ⟨b',o',rfl,hbl',j0⟩:=(HY.out.below hb).int hyk
    have hlt':=nat_of_lt hlt
    have X:=hide hxk;clear hxk
    have Y:=hide hyk;clear hyk
    by_cases hxy:x=y
    ·have T':=hide (take_eq_succ T.out X.out Y.out hxy)
     have hd:(x != y)=false:=by simp [hxy]
     clear hxy
     go_wp2_with fail
     refine wp_region_bw (by kernel_rfl) (by kernel_rfl) ?_
     repeat (go_big_quiet_step (fail))
     refine wpQuiet_nil ?_
     intro w1 hb1
     have hb2:=hb.trans (hb1.mono hb.size)
     go_wp2_with fail
     go_roundw
     case rel=>exact ⟨k+1,by omega,by go_num,T',hb2⟩
     case measure=>simp [intOf];omega
    ·have hq:=ne_of_get X.out Y.out hxy
     have hd:(x != y)=true:=by simp [hxy]
     clear hxy
     go_wp2_with fail
     refine wp_region_bw (by kernel_rfl) (by kernel_rfl) ?_
     repeat (go_big_quiet_step (fail))
     refine wpQuiet_nil ?_
     intro w1 hb1
     have hb2:=hb.trans (hb1.mono hb.size)
     go_wp2_with fail
     go_ret
     exact ⟨by simp [hq],hb2⟩
   ·have e2:xs=ys:=take_all_eq T.out (by rw [H.out];omega) (by rw [H'.out];omega)
    subst e2
    go_wp2_with fail
    go_ret
    exact ⟨by simp,hb⟩
 ·have hc':((n:Int) != n')=true:=by simp;omega
  have hq:xs≠ys:=fun h=>hc (by rw [← H.out,← H'.out,h])
  go_enter Tryz.func29,Tryz.ntmps29
  go_wp2_with fail
  go_ret
  exact ⟨by simp [hq],Below.refl _ _⟩
theorem wmOutcome_any (v u:Value) (p:List (List Int)) (q:List Int) (w:World) (hp:RepNN w v p) (hq:Rep IntE w u q) :
 Calls Tryz.prog 30 #[v,u] w fun e w'=>e = .returned (.bool (hasN p q))∧Below w.heap.size w w':=by
 obtain ⟨a,c,rfl,hc1,hc2,hc3,hp⟩:=hp.open
 obtain ⟨a',c',rfl,hc1',hc2',hc3',hq⟩:=hq.open
 have HP:=hide hp;clear hp
 have HQ:=hide hq;clear hq
 have HN:Hid (hasN p q=p.any fun x=>decide (x=q)):=hide rfl
 generalize hR:hasN p q=R at *
 clear hR
 generalize hn:p.length=n at *
 have H:=hide hn;clear hn
 generalize q.length=m at *
 go_enter Tryz.func30,Tryz.ntmps30
 go_wp2_with fail
 go_loopw [5] (fun i wr => ∃ k:Nat,k≤n∧i = .int .i64 k∧Hid ((p.take k).any (fun x=>decide (x=q))=false)∧Below w.heap.size w wr) (fun i _=>n - (intOf i).toNat)
 case atStart=>exact ⟨0,Nat.zero_le _,rfl,hide (by simp),Below.refl _ _⟩
 case round =>
  obtain ⟨k,hk,rfl,T,hb⟩:=hrel
  by_cases hlt:k < n
  ·have hlt1:=nat_of_lt hlt
   obtain ⟨x,hxk⟩:=get_of_lt (xs:=p) (k:=k) (by rw [H.out];exact hlt)
   obtain ⟨b,o,ra,rc,rfl,hbl,i0,i1⟩:=(HP.out.below hb).row hxk
   have X:=hide hxk;have I1:=hide i1
   clear hxk i1
   have HC:=hide (wmIntsG_any _ (.slice a' m c') x q wr I1.out (HQ.out.below hb))
   clear I1
   by_cases hxq:x=q
   ·have E:Hid (R=true):=hide (by rw [HN.out];exact any_of_get X.out (by simp [hxq]))
    rw [decide_eq_true hxq] at HC
    clear hxq
    go_wp2_with (go_at_call 29;(with_reducible refine HC.out.mono ?_);rintro e w1 ⟨rfl,hb1⟩)
    go_ret
    rw [E.out]
    exact ⟨rfl,hb.trans (hb1.mono hb.size)⟩
   ·have T2:=hide (any_take_succ T.out X.out (by simp [hxq]))
    rw [decide_eq_false hxq] at HC
    clear hxq
    go_wp2_with (go_at_call 29;(with_reducible refine HC.out.mono ?_);rintro e w1 ⟨rfl,hb1⟩)
    go_roundw
    case rel=>exact ⟨k+1,by omega,by go_num,T2,hb.trans (hb1.mono hb.size)⟩
    case measure=>simp [intOf];omega
  ·have E:Hid (R=false):=hide (by have h:=T.out;rwa [List.take_of_length_le (by rw [H.out];omega),← HN.out] at h)
   go_wp2_with fail
   go_ret
   rw [E.out]
   exact ⟨rfl,hb⟩
theorem wmWithin_any (v u:Value) (p q:List (List Int)) (w:World) (hp:RepNN w v p) (hq:RepNN w u q) :
 Calls Tryz.prog 13 #[v,u] w fun e w'=>e = .returned (.bool (subN p q))∧Below w.heap.size w w':=by
 obtain ⟨a,c,rfl,hc1,hc2,hc3,hp⟩:=hp.open
 have HP:=hide hp;clear hp
 have HQ:=hide hq;clear hq
 have HN:Hid (subN p q=p.all fun x=>hasN q x):=hide rfl
 generalize hR:subN p q=R at *
 clear hR
 generalize hn:p.length=n at *
 have H:=hide hn;clear hn
 go_enter Tryz.func13,Tryz.ntmps13
 go_wp2_with fail
 go_loopw [5] (fun i wr => ∃ k:Nat,k≤n∧i = .int .i64 k∧Hid ((p.take k).all (fun x=>hasN q x)=true)∧Below w.heap.size w wr) (fun i _=>n - (intOf i).toNat)
 case atStart=>exact ⟨0,Nat.zero_le _,rfl,hide (by simp),Below.refl _ _⟩
 case round =>
  obtain ⟨k,hk,rfl,T,hb⟩:=hrel
  by_cases hlt:k < n
  ·have hlt1:=nat_of_lt hlt
   obtain ⟨x,hxk⟩:=get_of_lt (xs:=p) (k:=k) (by rw [H.out];exact hlt)
   obtain ⟨b,o,ra,rc,rfl,hbl,i0,i1⟩:=(HP.out.below hb).row hxk
   have X:=hide hxk;have I1:=hide i1
   clear hxk i1
   have HC:=hide (wmOutcome_any u _ q x wr (HQ.out.below hb) I1.out)
   clear I1
   generalize hz:hasN q x=z at *
   have Z:=hide hz;clear hz
   cases z
   ·have E:Hid (R=false):=hide (by rw [HN.out];exact all_of_get X.out Z.out)
    go_wp2_with (go_at_call 30;(with_reducible refine HC.out.mono ?_);rintro e w1 ⟨rfl,hb1⟩)
    go_ret
    rw [E.out]
    exact ⟨rfl,hb.trans (hb1.mono hb.size)⟩
   ·have T2:=hide (all_take_succ' T.out X.out Z.out)
    go_wp2_with (go_at_call 30;(with_reducible refine HC.out.mono ?_);rintro e w1 ⟨rfl,hb1⟩)
    go_roundw
    case rel=>exact ⟨k+1,by omega,by go_num,T2,hb.trans (hb1.mono hb.size)⟩
    case measure=>simp [intOf];omega
  ·have E:Hid (R=true):=hide (by have h:=T.out;rwa [List.take_of_length_le (by rw [H.out];omega),← HN.out] at h)
   go_wp2_with fail
   go_ret
   rw [E.out]
   exact ⟨rfl,hb⟩
end Go.Proofs.YtlddmagfbcomgaaGreat
/-
  The laws' tests of lists of outcomes: equal, sorted. No condition but what the lists read as.
-/
import Derived.Test.YtngekjpklkjnbaaGreatZu08
set_option maxHeartbeats 6400000
set_option maxRecDepth 100000
namespace Go.Proofs.YtngekjpklkjnbaaGreat
open Go.RowKit
theorem Cn (v v':Value) (xs:List Int) (w:World) (hx:Z7 Zo w v xs) (hy:Z7 Zo w v' xs) :
 Calls Tryz.prog 48 #[v,v'] w fun e w'=>e = .returned (.bool true)∧Below w.heap.size w w':=by
 obtain⟨a,c,rfl,hc1,hc2,hc3,hx⟩:=hx.open;obtain⟨a',c',rfl,hc1',hc2',hc3',hy⟩:=hy.open;have HX:=Za hx;clear hx;have HY:=Za hy;clear hy;generalize hn:xs.length=n at *;have H:=Za hn;clear hn;have hnn:((n:Int) != n)=false:=by simp
 go_enter Tryz.func48,Tryz.ntmps48;go_wp2_with fail
 go_loopw [5] (fun v wr => ∃ k:Nat,k≤n∧v = .int .i64 k∧Below w.heap.size w wr) (fun v _=>n - (intOf v).toNat)
 case atStart=>exact⟨0,Nat.zero_le _,rfl,Below.refl _ _⟩
 case round =>
  obtain⟨k,hk,rfl,hb⟩:=hrel;by_cases hlt:k < n
  ·obtain⟨x,hxk⟩:=Zd (xs:=xs) (k:=k) (by rw[H.out];exact hlt)
   obtain⟨b,o,rfl,hbl,i0⟩:=(HX.out.below hb).int hxk;obtain⟨b',o',rfl,hbl',j0⟩:=(HY.out.below hb).int hxk;have hlt':=Zh hlt;clear hxk;go_wp2_with fail;refine Zs Kr Kr ?_
   repeat (go_big_quiet_step (fail))
   refine wpQuiet_nil ?_;intro w1 hb1;go_wp2_with fail;go_roundw
   case rel=>exact⟨k+1,Om,Gn,hb.trans (hb1.mono hb.size)⟩
   case measure=>simp[intOf];omega
  ·have hkg:decide (k < n)=false:=decide_eq_false hlt
   go_wp2_with fail;go_ret;exact⟨rfl,hb⟩
theorem Ba (v v':Value) (p:List (List Int)) (w:World) (h:Yv Zo w v p) (h':Yv Zo w v' p) :
 Calls Tryz.prog 21 #[v,v'] w fun e w'=>e = .returned (.bool true)∧Below w.heap.size w w':=by
 have HX:=Za h;have HY:=Za h'
 obtain⟨a,c,rfl,-,hc1,-,-⟩:=h.open;obtain⟨a',c',rfl,-,-,-,-⟩:=h'.open;clear h h';generalize hn:p.length=n at *;have HN:=Za hn;clear hn;go_enter Tryz.func21,Tryz.ntmps21;go_wp2_with fail
 go_loopw [5] (fun i wr => ∃ k:Nat,k≤n∧i = .int .i64 k∧Below w.heap.size w wr) (fun i _=>n - (intOf i).toNat)
 case atStart=>exact⟨0,Nat.zero_le _,rfl,Below.refl _ _⟩
 case round =>
  obtain⟨k,hk,rfl,hb⟩:=hrel;have HB:=Za hb;by_cases hlt:k < n
  ·have hlt':=Zh hlt
   obtain⟨r,hr⟩:=Zd (xs:=p) (k:=k) (by rw[HN.out];exact hlt);obtain⟨b1,o1,ra1,rc1,rfl,hl1,q1,hr1⟩:=Yv.row (HX.out.below hb) hr;obtain⟨b2,o2,ra2,rc2,rfl,hl2,q2,hr2⟩:=Yv.row (HY.out.below hb) hr;have HW:=Za (fun X:BW wr=>Cn (.slice ra1 r.length rc1) (.slice ra2 r.length rc2) r X.val (hr1.below X.prop) (hr2.below X.prop));clear hr hb hr1 hr2;generalize r.length=rn at *;go_wp2_with fail;refine Zs Kr Kr ?_
   repeat (go_big_quiet_step ((go_at_call 48;(with_reducible exact Calls.bw (HW.out _)))))
   refine wpQuiet_nil ?_;intro w1 hw1;have B1:=Za (HB.out.trans (hw1.mono HB.out.size));clear hw1 q1 q2;go_wp2_with fail;go_roundw
   case rel=>exact⟨k+1,Om,Gn,B1.out⟩
   case measure=>simp[intOf];omega
  ·obtain rfl:k=n:=Om
   go_wp2_with fail;go_ret;exact⟨rfl,HB.out⟩
end Go.Proofs.YtngekjpklkjnbaaGreat
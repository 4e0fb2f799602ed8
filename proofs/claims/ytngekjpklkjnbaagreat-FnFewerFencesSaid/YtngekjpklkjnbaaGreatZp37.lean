/-
  The walk of FnGapsOf: it answers true and turns nothing that was there. No condition but the bytes' own.
-/
import Derived.Test.YtngekjpklkjnbaaGreatZp35
import Derived.Test.YtngekjpklkjnbaaGreatZp16
import Derived.Test.YtngekjpklkjnbaaGreatZp36
set_option maxHeartbeats 6400000
set_option maxRecDepth 100000
namespace Go.Proofs.YtngekjpklkjnbaaGreat
open Go.RowKit
theorem Ja (v v':Value) (xs:List Gp) (w:World) (hx:ZC ZZ w v xs) (hy:ZC ZZ w v' xs) :
 Calls Tryz.prog 24 #[v,v'] w fun e w'=>e = .returned (.bool true)∧Below w.heap.size w w':=by
 obtain⟨a,c,rfl,hc1,hc2,hc3,hx⟩:=hx.open;obtain⟨a',c',rfl,hc1',hc2',hc3',hy⟩:=hy.open;have HX:=Za hx;clear hx;have HY:=Za hy;clear hy;generalize hn:xs.length=n at *;have H:=Za hn;clear hn;have hnn:((n:Int) != n)=false:=by simp
 go_enter Tryz.func24,Tryz.ntmps24;go_wp2_with fail
 go_loopw [5] (fun v wr => ∃ k:Nat,k≤n∧v = .int .i64 k∧Below w.heap.size w wr) (fun v _=>n - (intOf v).toNat)
 case atStart=>exact⟨0,Nat.zero_le _,rfl,Below.refl _ _⟩
 case round =>
  obtain⟨k,hk,rfl,hb⟩:=hrel;by_cases hlt:k < n
  ·obtain⟨x,hxk⟩:=Zd (xs:=xs) (k:=k) (by rw[H.out];exact hlt)
   obtain⟨b,o,rfl,hbl,i0,i1⟩:=(HX.out.below hb).I4 hxk;obtain⟨b',o',rfl,hbl',j0,j1⟩:=(HY.out.below hb).I4 hxk;have hlt':=Zh hlt;clear hxk;go_wp2_with fail;refine Zo Kr Kr ?_
   repeat (go_big_quiet_step (fail))
   refine wpQuiet_nil ?_;intro w1 hb1;go_wp2_with fail;go_roundw
   case rel=>exact⟨k+1,Om,Gn,hb.trans (hb1.mono hb.size)⟩
   case measure=>simp[intOf];omega
  ·have hkg:decide (k < n)=false:=decide_eq_false hlt
   go_wp2_with fail;go_ret;exact⟨rfl,hb⟩
end Go.Proofs.YtngekjpklkjnbaaGreat
/-
  The program's equality of programs. No condition.
-/
import Derived.Test.YtlddmagfbcomgaaGreatZq00
set_option maxHeartbeats 6400000
set_option maxRecDepth 100000
namespace Go.Proofs.YtlddmagfbcomgaaGreat
open Go.RowKit
theorem EqualI_any (v v':Value) (xs ys:List Ins) (w:World) (hx:Rep InsE w v xs) (hy:Rep InsE w v' ys) :
 Calls Tryz.prog 59 #[v,v'] w fun e w'=>e = .returned (.bool (decide (xs=ys)))∧Below w.heap.size w w':=by
 obtain ⟨a,c,rfl,hc1,hc2,hc3,hx⟩:=hx.open
 obtain ⟨a',c',rfl,hc1',hc2',hc3',hy⟩:=hy.open
 have HX:=hide hx;clear hx
 have HY:=hide hy;clear hy
 generalize hn:xs.length=n at *
 generalize hn':ys.length=n' at *
 have H:=hide hn;clear hn
 have H':=hide hn';clear hn'
 by_cases hc:n=n'
 ·subst hc
  have hc':((n:Int) != n)=false:=by simp
  go_enter Tryz.func59,Tryz.ntmps59
  go_wp2_with fail
  go_loopw [13] (fun v wr => ∃ k:Nat,k≤n∧v = .int .i64 k∧Hid (xs.take k=ys.take k)∧Below w.heap.size w wr) (fun v _=>n - (intOf v).toNat)
  case atStart=>exact ⟨0,Nat.zero_le _,rfl,hide (by simp),Below.refl _ _⟩
  case round =>
   obtain ⟨k,hk,rfl,T,hb⟩:=hrel
   by_cases hlt:k < n
   ·obtain ⟨x,hxk⟩:=get_of_lt (xs:=xs) (k:=k) (by rw [H.out];exact hlt)
    obtain ⟨y,hyk⟩:=get_of_lt (xs:=ys) (k:=k) (by rw [H'.out];exact hlt)
    obtain ⟨b,o,rfl,hbl,i0,i1,i2,i3⟩:=(HX.out.below hb).ins hxk
    obtain ⟨b',o',rfl,hbl',j0,j1,j2,j3⟩:=(HY.out.below hb).ins hyk
    have hlt':=nat_of_lt hlt
    have X:=hide hxk;clear hxk
    have Y:=hide hyk;clear hyk
    obtain ⟨x0,x1,x2,x3⟩:=x
    obtain ⟨y0,y1,y2,y3⟩:=y
    simp only at i0 i1 i2 i3 j0 j1 j2 j3
    by_cases hxy:x0=y0∧x1=y1∧x2=y2∧x3=y3
    ·obtain ⟨rfl,rfl,rfl,rfl⟩:=hxy
     have T':=hide (take_eq_succ T.out X.out Y.out rfl)
     go_wp2_with fail
     refine wp_region_bw (by kernel_rfl) (by kernel_rfl) ?_
     repeat (go_big_quiet_step (fail))
     refine wpQuiet_nil ?_
     intro w1 hb1
     have hb2:=hb.trans (hb1.mono hb.size)
     go_wp2_with fail
     go_roundw
     case rel=>exact ⟨k+1,by omega,by go_num,T',hb2⟩
     case measure=>simp [intOf];omega
    ·have hq:=ne_of_get X.out Y.out (fun e=>hxy (by simpa using e))
     by_cases h0:x0=y0
     case neg =>
      have g0:(x0==y0)=false:=by simp [h0]
      clear hxy
      go_wp2_with fail
      refine wp_region_bw (by kernel_rfl) (by kernel_rfl) ?_
      repeat (go_big_quiet_step (fail))
      refine wpQuiet_nil ?_
      intro w1 hb1
      have hb2:=hb.trans (hb1.mono hb.size)
      go_wp2_with fail
      go_ret
      exact ⟨by simp [hq],hb2⟩
     subst h0
     by_cases h1:x1=y1
     case neg =>
      have g1:(x1==y1)=false:=by simp [h1]
      clear hxy
      go_wp2_with fail
      refine wp_region_bw (by kernel_rfl) (by kernel_rfl) ?_
      repeat (go_big_quiet_step (fail))
      refine wpQuiet_nil ?_
      intro w1 hb1
      have hb2:=hb.trans (hb1.mono hb.size)
      go_wp2_with fail
      go_ret
      exact ⟨by simp [hq],hb2⟩
     subst h1
     by_cases h2:x2=y2
     case neg =>
      have g2:(x2==y2)=false:=by simp [h2]
      clear hxy
      go_wp2_with fail
      refine wp_region_bw (by kernel_rfl) (by kernel_rfl) ?_
      repeat (go_big_quiet_step (fail))
      refine wpQuiet_nil ?_
      intro w1 hb1
      have hb2:=hb.trans (hb1.mono hb.size)
      go_wp2_with fail
      go_ret
      exact ⟨by simp [hq],hb2⟩
     subst h2
     have h3:¬ x3=y3:=fun e=>hxy ⟨rfl,rfl,rfl,e⟩
     have g3:(x3==y3)=false:=by simp [h3]
     clear hxy
     go_wp2_with fail
     refine wp_region_bw (by kernel_rfl) (by kernel_rfl) ?_
     repeat (go_big_quiet_step (fail))
     refine wpQuiet_nil ?_
     intro w1 hb1
     have hb2:=hb.trans (hb1.mono hb.size)
     go_wp2_with fail
     go_ret
     exact ⟨by simp [hq],hb2⟩
   ·have e2:xs=ys:=take_all_eq T.out (by rw [H.out];omega) (by rw [H'.out];omega)
    subst e2
    go_wp2_with fail
    go_ret
    exact ⟨by simp,hb⟩
 ·have hc':((n:Int) != n')=true:=by simp;omega
  have hq:xs≠ys:=fun h=>hc (by rw [← H.out,← H'.out,h])
  go_enter Tryz.func59,Tryz.ntmps59
  go_wp2_with fail
  go_ret
  exact ⟨by simp [hq],Below.refl _ _⟩
theorem sameRow_any (v v':Value) (xs ys:List Ins) (w:World) (hx:Rep InsE w v xs) (hy:Rep InsE w v' ys) :
 Calls Tryz.prog 58 #[v,v'] w fun e w'=>e = .returned (.bool (decide (xs=ys)))∧Below w.heap.size w w':=by
 go_enter Tryz.func58,Tryz.ntmps58
 go_wp2_with fail
 (with_reducible refine (EqualI_any v v' xs ys _ hx hy).mono ?_);rintro e w1 ⟨rfl,hb1⟩
 go_wp2_with fail
 go_ret
 exact ⟨rfl,hb1⟩
theorem EqualFuncP_any (v v':Value) (xs ys:List (List Ins)) (w:World) (hx:RepP w v xs) (hy:RepP w v' ys) :
 Calls Tryz.prog 57 #[v,v', .func (.func 58) #[] #[]] w fun e w'=>e = .returned (.bool (decide (xs=ys)))∧Below w.heap.size w w':=by
 obtain ⟨a,c,rfl,hc1,hc2,hc3,hx⟩:=hx.open
 obtain ⟨a',c',rfl,hc1',hc2',hc3',hy⟩:=hy.open
 have HX:=hide hx;clear hx
 have HY:=hide hy;clear hy
 generalize hn:xs.length=n at *
 generalize hn':ys.length=n' at *
 have H:=hide hn;clear hn
 have H':=hide hn';clear hn'
 by_cases hc:n=n'
 ·subst hc
  have hc':((n:Int) != n)=false:=by simp
  go_enter Tryz.func57,Tryz.ntmps57
  go_wp2_with fail
  go_loopw [17] (fun v wr => ∃ k:Nat,k≤n∧v = .int .i64 k∧Hid (xs.take k=ys.take k)∧Below w.heap.size w wr) (fun v _=>n - (intOf v).toNat)
  case atStart=>exact ⟨0,Nat.zero_le _,rfl,hide (by simp),Below.refl _ _⟩
  case round =>
   obtain ⟨k,hk,rfl,T,hb⟩:=hrel
   by_cases hlt:k < n
   ·obtain ⟨x,hxk⟩:=get_of_lt (xs:=xs) (k:=k) (by rw [H.out];exact hlt)
    obtain ⟨y,hyk⟩:=get_of_lt (xs:=ys) (k:=k) (by rw [H'.out];exact hlt)
    obtain ⟨b,o,ra,rc,rfl,hbl,i0,i1⟩:=(HX.out.below hb).row hxk
    obtain ⟨b',o',ra',rc',rfl,hbl',j0,j1⟩:=(HY.out.below hb).row hyk
    have hlt':=nat_of_lt hlt
    have X:=hide hxk;clear hxk
    have Y:=hide hyk;clear hyk
    have HC:=hide (sameRow_any _ _ x y _ i1 j1)
    clear i1 j1
    go_wp2_with fail
    (with_reducible refine HC.out.mono ?_);rintro e w1 ⟨rfl,hb1⟩
    have hb2:=hb.trans (hb1.mono hb.size)
    clear HC
    generalize hd:decide (x=y)=d
    cases d
    ·have hq:=ne_of_get X.out Y.out (of_decide_eq_false hd)
     clear hd
     go_wp2_with fail
     go_ret
     exact ⟨by simp [hq],hb2⟩
    ·have T':=hide (take_eq_succ T.out X.out Y.out (of_decide_eq_true hd))
     clear hd
     go_wp2_with fail
     go_roundw
     case rel=>exact ⟨k+1,by omega,by go_num,T',hb2⟩
     case measure=>simp [intOf];omega
   ·have e2:xs=ys:=take_all_eq T.out (by rw [H.out];omega) (by rw [H'.out];omega)
    subst e2
    go_wp2_with fail
    go_ret
    exact ⟨by simp,hb⟩
 ·have hc':((n:Int) != n')=true:=by simp;omega
  have hq:xs≠ys:=fun h=>hc (by rw [← H.out,← H'.out,h])
  go_enter Tryz.func57,Tryz.ntmps57
  go_wp2_with fail
  go_ret
  exact ⟨by simp [hq],Below.refl _ _⟩
theorem ProgramSame_any (v v':Value) (xs ys:List (List Ins)) (w:World) (hx:RepP w v xs) (hy:RepP w v' ys) :
 Calls Tryz.prog 12 #[v,v'] w fun e w'=>e = .returned (.bool (decide (xs=ys)))∧Below w.heap.size w w':=by
 go_enter Tryz.func12,Tryz.ntmps12
 go_wp2_with fail
 (with_reducible refine (EqualFuncP_any v v' xs ys _ hx hy).mono ?_);rintro e w1 ⟨rfl,hb1⟩
 go_wp2_with fail
 go_ret
 exact ⟨rfl,hb1⟩
end Go.Proofs.YtlddmagfbcomgaaGreat
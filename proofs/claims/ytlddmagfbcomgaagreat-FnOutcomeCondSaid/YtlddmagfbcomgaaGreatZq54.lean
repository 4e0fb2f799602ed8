/-
  Equality of conditions, of the reference and of the program. No condition.
-/
import Derived.Test.YtlddmagfbcomgaaGreatZq31
import Derived.Test.YtlddmagfbcomgaaGreatZq00
set_option maxHeartbeats 6400000
set_option maxRecDepth 100000
namespace Go.Proofs.YtlddmagfbcomgaaGreat
open Go.RowKit Go.Shelf
attribute [local go_sem] Oper.semAt_some
theorem backC_in {Pr : Cs → Prop} (n : Nat) (hn : 1 ≤ n) (l Bs b off cap : Nat) (zs : List {g : Cs // Pr g}) (J Jx : List ({g : Cs // Pr g} × Nat) → World → Prop)
    (hY : ∀ pre x W, J pre W → pre.length < zs.length → YieldAt Fence.wide (n - 1) Tryz.prog l #[.int .i64 (x.2 : Int), Cs.v x.1.1] W fun e W' =>
      (e = .returned (.bool true) ∧ J (pre ++ [x]) W' ∧ Keep2 Bs b W W') ∨ (e = .returned (.bool false) ∧ Jx (pre ++ [x]) W'))
    (W : World) (hBs : W.cell? ⟨Bs, 0, none⟩ = some (.slice (some ⟨b, off, none⟩) zs.length cap))
    (hc : ∀ (j : Nat) z, zs[j]? = some z → W.cell? ⟨b, off + j * 5, none⟩ = some (.int .i64 z.1.op) ∧ W.cell? ⟨b, off + j * 5 + 1, none⟩ = some (.int .i64 z.1.th) ∧ W.cell? ⟨b, off + j * 5 + 2, none⟩ = some (.int .i64 z.1.pl) ∧ W.cell? ⟨b, off + j * 5 + 3, none⟩ = some (.int .i64 z.1.val) ∧ W.cell? ⟨b, off + j * 5 + 4, none⟩ = some (.slice z.1.s.a z.1.s.n z.1.s.cap)) (h0 : J [] W) (hl : zs.length ≤ 1048576) :
    CallsIn Fence.wide n Tryz.prog 131 #[.func (.yield l) #[] #[], .pointer (some ⟨Bs, 0, none⟩)] W fun e W' => (∃ v, e = .returned v) ∧
      ((∃ ys, ys = zs.zipIdx.reverse ∧ J ys W') ∨ (∃ pre, Jx pre W')) := by
  refine callsIn_of_wp Tryz.func131 rfl trivial ?_ rfl
  simp only [Tryz.ntmps131, List.size_toArray, List.length_cons, List.length_nil, Nat.reduceAdd, Nat.reduceSub, Array.replicate_succ, Array.replicate_zero, List.push_toArray, List.append_toArray, List.nil_append, List.cons_append]
  have BT := hide (fun (k m : Nat) z h1 h2 => back_take zs (k := k) (m := m) (z := z) h1 h2)
  have BA : Hid (zs.zipIdx.reverse.take zs.length = zs.zipIdx.reverse) := hide (List.take_of_length_le (by simp))
  have BL : Hid (∀ k, k ≤ zs.length → (zs.zipIdx.reverse.take k).length = k) := hide (fun k hk => by simp; omega)
  generalize hlen : zs.length = len at *
  have HLEN := hide hlen
  clear hlen
  have hBlt := lt_of_cell hBs
  gi_wp2
  gi_loopw [3] (fun i wr => ∃ k m : Nat, k + m = len ∧ i = .int .i64 ((m : Int) - 1) ∧ J (zs.zipIdx.reverse.take k) wr ∧ Keep2 Bs b W wr) (fun i _ => (intOf i + 1).toNat)
  case atStart => exact ⟨0, len, by omega, rfl, by simpa using h0, Keep2.refl _ _ _⟩
  case round =>
    obtain ⟨k, m, hkm, rfl, hJs, hkp⟩ := hrel
    have hB2 := cell_of_blk hkp.one hBs
    have hBlt2 := lt_of_cell hB2
    cases m with
    | zero =>
      have e0 : decide ((((0 : Nat) : Int) - 1) ≥ 0) = false := by decide
      gi_wp2
      go_end0
      exact ⟨⟨_, rfl⟩, .inl ⟨_, rfl, by rw [← BA.out]; have : k = len := by omega
                                        rw [← this]; exact hJs⟩⟩
    | succ m =>
      have em : (((m + 1 : Nat) : Int) - 1) = (m : Int) := by omega
      rw [em]
      obtain ⟨z, hz⟩ := get_of_lt (xs := zs) (k := m) (by have := HLEN.out; omega)
      obtain ⟨c0, c1, c2, c3, c4⟩ := hc m z hz
      have d0 := cell_of_blk hkp.two c0
      have d1 := cell_of_blk hkp.two c1
      have d2 := cell_of_blk hkp.two c2
      have d3 := cell_of_blk hkp.two c3
      have d4 := cell_of_blk hkp.two c4
      have hblt2 := lt_of_cell d0
      have hml : (m : Int) < len := by omega
      obtain ⟨fn, tmps, assign, body, hy, hR⟩ := hY _ (z, m) wr hJs (by rw [BL.out k (by omega)]; omega)
      have BT2 := hide (BT.out k m z hz (by have := HLEN.out; omega))
      have HR := hide hR
      clear hR c0 c1 c2 c3 c4 hz
      dsimp only at hy
      gi_wp2
      refine HR.out.mono ?_
      rintro e W3 (⟨rfl, hJ3, hk3⟩ | ⟨rfl, hJx3⟩)
      · gi_wp2
        go_roundw
        case rel => exact ⟨k + 1, m, by omega, by go_num, by rw [BT2.out]; exact hJ3, hkp.trans hk3⟩
        case measure => simp [intOf]
      · gi_wp2
        refine bodyPost_ret (results_none rfl _ _ _) rfl ?_
        exact ⟨⟨_, rfl⟩, .inr ⟨_, hJx3⟩⟩
theorem backC_nil_in {Pr:Cs→Prop} (n:Nat) (l Bs:Nat) (a:Option Addr) (c:Nat) (J:List ({g:Cs // Pr g} × Nat)→World→Prop)
 (W:World) (hBs:W.cell? ⟨Bs,0,none⟩=some (.slice a 0 c)) (h0:J [] W) :
 CallsIn Fence.wide n Tryz.prog 131 #[.func (.yield l) #[] #[], .pointer (some ⟨Bs,0,none⟩)] W fun e W'=>(∃ v,e = .returned v)∧J [] W':=by
 refine callsIn_of_wp Tryz.func131 rfl trivial ?_ rfl
 simp only [Tryz.ntmps131,List.size_toArray,List.length_cons,List.length_nil,Nat.reduceAdd,Nat.reduceSub,Array.replicate_succ,Array.replicate_zero,List.push_toArray,List.append_toArray,List.nil_append,List.cons_append]
 have hBlt:=lt_of_cell hBs
 gi_wp2
 gi_loopw [3] (fun i wr=>i = .int .i64 (-1)∧J [] wr) (fun _ _=>0)
 case atStart=>exact ⟨rfl,h0⟩
 case round =>
  obtain ⟨rfl,hJs⟩:=hrel
  gi_wp2
  go_end0
  exact ⟨⟨_,rfl⟩,hJs⟩
theorem BackwardC_any (a:Option Addr) (len cap:Nat) (w:World) :
 Calls Tryz.prog 73 #[.slice a len cap] w fun e w'=>e = .returned (.func (.func 131) #[] #[.pointer (some ⟨w.heap.size,0,none⟩)])∧w'=w.alloc (.cells #[.slice a len cap] 43):=by
 go_enter Tryz.func73,Tryz.ntmps73
 go_wp2
 go_ret
 exact ⟨rfl,rfl⟩
theorem backC_stops {Pr:Cs→Prop} (n:Nat) (hn:1≤n) (Bs b:Nat) (v:Value) (zs:List {g:Cs // Pr g}) (hl:zs.length≤1048576) (w:World) (hBs:Bs < w.heap.size) (hc:w.cell? ⟨Bs,0,none⟩=some v)
 (hr:Rep CsE w v (zs.map (·.1))) (hb:∀ g o,v = .slice (some ⟨g,o,none⟩) zs.length (match v with | .slice _ _ c=>c | _=>0)→zs≠[]→g=b) :
 SeqStopsK Fence.wide n Tryz.prog 131 #[.pointer (some ⟨Bs,0,none⟩)] (fun x:{g:Cs // Pr g} × Nat => #[Value.int .i64 (x.2:Int),Cs.v x.1.1]) (Keep2 Bs b) (fun ys=>ys=zs.zipIdx.reverse)
  (fun _=>True) zs.length w:=fun l J Jx W hW _ _ hY h0=>by
 have hc':=(hW.cell (p:=⟨Bs,0,none⟩) hBs).trans hc
 have hr':=hr.below hW
 obtain ⟨a,c,rfl,h1,h2,hx⟩:=hr'
 rw [List.length_map] at hc' h1
 by_cases hz:zs=[]
 ·subst hz
  exact (backC_nil_in n l Bs _ _ J W hc' h0).mono fun e W' ⟨he,hj⟩=>⟨he, .inl ⟨_,rfl,hj⟩⟩
 ·obtain ⟨z0,hz0⟩:=get_of_lt (xs:=zs) (k:=0) (List.length_pos_iff.2 hz)
  obtain ⟨b',o,rfl, -⟩:=hx 0 z0.1 (by rw [List.getElem?_map,hz0];rfl)
  obtain rfl:b'=b:=hb b' o (by rw [List.length_map]) hz
  refine (backC_in n hn l Bs b' o c zs J Jx hY W hc' (fun j z hj => ?_) h0 hl).mono fun e W' ⟨he,h⟩=>⟨he,h.imp (fun ⟨ys,e,hj⟩=>⟨ys,e,hj⟩) (fun ⟨pre,hj⟩=>⟨pre,trivial,hj⟩)⟩
  obtain ⟨b2,o2,e2,h2⟩:=hx j z.1 (by rw [List.getElem?_map,hj];rfl)
  simp only [Option.some.injEq,Addr.mk.injEq,and_true] at e2
  obtain ⟨rfl,rfl⟩:=e2
  exact ⟨h2 0 _ rfl,h2 1 _ rfl,h2 2 _ rfl,h2 3 _ rfl,h2 4 _ rfl⟩
end Go.Proofs.YtlddmagfbcomgaaGreat
namespace Go.Proofs.YtlddmagfbcomgaaGreat
open Go.RowKit
def SameI (xs:List Cd):Prop:=∀ (o t p x o' t' p' x':Int) (ys:List Cd) (a a':Option Addr) (n c n' c':Nat) (b:Bool) (w:World),RepK 0 w ⟨a,n,c⟩ xs→RepK 0 w ⟨a',n',c'⟩ ys→(b=true↔Cd.mk o t p x xs=Cd.mk o' t' p' x' ys) →
 Calls Tryz.prog 27 #[.agg #[.int .i64 o, .int .i64 t, .int .i64 p, .int .i64 x, .slice a n c], .agg #[.int .i64 o', .int .i64 t', .int .i64 p', .int .i64 x', .slice a' n' c']] w fun e w'=>e = .returned (.bool b)∧Below w.heap.size w w'
theorem equalFuncCond_of {xs:List Cd} (ih:∀ x∈xs,SameI x.kids) (ys:List Cd) (a a':Option Addr) (n c n' c':Nat) (bb:Bool) (w:World) (hx:RepK 0 w ⟨a,n,c⟩ xs) (hy:RepK 0 w ⟨a',n',c'⟩ ys) (hbb:bb=true↔xs=ys) :
 Calls Tryz.prog 81 #[.slice a n c, .slice a' n' c', .func (.func 27) #[] #[]] w fun e w'=>e = .returned (.bool bb)∧Below w.heap.size w w':=by
 obtain ⟨e1,hc1,hc2,hc3⟩:=hx.open
 obtain ⟨e1',hc1',hc2',hc3'⟩:=hy.open
 simp only at e1 e1' hc1 hc2 hc3 hc1' hc2' hc3'
 have HX:=hide hx;have HY:=hide hy;have HB:=hide hbb;have IH:=hide ih
 clear hx hy hbb ih
 have H:=hide e1.symm;have H':=hide e1'.symm
 clear e1 e1'
 rw [H.out] at hc1 hc2
 rw [H'.out] at hc1' hc2'
 by_cases hc:n=n'
 ·subst hc
  have hc':((n:Int) != n)=false:=by simp
  go_enter Tryz.func81,Tryz.ntmps81
  go_wp2_with fail
  go_loopw [17] (fun v wr => ∃ k:Nat,k≤n∧v = .int .i64 k∧Hid (xs.take k=ys.take k)∧Below w.heap.size w wr) (fun v _=>n - (intOf v).toNat)
  case atStart=>exact ⟨0,Nat.zero_le _,rfl,hide (by simp),Below.refl _ _⟩
  case round =>
   obtain ⟨k,hk,rfl,T,hb⟩:=hrel
   by_cases hlt:k < n
   ·obtain ⟨x,hxk⟩:=get_of_lt (xs:=xs) (k:=k) (by rw [H.out];exact hlt)
    obtain ⟨y,hyk⟩:=get_of_lt (xs:=ys) (k:=k) (by rw [H'.out];exact hlt)
    obtain ⟨b,o,s,rfl,hbl,i0,i1,i2,i3,i4,i5⟩:=(HX.out.below hb).kid hxk
    obtain ⟨b',o',s',rfl,hbl',j0,j1,j2,j3,j4,j5⟩:=(HY.out.below hb).kid hyk
    have hlt':=nat_of_lt hlt
    obtain ⟨d,hd⟩:=some_bool (x=y)
    have hbase:=((Below.refl wr.heap.size wr).alloc (Nat.le_refl _) (.cells #[.int .i64 x.op, .int .i64 x.th, .int .i64 x.pl, .int .i64 x.val, .slice s.a s.n s.cap] 45)).alloc (by simp) (.cells #[.int .i64 y.op, .int .i64 y.th, .int .i64 y.pl, .int .i64 y.val, .slice s'.a s'.n s'.cap] 45)
    have HC:=hide (fun w' h h'=>IH.out x (List.mem_of_getElem? hxk) x.op x.th x.pl x.val y.op y.th y.pl y.val y.kids s.a s'.a s.n s.cap s'.n s'.cap d w' h h' (by rw [hd,Cd.eta,Cd.eta]))
    have X:=hide hxk;clear hxk
    have Y:=hide hyk;clear hyk
    have I5:=hide i5;have J5:=hide j5;have D:=hide hd;have HBB:=hide hbase
    clear i5 j5 hd hbase
    go_wp2_with fail
    (with_reducible refine (HC.out _ (I5.out.below HBB.out) (J5.out.below HBB.out)).mono ?_);rintro e w1 ⟨rfl,hb1⟩
    have hb2:=hb.trans ((HBB.out.trans (hb1.mono HBB.out.size)).mono hb.size)
    cases d
    ·have hq:Hid (xs≠ys):=hide (ne_of_get X.out Y.out (fun e=>by have:=D.out.2 e;simp at this))
     go_wp2_with fail
     go_ret
     obtain rfl:bb=false:=by rw [Bool.eq_false_iff,ne_eq,HB.out];exact hq.out
     exact ⟨rfl,hb2⟩
    ·have T':=hide (take_eq_succ T.out X.out Y.out (D.out.1 rfl))
     go_wp2_with fail
     go_roundw
     case rel=>exact ⟨k+1,by omega,by go_num,T',hb2⟩
     case measure=>simp [intOf];omega
   ·have e2:Hid (xs=ys):=hide (take_all_eq T.out (by rw [H.out];omega) (by rw [H'.out];omega))
    go_wp2_with fail
    go_ret
    obtain rfl:bb=true:=HB.out.2 e2.out
    exact ⟨rfl,hb⟩
 ·have hc':((n:Int) != n')=true:=by simp;omega
  have hq:Hid (xs≠ys):=hide (fun h=>hc (by rw [← H.out,← H'.out,h]))
  clear hc
  go_enter Tryz.func81,Tryz.ntmps81
  go_wp2_with fail
  go_ret
  obtain rfl:bb=false:=by rw [Bool.eq_false_iff,ne_eq,HB.out];exact hq.out
  exact ⟨rfl,Below.refl _ _⟩
theorem sameI_any:∀ xs,SameI xs:=Cd.all (by
 intro xs ih o t p x o' t' p' x' ys a a' n c n' c' b w hx hy hb
 have hbase:=((Below.refl w.heap.size w).alloc (Nat.le_refl _) (.cells #[.int .i64 o, .int .i64 t, .int .i64 p, .int .i64 x, .slice a n c] 45)).alloc (by simp) (.cells #[.int .i64 o', .int .i64 t', .int .i64 p', .int .i64 x', .slice a' n' c'] 45)
 obtain ⟨d,hd⟩:=some_bool (xs=ys)
 have HC:=hide (equalFuncCond_of ih ys a a' n c n' c' d _ (hx.below hbase) (hy.below hbase) hd)
 have HB:=hide hb;have HBB:=hide hbase;have HD:=hide hd
 clear hx hy hb ih hbase hd
 by_cases h1:o=o'
 ·have g1:(o==o')=true:=by simp [h1]
  by_cases h2:t=t'
  ·have g2:(t==t')=true:=by simp [h2]
   by_cases h3:p=p'
   ·have g3:(p==p')=true:=by simp [h3]
    by_cases h4:x=x'
    ·have g4:(x==x')=true:=by simp [h4]
     obtain rfl:b=d:=by rw [Bool.eq_iff_iff,HB.out,HD.out];simp [h1,h2,h3,h4]
     clear h1 h2 h3 h4
     go_enter Tryz.func27,Tryz.ntmps27
     go_wp2_with fail
     (with_reducible refine (HC.out).mono ?_);rintro e w1 ⟨rfl,hb1⟩
     go_wp2_with fail
     go_ret
     exact ⟨rfl,HBB.out.trans (hb1.mono HBB.out.size)⟩
    ·have g4:(x==x')=false:=by simp [h4]
     obtain rfl:b=false:=by rw [Bool.eq_false_iff,ne_eq,HB.out];simp [h4]
     clear h1 h2 h3 h4
     go_enter Tryz.func27,Tryz.ntmps27
     go_wp2_with fail
     go_ret
     exact ⟨rfl,HBB.out⟩
   ·have g3:(p==p')=false:=by simp [h3]
    obtain rfl:b=false:=by rw [Bool.eq_false_iff,ne_eq,HB.out];simp [h3]
    clear h1 h2 h3
    go_enter Tryz.func27,Tryz.ntmps27
    go_wp2_with fail
    go_ret
    exact ⟨rfl,HBB.out⟩
  ·have g2:(t==t')=false:=by simp [h2]
   obtain rfl:b=false:=by rw [Bool.eq_false_iff,ne_eq,HB.out];simp [h2]
   clear h1 h2
   go_enter Tryz.func27,Tryz.ntmps27
   go_wp2_with fail
   go_ret
   exact ⟨rfl,HBB.out⟩
 ·have g1:(o==o')=false:=by simp [h1]
  obtain rfl:b=false:=by rw [Bool.eq_false_iff,ne_eq,HB.out];simp [h1]
  clear h1
  go_enter Tryz.func27,Tryz.ntmps27
  go_wp2_with fail
  go_ret
  exact ⟨rfl,HBB.out⟩)
theorem CondSame_any (o t p x o' t' p' x':Int) (xs ys:List Cd) (a a':Option Addr) (n c n' c':Nat) (b:Bool) (w:World) (h:RepK 0 w ⟨a,n,c⟩ xs) (h':RepK 0 w ⟨a',n',c'⟩ ys) (hb:b=true↔Cd.mk o t p x xs=Cd.mk o' t' p' x' ys) :
 Calls Tryz.prog 27 #[.agg #[.int .i64 o, .int .i64 t, .int .i64 p, .int .i64 x, .slice a n c], .agg #[.int .i64 o', .int .i64 t', .int .i64 p', .int .i64 x', .slice a' n' c']] w fun e w'=>e = .returned (.bool b)∧Below w.heap.size w w':=
 sameI_any xs o t p x o' t' p' x' ys a a' n c n' c' b w h h' hb
end Go.Proofs.YtlddmagfbcomgaaGreat
/-
  Equality of expressions in the program; the law's own comparison of models. No condition.
-/
import Derived.Test.YtfbgppkdnfljhaaDoorZx14
import Derived.Test.YtfbgppkdnfljhaaDoorZx12
set_option maxHeartbeats 6400000
set_option maxRecDepth 100000
namespace Go.Proofs.YtfbgppkdnfljhaaDoor
open Go.RowKit
theorem Tryd.infoRule:(Tryd.prog.info? 40).map (fun i=>(i.zero,i.size,i.bytes))=some (some (.agg #[.int .i64 0, .int .i64 0, .string ⟨#[]⟩, .slice none 0 0]),4,56):=by kernel_rfl
structure Us where
 kind:Int
 op:Int
 nm:ByteArray
 s:Slc
def UsE:El Us:=⟨4,by decide,fun x=>[.int .i64 x.kind, .int .i64 x.op, .string x.nm, .slice x.s.a x.s.n x.s.cap],fun _=>rfl,fun x u h=>by simp at h;rcases h with rfl | rfl | rfl | rfl <;> rfl⟩
def RepU (lo:Nat) (w:World) (u:Us) (r:Ru):Prop:=u.kind=r.kind∧u.op=r.e.op∧u.nm=r.e.nm∧RepRk lo w u.s r.e.kids
def RepM (lo:Nat) (w:World) (s:Slc) (m:List Ru):Prop:=
 ∃ us:List Us,us.length=m.length∧Rep UsE w s.v us∧From lo s us∧∀ (i:Nat) (u:Us) (r:Ru),us[i]? = some u→m[i]? = some r→RepU lo w u r
theorem Ru.eta (r:Ru):Ru.mk r.kind (.mk r.e.op r.e.nm r.e.kids)=r:=by cases r;simp [Re.eta]
theorem Rep.fromE {α:Type} {E:El α} {lo:Nat} {w w':World} {s:Slc} {us:List α} (h:Rep E w s.v us) (hf:From lo s us) (hk:∀ q,lo≤q→q < w.heap.size→w'.heap[q]? = w.heap[q]?):Rep E w' s.v us:=by
 obtain ⟨a,c,hv,h1,h2,h⟩:=h
 refine ⟨a,c,hv,h1,h2,fun i x hx => ?_⟩
 obtain ⟨b,o,rfl,hi⟩:=h i x hx
 refine ⟨b,o,rfl,fun j u hu => ?_⟩
 have hc:=hi j u hu
 rw [← hc]
 refine cell_of_block (hk b ?_ (lt_of_cell hc)) _
 rcases hf with rfl | hf
 ·simp at hx
 ·simp only [Slc.v,Value.slice.injEq] at hv
  exact hf b o hv.1
theorem RepU.keep {lo:Nat} {w w':World} {u:Us} {r:Ru} (h:RepU lo w u r) (hk:∀ q,lo≤q→q < w.heap.size→w'.heap[q]? = w.heap[q]?):RepU lo w' u r:=⟨h.1,h.2.1,h.2.2.1,h.2.2.2.keep hk⟩
theorem RepU.low {lo lo':Nat} {w:World} {u:Us} {r:Ru} (h:RepU lo w u r) (hl:lo'≤lo):RepU lo' w u r:=⟨h.1,h.2.1,h.2.2.1,h.2.2.2.low hl⟩
theorem RepM.keep {lo:Nat} {w w':World} {s:Slc} {m:List Ru} (h:RepM lo w s m) (hk:∀ q,lo≤q→q < w.heap.size→w'.heap[q]? = w.heap[q]?):RepM lo w' s m:=by
 obtain ⟨us,h1,h2,h3,h4⟩:=h
 exact ⟨us,h1,h2.fromE h3 hk,h3,fun i u k hu hk'=>(h4 i u k hu hk').keep hk⟩
theorem RepM.low {lo lo':Nat} {w:World} {s:Slc} {m:List Ru} (h:RepM lo w s m) (hl:lo'≤lo):RepM lo' w s m:=by
 obtain ⟨us,h1,h2,h3,h4⟩:=h
 refine ⟨us,h1,h2, ?_,fun i u k hu hk'=>(h4 i u k hu hk').low hl⟩
 rcases h3 with h3 | h3
 ·exact .inl h3
 ·exact .inr fun b o e=>Nat.le_trans hl (h3 b o e)
theorem RepM.below {lo:Nat} {w w':World} {s:Slc} {m:List Ru} (h:RepM lo w s m) (hb:Below w.heap.size w w'):RepM lo w' s m:=h.keep fun q _ hq=>hb.block q hq
theorem RepM.nil (lo:Nat) (w:World):RepM lo w ⟨none,0,0⟩ []:=⟨[],rfl,Rep.nil w, .inl rfl,fun i u k h=>by simp at h⟩
theorem RepM.open {lo:Nat} {w:World} {s:Slc} {m:List Ru} (h:RepM lo w s m):s.n=m.length∧m.length≤s.cap∧m.length≤9223372036854775807∧s.cap≤maxLen:=by
 obtain ⟨us,h1,h2,h3,h4⟩:=h
 obtain ⟨a,c,hv,h5,h6,h7,_⟩:=h2.open
 simp only [Slc.v,Value.slice.injEq] at hv
 obtain ⟨_,e2,e3⟩:=hv
 rw [e2,e3];omega
theorem RepM.row {lo:Nat} {w:World} {a:Option Addr} {n c:Nat} {m:List Ru} (h:RepM lo w ⟨a,n,c⟩ m) {k:Nat} {r:Ru} (hx:m[k]? = some r) :
 ∃ (b o:Nat) (s:Slc),a=some ⟨b,o,none⟩∧b < w.heap.size∧w.cell? ⟨b,o+k * 4,none⟩=some (.int .i64 r.kind)∧w.cell? ⟨b,o+k * 4+1,none⟩=some (.int .i64 r.e.op)∧w.cell? ⟨b,o+k * 4+2,none⟩=some (.string r.e.nm)∧w.cell? ⟨b,o+k * 4+3,none⟩=some (.slice s.a s.n s.cap)∧RepRk lo w s r.e.kids:=by
 obtain ⟨us,h1,h2,h3,h4⟩:=h
 obtain ⟨u,hu⟩:=get_of_lt (xs:=us) (k:=k) (by rw [h1];exact (List.getElem?_eq_some_iff.1 hx).1)
 obtain ⟨e0,e1,e2,hk⟩:=h4 k u r hu hx
 obtain ⟨a',c',hv,_,_,h⟩:=h2
 simp only [Slc.v,Value.slice.injEq] at hv
 obtain ⟨rfl,_,_⟩:=hv
 obtain ⟨b,o,rfl,h'⟩:=h k u hu
 rw [← e0,← e1,← e2]
 exact ⟨b,o,u.s,rfl,lt_of_cell (h' 0 _ rfl),h' 0 _ rfl,h' 1 _ rfl,h' 2 _ rfl,h' 3 _ rfl,hk⟩
def wtM (m:List Ru):Nat:=(m.map fun r=>r.e.nm.size+wtR r.e.kids+1).sum
theorem wtM_take_succ {m:List Ru} {k:Nat} {r:Ru} (h:m[k]? = some r):wtM (m.take (k+1))=wtM (m.take k)+(r.e.nm.size+wtR r.e.kids+1):=by
 unfold wtM
 rw [List.take_add_one,h,List.map_append,List.sum_append]
 simp
theorem wtM_split (m:List Ru) (k:Nat):wtM m=wtM (m.take k)+wtM (m.drop k):=by
 unfold wtM
 rw [← List.sum_append,← List.map_append,List.take_append_drop]
theorem wtM_mem {m:List Ru} {r:Ru} (h:r∈m):r.e.nm.size+wtR r.e.kids+1≤wtM m:=by
 obtain ⟨k,hk⟩:=List.getElem?_of_mem h
 have h1:=wtM_take_succ hk
 have h2:=wtM_split m (k+1)
 omega
theorem eqRule_any (k k' o o':Int) (p p':ByteArray) (xs ys:List Re) (a a':Option Addr) (n c n' c':Nat) (b:Bool) (w:World) (h:RepRk 0 w ⟨a,n,c⟩ xs) (h':RepRk 0 w ⟨a',n',c'⟩ ys) (hb:b=true↔Ru.mk k (.mk o p xs)=Ru.mk k' (.mk o' p' ys)) :
 Calls Tryd.prog 23 #[.agg #[.int .i64 k, .int .i64 o, .string p, .slice a n c], .agg #[.int .i64 k', .int .i64 o', .string p', .slice a' n' c']] w fun e w'=>e = .returned (.bool b)∧Below w.heap.size w w':=by
 have HB:=hide hb;clear hb
 have hbase:=((Below.refl w.heap.size w).alloc (Nat.le_refl _) (.cells #[.int .i64 k, .int .i64 o, .string p, .slice a n c] 40)).alloc (by simp) (.cells #[.int .i64 k', .int .i64 o', .string p', .slice a' n' c'] 40)
 obtain ⟨d,hd⟩:=some_bool (Re.mk o p xs=Re.mk o' p' ys)
 have HC:=hide (eqRelExpr_any o o' p p' xs ys a a' n c n' c' d _ (h.below hbase) (h'.below hbase) hd)
 have HBB:=hide hbase;have HD:=hide hd
 clear hbase h h' hd
 by_cases h1:k=k'
 ·have g1:(k != k')=false:=by simp [h1]
  obtain rfl:b=d:=by rw [Bool.eq_iff_iff,HB.out,HD.out];simp [h1]
  clear h1
  go_enter Tryd.func23,Tryd.ntmps23
  go_wp2_with fail
  (with_reducible refine (HC.out).mono ?_);rintro e w1 ⟨rfl,hb1⟩
  cases b
  ·go_wp2_with fail
   go_ret
   exact ⟨rfl,HBB.out.trans (hb1.mono HBB.out.size)⟩
  ·go_wp2_with fail
   go_ret
   exact ⟨rfl,HBB.out.trans (hb1.mono HBB.out.size)⟩
 ·have g1:(k != k')=true:=by simp [h1]
  obtain rfl:b=false:=by rw [Bool.eq_false_iff,ne_eq,HB.out];simp [h1]
  clear h1
  go_enter Tryd.func23,Tryd.ntmps23
  go_wp2_with fail
  go_ret
  exact ⟨rfl,HBB.out⟩
theorem eqRuleS_any (xs ys:List Ru) (a a':Option Addr) (n c n' c':Nat) (bb:Bool) (w:World) (hx:RepM 0 w ⟨a,n,c⟩ xs) (hy:RepM 0 w ⟨a',n',c'⟩ ys) (hbb:bb=true↔xs=ys) :
 Calls Tryd.prog 12 #[.slice a n c, .slice a' n' c'] w fun e w'=>e = .returned (.bool bb)∧Below w.heap.size w w':=by
 obtain ⟨e1,hc1,hc2,hc3⟩:=hx.open
 obtain ⟨e1',hc1',hc2',hc3'⟩:=hy.open
 simp only at e1 e1' hc1 hc2 hc3 hc1' hc2' hc3'
 have HX:=hide hx;have HY:=hide hy;have HB:=hide hbb
 clear hx hy hbb
 have H:=hide e1.symm;have H':=hide e1'.symm
 clear e1 e1'
 rw [H.out] at hc1 hc2
 rw [H'.out] at hc1' hc2'
 by_cases hc:n=n'
 ·subst hc
  have hc':((n:Int) != n)=false:=by simp
  go_enter Tryd.func12,Tryd.ntmps12
  go_wp2_with fail
  go_loopw [5] (fun v wr => ∃ k:Nat,k≤n∧v = .int .i64 k∧Hid (xs.take k=ys.take k)∧Below w.heap.size w wr) (fun v _=>n - (intOf v).toNat)
  case atStart=>exact ⟨0,Nat.zero_le _,rfl,hide (by simp),Below.refl _ _⟩
  case round =>
   obtain ⟨k,hk,rfl,T,hb⟩:=hrel
   by_cases hlt:k < n
   ·obtain ⟨x,hxk⟩:=get_of_lt (xs:=xs) (k:=k) (by rw [H.out];exact hlt)
    obtain ⟨y,hyk⟩:=get_of_lt (xs:=ys) (k:=k) (by rw [H'.out];exact hlt)
    obtain ⟨b,o,s,rfl,hbl,i0,i1,i2,i3,i5⟩:=(HX.out.below hb).row hxk
    obtain ⟨b',o',s',rfl,hbl',j0,j1,j2,j3,j5⟩:=(HY.out.below hb).row hyk
    have hlt':=nat_of_lt hlt
    obtain ⟨d,hd⟩:=some_bool (x=y)
    have HC:=hide (fun w' h h'=>eqRule_any x.kind y.kind x.e.op y.e.op x.e.nm y.e.nm x.e.kids y.e.kids s.a s'.a s.n s.cap s'.n s'.cap d w' h h' (by rw [hd,Ru.eta,Ru.eta]))
    have X:=hide hxk;clear hxk
    have Y:=hide hyk;clear hyk
    have I5:=hide i5;have J5:=hide j5;have D:=hide hd
    clear i5 j5 hd
    go_wp2_with fail
    refine wp_region_bw (by kernel_rfl) (by kernel_rfl) ?_
    repeat (go_big_quiet_step ((go_at_call 23;exact Calls.bw (HC.out _ (I5.out.below (BW.prop _)) (J5.out.below (BW.prop _))))))
    refine wpQuiet_nil ?_
    intro w1 hb1
    have hb2:=hb.trans (hb1.mono hb.size)
    cases d
    ·have hq:Hid (xs≠ys):=hide (ne_of_get X.out Y.out (fun e=>by have:=D.out.2 e;simp at this))
     go_wp2_with fail
     go_ret
     obtain rfl:bb=false:=by rw [Bool.eq_false_iff,ne_eq,HB.out];exact hq.out
     exact ⟨rfl,hb2⟩
    ·have T':=hide (take_eq_succ T.out X.out Y.out (D.out.1 rfl))
     go_wp2_with fail
     go_roundw
     case rel=>exact ⟨k+1,by omega,by go_num,T',hb2⟩
     case measure=>simp [intOf];omega
   ·have e2:Hid (xs=ys):=hide (take_all_eq T.out (by rw [H.out];omega) (by rw [H'.out];omega))
    go_wp2_with fail
    go_ret
    obtain rfl:bb=true:=HB.out.2 e2.out
    exact ⟨rfl,hb⟩
 ·have hc':((n:Int) != n')=true:=by simp;omega
  have hq:Hid (xs≠ys):=hide (fun h=>hc (by rw [← H.out,← H'.out,h]))
  go_enter Tryd.func12,Tryd.ntmps12
  go_wp2_with fail
  go_ret
  obtain rfl:bb=false:=by rw [Bool.eq_false_iff,ne_eq,HB.out];exact hq.out
  exact ⟨rfl,Below.refl _ _⟩
end Go.Proofs.YtfbgppkdnfljhaaDoor
namespace Go.Proofs.YtfbgppkdnfljhaaDoor
open Go.RowKit
end Go.Proofs.YtfbgppkdnfljhaaDoor
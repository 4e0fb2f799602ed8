/-
  What the listed variable gives: it holds the names. No condition.
-/
import Derived.Test.YtkfhgnkonaafgaaGreatDoorZx08
import Derived.Test.YtkfhgnkonaafgaaGreatDoorZx15
import Derived.Test.YtkfhgnkonaafgaaGreatDoorZx19
import Derived.Test.YtkfhgnkonaafgaaGreatDoorRows
import Derived.ProofKit
import Derived.LaidMore
import Derived.OpenShut
import Derived.Stop.Joined
set_option maxHeartbeats 6400000
set_option maxRecDepth 100000
namespace Go.Proofs.YtkfhgnkonaafgaaGreatDoor
open Go.RowKit
theorem Tryz.infoRule:(Tryz.prog.info? 77).map (fun i=>(i.zero,i.size,i.bytes))=some (some (.agg #[.int .i64 0, .int .i64 0, .string ⟨#[]⟩, .slice none 0 0]),4,56):=by kernel_rfl
structure Us where
 kind:Int
 op:Int
 nm:ByteArray
 s:Slc
def UsE:El Us:=⟨4,by decide,fun x=>[.int .i64 x.kind, .int .i64 x.op, .string x.nm, .slice x.s.a x.s.n x.s.cap],fun _=>rfl,fun x u h=>by simp at h;rcases h with rfl | rfl | rfl | rfl <;> rfl⟩
def RepU (lo:Nat) (w:World) (u:Us) (r:Ru):Prop:=u.kind=r.kind∧u.op=r.e.op∧u.nm=r.e.nm∧RepRk lo w u.s r.e.kids
def RepM (lo:Nat) (w:World) (s:Slc) (m:List Ru):Prop:=
 ∃ us:List Us,us.length=m.length∧Rep UsE w s.v us∧From lo s us∧∀ (i:Nat) (u:Us) (r:Ru),us[i]? = some u→m[i]? = some r→RepU lo w u r
theorem Ru.eta (r:Ru):Ru.mk r.kind (.mk r.e.op r.e.nm r.e.kids)=r:=by cases r;simp [Re.eta]
theorem Rep.fromE {α:Type} {E:El α} {lo:Nat} {w w':World} {s:Slc} {us:List α} (h:Rep E w s.v us) (hf:From lo s us) (hk:∀ q,lo≤q→q < w.heap.size→w'.heap[q]? = w.heap[q]?):Rep E w' s.v us:=by
 obtain ⟨a,c,hv,h1,h2,h⟩:=h
 refine ⟨a,c,hv,h1,h2,fun i x hx => ?_⟩
 obtain ⟨b,o,rfl,hi⟩:=h i x hx
 refine ⟨b,o,rfl,fun j u hu => ?_⟩
 have hc:=hi j u hu
 rw [← hc]
 refine cell_of_block (hk b ?_ (lt_of_cell hc)) _
 rcases hf with rfl | hf
 ·simp at hx
 ·simp only [Slc.v,Value.slice.injEq] at hv
  exact hf b o hv.1
theorem RepU.keep {lo:Nat} {w w':World} {u:Us} {r:Ru} (h:RepU lo w u r) (hk:∀ q,lo≤q→q < w.heap.size→w'.heap[q]? = w.heap[q]?):RepU lo w' u r:=⟨h.1,h.2.1,h.2.2.1,h.2.2.2.keep hk⟩
theorem RepU.low {lo lo':Nat} {w:World} {u:Us} {r:Ru} (h:RepU lo w u r) (hl:lo'≤lo):RepU lo' w u r:=⟨h.1,h.2.1,h.2.2.1,h.2.2.2.low hl⟩
theorem RepM.keep {lo:Nat} {w w':World} {s:Slc} {m:List Ru} (h:RepM lo w s m) (hk:∀ q,lo≤q→q < w.heap.size→w'.heap[q]? = w.heap[q]?):RepM lo w' s m:=by
 obtain ⟨us,h1,h2,h3,h4⟩:=h
 exact ⟨us,h1,h2.fromE h3 hk,h3,fun i u k hu hk'=>(h4 i u k hu hk').keep hk⟩
theorem RepM.low {lo lo':Nat} {w:World} {s:Slc} {m:List Ru} (h:RepM lo w s m) (hl:lo'≤lo):RepM lo' w s m:=by
 obtain ⟨us,h1,h2,h3,h4⟩:=h
 refine ⟨us,h1,h2, ?_,fun i u k hu hk'=>(h4 i u k hu hk').low hl⟩
 rcases h3 with h3 | h3
 ·exact .inl h3
 ·exact .inr fun b o e=>Nat.le_trans hl (h3 b o e)
theorem RepM.below {lo:Nat} {w w':World} {s:Slc} {m:List Ru} (h:RepM lo w s m) (hb:Below w.heap.size w w'):RepM lo w' s m:=h.keep fun q _ hq=>hb.block q hq
theorem RepM.nil (lo:Nat) (w:World):RepM lo w ⟨none,0,0⟩ []:=⟨[],rfl,Rep.nil w, .inl rfl,fun i u k h=>by simp at h⟩
theorem RepM.open {lo:Nat} {w:World} {s:Slc} {m:List Ru} (h:RepM lo w s m):s.n=m.length∧m.length≤s.cap∧m.length≤9223372036854775807∧s.cap≤maxLen:=by
 obtain ⟨us,h1,h2,h3,h4⟩:=h
 obtain ⟨a,c,hv,h5,h6,h7,_⟩:=h2.open
 simp only [Slc.v,Value.slice.injEq] at hv
 obtain ⟨_,e2,e3⟩:=hv
 rw [e2,e3];omega
theorem RepM.row {lo:Nat} {w:World} {a:Option Addr} {n c:Nat} {m:List Ru} (h:RepM lo w ⟨a,n,c⟩ m) {k:Nat} {r:Ru} (hx:m[k]? = some r) :
 ∃ (b o:Nat) (s:Slc),a=some ⟨b,o,none⟩∧b < w.heap.size∧w.cell? ⟨b,o+k * 4,none⟩=some (.int .i64 r.kind)∧w.cell? ⟨b,o+k * 4+1,none⟩=some (.int .i64 r.e.op)∧w.cell? ⟨b,o+k * 4+2,none⟩=some (.string r.e.nm)∧w.cell? ⟨b,o+k * 4+3,none⟩=some (.slice s.a s.n s.cap)∧RepRk lo w s r.e.kids:=by
 obtain ⟨us,h1,h2,h3,h4⟩:=h
 obtain ⟨u,hu⟩:=get_of_lt (xs:=us) (k:=k) (by rw [h1];exact (List.getElem?_eq_some_iff.1 hx).1)
 obtain ⟨e0,e1,e2,hk⟩:=h4 k u r hu hx
 obtain ⟨a',c',hv,_,_,h⟩:=h2
 simp only [Slc.v,Value.slice.injEq] at hv
 obtain ⟨rfl,_,_⟩:=hv
 obtain ⟨b,o,rfl,h'⟩:=h k u hu
 rw [← e0,← e1,← e2]
 exact ⟨b,o,u.s,rfl,lt_of_cell (h' 0 _ rfl),h' 0 _ rfl,h' 1 _ rfl,h' 2 _ rfl,h' 3 _ rfl,hk⟩
def wtM (m:List Ru):Nat:=(m.map fun r=>r.e.nm.size+wtR r.e.kids+1).sum
theorem wtM_take_succ {m:List Ru} {k:Nat} {r:Ru} (h:m[k]? = some r):wtM (m.take (k+1))=wtM (m.take k)+(r.e.nm.size+wtR r.e.kids+1):=by
 unfold wtM
 rw [List.take_add_one,h,List.map_append,List.sum_append]
 simp
theorem wtM_split (m:List Ru) (k:Nat):wtM m=wtM (m.take k)+wtM (m.drop k):=by
 unfold wtM
 rw [← List.sum_append,← List.map_append,List.take_append_drop]
theorem wtM_mem {m:List Ru} {r:Ru} (h:r∈m):r.e.nm.size+wtR r.e.kids+1≤wtM m:=by
 obtain ⟨k,hk⟩:=List.getElem?_of_mem h
 have h1:=wtM_take_succ hk
 have h2:=wtM_split m (k+1)
 omega
theorem length_le_wtM (m:List Ru):m.length≤wtM m:=by
 unfold wtM
 induction m with
 | nil=>simp
 | cons k m ih=>simp;omega
theorem eqRule_any (k k' o o':Int) (p p':ByteArray) (xs ys:List Re) (a a':Option Addr) (n c n' c':Nat) (b:Bool) (w:World) (h:RepRk 0 w ⟨a,n,c⟩ xs) (h':RepRk 0 w ⟨a',n',c'⟩ ys) (hb:b=true↔Ru.mk k (.mk o p xs)=Ru.mk k' (.mk o' p' ys)) :
 Calls Tryz.prog 46 #[.agg #[.int .i64 k, .int .i64 o, .string p, .slice a n c], .agg #[.int .i64 k', .int .i64 o', .string p', .slice a' n' c']] w fun e w'=>e = .returned (.bool b)∧Below w.heap.size w w':=by
 have HB:=hide hb;clear hb
 have hbase:=((Below.refl w.heap.size w).alloc (Nat.le_refl _) (.cells #[.int .i64 k, .int .i64 o, .string p, .slice a n c] 77)).alloc (by simp) (.cells #[.int .i64 k', .int .i64 o', .string p', .slice a' n' c'] 77)
 obtain ⟨d,hd⟩:=some_bool (Re.mk o p xs=Re.mk o' p' ys)
 have HC:=hide (eqRelExpr_any o o' p p' xs ys a a' n c n' c' d _ (h.below hbase) (h'.below hbase) hd)
 have HBB:=hide hbase;have HD:=hide hd
 clear hbase h h' hd
 by_cases h1:k=k'
 ·have g1:(k != k')=false:=by simp [h1]
  obtain rfl:b=d:=by rw [Bool.eq_iff_iff,HB.out,HD.out];simp [h1]
  clear h1
  go_enter Tryz.func46,Tryz.ntmps46
  go_wp2_with fail
  (with_reducible refine (HC.out).mono ?_);rintro e w1 ⟨rfl,hb1⟩
  cases b
  ·go_wp2_with fail
   go_ret
   exact ⟨rfl,HBB.out.trans (hb1.mono HBB.out.size)⟩
  ·go_wp2_with fail
   go_ret
   exact ⟨rfl,HBB.out.trans (hb1.mono HBB.out.size)⟩
 ·have g1:(k != k')=true:=by simp [h1]
  obtain rfl:b=false:=by rw [Bool.eq_false_iff,ne_eq,HB.out];simp [h1]
  clear h1
  go_enter Tryz.func46,Tryz.ntmps46
  go_wp2_with fail
  go_ret
  exact ⟨rfl,HBB.out⟩
theorem eqRuleS_any (xs ys:List Ru) (a a':Option Addr) (n c n' c':Nat) (bb:Bool) (w:World) (hx:RepM 0 w ⟨a,n,c⟩ xs) (hy:RepM 0 w ⟨a',n',c'⟩ ys) (hbb:bb=true↔xs=ys) :
 Calls Tryz.prog 15 #[.slice a n c, .slice a' n' c'] w fun e w'=>e = .returned (.bool bb)∧Below w.heap.size w w':=by
 obtain ⟨e1,hc1,hc2,hc3⟩:=hx.open
 obtain ⟨e1',hc1',hc2',hc3'⟩:=hy.open
 simp only at e1 e1' hc1 hc2 hc3 hc1' hc2' hc3'
 have HX:=hide hx;have HY:=hide hy;have HB:=hide hbb
 clear hx hy hbb
 have H:=hide e1.symm;have H':=hide e1'.symm
 clear e1 e1'
 rw [H.out] at hc1 hc2
 rw [H'.out] at hc1' hc2'
 by_cases hc:n=n'
 ·subst hc
  have hc':((n:Int) != n)=false:=by simp
  go_enter Tryz.func15,Tryz.ntmps15
  go_wp2_with fail
  go_loopw [5] (fun v wr => ∃ k:Nat,k≤n∧v = .int .i64 k∧Hid (xs.take k=ys.take k)∧Below w.heap.size w wr) (fun v _=>n - (intOf v).toNat)
  case atStart=>exact ⟨0,Nat.zero_le _,rfl,hide (by simp),Below.refl _ _⟩
  case round =>
   obtain ⟨k,hk,rfl,T,hb⟩:=hrel
   by_cases hlt:k < n
   ·obtain ⟨x,hxk⟩:=get_of_lt (xs:=xs) (k:=k) (by rw [H.out];exact hlt)
    obtain ⟨y,hyk⟩:=get_of_lt (xs:=ys) (k:=k) (by rw [H'.out];exact hlt)
    obtain ⟨b,o,s,rfl,hbl,i0,i1,i2,i3,i5⟩:=(HX.out.below hb).row hxk
    obtain ⟨b',o',s',rfl,hbl',j0,j1,j2,j3,j5⟩:=(HY.out.below hb).row hyk
    have hlt':=nat_of_lt hlt
    obtain ⟨d,hd⟩:=some_bool (x=y)
    have HC:=hide (fun w' h h'=>eqRule_any x.kind y.kind x.e.op y.e.op x.e.nm y.e.nm x.e.kids y.e.kids s.a s'.a s.n s.cap s'.n s'.cap d w' h h' (by rw [hd,Ru.eta,Ru.eta]))
    have X:=hide hxk;clear hxk
    have Y:=hide hyk;clear hyk
    have I5:=hide i5;have J5:=hide j5;have D:=hide hd
    clear i5 j5 hd
    go_wp2_with fail
    refine wp_region_bw (by kernel_rfl) (by kernel_rfl) ?_
    repeat (go_big_quiet_step ((go_at_call 46;exact Calls.bw (HC.out _ (I5.out.below (BW.prop _)) (J5.out.below (BW.prop _))))))
    refine wpQuiet_nil ?_
    intro w1 hb1
    have hb2:=hb.trans (hb1.mono hb.size)
    cases d
    ·have hq:Hid (xs≠ys):=hide (ne_of_get X.out Y.out (fun e=>by have:=D.out.2 e;simp at this))
     go_wp2_with fail
     go_ret
     obtain rfl:bb=false:=by rw [Bool.eq_false_iff,ne_eq,HB.out];exact hq.out
     exact ⟨rfl,hb2⟩
    ·have T':=hide (take_eq_succ T.out X.out Y.out (D.out.1 rfl))
     go_wp2_with fail
     go_roundw
     case rel=>exact ⟨k+1,by omega,by go_num,T',hb2⟩
     case measure=>simp [intOf];omega
   ·have e2:Hid (xs=ys):=hide (take_all_eq T.out (by rw [H.out];omega) (by rw [H'.out];omega))
    go_wp2_with fail
    go_ret
    obtain rfl:bb=true:=HB.out.2 e2.out
    exact ⟨rfl,hb⟩
 ·have hc':((n:Int) != n')=true:=by simp;omega
  have hq:Hid (xs≠ys):=hide (fun h=>hc (by rw [← H.out,← H'.out,h]))
  go_enter Tryz.func15,Tryz.ntmps15
  go_wp2_with fail
  go_ret
  obtain rfl:bb=false:=by rw [Bool.eq_false_iff,ne_eq,HB.out];exact hq.out
  exact ⟨rfl,Below.refl _ _⟩
def szMm (m:List Ru) (l:Int):Int:=if l - wtM m < 0 then -1 else l - wtM m
theorem szRule_any (k o:Int) (p:ByteArray) (xs:List Re) (a:Option Addr) (n c:Nat) (l:Int) (w:World) (h:RepRk 0 w ⟨a,n,c⟩ xs) (hnm:∀ k∈xs,NmOk k) (h0:0≤l) (h1:l≤1048576) (hsz:p.size≤9223372036854775807) :
 Calls Tryz.prog 32 #[.agg #[.int .i64 k, .int .i64 o, .string p, .slice a n c], .int .i64 l] w fun e w'=>e = .returned (.int .i64 (szRe p xs l))∧Below w.heap.size w w':=by
 have hbase:=(Below.refl w.heap.size w).alloc (Nat.le_refl _) (.cells #[.int .i64 k, .int .i64 o, .string p, .slice a n c] 64)
 have HC:=hide (szRelExpr_any o p xs a n c l _ (h.below hbase) hnm h0 h1 hsz)
 have HBB:=hide hbase
 have hz:szRe p xs l = -1∨0≤szRe p xs l:=by unfold szRe;split <;> omega
 clear hbase h hnm
 generalize szRe p xs l=R at *
 rcases hz with rfl | hz
 ·go_enter Tryz.func32,Tryz.ntmps32
  go_wp2_with fail
  (with_reducible refine (HC.out).mono ?_);rintro e w1 ⟨rfl,hb1⟩
  go_wp2_with fail
  go_ret
  exact ⟨rfl,HBB.out.trans (hb1.mono HBB.out.size)⟩
 ·go_enter Tryz.func32,Tryz.ntmps32
  go_wp2_with fail
  (with_reducible refine (HC.out).mono ?_);rintro e w1 ⟨rfl,hb1⟩
  go_wp2_with fail
  go_ret
  exact ⟨rfl,HBB.out.trans (hb1.mono HBB.out.size)⟩
theorem szRuleS_any (m:List Ru) (a:Option Addr) (n c:Nat) (l:Int) (w:World) (hx:RepM 0 w ⟨a,n,c⟩ m) (hnm:∀ r∈m,NmOk r.e) (h0:0≤l) (h1:l≤1048576) :
 Calls Tryz.prog 7 #[.slice a n c, .int .i64 l] w fun e w'=>e = .returned (.int .i64 (szMm m l))∧Below w.heap.size w w':=by
 obtain ⟨e1,hc1,hc2,hc3⟩:=hx.open
 simp only at e1 hc1 hc2 hc3
 have HX:=hide hx;have HNM:=hide hnm
 clear hx hnm
 have H:=hide e1.symm
 clear e1
 rw [H.out] at hc1 hc2
 have SZ:Hid (szMm m l=if l - wtM m < 0 then -1 else l - wtM m):=hide rfl
 have LD:=hide (length_le_wtM m)
 generalize szMm m l=z at *
 by_cases h:l - n < 0
 ·obtain rfl:z = -1:=by rw [SZ.out,if_pos (by have:=LD.out;rw [H.out] at this;omega)]
  go_enter Tryz.func7,Tryz.ntmps7
  go_wp2_with fail
  go_ret
  exact ⟨rfl,Below.refl _ _⟩
 ·go_enter Tryz.func7,Tryz.ntmps7
  go_wp2_with fail
  go_loopw [1,5] (fun q i wr => ∃ (k:Nat) (r:Int),k≤n∧i = .int .i64 k∧q = .int .i64 r∧0≤r∧Hid (r=l - n+k - wtM (m.take k))∧r≤l∧Below w.heap.size w wr) (fun _ i _=>n - (intOf i).toNat)
  case atStart=>exact ⟨0,_,Nat.zero_le _,rfl,rfl,by omega,hide (by simp [wtM]),by omega,Below.refl _ _⟩
  case round =>
   obtain ⟨k,r,hk,rfl,rfl,hr0,R,hrl,hb⟩:=hrel
   by_cases hlt:k < n
   ·obtain ⟨x,hxk⟩:=get_of_lt (xs:=m) (k:=k) (by rw [H.out];exact hlt)
    obtain ⟨b,o,s,rfl,hbl,i0,i1,i2,i3,i5⟩:=(HX.out.below hb).row hxk
    have hlt':=nat_of_lt hlt
    have hxn:=HNM.out x (List.mem_of_getElem? hxk)
    have HC:=hide (fun w' h=>szRule_any x.kind x.e.op x.e.nm x.e.kids s.a s.n s.cap r w' h hxn.kids hr0 (by omega) hxn.size)
    have ST:=hide (wtM_take_succ hxk)
    have LK:=hide (length_le_wtM (m.drop (k+1)))
    have DS:=hide (wtM_split m (k+1))
    have LL:Hid (n - (k+1)≤wtM (m.drop (k+1))):=hide (by have:=LK.out;rw [List.length_drop,H.out] at this;exact this)
    have I5:=hide i5
    clear i5 hxk hxn
    have SK:Hid (szRe x.e.nm x.e.kids r=if r - (x.e.nm.size+wtR x.e.kids:Nat) < 0 then -1 else r - (x.e.nm.size+wtR x.e.kids:Nat)):=hide rfl
    generalize hzz:szRe x.e.nm x.e.kids r=zz at *
    clear hzz
    go_wp2_with fail
    (with_reducible refine (HC.out _ I5.out).mono ?_);rintro e w1 ⟨rfl,hb1⟩
    have hb2:=hb.trans (hb1.mono hb.size)
    by_cases hz:r - (x.e.nm.size+wtR x.e.kids:Nat) < 0
    ·have E1:zz = -1:=by rw [SK.out,if_pos hz]
     obtain rfl:z = -1:=by rw [SZ.out,if_pos (by have:=R.out;have:=DS.out;have:=ST.out;have:=LL.out;omega)]
     subst E1
     go_wp2_with fail
     go_ret
     exact ⟨rfl,hb2⟩
    ·have E1:Hid (zz=r - (x.e.nm.size+wtR x.e.kids:Nat)):=hide (by rw [SK.out,if_neg hz])
     have hz0:0≤zz:=by rw [E1.out];omega
     have hzl:zz≤l:=by rw [E1.out];omega
     clear hz
     go_wp2_with fail
     go_roundw
     case rel=>exact ⟨k+1,zz,by omega,by go_num,rfl,hz0,hide (by rw [E1.out,R.out,ST.out];omega),hzl,hb2⟩
     case measure=>simp [intOf];omega
   ·have e:k=n:=by omega
    obtain rfl:z=r:=by
     have h1:=R.out
     rw [List.take_of_length_le (by rw [H.out];omega)] at h1
     rw [SZ.out,if_neg (by omega)];omega
    go_wp2_with fail
    go_ret
    exact ⟨rfl,hb⟩
theorem Own.setUs {T:TypeId} {w:World} {base g n cap:Nat} {xs:List Us} (h:Own UsE T w base (.slice (some ⟨g,0,none⟩) n cap) xs) {k:Nat} {z:Us} (hz:xs[k]? = some z) (x:Us) :
 Own UsE T ((((w.setCell ⟨g,k * 4,none⟩ (.int .i64 x.kind)).setCell ⟨g,k * 4+1,none⟩ (.int .i64 x.op)).setCell ⟨g,k * 4+2,none⟩ (.string x.nm)).setCell ⟨g,k * 4+3,none⟩ (.slice x.s.a x.s.n x.s.cap)) base (.slice (some ⟨g,0,none⟩) n cap) (xs.set k x):=by
 have h0:=h.set (i:=k) (j:=0) ⟨x.kind,z.op,z.nm,z.s⟩ (u:=.int .i64 x.kind) (by decide) hz rfl
 have h1:=h0.set (i:=k) (j:=1) ⟨x.kind,x.op,z.nm,z.s⟩ (u:=.int .i64 x.op) (by decide) (get_set_self hz _) rfl
 have h2:=h1.set (i:=k) (j:=2) ⟨x.kind,x.op,x.nm,z.s⟩ (u:=.string x.nm) (by decide) (get_set_self (get_set_self hz _) _) rfl
 have h3:=h2.set (i:=k) (j:=3) x (u:=.slice x.s.a x.s.n x.s.cap) (by decide) (get_set_self (get_set_self (get_set_self hz _) _) _) rfl
 simp only [List.set_set] at h3
 exact h3
theorem Own.usr {T:TypeId} {w:World} {base g n cap:Nat} {xs:List Us} (h:Own UsE T w base (.slice (some ⟨g,0,none⟩) n cap) xs) {k:Nat} {x:Us} (hx:xs[k]? = some x) :
 g < w.heap.size∧w.cell? ⟨g,k * 4,none⟩=some (.int .i64 x.kind)∧w.cell? ⟨g,k * 4+1,none⟩=some (.int .i64 x.op)∧w.cell? ⟨g,k * 4+2,none⟩=some (.string x.nm) ∧
  w.cell? ⟨g,k * 4+3,none⟩=some (.slice x.s.a x.s.n x.s.cap)∧∀ j,w.frozen? ⟨g,j,none⟩=false:=
 ⟨(World.ownsRow.lt h g rfl).2,h.cell hx (j:=0) rfl,h.cell hx (j:=1) rfl,h.cell hx (j:=2) rfl,h.cell hx (j:=3) rfl,fun j=>h.frozen j⟩
end Go.Proofs.YtkfhgnkonaafgaaGreatDoor
namespace Go.Proofs.YtkfhgnkonaafgaaGreatDoor
open Go.RowKit
theorem OwnFU.grown_ne {α β γ:Type} {E:El α} {F:El γ} {T:TypeId} {R:Dd→Dd→Prop} {φ:Dd→World→α→β→Prop} {us:List α} {ds:List Dd} {w w':World} {base base':Nat} {v v':Value} {xs:List β} {ys:List γ} (h:OwnFU E T R φ us ds w base v xs)
 (ho:Own F T w base' v' ys) (hg:w.grownBy w' v'.ownBlock) (hne:v.ownBlock=none∨v.ownBlock≠v'.ownBlock):OwnFU E T R φ us ds w' base v xs:=
 ⟨h.lu,h.ld,h.pw,h.own.grown hg hne,fun i u d x h1 h2 h3=>⟨(h.rows i u d x h1 h2 h3).1,(h.rows i u d x h1 h2 h3).2.grown ho hg⟩⟩
theorem OwnF.grown_ne {α β γ:Type} {E:El α} {F:El γ} {T:TypeId} {R:Dd→Dd→Prop} {φ:Dd→World→α→β→Prop} {w w':World} {base base':Nat} {v v':Value} {xs:List β} {ys:List γ} (h:OwnF E T R φ w base v xs)
 (ho:Own F T w base' v' ys) (hg:w.grownBy w' v'.ownBlock) (hne:v.ownBlock=none∨v.ownBlock≠v'.ownBlock):OwnF E T R φ w' base v xs:=by
 obtain ⟨us,ds,h⟩:=h
 exact ⟨us,ds,h.grown_ne ho hg hne⟩
theorem step_appL {α:Type} (E:El α) {P:Program} {w:World} {ops:Array Oper} {o:Oper} {a:Act} {K:Act→World→Prop} {Q:Exit→Act→World→Prop} {F:Prop}
 (T:TypeId) {zv:Value} {bytes:Nat} (hinfo:(P.info? T).map (fun i=>(i.zero,i.size,i.bytes))=some (some zv,E.sz,bytes)) (hz:zv.cells.size=E.sz) {t:TypeId} (h1:P.underlying t=some (.slice T))
 (base:Nat) (v:Value) (xs:List α) (x:α) (hown:Own E T w base v xs) (hby:bytes≤256) (hn:xs.length≤68719476736) (hbase:base≤w.heap.size)
 (hg:o.guard=none) (s y:Operand) (hop:o.op = .call { callee:=.builtin .append,args:=#[s,y],argTypes:=#[t,t] })
 (hs:a.eval s=v) (b off c:Nat) (hy:a.eval y = .slice (some ⟨b,off,none⟩) 1 c) (hnews:∀ j u,(E.c x)[j]? = some u→w.cell? ⟨b,off+j,none⟩=some u)
 (hK:∀ v' w',Own E T w' base v' (xs++[x])→w.grownBy w' v.ownBlock→(v'.ownBlock=v.ownBlock∨v'.ownBlock=some w.heap.size)→K (a.put o.dst v') w') :
 if Region.wanted o (yielded ops a.tmps)=true then Oper.wp P o a w K Q else F:=by
 obtain ⟨it,hi,hz0,hz1,hz2⟩:=info_parts hinfo
 refine step_append_lies w hg s y t hop base T it zv E.sz bytes h1 hi hz0 hz1 hz2 hz E.pos v xs.length _ hs hown ⟨b,off,none⟩ 1 c (E.c x) hy (by rw [E.len,Nat.one_mul]) ?_ (E.one x) (by omega) (by unfold maxLen;omega) ?_ hbase _ rfl ?_
 ·intro j u hu
  have hadd:(⟨b,off,none⟩:Addr).add j=⟨b,off+j,none⟩:=by unfold Addr.add;split <;> simp_all
  rw [hadd]
  exact hnews j u hu
 ·have:=Nat.mul_le_mul (show xs.length+1≤68719476737 by omega) hby
  omega
 ·intro g cap w' h2 h3 h4 _
  refine hK _ w' ?_ h3 ?_
  ·unfold Own
   simpa [List.flatMap_append] using h2
  ·rcases h4 with h4 | h4
   ·exact .inl (by rw [h4];rfl)
   ·exact .inr (by rw [h4];rfl)
theorem Rep.takeI {w:World} {a:Option Addr} {n c:Nat} {xs:List Int} (h:Rep IntE w (.slice a n c) xs) {k:Nat} (hk:k≤xs.length):Rep IntE w (.slice a k c) (xs.take k):=by
 obtain ⟨a',c',hv,h1,h2,h3⟩:=h
 simp only [Value.slice.injEq] at hv
 obtain ⟨rfl,rfl,rfl⟩:=hv
 refine ⟨a,c,by rw [List.length_take,Nat.min_eq_left hk],by rw [List.length_take];omega,h2,fun i x hx => ?_⟩
 rw [List.getElem?_take] at hx
 split at hx
 ·exact h3 i x hx
 ·cases hx
theorem Rep.dropI {w:World} {b o n c:Nat} {xs:List Int} (h:Rep IntE w (.slice (some ⟨b,o,none⟩) n c) xs) {k:Nat} (hk:k≤xs.length):Rep IntE w (.slice (some ⟨b,o+k,none⟩) (n - k) (c - k)) (xs.drop k):=by
 obtain ⟨a',c',hv,h1,h2,h3⟩:=h
 simp only [Value.slice.injEq] at hv
 obtain ⟨rfl,rfl,rfl⟩:=hv
 refine ⟨some ⟨b,o+k,none⟩,c - k,by rw [List.length_drop],by rw [List.length_drop];omega,by omega,fun i x hx => ?_⟩
 rw [List.getElem?_drop] at hx
 obtain ⟨b',o',hb,h4⟩:=h3 (k+i) x hx
 simp only [Option.some.injEq,Addr.mk.injEq,and_true] at hb
 obtain ⟨rfl,rfl⟩:=hb
 refine ⟨b,o+k,rfl,fun j u hu => ?_⟩
 have h5:=h4 j u hu
 rw [show o+k+i * IntE.sz+j=o+(k+i) * IntE.sz+j by simp only [IntE];omega]
 exact h5
theorem Rep.dropV {w:World} {b o n c:Nat} {xs:List Int} (h:Rep IntE w (.slice (some ⟨b,o,none⟩) n c) xs) {k:Nat} (hk:k≤xs.length):Rep IntE w (.slice (if c=k then some ⟨b,o,none⟩ else some ⟨b,o+k,none⟩) (n - k) (c - k)) (xs.drop k):=by
 split
 ·rename_i hc
  obtain ⟨a',c',hv,h1,h2,h3⟩:=h
  simp only [Value.slice.injEq] at hv
  obtain ⟨rfl,rfl,rfl⟩:=hv
  refine ⟨_,_,by rw [List.length_drop],by rw [List.length_drop];omega,by omega,fun i x hx => ?_⟩
  rw [List.getElem?_eq_none (by rw [List.length_drop];omega)] at hx
  cases hx
 ·exact h.dropI hk
def permTo (xs:List Int) (k:Nat):List (List Int):=(List.range k).flatMap fun i=>(permsL (xs.eraseIdx i)).map (xs.getD i 0 :: ·)
theorem permTo_succ (xs:List Int) (k:Nat):permTo xs (k+1)=permTo xs k++(permsL (xs.eraseIdx k)).map (xs.getD k 0 :: ·):=by
 unfold permTo
 rw [List.range_succ,List.flatMap_append]
 simp
theorem permTo_length (xs:List Int) (k:Nat) (hk:k≤xs.length):(permTo xs k).length≤fact xs.length:=by
 have h:=permsL_length xs
 by_cases h0:xs.length=0
 ·have:k=0:=by omega
  subst this
  simp [permTo]
 ·have h1:=flatMap_length_le (fun i=>(permsL (xs.eraseIdx i)).map (xs.getD i 0 :: ·)) (fact (xs.length - 1)) (List.range k) (fun i hi=>by
   rw [List.mem_range] at hi
   rw [List.length_map]
   refine Nat.le_trans (permsL_length _) ?_
   rw [List.length_eraseIdx,if_pos (by omega)]
   exact Nat.le_refl _)
  rw [List.length_range] at h1
  obtain ⟨m,hm⟩:∃ m,xs.length=m+1:=⟨xs.length - 1,by omega⟩
  rw [hm] at h1 ⊢
  rw [fact,Nat.mul_comm]
  exact Nat.le_trans h1 (Nat.mul_le_mul_right _ (by omega))
theorem permsL_row:∀ (n:Nat) (xs:List Int),xs.length=n→∀ r∈permsL xs,r.length=n:=by
 intro n
 induction n with
 | zero =>
  intro xs hx r hr
  have:xs=[]:=List.length_eq_zero_iff.1 hx
  subst this
  rw [permsL_nil] at hr;simp at hr;subst hr;rfl
 | succ n ih =>
  intro xs hx r hr
  rw [permsL_step (by omega),List.mem_flatMap] at hr
  obtain ⟨k,hk1,hk⟩:=hr
  rw [List.mem_range] at hk1
  rw [List.mem_map] at hk
  obtain ⟨y,hy,rfl⟩:=hk
  rw [List.length_cons,ih _ (by rw [List.length_eraseIdx,if_pos hk1,hx];rfl) y hy]
theorem fact_mono {m n:Nat} (h:m≤n):fact m≤fact n:=by
 obtain ⟨k,h1,h2⟩:=fact_mul h
 rw [h2];exact Nat.le_mul_of_pos_right _ h1
theorem fact_lt {n:Nat} (h:fact n≤3000):n≤6:=by
 rcases Nat.lt_or_ge 6 n with h1 | h1
 ·have:=fact_mono h1
  have e:fact (Nat.succ 6)=5040:=by decide
  omega
 ·exact h1
theorem l6Perms_any (n:Nat):∀ (v:Value) (xs:List Int) (w:World),xs.length=n→fact n≤3000→Rep IntE w v xs →
 Calls Tryz.prog 148 #[v] w fun e w' => ∃ u:Slc,e = .returned (.slice u.a u.n u.cap)∧RowsI w' w.heap.size u.v (permsL xs)∧Below w.heap.size w w':=by
 induction n with
 | zero =>
  intro v xs w hx _ he
  obtain rfl:xs=[]:=List.length_eq_zero_iff.1 hx
  obtain ⟨a,c,rfl, -, -, -, -⟩:=he.open
  rw [permsL_nil]
  go_enter Tryz.func148,Tryz.ntmps148
  go_wp2_with fail
  go_ret
  have hb1:=(Below.refl w.heap.size w).alloc (Nat.le_refl _) (.cells #[] 3)
  have h0:=Own.empty (E:=IntE) 3 w (Nat.le_refl _)
  have hz:(w.alloc (.cells #[] 3)).heap.size=w.heap.size+1:=by simp
  have h1:=Own.lit1 (E:=SlcE) (T:=24) (w.alloc (.cells #[] 3)) (base:=w.heap.size) (by omega) ⟨some ⟨w.heap.size,0,none⟩,0,0⟩
  refine ⟨⟨some ⟨w.heap.size+1,0,none⟩,1,1⟩,rfl,⟨[⟨some ⟨w.heap.size,0,none⟩,0,0⟩],[⟨w.heap.size,w.heap.size+1,[]⟩],rfl,rfl,by simp,by rw [hz] at h1;exact h1,fun i u d x h2 h3 h4 => ?_⟩,hb1.alloc (by omega) _⟩
  cases i with
  | succ i=>simp at h2
  | zero =>
   simp at h2 h3 h4
   subst h2;subst h3;subst h4
   refine ⟨Nat.le_refl _, ?_⟩
   have h5:=(PhiI.loc (u:=⟨some ⟨w.heap.size,0,none⟩,0,0⟩) h0).below ((Below.refl _ (w.alloc (.cells #[] 3))).alloc (Nat.le_refl _) (.cells (SlcE.c ⟨some ⟨w.heap.size,0,none⟩,0,0⟩).toArray 24))
   rw [hz] at h5
   exact h5
 | succ n ih =>
  intro v xs w hx hfact he
  have hn6:=fact_lt hfact
  have HI:=hide (fun v ys w' h h'=>ih v ys w' h (Nat.le_trans (fact_mono (Nat.le_succ n)) hfact) h')
  have HPS:=hide (permTo_succ xs)
  have HPL:=hide (fun k (hk:k≤n+1)=>Nat.le_trans (permTo_length xs k (by omega)) (by rw [hx];exact hfact))
  have HP0:Hid (permTo xs 0=[]):=hide rfl
  have HPE:Hid (permsL xs=permTo xs (n+1)):=hide (by rw [permsL_step (by omega),hx];rfl)
  have HE:=hide he
  have HXL:=hide hx
  obtain ⟨a,c,rfl,hnc, -, -, -⟩:=he.open
  obtain ⟨x0,hx0⟩:=get_of_lt (xs:=xs) (k:=0) (by omega)
  obtain ⟨b,o,rfl,hbl, -⟩:=he.int hx0
  rw [hx] at hnc ⊢
  have hne:(((n+1:Nat):Int)==0)=false:=by simp;omega
  rw [hx] at HE
  have HFA:Hid (fact (n+1)≤3000):=hide hfact
  clear he ih hx hx0 hfact
  generalize permsL xs=R at *
  generalize hm:n+1=m at *
  have HM:=hide hm
  clear hm
  go_enter Tryz.func148,Tryz.ntmps148
  go_wp2_with fail
  go_loopw [3,4] (fun s i wr => ∃ k:Nat,k≤m∧i = .int .i64 k∧RowsI wr w.heap.size s (permTo xs k)∧Below w.heap.size w wr) (fun _ i _=>m - (intOf i).toNat)
  case atStart=>exact ⟨0,Nat.zero_le _,rfl,by rw [HP0.out];exact OwnF.empty _ w (Nat.le_refl _),(Below.refl _ _).alloc (Nat.le_refl _) _⟩
  case round =>
   obtain ⟨k,hk,rfl,hrows,hbr⟩:=hrel
   by_cases hlt:k < m
   ·obtain ⟨x,hxk⟩:=get_of_lt (xs:=xs) (k:=k) (by rw [HXL.out];exact hlt)
    have hltk:=nat_of_lt hlt
    have PS:=hide (HPS.out k)
    have hgd:xs.getD k 0=x:=by simp [List.getD,hxk]
    rw [hgd] at PS
    have PL:=hide (HPL.out k hk)
    generalize permTo xs k=G at *
    have HEr:=HE.out.below hbr
    obtain ⟨b',o',hbo,hbf,f0⟩:=HEr.int hxk
    simp only [Option.some.injEq,Addr.mk.injEq,and_true] at hbo
    obtain ⟨rfl,rfl⟩:=hbo
    have hba:=(Below.refl wr.heap.size wr).alloc (Nat.le_refl _) (.cells #[] 3)
    have T1:=hide ((HEr.takeI (k:=k) (by rw [HXL.out];exact hk)).below hba.drew)
    have T2:=hide (HEr.dropV (k:=k+1) (by rw [HXL.out];exact hlt))
    have HES:Hid (xs.take k++xs.drop (k+1)=xs.eraseIdx k):=hide (List.eraseIdx_eq_take_drop_succ xs k).symm
    have hkc:(k:Int)≤(c:Int):=by omega
    have hwk:wrap64 ((k:Int)+1)=(k:Int)+1:=by unfold wrap64;omega
    have hwk2:IntKind.i64.wrap ((k:Int)+1)=(k:Int)+1:=by rw [IntKind.wrap_i64];omega
    have hkm:(k:Int)+1≤(m:Int):=by omega
    have hk0:(0:Int)≤(k:Int)+1:=by omega
    have hmc:(m:Int)≤(c:Int):=by omega
    have hkt:((k:Int)+1).toNat=k+1:=by omega
    have OE:Hid (Own IntE 3 (wr.alloc (.cells #[] 3)).drew wr.heap.size (.slice (some ⟨wr.heap.size,0,none⟩) 0 0) []):=hide (Own.empty (E:=IntE) 3 wr (Nat.le_refl _))
    have hl1:([]:List Int).length+(xs.take k).length≤68719476736:=by rw [List.length_take];simp;omega
    have hl2:([]++xs.take k).length+(xs.drop (k+1)).length≤68719476736:=by rw [List.nil_append,List.length_take,List.length_drop];have:=HXL.out;omega
    go_upto_region 7 with fail
    go_cut [5] (fun s5 W => ∃ f:Slc,s5 = .slice f.a f.n f.cap∧Own IntE 3 W wr.heap.size f.v (xs.eraseIdx k)∧Below wr.heap.size wr W)
    case first =>
     by_cases hck:c=k+1
     ·rw [if_pos hck] at T2
      obtain rfl:m=k+1:=by omega
      subst hck
      rw [Nat.sub_self] at T2
      have hkc:(k:Int)≤(k:Int)+1:=by omega
      clear hmc
      go_region_held3 (fun V=>V.cell? ⟨b,o+k,none⟩=some (.int .i64 x)) ((simp [go_sem, *]))
       (first
        | (refine step_appS IntE 3 Tryz.infoInt rfl Tryz.underlying24 wr.heap.size _ [] (xs.take k) _ OE.out T1.out (by decide) hl1 (by simp) (by rfl) _ _ (by rfl) (by rfl) (by rfl) ?_;intro v6 w6 hown6 hgr6;obtain ⟨⟨a6,n6,c6⟩,rfl, -⟩:=hown6.toSlc;have O6:=hide hown6;have hk6:(∀ o,w6.cell? ⟨b,o,none⟩=wr.cell? ⟨b,o,none⟩):=(kept_d hgr6 hbf (fun q hq=>by simp [Value.ownBlock] at hq;omega));have B6:=hide (below_lit hgr6);have hb6:=B6.out.size;have T3:=hide (T2.out.below B6.out);clear hown6 hgr6)
        | (refine step_appS IntE 3 Tryz.infoInt rfl Tryz.underlying24 wr.heap.size _ ([]++xs.take k) (xs.drop (k+1)) _ O6.out T3.out (by decide) hl2 (by omega) (by rfl) _ _ (by rfl) (by rfl) (by rfl) ?_;intro v7 w7 hown7 hgr7;obtain ⟨⟨a7,n7,c7⟩,rfl, -⟩:=hown7.toSlc;have hk7:(∀ o,w7.cell? ⟨b,o,none⟩=wr.cell? ⟨b,o,none⟩):=(fun o=>(cell_of_block2 (hgr7.block b (Nat.lt_of_lt_of_le hbf hb6) (fun e=>by have:=(World.ownsRow.lt O6.out b e.symm).1;omega)) o).trans (hk6 o))))
      all_goals
       have O7:Hid (Own IntE 3 w7 wr.heap.size (Slc.v ⟨a7,n7,c7⟩) (xs.eraseIdx k)):=hide (by rw [← HES.out];exact hown7)
       have B7:=hide (B6.out.grown hgr7 (Nat.le_of_lt_succ (by have:=B6.out.size;omega)) (fun q hq=>(World.ownsRow.lt O6.out q hq).1))
       go_wp2_with fail
       go_meet
       exact ⟨⟨a7,n7,c7⟩,rfl,O7.out,B7.out⟩
     ·rw [if_neg hck] at T2
      go_region_held3 (fun V=>V.cell? ⟨b,o+k,none⟩=some (.int .i64 x)) ((simp [go_sem, *]))
       (first
        | (refine step_appS IntE 3 Tryz.infoInt rfl Tryz.underlying24 wr.heap.size _ [] (xs.take k) _ OE.out T1.out (by decide) hl1 (by simp) (by rfl) _ _ (by rfl) (by rfl) (by rfl) ?_;intro v6 w6 hown6 hgr6;obtain ⟨⟨a6,n6,c6⟩,rfl, -⟩:=hown6.toSlc;have O6:=hide hown6;have hk6:(∀ o,w6.cell? ⟨b,o,none⟩=wr.cell? ⟨b,o,none⟩):=(kept_d hgr6 hbf (fun q hq=>by simp [Value.ownBlock] at hq;omega));have B6:=hide (below_lit hgr6);have hb6:=B6.out.size;have T3:=hide (T2.out.below B6.out);clear hown6 hgr6)
        | (refine step_appS IntE 3 Tryz.infoInt rfl Tryz.underlying24 wr.heap.size _ ([]++xs.take k) (xs.drop (k+1)) _ O6.out T3.out (by decide) hl2 (by omega) (by rfl) _ _ (by rfl) (by rfl) (by rfl) ?_;intro v7 w7 hown7 hgr7;obtain ⟨⟨a7,n7,c7⟩,rfl, -⟩:=hown7.toSlc;have hk7:(∀ o,w7.cell? ⟨b,o,none⟩=wr.cell? ⟨b,o,none⟩):=(fun o=>(cell_of_block2 (hgr7.block b (Nat.lt_of_lt_of_le hbf hb6) (fun e=>by have:=(World.ownsRow.lt O6.out b e.symm).1;omega)) o).trans (hk6 o))))
      all_goals
       have O7:Hid (Own IntE 3 w7 wr.heap.size (Slc.v ⟨a7,n7,c7⟩) (xs.eraseIdx k)):=hide (by rw [← HES.out];exact hown7)
       have B7:=hide (B6.out.grown hgr7 (Nat.le_of_lt_succ (by have:=B6.out.size;omega)) (fun q hq=>(World.ownsRow.lt O6.out q hq).1))
       go_wp2_with fail
       go_meet
       exact ⟨⟨a7,n7,c7⟩,rfl,O7.out,B7.out⟩
    case rest =>
     obtain ⟨⟨a7,n7,c7⟩,rfl,h7,hb7⟩:=hcut
     have O7:=hide h7;have B7:=hide hb7
     clear h7 hb7
     generalize wc=w7 at *
     have HC:=hide (HI.out _ (xs.eraseIdx k) w7 (by rw [List.length_eraseIdx,HXL.out,if_pos hlt];have:=HM.out;omega) O7.out.rep)
     have HRL:=hide (fun r (hr:r∈permsL (xs.eraseIdx k))=>permsL_row n (xs.eraseIdx k) (by rw [List.length_eraseIdx,HXL.out,if_pos hlt];have:=HM.out;omega) r hr)
     have HRN0:=hide (permsL_length (xs.eraseIdx k))
     have HEL:Hid (fact (xs.eraseIdx k).length≤3000):=hide (by
      rw [List.length_eraseIdx,HXL.out,if_pos hlt]
      refine Nat.le_trans (fact_mono (Nat.sub_le m 1)) ?_
      have:=HFA.out
      exact this)
     have HB7:=hide (hbr.trans (B7.out.mono hbr.size))
     have HR7:=hide (OwnF.below hrows B7.out)
     have hq3:∀ q,u3.ownBlock=some q→q < w7.heap.size:=fun q hq=>by
      obtain ⟨us,ds,hU⟩:=hrows
      exact Nat.lt_of_lt_of_le (World.ownsRow.lt hU.own q hq).2 B7.out.size
     have HQ3:=hide hq3
     have F0:=hide ((hbr.cell (p:=⟨b,o+k,none⟩) hbl).symm.trans f0)
     clear hq3 O7 B7 T1 T2 OE HES hl1 hl2 hba f0 hrows hbr HEr hwk hwk2 hkm hk0 hmc hkt hkc hbf
     generalize permsL (xs.eraseIdx k)=RR at *
     go_wp2_with fail
     (with_reducible refine HC.out.mono ?_);rintro e w8 ⟨⟨ra,rn,rc⟩,rfl,ou,hb8⟩
     have hrn:rn=RR.length:=by
      rcases ou.shape with ⟨h1,h2⟩ | ⟨g,cap,h1, -⟩
      ·simp only [Slc.v,Value.slice.injEq] at h1;rw [h1.2.1,h2];rfl
      ·simp only [Slc.v,Value.slice.injEq] at h1;exact h1.2.1
     have HRN:Hid (RR.length=rn):=hide hrn.symm
     have hrb:rn≤3000:=by have:=HRN0.out;have:=HEL.out;omega
     have HRS:=hide ou
     have HQ8:Hid (∀ q,(Slc.v ⟨ra,rn,rc⟩).ownBlock=some q→w7.heap.size≤q∧q < w8.heap.size):=hide (fun q hq=>by
      obtain ⟨us,ds,hU⟩:=ou
      exact World.ownsRow.lt hU.own q hq)
     have HR8:=hide (OwnF.below HR7.out hb8)
     have HB8:=hide (HB7.out.trans (hb8.mono HB7.out.size))
     have h78:=hb8.size
     clear ou hb8 hrn HR7 HB7 HC
     go_wp2_with fail
     go_loopw [3,7] (fun s i wr => ∃ j:Nat,j≤rn∧i = .int .i64 j∧RowsI wr w.heap.size s (G++(RR.take j).map (x :: ·))∧RowsI wr w7.heap.size (.slice ra rn rc) RR∧Hid (∀ q,s.ownBlock=some q→q < w7.heap.size∨w8.heap.size≤q)∧Below w.heap.size w wr∧w8.heap.size≤wr.heap.size) (fun _ i _=>rn - (intOf i).toNat)
     case atStart=>exact ⟨0,Nat.zero_le _,rfl,by rw [List.take_zero,List.map_nil,List.append_nil];exact HR8.out,HRS.out,hide (fun q hq => .inl (HQ3.out q hq)),HB8.out,Nat.le_refl _⟩
     case round =>
      obtain ⟨j,hj,rfl,hrows,hrest,hsq,hbr,hsz⟩:=hrel
      by_cases hltj:j < rn
      ·obtain ⟨r,hrj⟩:=get_of_lt (xs:=RR) (k:=j) (by rw [HRN.out];exact hltj)
       have hltj':=nat_of_lt hltj
       have f0:=(hbr.cell (p:=⟨b,o+k,none⟩) hbl).trans F0.out
       have hbf:=Nat.lt_of_lt_of_le hbl hbr.size
       obtain ⟨⟨sa,sn,sc⟩,g,hga,hg,g0,hrep⟩:=RowsI.row hrest hrj
       subst hga
       have hgq:=HQ8.out g rfl
       have RS:Hid (G++(RR.take (j+1)).map (x :: ·)=(G++(RR.take j).map (x :: ·))++[x :: r]):=hide (by rw [map_take_succ (x :: ·) hrj,List.append_assoc])
       have hrl:=HRL.out r (List.mem_of_getElem? hrj)
       have hlen:(G++(RR.take j).map (x :: ·)).length≤68719476736:=by
        rw [List.length_append,List.length_map,List.length_take]
        have:=PL.out;have:=HRN.out;omega
       have hn1:([x]:List Int).length+r.length≤68719476736:=by have:=HM.out;simp;omega
       have HRP:=hide (hrep.below ((Below.refl wr.heap.size wr).alloc (Nat.le_refl _) (.cells #[.int .i64 x] 3)).drew)
       obtain ⟨us,ds,hU⟩:=hrows
       have HUL:Hid (us.length≤68719476736):=hide (by rw [hU.lu];exact hlen)
       have HU:=hide hU
       have HBR2:=hide hbr
       have HRS2:=hide hrest
       have HLT:Hid (Own IntE 3 (wr.alloc (.cells #[.int .i64 x] 3)).drew wr.heap.size (.slice (some ⟨wr.heap.size,0,none⟩) 1 1) [x]):=hide (Own.lit1 (E:=IntE) (T:=3) wr (Nat.le_refl _) x)
       have hbs:w.heap.size≤wr.heap.size:=hbr.size
       have HQ7:Hid (∀ q,u3.ownBlock=some q→w.heap.size≤q∧q≠g):=hide (fun q hq=>⟨(World.ownsRow.lt hU.own q hq).1,by have:=hsq.out q hq;omega⟩)
       generalize G++(RR.take j).map (x :: ·)=GG at *
       clear hrj hrep hbr hrl hU hlen hrest
       go_wp2_with fail
       go_region_held3 (fun V=>V.cell? ⟨b,o+k,none⟩=some (.int .i64 x)∧V.cell? ⟨g,j,none⟩=some (.slice sa sn sc)) ((simp [go_sem, *]))
        (first
         | (refine step_appS IntE 3 Tryz.infoInt rfl Tryz.underlying24 wr.heap.size _ [x] r _ HLT.out HRP.out (by decide) hn1 (by simp) (by rfl) _ _ (by rfl) (by rfl) (by rfl) ?_;intro v6 w6 hown6 hgr6;obtain ⟨⟨a6,n6,c6⟩,rfl, -⟩:=hown6.toSlc;have O6:=hide hown6;have hk6:(∀ o,w6.cell? ⟨b,o,none⟩=wr.cell? ⟨b,o,none⟩):=(kept_d hgr6 hbf (fun q hq=>by simp [Value.ownBlock] at hq;omega));have hk7:(∀ o,w6.cell? ⟨g,o,none⟩=wr.cell? ⟨g,o,none⟩):=(kept_d hgr6 hg (fun q hq=>by simp [Value.ownBlock] at hq;omega));have B6:=hide (below_lit hgr6);have hb6:=B6.out.size;have hz6:b < w6.heap.size:=(Nat.lt_of_lt_of_le hbf hb6);have hz7:g < w6.heap.size:=(Nat.lt_of_lt_of_le hg hb6);clear hown6 hgr6)
         | (refine step_appL SlcE 24 Tryz.infoIntS rfl Tryz.underlying27 w.heap.size _ us ⟨a6,n6,c6⟩ ((HU.out.own.below B6.out).alloc _) (by decide) HUL.out (by simp;omega) (by rfl) _ _ (by rfl) (by rfl) w6.heap.size 0 1 (by rfl) news_alloc ?_;intro v8 w9 hown8 hgr8 hv8;have hk8:(∀ o,w9.cell? ⟨b,o,none⟩=wr.cell? ⟨b,o,none⟩):=(fun o=>(kept_cell hgr8 (by omega) (fun q hq=>by have:=HQ7.out q hq;omega) o).trans (hk6 o));have hk9:(∀ o,w9.cell? ⟨g,o,none⟩=wr.cell? ⟨g,o,none⟩):=(fun o=>(kept_cell hgr8 (by omega) (fun q hq=>(HQ7.out q hq).2) o).trans (hk7 o))))
       have R8:=RowsI.app HU.out B6.out hbs rfl O6.out hown8 hgr8
       have B8:=(HBR2.out.trans (B6.out.mono hbs)).alloc (by omega) (.cells #[.slice a6 n6 c6] 24)
       have B9:=B8.grown hgr8 (by simp;omega) (fun q hq=>(HQ7.out q hq).1)
       have ba:=(Below.refl w6.heap.size w6).alloc (Nat.le_refl _) (.cells #[.slice a6 n6 c6] 24)
       have S9:=OwnF.grown_ne (OwnF.below (OwnF.below HRS2.out B6.out) ba) ((HU.out.own.below B6.out).below ba) hgr8 (.inr fun e=>(HQ7.out g e.symm).2 rfl)
       have hs9:=hgr8.size
       simp only [World.size_alloc] at hs9 hv8
       have hq9:∀ q,v8.ownBlock=some q→q < w7.heap.size∨w8.heap.size≤q:=fun q hq=>by
        rcases hv8 with h | h
        ·rw [h] at hq;exact hsq.out q hq
        ·rw [h] at hq;simp at hq;omega
       have HQ9:=hide hq9
       go_wp2_with fail
       go_roundw
       case rel=>exact ⟨j+1,by omega,by go_num,by rw [RS.out];exact R8,S9,HQ9,B9,by omega⟩
       case measure=>simp [intOf];omega
      ·obtain rfl:j=rn:=by omega
       rw [List.take_of_length_le (by rw [HRN.out];exact Nat.le_refl _),← PS.out] at hrows
       go_wp2_with fail
       go_roundw
       case rel=>exact ⟨k+1,by omega,by go_num,hrows,hbr⟩
       case measure=>simp [intOf];omega
   ·obtain rfl:k=m:=by omega
    obtain ⟨us,ds,hU⟩:=hrows
    obtain ⟨⟨qa,qn,qc⟩,rfl, -⟩:=hU.own.toSlc
    have hrows:RowsI _ _ _ _:=⟨us,ds,hU⟩
    clear hU
    go_wp2_with fail
    go_ret
    exact ⟨⟨qa,qn,qc⟩,rfl,by rw [HPE.out];exact hrows,hbr⟩
end Go.Proofs.YtkfhgnkonaafgaaGreatDoor
namespace Go.Proofs.YtkfhgnkonaafgaaGreatDoor
open Go.RowKit
theorem Tryz.infoIntSS:(Tryz.prog.info? 27).map (fun i=>(i.zero,i.size,i.bytes))=some (some (.slice none 0 0),1,24):=by kernel_rfl
theorem below_lit2 {w w':World} {l:Array Value} {T:TypeId} {n c:Nat} (hg:(w.alloc (.cells l T)).grownBy w' (Value.slice (some ⟨w.heap.size,0,none⟩) n c).ownBlock):Below w.heap.size w w':=
 ((Below.refl w.heap.size w).alloc (Nat.le_refl _) (.cells l T)).grown hg (by simp) (fun q hq=>by simp [Value.ownBlock] at hq;omega)
def Rany (_ _:Dd):Prop:=True
def PhiO (d:Dd) (W:World) (u:Slc) (o:List (List Int)):Prop:=d.us.length=o.length∧Rep SlcE W u.v d.us∧∀ (i:Nat) (s:Slc) (r:List Int),d.us[i]? = some s→o[i]? = some r→Rep IntE W s.v r
abbrev RowsO (w:World) (base:Nat) (v:Value) (L:List (List (List Int))):Prop:=OwnF SlcE 27 Rany PhiO w base v L
def RowsH (w:World) (lo base:Nat) (v:Value) (L:List (List (List Int))):Prop:=∃ us ds,OwnFU SlcE 27 Rany PhiO us ds w lo v L∧Own SlcE 27 w base v us
theorem PhiO.rep2 {d:Dd} {W:World} {u:Slc} {o:List (List Int)} (h:PhiO d W u o):RepNN W u.v o:=⟨d.us,h.1,h.2.1,h.2.2⟩
theorem PhiO.cons {w:World} {lo lo':Nat} {s f u:Slc} {us:List Slc} {x:List Int} {o:List (List Int)} {a b:Nat} (h1:Own SlcE 24 w lo' s.v (f :: us)) (hlo:lo≤lo') (h2:LocR 27 lo w.heap.size w (fun W=>Rep IntE W f.v x)) (h3:LocR 27 lo w.heap.size w (fun W=>PhiO ⟨a,b,us⟩ W u o)) :
 LocR 27 lo w.heap.size w (fun W=>PhiO ⟨lo,w.heap.size,f :: us⟩ W s (x :: o)):=by
 have h4:=(LocR.own (T:=27) (by decide) h1).wide hlo (Nat.le_refl _) (Nat.le_refl _)
 refine ((h4.and h2).and h3).map fun V ⟨⟨k1,k2⟩,k3⟩=>⟨by simp [k3.1],k1.rep,fun i s' r hs hr => ?_⟩
 cases i with
 | zero=>simp at hs hr;subst hs;subst hr;exact k2
 | succ i=>exact k3.2.2 i s' r (by simpa using hs) (by simpa using hr)
theorem RowsO.row {w:World} {base:Nat} {a:Option Addr} {n c:Nat} {L:List (List (List Int))} (h:RowsO w base (.slice a n c) L) {k:Nat} {o:List (List Int)} (hr:L[k]? = some o) :
 ∃ (u:Slc) (us:List Slc) (g p q:Nat),a=some ⟨g,0,none⟩∧g < w.heap.size∧w.cell? ⟨g,k,none⟩=some (.slice u.a u.n u.cap)∧LocR 27 base w.heap.size w (fun W=>PhiO ⟨p,q,us⟩ W u o):=by
 obtain ⟨us,ds,h⟩:=h
 obtain ⟨u,d,g, -, -,h1, -,h2,h3,hb,h4⟩:=h.at hr
 have h5:=h3 0 _ rfl
 simp only [SlcE,Nat.mul_one,Nat.add_zero] at h5
 exact ⟨u,d.us,g,d.lo,d.hi,h1,h2,h5,h4.wide hb h4.le (Nat.le_refl _)⟩
theorem RowsO.len {w:World} {base:Nat} {a:Option Addr} {n c:Nat} {L:List (List (List Int))} (h:RowsO w base (.slice a n c) L):n=L.length:=by
 rcases h.shape with ⟨h1,h2⟩ | ⟨g,cap,h1, -⟩
 ·simp only [Value.slice.injEq] at h1;rw [h1.2.1,h2];rfl
 ·simp only [Value.slice.injEq] at h1;exact h1.2.1
theorem RowsI.len {w:World} {base:Nat} {a:Option Addr} {n c:Nat} {L:List (List Int)} (h:RowsI w base (.slice a n c) L):n=L.length:=by
 rcases h.shape with ⟨h1,h2⟩ | ⟨g,cap,h1, -⟩
 ·simp only [Value.slice.injEq] at h1;rw [h1.2.1,h2];rfl
 ·simp only [Value.slice.injEq] at h1;exact h1.2.1
theorem RowsH.below {w w':World} {lo base:Nat} {v:Value} {L:List (List (List Int))} (h:RowsH w lo base v L) (hb:Below w.heap.size w w'):RowsH w' lo base v L:=by
 obtain ⟨us,ds,h,k⟩:=h
 exact ⟨us,ds,h.below hb,k.below hb⟩
theorem RowsH.app {us:List Slc} {ds:List Dd} {w w2:World} {lo base:Nat} {v v':Value} {L:List (List (List Int))} (h:OwnFU SlcE 27 Rany PhiO us ds w lo v L) {s:Slc} {d:Dd} {o:List (List Int)} (hlb:lo≤base)
 (hn:LocR 27 d.lo d.hi w (fun W=>PhiO d W s o)) (hd:lo≤d.lo) (ho:Own SlcE 27 w2 base v' (us++[s])) (hg:w.grownBy w2 v.ownBlock):RowsH w2 lo base v' (L++[o]):=
 ⟨us++[s],ds++[d],OwnFU.app h (ho.mono hlb) hg hd hn (fun _ _=>trivial),ho⟩
def ordQ (es:List Ev) (l:Nat) (q:List Int):List (List (List Int)):=(ordsL es (l+1)).map (((wrL es l).headD 0 :: q) :: ·)
theorem ordsL_row {es:List Ev}:∀ (n l:Nat),l+n=3→∀ o∈ordsL es l,o.length=n:=by
 intro n
 induction n with
 | zero =>
  intro l hl o ho
  obtain rfl:l=3:=by omega
  rw [ordsL_end] at ho;simp at ho;subst ho;rfl
 | succ n ih =>
  intro l hl o ho
  rw [ordsL_step (by omega),List.mem_flatMap] at ho
  obtain ⟨q, -,hq⟩:=ho
  rw [List.mem_map] at hq
  obtain ⟨y,hy,rfl⟩:=hq
  rw [List.length_cons,ih (l+1) (by omega) y hy]
theorem l6Orders_any (es:List Ev) (hl:es.length≤1048576) (hords:∀ l,(ordsL es l).length≤3000) (hperms:∀ l:Nat,l < 3→fact (wrL es l).tail.length≤3000) (hwr:∀ l:Nat,l < 3→0 < (wrL es l).length) (n:Nat):∀ (v:Value) (l:Nat) (w:World),l+n=3→Rep EvE w v es →
 Calls Tryz.prog 111 #[v, .int .i64 l] w fun e w' => ∃ u:Slc,e = .returned (.slice u.a u.n u.cap)∧RowsO w' w.heap.size u.v (ordsL es l)∧Below w.heap.size w w':=by
 induction n with
 | zero =>
  intro v l w hi he
  obtain ⟨a,c,rfl, -, -, -, -⟩:=he.open
  obtain rfl:l=3:=by omega
  rw [ordsL_end]
  generalize es.length=m at *
  go_enter Tryz.func111,Tryz.ntmps111
  go_wp2_with fail
  go_ret
  have hb1:=(Below.refl w.heap.size w).alloc (Nat.le_refl _) (.cells #[] 24)
  have h0:=Own.empty (E:=SlcE) 24 w (Nat.le_refl _)
  have hz:(w.alloc (.cells #[] 24)).heap.size=w.heap.size+1:=by simp
  have h1:=Own.lit1 (E:=SlcE) (T:=27) (w.alloc (.cells #[] 24)) (base:=w.heap.size) (by omega) ⟨some ⟨w.heap.size,0,none⟩,0,0⟩
  refine ⟨⟨some ⟨w.heap.size+1,0,none⟩,1,1⟩,rfl,⟨[⟨some ⟨w.heap.size,0,none⟩,0,0⟩],[⟨w.heap.size,w.heap.size+1,[]⟩],rfl,rfl,by simp,by rw [hz] at h1;exact h1,fun i u d x h2 h3 h4 => ?_⟩,hb1.alloc (by omega) _⟩
  cases i with
  | succ i=>simp at h2
  | zero =>
   simp at h2 h3 h4
   subst h2;subst h3;subst h4
   refine ⟨Nat.le_refl _, ?_⟩
   have h5:=(LocR.own (T:=27) (by decide) h0).below ((Below.refl _ (w.alloc (.cells #[] 24))).alloc (Nat.le_refl _) (.cells (SlcE.c ⟨some ⟨w.heap.size,0,none⟩,0,0⟩).toArray 27))
   rw [hz] at h5
   exact h5.map fun V k=>⟨rfl,k.rep,fun i s r hs=>by simp at hs⟩
 | succ n ih =>
  intro v l w hi he
  have hl3:l < 3:=by omega
  have hcast:((l+1:Nat):Int)=(l:Int)+1:=by omega
  have HI:=hide (fun w' h=>ih v (l+1) w' (by omega) h)
  rw [hcast] at HI
  have HW:=hide (fun w' h=>l6Writers_any v es (l:Int) w' h (by omega))
  have HP:=hide (fun v w' h=>l6Perms_any (wrL es l).tail.length v (wrL es l).tail w' rfl (hperms l hl3) h)
  have HPR:=hide (fun r (hr:r∈permsL (wrL es l).tail)=>permsL_row _ (wrL es l).tail rfl r hr)
  have HPN:=hide (Nat.le_trans (permsL_length (wrL es l).tail) (hperms l hl3))
  have HTL:=hide (fact_lt (hperms l hl3))
  have HROW:=hide (fun r (hr:r∈ordsL es (l+1))=>ordsL_row n (l+1) (by omega) r hr)
  have HF1:=hide (hords (l+1));have HF0:=hide (hords l)
  have HST:Hid (ordsL es l=(permsL (wrL es l).tail).flatMap (ordQ es l)):=hide (ordsL_step (es:=es) (l:=l) hl3)
  obtain ⟨x,hx0⟩:=get_of_lt (xs:=wrL es l) (k:=0) (hwr l hl3)
  have HQ:Hid (∀ q,ordQ es l q=(ordsL es (l+1)).map ((x :: q) :: ·)):=hide (fun q=>by
   unfold ordQ
   have:(wrL es l).headD 0=x:=by
    cases h:wrL es l with
    | nil=>rw [h] at hx0;cases hx0
    | cons y ys=>rw [h] at hx0;simpa using hx0
   rw [this])
  have HWLEN:=hide (hwr l hl3)
  have HX0:=hide hx0
  have HE:=hide he
  obtain ⟨a,c,rfl, -, -, -, -⟩:=he.open
  have hl2:(l:Int)≤2:=by omega
  have hgt:decide ((2:Int) < (l:Int))=false:=by simp;omega
  clear he ih hcast hords hperms hwr hx0
  generalize hm:es.length=m at *
  clear hm
  generalize ordsL es l=R at *
  generalize ordsL es (l+1)=RR at *
  generalize ordQ es l=F at *
  generalize wrL es (l:Int)=WR at *
  go_enter Tryz.func111,Tryz.ntmps111
  go_wp2_with fail
  (with_reducible refine (HI.out _ HE.out).mono ?_);rintro e w2 ⟨⟨ra,rn,rc⟩,rfl,ou,hb2⟩
  have HRN:Hid (RR.length=rn):=hide (RowsO.len ou).symm
  have hrb:rn≤3000:=by have:=HRN.out;have:=HF1.out;omega
  have HRR:=hide ou;have HB2:=hide hb2
  have HW2:=hide (HW.out w2 (HE.out.below hb2))
  have hs12:=hb2.size
  clear ou hb2 HI HW
  go_wp2_with fail
  (with_reducible refine HW2.out.mono ?_);rintro e w3 ⟨vw,rfl,ow,hb3⟩
  rcases ow.shape with ⟨rfl,h0⟩ | ⟨gw,wcap,rfl,hgw1,hgw2,hgw3, -⟩
  ·exfalso
   have:=HWLEN.out
   rw [h0] at this;simp at this
  have HWN:Hid (0 < WR.length∧WR.length≤7):=hide ⟨HWLEN.out,by have:=HTL.out;rw [List.length_tail] at this;omega⟩
  have HOW:=hide ow
  have HB3:=hide (HB2.out.trans (hb3.mono HB2.out.size))
  have HRR3:=hide (OwnF.below HRR.out hb3)
  have hwt:WR.tail=WR.drop 1:=by cases WR <;> rfl
  have T1:=hide (ow.rep.dropV (k:=1) HWLEN.out)
  rw [← hwt] at T1
  obtain ⟨wn,hwn⟩:∃ wn,WR.length=wn:=⟨_,rfl⟩
  rw [hwn] at T1 HOW HWN hgw3 ⊢
  have hwn1:1≤wn:=HWN.out.1
  have hwn7:wn≤7:=HWN.out.2
  have h1w:(1:Int)≤(wn:Int):=by omega
  have hwcap:(wn:Int)≤(wcap:Int):=by omega
  have hs23:=hb3.size
  clear ow hb3 HB2 HRR HW2 hwt hwn
  go_upto_region 5 with fail
  go_cut [7] (fun s7 W => ∃ u:Slc,s7 = .slice u.a u.n u.cap∧RowsI W w3.heap.size u.v (permsL WR.tail)∧Below w3.heap.size w3 W)
  case first =>
   by_cases hck:wcap=1
   ·rw [if_pos hck] at T1
    obtain rfl:wn=1:=by omega
    subst hck
    have HC:=hide (HP.out _ w3 T1.out)
    go_wp2_with fail
    (with_reducible refine HC.out.mono ?_);rintro e w4 ⟨u,rfl,ou,hb4⟩
    go_wp2_with fail
    go_meet
    exact ⟨u,rfl,ou,hb4⟩
   ·rw [if_neg hck] at T1
    have HC:=hide (HP.out _ w3 T1.out)
    simp only [Nat.zero_add] at HC
    go_wp2_with fail
    (with_reducible refine HC.out.mono ?_);rintro e w4 ⟨u,rfl,ou,hb4⟩
    go_wp2_with fail
    go_meet
    exact ⟨u,rfl,ou,hb4⟩
  case rest =>
   obtain ⟨⟨pa,pn,pc⟩,rfl,hpr,hbc⟩:=hcut
   have HPLN:Hid ((permsL WR.tail).length=pn):=hide (RowsI.len hpr).symm
   have hpb:pn≤3000:=by have:=HPLN.out;have:=HPN.out;omega
   have HPM:=hide hpr
   have HRC:=hide (OwnF.below HRR3.out hbc)
   have HBC:=hide (HB3.out.trans (hbc.mono HB3.out.size))
   have HOC:=hide (HOW.out.below hbc)
   have hs34:=hbc.size
   clear hpr hbc T1 HRR3 HB3 HOW HP
   generalize permsL WR.tail=PM at *
   go_wp2_with fail
   go_loopw [8,9] (fun s i wr => ∃ k:Nat,k≤pn∧i = .int .i64 k∧RowsH wr w.heap.size wc.heap.size s ((PM.take k).flatMap F)∧Below wc.heap.size wc wr) (fun _ i _=>pn - (intOf i).toNat)
   case atStart=>exact ⟨0,Nat.zero_le _,rfl,⟨[],[],⟨rfl,rfl, .nil,Own.empty _ _ (by omega),fun i u d x h=>by simp at h⟩,Own.empty _ _ (Nat.le_refl _)⟩,(Below.refl _ _).alloc (Nat.le_refl _) _⟩
   case round =>
    obtain ⟨k,hk,rfl,hrows,hbr⟩:=hrel
    by_cases hlt:k < pn
    ·obtain ⟨q,hqk⟩:=get_of_lt (xs:=PM) (k:=k) (by rw [HPLN.out];exact hlt)
     have hltk:=nat_of_lt hlt
     have GS:=hide (flatMap_take_succ F hqk)
     rw [HQ.out q] at GS
     have HGL:Hid (((PM.take k).flatMap F).length≤3000):=hide (by
      have:=flatMap_take_le F PM k
      rw [← HST.out] at this
      exact Nat.le_trans this HF0.out)
     obtain ⟨⟨sa,sn,sc⟩,g,hga,hg,g0,hrep⟩:=RowsI.row (OwnF.below HPM.out hbr) hqk
     have hgc:g < wc.heap.size:=by
      obtain ⟨-,g',hga',hgc, -⟩:=RowsI.row HPM.out hqk
      rw [hga] at hga';simp at hga';omega
     subst hga
     obtain ⟨b',o',hbo,hbf,f0⟩:=(HOC.out.below hbr).rep.int HX0.out
     simp only [Option.some.injEq,Addr.mk.injEq,and_true] at hbo
     obtain ⟨rfl,rfl⟩:=hbo
     simp only [Nat.add_zero] at f0
     have hqr:=HPR.out q (List.mem_of_getElem? hqk)
     have hn1:([x]:List Int).length+q.length≤68719476736:=by
      rw [hqr,List.length_tail]
      have:=HTL.out
      rw [List.length_tail] at this
      simp;omega
     have HRP:=hide (hrep.below ((Below.refl wr.heap.size wr).alloc (Nat.le_refl _) (.cells #[.int .i64 x] 3)).drew)
     have HLT:Hid (Own IntE 3 (wr.alloc (.cells #[.int .i64 x] 3)).drew wr.heap.size (.slice (some ⟨wr.heap.size,0,none⟩) 1 1) [x]):=hide (Own.lit1 (E:=IntE) (T:=3) wr (Nat.le_refl _) x)
     generalize (PM.take k).flatMap F=G at *
     have HRO:=hide hrows;have HBR:=hide hbr
     have h01:0 < wn:=by omega
     clear hrows hbr hqk hrep hqr
     go_wp2_with fail
     go_region_held3 (fun V=>V.cell? ⟨gw,0,none⟩=some (.int .i64 x)∧V.cell? ⟨g,k,none⟩=some (.slice sa sn sc)) ((simp [go_sem, *]))
      (first
       | (refine step_appS IntE 3 Tryz.infoInt rfl Tryz.underlying24 wr.heap.size _ [x] q _ HLT.out HRP.out (by decide) hn1 (by simp) (by rfl) _ _ (by rfl) (by rfl) (by rfl) ?_;intro v6 w6 hown6 hgr6;obtain ⟨⟨a6,n6,c6⟩,rfl, -⟩:=hown6.toSlc;have O6:=hide hown6;have hk6:(∀ o,w6.cell? ⟨gw,o,none⟩=wr.cell? ⟨gw,o,none⟩):=(kept_d hgr6 hbf (fun q hq=>by simp [Value.ownBlock] at hq;omega));have hk7:(∀ o,w6.cell? ⟨g,o,none⟩=wr.cell? ⟨g,o,none⟩):=(kept_d hgr6 hg (fun q hq=>by simp [Value.ownBlock] at hq;omega));have B6:=hide (below_lit hgr6);have hb6:=B6.out.size;have hz6:gw < w6.heap.size:=(Nat.lt_of_lt_of_le hbf hb6);have hz7:g < w6.heap.size:=(Nat.lt_of_lt_of_le hg hb6);clear hown6 hgr6))
     have O6':Hid (Own IntE 3 w6 wc.heap.size (Slc.v ⟨a6,n6,c6⟩) (x :: q)):=hide (O6.out.mono HBR.out.size)
     have HR6:=hide (HRO.out.below B6.out)
     have HB6:=hide (HBR.out.trans (B6.out.mono HBR.out.size))
     clear O6 HRO HBR B6 hb6 hz6 hz7 hk6 hk7 HLT HRP hn1 g0 hg hgc f0 hbf h01
     go_wp2_with fail
     go_loopw [8,11] (fun s i wr => ∃ j:Nat,j≤rn∧i = .int .i64 j∧RowsH wr w.heap.size wc.heap.size s (G++(RR.take j).map ((x :: q) :: ·))∧Below wc.heap.size wc wr∧Own IntE 3 wr wc.heap.size (.slice a6 n6 c6) (x :: q)) (fun _ i _=>rn - (intOf i).toNat)
     case atStart=>exact ⟨0,Nat.zero_le _,rfl,by rw [List.take_zero,List.map_nil,List.append_nil];exact HR6.out,HB6.out,O6'.out⟩
     case round =>
      obtain ⟨j,hj,rfl,hrows,hbr,hfst⟩:=hrel
      by_cases hltj:j < rn
      ·obtain ⟨o,hoj⟩:=get_of_lt (xs:=RR) (k:=j) (by rw [HRN.out];exact hltj)
       have hltj':=nat_of_lt hltj
       obtain ⟨⟨sa,sn,sc⟩,uss,g,p1,p2,hga,hg,g0,hphi⟩:=RowsO.row (OwnF.below HRC.out hbr) hoj
       subst hga
       have RS:Hid (G++(RR.take (j+1)).map ((x :: q) :: ·)=(G++(RR.take j).map ((x :: q) :: ·))++[(x :: q) :: o]):=hide (by rw [map_take_succ ((x :: q) :: ·) hoj,List.append_assoc])
       have hol:=HROW.out o (List.mem_of_getElem? hoj)
       have hlen:(G++(RR.take j).map ((x :: q) :: ·)).length≤68719476736:=by
        rw [List.length_append,List.length_map,List.length_take]
        have:=HGL.out;have:=HRN.out;omega
       have hul:([⟨a6,n6,c6⟩]:List Slc).length+uss.length≤68719476736:=by
        rw [hphi.now.1,hol];simp;omega
       have hla:=(Below.refl wr.heap.size wr).alloc (Nat.le_refl _) (.cells #[.slice a6 n6 c6] 24)
       have HRP:=hide ((hphi.below hla).now.2.1)
       have HLT:Hid (Own SlcE 24 (wr.alloc (.cells #[.slice a6 n6 c6] 24)) wr.heap.size (.slice (some ⟨wr.heap.size,0,none⟩) 1 1) [⟨a6,n6,c6⟩]):=hide (Own.lit1 (E:=SlcE) (T:=24) wr (Nat.le_refl _) ⟨a6,n6,c6⟩)
       obtain ⟨us,ds,hU,hO⟩:=hrows
       have HUL:Hid (us.length≤68719476736):=hide (by rw [hU.lu];exact hlen)
       have HU:=hide hU;have HO:=hide hO
       have HBR:=hide hbr;have HF:=hide hfst;have HPH:=hide hphi
       have hbs:wc.heap.size≤wr.heap.size:=hbr.size
       generalize G++(RR.take j).map ((x :: q) :: ·)=GG at *
       clear hoj hol hlen hla hU hO hbr hfst hphi
       go_wp2_with (first
        | (at_builtin;refine wpList_appS SlcE 24 Tryz.infoIntS rfl Tryz.underlying27 wr.heap.size _ [⟨a6,n6,c6⟩] uss _ HLT.out HRP.out (by decide) hul (by simp) rfl _ _ rfl rfl rfl ?_;intro v7 w7 hown7 hgr7;obtain ⟨⟨a7,n7,c7⟩,rfl, -⟩:=hown7.toSlc;have O7:=hide hown7;have B7:=hide (below_lit2 hgr7);have hb7:=B7.out.size;clear hown7 hgr7)
        | (at_builtin;refine wpList_app SlcE 27 Tryz.infoIntSS rfl Tryz.underlying132 wc.heap.size _ us ⟨a7,n7,c7⟩ ((HO.out.below B7.out).alloc _) (by decide) HUL.out (by simp;omega) rfl _ _ rfl rfl _ 0 1 rfl (news_allocV (by simp)) ?_;intro v8 w8 hown8 hgr8))
       have ba7:=(Below.refl w7.heap.size w7).alloc (Nat.le_refl _) (.cells #[.slice a7 n7 c7] 27)
       have F7:=HF.out.below B7.out
       have P7:=PhiO.cons (w:=w7) (lo:=w.heap.size) (s:=⟨a7,n7,c7⟩) (f:=⟨a6,n6,c6⟩) (us:=uss) (x:=x :: q) (o:=o) O7.out (by omega) (((LocR.own (T:=27) (by decide) F7).wide (by omega) (Nat.le_refl _) (Nat.le_refl _)).map fun V k=>k.rep) ((HPH.out.below B7.out).wide (Nat.le_refl _) hb7 (Nat.le_refl _))
       have R8:=RowsH.app ((HU.out.below B7.out).below ba7) (by omega) (d:=⟨w.heap.size,w7.heap.size,⟨a6,n6,c6⟩ :: uss⟩) (P7.below ba7) (Nat.le_refl _) hown8 hgr8
       have B8:=(HBR.out.trans (B7.out.mono hbs)).alloc (by omega) (.cells #[.slice a7 n7 c7] 27)
       have B9:=B8.grown hgr8 (by simp;omega) (fun q hq=>(World.ownsRow.lt HO.out q hq).1)
       have F8:=(F7.below ba7).grown hgr8 (own_or (by decide) ((HO.out.below B7.out).below ba7) (F7.below ba7))
       go_roundw
       case rel=>exact ⟨j+1,by omega,by go_num,by rw [RS.out];exact R8,B9,F8⟩
       case measure=>simp [intOf];omega
      ·obtain rfl:j=rn:=by omega
       rw [List.take_of_length_le (by rw [HRN.out];exact Nat.le_refl _),← GS.out] at hrows
       go_wp2_with fail
       go_roundw
       case rel=>exact ⟨k+1,by omega,by go_num,hrows,hbr⟩
       case measure=>simp [intOf];omega
    ·obtain rfl:k=pn:=by omega
     obtain ⟨us,ds,hU,hO⟩:=hrows
     obtain ⟨⟨qa,qn,qc⟩,rfl, -⟩:=hU.own.toSlc
     have hrows:RowsO _ _ _ _:=⟨us,ds,hU⟩
     clear hU hO
     go_wp2_with fail
     go_ret
     refine ⟨⟨qa,qn,qc⟩,rfl, ?_, ?_⟩
     ·rw [HST.out]
      have h:=hrows
      rw [List.take_of_length_le (by rw [HPLN.out];exact Nat.le_refl _)] at h
      exact h
     ·exact HBC.out.trans (hbr.mono HBC.out.size)
end Go.Proofs.YtkfhgnkonaafgaaGreatDoor
namespace Go.Proofs.YtkfhgnkonaafgaaGreatDoor
open Go.ChangeShapes Go.WideShapes Go.ChangeAt Go.WideMaps Go.WideElems Go.RowKit
abbrev laidL : List (String × DataW Unit) := [("loop.example/weakmemory/impl.relNames", Rows.laid_loop_example_weakmemory_impl_relNames)]
theorem gNames : Tryz.prog.globalNamed "loop.example/weakmemory/impl.relNames" = some 0 := by kernel_rfl
theorem tNames:(Tryz.prog.globals[0]?).map (·.type)=some 206:=by kernel_rfl
theorem door_met (os:Os) (args:Array Value):laidMetH Tryz.prog laidL ((World.doorLaid Tryz.prog 14 os).forCall (fun _ _=>0) ⟨#[],args,[]⟩).memory:=
 laidMetH_of_parts3 (fuel:=8) (laidMet_of_run' 8 (by kernel_rfl) (by kernel_rfl)) (by kernel_rfl) (by kernel_rfl)
theorem glob_of_laid {W:World} (h:laidMetH Tryz.prog laidL W):Glob W:=by
 rw [MakeChecks.laidMetH_plain _ _ _ (by kernel_rfl)] at h
 obtain ⟨ps,⟨g0,t0,cs0,f0,p0,q0,hg0,ht0,hv0,hd0,_⟩,_,_⟩:=h
 obtain rfl:=Option.some.inj (gNames.symm.trans hg0)
 obtain rfl:=Option.some.inj (tNames.symm.trans ht0)
 obtain ⟨xs,m1, -,hx1,hlen,hn3,hel⟩:=DataW.trod_array Tryz.underlying206 hd0
 have c3:Tryz.prog.cellsOf 9=1:=by kernel_rfl
 intro k s hs
 have hk:k < 10:=(List.getElem?_eq_some_iff.1 hs).1
 have h0:=hel k hk
 obtain ⟨y,hy⟩:=get_of_lt (xs:=xs) (k:=k) (by rw [hn3];exact hk)
 rw [hy,c3,Nat.mul_one] at h0
 obtain ⟨s',e1,e2, -⟩:=DataW.trod_string Tryz.underlying9 h0
 simp only [Prod.mk.injEq] at hx1
 have hx2:xs.map (·.1)=nameTab.map fun s=>(DataW.lit (.string s.data.toList):DataW Unit):=by
  have h4:(Rows.laid_loop_example_weakmemory_impl_relNames:DataW Unit) = .agg (nameTab.map fun s=>(DataW.lit (.string s.data.toList):DataW Unit)):=by kernel_rfl
  exact (DataW.agg.inj (h4.symm.trans hx1.1)).symm
 have h5:(xs.map (·.1))[k]? = some y.1:=by rw [List.getElem?_map,hy];rfl
 rw [hx2,List.getElem?_map,hs] at h5
 simp only [Option.map_some,Option.some.injEq] at h5
 rw [e2] at h5
 simp only [DataW.lit.injEq,Lit.string.injEq] at h5
 have h6:s'=s:=by
  have h7:s'.data=s.data:=by
   have:=congrArg List.toArray h5
   simpa using this.symm
  cases s';cases s;simp_all
 subst h6
 have h7:=World.var?_cell hg0 hv0 k
 rw [h7]
 have h8:cs0.toList[k]? = some (.string s'):=by
  have h9:(cs0.toList.drop k)[0]? = some (.string s'):=by
   have:=congrArg (fun l=>l[0]?) e1
   simp only [List.getElem?_cons_zero] at this
   rw [List.getElem?_take_of_lt (by omega)] at this
   exact this
  rw [List.getElem?_drop] at h9
  simpa using h9
 simpa using h8
end Go.Proofs.YtkfhgnkonaafgaaGreatDoor
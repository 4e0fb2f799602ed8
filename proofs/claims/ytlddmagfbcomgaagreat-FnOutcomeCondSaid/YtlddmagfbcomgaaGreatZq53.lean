/-
  CondHolds of the program and of the reference. No condition but bounds on sizes.
-/
import Derived.Test.YtlddmagfbcomgaaGreatZq00
import Derived.Test.YtlddmagfbcomgaaGreatZq06
import Derived.Test.YtlddmagfbcomgaaGreatZq02
import Derived.Test.YtlddmagfbcomgaaGreatZq03
import Derived.Test.YtlddmagfbcomgaaGreatZq04
set_option maxHeartbeats 6400000
set_option maxRecDepth 100000
namespace Go.Proofs.YtlddmagfbcomgaaGreat
open Go.RowKit
end Go.Proofs.YtlddmagfbcomgaaGreat
namespace Go.Proofs.YtlddmagfbcomgaaGreat
open Go.RowKit
def TestsN_i_OutcomeValid_1 (f:Int→Bool):Prop:=∀ (x:Int) (w:World),Calls Tryz.prog 124 #[.int .i64 x] w fun e w'=>e = .returned (.bool (f x))∧Below w.heap.size w w'
theorem IndexFuncN_i_OutcomeValid_1 (v:Value) (xs:List Int) (f:Int→Bool) (w:World) (hx:Rep IntE w v xs) (hf:TestsN_i_OutcomeValid_1 f) :
 Calls Tryz.prog 174 #[v, .func (.func 124) #[] #[]] w fun e w'=>(∃ q:Int,e = .returned (.int .i64 q)∧IdxOf f xs q)∧Below w.heap.size w w':=by
 obtain ⟨a,c,rfl,hc1,hc2,hc3,hx⟩:=hx.open
 have HX:=hide hx;clear hx
 have HF:=hide hf;clear hf
 generalize hn:xs.length=n at *
 have H:=hide hn;clear hn
 go_enter Tryz.func174,Tryz.ntmps174
 go_wp2_with fail
 go_loopw [8] (fun i wr => ∃ t:Nat,t≤n∧i = .int .i64 t∧Hid (∀ x∈xs.take t,f x=false)∧Below w.heap.size w wr) (fun i _=>n - (intOf i).toNat)
 case atStart=>exact ⟨0,Nat.zero_le _,rfl,hide (by simp),Below.refl _ _⟩
 case round =>
  obtain ⟨t,ht,rfl,hno,hb⟩:=hrel
  by_cases hlt:t < n
  ·obtain ⟨x,hxk⟩:=get_of_lt (xs:=xs) (k:=t) (by rw [H.out];exact hlt)
   obtain ⟨b,o,rfl,hbl,i0⟩:=(HX.out.below hb).int hxk
   have hlt':=nat_of_lt hlt
   have X:=hide hxk;clear hxk
   generalize hfx:f x=fx
   have FX:=hide hfx;clear hfx
   have hcall:=HF.out x
   rw [FX.out] at hcall
   have HC:=hide hcall;clear hcall
   cases fx
   ·have NO:Hid (∀ x∈xs.take (t+1),f x=false):=hide (none_succ hno.out X.out FX.out)
    go_wp2_with fail
    (with_reducible refine (HC.out _).mono ?_);rintro e w2 ⟨rfl,hb2⟩
    go_wp2_with fail
    go_roundw
    case rel=>exact ⟨t+1,by omega,by go_num,NO,hb.trans (hb2.mono hb.size)⟩
    case measure=>simp [intOf];omega
   ·go_wp2_with fail
    (with_reducible refine (HC.out _).mono ?_);rintro e w2 ⟨rfl,hb2⟩
    go_wp2_with fail
    go_ret
    exact ⟨⟨_,rfl, .inr ⟨t,x,rfl,X.out,FX.out,hno.out⟩⟩,hb.trans (hb2.mono hb.size)⟩
  ·go_wp2_with fail
   go_ret
   refine ⟨⟨_,rfl, .inl ⟨rfl, ?_⟩⟩,hb⟩
   have h:=hno.out
   rwa [List.take_of_length_le (by rw [H.out];omega)] at h
theorem ContainsFuncN_i_OutcomeValid_1 (v:Value) (xs:List Int) (f:Int→Bool) (w:World) (hx:Rep IntE w v xs) (hf:TestsN_i_OutcomeValid_1 f) :
 Calls Tryz.prog 123 #[v, .func (.func 124) #[] #[]] w fun e w'=>e = .returned (.bool (xs.any f))∧Below w.heap.size w w':=by
 have HI:=hide (IndexFuncN_i_OutcomeValid_1 v xs f w hx hf)
 obtain ⟨a,c,rfl, -⟩:=hx.open
 clear hx hf
 go_enter Tryz.func123,Tryz.ntmps123
 go_wp2_with fail
 (with_reducible refine HI.out.mono ?_);rintro e w1 ⟨⟨q,rfl,hq⟩,hb1⟩
 have E:Hid (decide (0≤q)=xs.any f):=hide hq.any
 clear hq
 go_wp2_with fail
 go_ret
 exact ⟨by rw [← E.out];rfl,hb1⟩
theorem OutcomeValid_1:TestsN_i_OutcomeValid_1 (fun x => !inB x 0 3):=by
 intro x w
 have HC:=hide (fun w'=>within_any x 0 3 w')
 show Calls _ _ _ _ fun e w'=>e = .returned (.bool (!inB x 0 3))∧_
 generalize inB x 0 3=R at *
 go_enter Tryz.func124,Tryz.ntmps124
 go_wp2_with (go_at_call 86;(with_reducible refine (HC.out _).mono ?_);rintro e w1 ⟨rfl,rfl⟩)
 go_ret
 exact ⟨rfl,Below.refl _ _⟩
def outValid (p:List (List Ins)) (o:List Int):Bool:=progValid p&&(decide (o.length=3 * p.length+3)&&o.all fun x=>inB x 0 3)
theorem OutcomeValid_any (v v':Value) (p:List (List Ins)) (o:List Int) (w:World) (hp:RepP w v p) (ho:Rep IntE w v' o) (hl:p.flatten.length≤1048576) (hpl:p.length≤1048576) :
 Calls Tryz.prog 71 #[v,v'] w fun e w'=>e = .returned (.bool (outValid p o))∧Below w.heap.size w w':=by
 have HP:=hide hp;have HO:=hide ho
 have HV:=hide (ProgramValid_any v p w hp hl)
 have HC:=hide (fun w' h=>ContainsFuncN_i_OutcomeValid_1 v' o _ w' h OutcomeValid_1)
 obtain ⟨a,c,rfl,hc1,hc2,hc3, -⟩:=hp.open
 obtain ⟨a',c',rfl,hc1',hc2',hc3', -⟩:=ho.open
 have E:Hid (outValid p o=(progValid p&&(decide (o.length=3 * p.length+3)&&o.all fun x=>inB x 0 3))):=hide rfl
 have EA:Hid ((o.any fun x => !inB x 0 3) = !(o.all fun x=>inB x 0 3)):=hide (by rw [List.not_all_eq_any_not])
 clear hp ho
 generalize outValid p o=R at *
 generalize progValid p=b at *
 generalize (o.any fun x => !inB x 0 3)=A at *
 generalize (o.all fun x=>inB x 0 3)=D at *
 generalize p.length=n at *
 generalize o.length=m at *
 cases b
 ·obtain rfl:R=false:=by rw [E.out];rfl
  go_enter Tryz.func71,Tryz.ntmps71
  go_wp2_with fail
  (with_reducible refine HV.out.mono ?_);rintro e w1 ⟨rfl,hb1⟩
  go_wp2_with fail
  go_ret
  exact ⟨rfl,hb1⟩
 ·by_cases hm:m=3 * n+3
  ·have E2:Hid (R = !A):=hide (by rw [E.out,EA.out,hm];simp)
   have hm':((m:Int)==3 * (n:Int)+2+1)=true:=by simp;omega
   clear hm
   go_enter Tryz.func71,Tryz.ntmps71
   go_wp2_with fail
   (with_reducible refine HV.out.mono ?_);rintro e w1 ⟨rfl,hb1⟩
   go_wp2_with fail
   (with_reducible refine (HC.out _ (HO.out.below hb1)).mono ?_);rintro e w2 ⟨rfl,hb2⟩
   go_wp2_with fail
   go_ret
   exact ⟨by rw [E2.out];rfl,hb1.trans (hb2.mono hb1.size)⟩
  ·obtain rfl:R=false:=by rw [E.out];simp [hm]
   have hm':((m:Int)==3 * (n:Int)+2+1)=false:=by simp;omega
   clear hm
   go_enter Tryz.func71,Tryz.ntmps71
   go_wp2_with fail
   (with_reducible refine HV.out.mono ?_);rintro e w1 ⟨rfl,hb1⟩
   go_wp2_with fail
   go_ret
   exact ⟨rfl,hb1⟩
theorem l3Size_any (a:Option Addr) (n c:Nat) (w:World) (hn:n≤1048576):Calls Tryz.prog 78 #[.slice a n c] w fun e w'=>e = .returned (.int .i64 (3 * n+3))∧w=w':=by
 go_enter Tryz.func78,Tryz.ntmps78
 go_wp2_with fail
 go_ret
 refine ⟨congrArg Ending.returned (congrArg (Value.int .i64) ?_),rfl⟩
 omega
theorem sOutcomeValid_any (v v':Value) (p:List (List Ins)) (o:List Int) (w:World) (hp:RepP w v p) (ho:Rep IntE w v' o) (hl:p.flatten.length≤1048576) (hpl:p.length≤1048576) :
 Calls Tryz.prog 74 #[v,v'] w fun e w'=>e = .returned (.bool (outValid p o))∧Below w.heap.size w w':=by
 have HP:=hide hp;have HO:=hide ho
 have HV:=hide (sProgramValid_any v p w hp hl hpl)
 obtain ⟨a,c,rfl,hc1,hc2,hc3, -⟩:=hp.open
 obtain ⟨a',c',rfl,hc1',hc2',hc3', -⟩:=ho.open
 have E:Hid (outValid p o=(progValid p&&(decide (o.length=3 * p.length+3)&&o.all fun x=>inB x 0 3))):=hide rfl
 have HZ:=hide (fun w'=>l3Size_any a p.length c w' hpl)
 clear hp ho
 generalize outValid p o=R at *
 generalize progValid p=b at *
 generalize p.length=n at *
 generalize hm:o.length=m at *
 have H:=hide hm;clear hm
 cases b
 ·obtain rfl:R=false:=by rw [E.out];rfl
  go_enter Tryz.func74,Tryz.ntmps74
  go_wp2_with fail
  (with_reducible refine HV.out.mono ?_);rintro e w1 ⟨rfl,hb1⟩
  go_wp2_with fail
  go_ret
  exact ⟨rfl,hb1⟩
 ·by_cases hm:m=3 * n+3
  ·have E2:Hid (R=o.all fun x=>inB x 0 3):=hide (by rw [E.out,hm];simp)
   have hm':((m:Int) != 3 * (n:Int)+3)=false:=by simp;omega
   clear hm
   go_enter Tryz.func74,Tryz.ntmps74
   go_wp2_with fail
   (with_reducible refine HV.out.mono ?_);rintro e w1 ⟨rfl,hb1⟩
   go_wp2_with fail
   (with_reducible refine (HZ.out _).mono ?_);rintro e w2 ⟨rfl,rfl⟩
   go_wp2_with fail
   clear hm'
   go_loopw [5] (fun i wr => ∃ t:Nat,t≤m∧i = .int .i64 t∧Hid (∀ x∈o.take t,inB x 0 3=true)∧Below w.heap.size w wr) (fun i _=>m - (intOf i).toNat)
   case atStart=>exact ⟨0,Nat.zero_le _,rfl,hide (by simp),hb1⟩
   case round =>
    obtain ⟨t,ht,rfl,hno,hb⟩:=hrel
    by_cases hlt:t < m
    ·obtain ⟨x,hxk⟩:=get_of_lt (xs:=o) (k:=t) (by rw [H.out];exact hlt)
     obtain ⟨b,o1,rfl,hbl,i0⟩:=(HO.out.below hb).int hxk
     have hlt':=nat_of_lt hlt
     have X:=hide hxk;clear hxk
     have HC:=hide (fun w'=>l1In_any x 3 w')
     generalize hfx:inB x 0 3=fx at *
     have FX:=hide hfx;clear hfx
     cases fx
     ·obtain rfl:R=false:=by
       rw [E2.out,List.all_eq_false]
       exact ⟨x,List.mem_of_getElem? X.out,by rw [FX.out];simp⟩
      go_wp2_with fail
      (with_reducible refine (HC.out _).mono ?_);rintro e w2 ⟨rfl,rfl⟩
      go_wp2_with fail
      go_ret
      exact ⟨rfl,hb⟩
     ·have NO:Hid (∀ x∈o.take (t+1),inB x 0 3=true):=hide (by
       intro y hy
       rw [List.take_add_one,X.out] at hy
       simp at hy
       rcases hy with hy | rfl
       ·exact hno.out y hy
       ·exact FX.out)
      go_wp2_with fail
      (with_reducible refine (HC.out _).mono ?_);rintro e w2 ⟨rfl,rfl⟩
      go_wp2_with fail
      go_roundw
      case rel=>exact ⟨t+1,by omega,by go_num,NO,hb⟩
      case measure=>simp [intOf];omega
    ·obtain rfl:R=true:=by
      rw [E2.out,List.all_eq_true]
      have h:=hno.out
      rwa [List.take_of_length_le (by rw [H.out];omega)] at h
     go_wp2_with fail
     go_ret
     exact ⟨rfl,hb⟩
  ·obtain rfl:R=false:=by rw [E.out];simp [hm]
   have hm':((m:Int) != 3 * (n:Int)+3)=true:=by simp;omega
   clear hm
   go_enter Tryz.func74,Tryz.ntmps74
   go_wp2_with fail
   (with_reducible refine HV.out.mono ?_);rintro e w1 ⟨rfl,hb1⟩
   go_wp2_with fail
   (with_reducible refine (HZ.out _).mono ?_);rintro e w2 ⟨rfl,rfl⟩
   go_wp2_with fail
   go_ret
   exact ⟨rfl,hb1⟩
end Go.Proofs.YtlddmagfbcomgaaGreat
namespace Go.Proofs.YtlddmagfbcomgaaGreat
open Go.RowKit
inductive OwnC (T:TypeId) (w:World):Nat→Nat→Slc→List Cd→Prop
 | nil {lo hi:Nat}:OwnC T w lo hi ⟨none,0,0⟩ []
 | node {lo hi g n cap:Nat} {us:List Cs} {ks:List Cd} (cut:Nat→Nat) (h1:us.length=ks.length) (h2:Own CsE T w lo (.slice (some ⟨g,0,none⟩) n cap) us) (h3:g < hi)
  (h4:lo≤cut 0) (h5:∀ i,cut i≤cut (i+1)) (h6:∀ i,cut i≤g)
  (h7:∀ (i:Nat) (u:Cs) (k:Cd),us[i]? = some u→ks[i]? = some k→u.op=k.op∧u.th=k.th∧u.pl=k.pl∧u.val=k.val)
  (h8:∀ (i:Nat) (u:Cs) (k:Cd),us[i]? = some u→ks[i]? = some k→OwnC T w (cut i) (cut (i+1)) u.s k.kids) :
  OwnC T w lo hi ⟨some ⟨g,0,none⟩,n,cap⟩ ks
theorem cut_mono {cut : Nat → Nat} (h : ∀ i, cut i ≤ cut (i + 1)) : ∀ {i j : Nat}, i ≤ j → cut i ≤ cut j := by
  intro i j hij
  induction j with
  | zero => obtain rfl : i = 0 := by omega
            exact Nat.le_refl _
  | succ j ih =>
    rcases Nat.lt_or_ge i (j + 1) with h1 | h1
    · exact Nat.le_trans (ih (by omega)) (h j)
    · obtain rfl : i = j + 1 := by omega
      exact Nat.le_refl _
theorem OwnC.keep {T:TypeId} {w w':World} {lo hi:Nat} {s:Slc} {ks:List Cd} (h:OwnC T w lo hi s ks) (hk:∀ q,lo≤q→q < hi→q < w.heap.size→w'.heap[q]? = w.heap[q]?):OwnC T w' lo hi s ks:=by
 induction h with
 | nil=>exact .nil
 | node cut h1 h2 h3 h4 h5 h6 h7 h8 ih =>
  rename_i lo hi g n cap us ks
  have hg:=World.ownsRow.lt h2 g rfl
  refine .node cut h1 ?_ h3 h4 h5 h6 h7 (fun i u k hu hkk=>ih i u k hu hkk (fun q hq1 hq2 hq3=>hk q ?_ ?_ hq3))
  ·refine ⟨h2.1, ?_⟩
   rcases h2.2 with ⟨hn,_⟩ | ⟨g',cap',cur,hv,hb1,hgg,rest⟩
   ·simp at hn
   ·simp only [Value.slice.injEq,Option.some.injEq,Addr.mk.injEq,and_true] at hv
    obtain ⟨rfl,rfl,rfl⟩:=hv
    exact .inr ⟨g,cap,cur,rfl,hb1,(hk g hg.1 h3 hg.2).trans hgg,rest⟩
  ·exact Nat.le_trans h4 (Nat.le_trans (cut_mono h5 (Nat.zero_le i)) hq1)
  ·have:=h6 (i+1);omega
theorem OwnC.keepB {T:TypeId} {w w':World} {lo hi:Nat} {s:Slc} {ks:List Cd} (h:OwnC T w lo hi s ks) (hb:Below w.heap.size w w'):OwnC T w' lo hi s ks:=h.keep fun q _ _ hq=>hb.block q hq
theorem OwnC.wide {T:TypeId} {w:World} {lo hi lo' hi':Nat} {s:Slc} {ks:List Cd} (h:OwnC T w lo hi s ks) (hl:lo'≤lo) (hh:hi≤hi'):OwnC T w lo' hi' s ks:=by
 cases h with
 | nil=>exact .nil
 | node cut h1 h2 h3 h4 h5 h6 h7 h8=>exact .node cut h1 (h2.mono hl) (by omega) (by omega) h5 h6 h7 h8
theorem OwnC.rep {T:TypeId} {w:World} {lo hi:Nat} {s:Slc} {ks:List Cd} (h:OwnC T w lo hi s ks):RepK lo w s ks:=by
 induction h with
 | nil=>exact RepK.nil _ _
 | node cut h1 h2 h3 h4 h5 h6 h7 h8 ih =>
  rename_i lo hi g n cap us ks
  have hg:=World.ownsRow.lt h2 g rfl
  have hn:=h2.len
  subst hn
  refine ⟨us,h1,h2.rep, .inr fun b o e => ?_,fun i u k hu hkk => ?_⟩
  ·simp only [Option.some.injEq,Addr.mk.injEq,and_true] at e;rw [← e.1];exact hg.1
  ·have hr:=(ih i u k hu hkk).low (lo':=lo) (Nat.le_trans h4 (cut_mono h5 (Nat.zero_le i)))
   obtain ⟨e1,e2,e3,e4⟩:=h7 i u k hu hkk
   have e:=hr.cond u.op u.th u.pl u.val
   rw [e1,e2,e3,e4,Cd.eta] at e
   rw [← e1,← e2,← e3,← e4] at e
   exact e
theorem OwnC.two {T:TypeId} {w:World} {lo mid hi:Nat} {s s':Slc} {ks ks':List Cd} (h:OwnC T w lo mid s ks) (h':OwnC T w mid hi s' ks') (hlo:lo≤mid) (hmid:mid≤hi) (hw:hi≤w.heap.size) (o t q x o' t' q' x':Int) :
 OwnC T (w.alloc (.cells #[.int .i64 o, .int .i64 t, .int .i64 q, .int .i64 x, .slice s.a s.n s.cap, .int .i64 o', .int .i64 t', .int .i64 q', .int .i64 x', .slice s'.a s'.n s'.cap] T)) lo (w.heap.size+1) ⟨some ⟨w.heap.size,0,none⟩,2,2⟩ [.mk o t q x ks, .mk o' t' q' x' ks']:=by
 refine .node (us:=[⟨o,t,q,x,s⟩,⟨o',t',q',x',s'⟩]) (fun i=>if i=0 then lo else if i=1 then mid else hi) rfl ?_ (by omega) (by simp) (fun i => ?_) (fun i => ?_) ?_ ?_
 ·refine ⟨rfl, .inr ⟨w.heap.size,2,_,rfl,by omega,heap_alloc_new w _,Nat.le_refl _,by unfold maxLen;omega,rfl,rfl⟩⟩
 ·by_cases e:i=0
  ·simp [e];exact hlo
  ·by_cases e1:i=1
   ·simp [e1];exact hmid
   ·simp [e,e1]
 ·by_cases e:i=0
  ·simp [e];omega
  ·by_cases e1:i=1
   ·simp [e1];omega
   ·simp [e,e1];omega
 ·intro i u k hu hk
  match i,hu,hk with
  | 0,hu,hk=>simp at hu hk;subst hu;subst hk;exact ⟨rfl,rfl,rfl,rfl⟩
  | 1,hu,hk=>simp at hu hk;subst hu;subst hk;exact ⟨rfl,rfl,rfl,rfl⟩
  | i+2,hu,hk=>simp at hu
 ·intro i u k hu hk
  match i,hu,hk with
  | 0,hu,hk=>simp at hu hk;subst hu;subst hk;simpa [Cd.kids] using h.keepB (belowAlloc w _)
  | 1,hu,hk=>simp at hu hk;subst hu;subst hk;simpa [Cd.kids] using h'.keepB (belowAlloc w _)
  | i+2,hu,hk=>simp at hu
end Go.Proofs.YtlddmagfbcomgaaGreat
namespace Go.Proofs.YtlddmagfbcomgaaGreat
open Go.RowKit
def holdsF:Nat→Nat→List Int→Cd→Bool
 | 0,_,_,_=>false
 | d+1,N,os,c =>
  if c.op=1 then (if c.th < (N:Int) then os.getD (3 * c.th+c.pl).toNat 0 else 0)==c.val
  else if c.op=2 then os.getD (3 * (N:Int)+c.pl).toNat 0==c.val
  else if c.op=3 then holdsF d N os (c.kid 0)&&holdsF d N os (c.kid 1)
  else if c.op=4 then holdsF d N os (c.kid 0)||holdsF d N os (c.kid 1)
  else !holdsF d N os (c.kid 0)
theorem l3Reg_any (t p:Int) (w:World) (h0:0≤t) (h1:t≤2) (h2:0≤p) (h3:p≤2):Calls Tryz.prog 76 #[.int .i64 t, .int .i64 p] w fun e w'=>e = .returned (.int .i64 (3 * t+p))∧w=w':=by
 have hc:t * 3=3 * t:=Int.mul_comm _ _
 go_enter Tryz.func76,Tryz.ntmps76
 go_wp2_with fail
 go_ret
 first | exact ⟨rfl,rfl⟩ | (refine ⟨congrArg Ending.returned (congrArg (Value.int .i64) ?_),rfl⟩;omega)
def HoldsAt (fn:FuncId) (d:Nat):Prop:=∀ (o t p x:Int) (ks:List Cd) (a:Option Addr) (n c:Nat) (oa:Option Addr) (on oc:Nat) (os:List Int) (N:Nat) (w:World),RepK 0 w ⟨a,n,c⟩ ks→Rep IntE w (.slice oa on oc) os →
 os.length=3 * N+3→N≤3→shapeF d (.mk o t p x ks)=true →
 Calls Tryz.prog fn #[.int .i64 N, .slice oa on oc, .agg #[.int .i64 o, .int .i64 t, .int .i64 p, .int .i64 x, .slice a n c]] w fun e w'=>e = .returned (.bool (holdsF d N os (.mk o t p x ks)))∧Below w.heap.size w w'
theorem holds_any:∀ (d:Nat),HoldsAt 82 d:=by
 intro d
 induction d with
 | zero=>intro o t p x ks a n c oa on oc os N w h hO hlen hN hs;simp [shapeF] at hs
 | succ d ih =>
  intro o t p x ks a n c oa on oc os N w h hO hlen hN hs
  have IH:=hide ih
  rw [shapeF_succ] at hs
  obtain ⟨hn,hk⟩:=hs
  replace hn:nodeR o t p x ks.length=true:=hn
  obtain ⟨e1,hc1,hc2,hc3⟩:=h.open
  simp only at e1 hc1 hc2 hc3
  rw [← e1] at hc1 hc2
  have E1:=hide e1;clear e1
  have hon:on=os.length:=by
   obtain ⟨a',c',hv, -⟩:=hO
   simp only [Value.slice.injEq] at hv
   exact hv.2.1
  have HON:=hide hon;clear hon
  have HLEN:=hide hlen;clear hlen
  have HB:=hide ((Below.refl w.heap.size w).alloc (Nat.le_refl _) (.cells #[.int .i64 o, .int .i64 t, .int .i64 p, .int .i64 x, .slice a n c] 45))
  have HP:=hide (h.below HB.out)
  have HOW:=hide (hO.below HB.out)
  have hN0:(0:Int)≤(N:Int):=by omega
  have hN3:(N:Int)≤3:=by omega
  rcases nodeR_cases hn with ⟨rfl,h1,h2,h3,h4,h5,h6, -⟩ | ⟨rfl,h3,h4,h5,h6, -, -⟩ | ⟨rfl,hl, -⟩ | ⟨rfl,hl, -⟩ | ⟨rfl,hl, -⟩
  ·by_cases hlt:t < (N:Int)
   ·obtain ⟨K,hK⟩:∃ K:Nat,3 * t+p=(K:Int):=⟨(3 * t+p).toNat,by omega⟩
    have hKl:K < on:=by rw [HON.out,HLEN.out];omega
    obtain ⟨y,hy⟩:=get_of_lt (xs:=os) (k:=K) (by rw [← HON.out];exact hKl)
    obtain ⟨b1,o1,rfl,hbl,i0⟩:=hO.int hy
    have E:Hid (holdsF (d+1) N os (.mk 1 t p x ks)=(y==x)):=hide (by
     simp [holdsF,Cd.op,Cd.th,Cd.pl,Cd.val,hlt,hK,hy])
    have hKl':=nat_of_lt hKl
    clear hn hk ih h hO hy
    generalize holdsF (d+1) N os (.mk 1 t p x ks)=R at *
    go_enter Tryz.func82,Tryz.ntmps82
    go_wp2_with fail
    go_ret
    exact ⟨by rw [E.out];rfl,HB.out⟩
   ·have E:Hid (holdsF (d+1) N os (.mk 1 t p x ks)=((0:Int)==x)):=hide (by
     rw [Bool.eq_iff_iff]
     simp [holdsF,Cd.op,Cd.th,Cd.val,hlt])
    have hlt2:decide (t < (N:Int))=false:=by simp;omega
    clear hn hk ih h hO hlt
    generalize holdsF (d+1) N os (.mk 1 t p x ks)=R at *
    go_enter Tryz.func82,Tryz.ntmps82
    go_wp2_with fail
    go_ret
    exact ⟨by rw [E.out];rfl,HB.out⟩
  ·obtain ⟨K,hK⟩:∃ K:Nat,3 * (N:Int)+p=(K:Int):=⟨(3 * (N:Int)+p).toNat,by omega⟩
   have hKl:K < on:=by rw [HON.out,HLEN.out];omega
   obtain ⟨y,hy⟩:=get_of_lt (xs:=os) (k:=K) (by rw [← HON.out];exact hKl)
   obtain ⟨b1,o1,rfl,hbl,i0⟩:=hO.int hy
   have E:Hid (holdsF (d+1) N os (.mk 2 t p x ks)=(y==x)):=hide (by
    simp [holdsF,Cd.op,Cd.pl,Cd.val,hK,hy])
   have hKl':=nat_of_lt hKl
   clear hn hk ih h hO hy
   generalize holdsF (d+1) N os (.mk 2 t p x ks)=R at *
   go_enter Tryz.func82,Tryz.ntmps82
   go_wp2_with fail
   refine wp_region_bw (by kernel_rfl) (by kernel_rfl) ?_
   repeat (go_big_quiet_step (fail))
   refine wpQuiet_nil ?_
   intro w1 hb1
   go_wp2_with fail
   go_ret
   exact ⟨by rw [E.out];rfl,HB.out.trans (hb1.mono HB.out.size)⟩
  ·obtain ⟨k0,g0⟩:=get_of_lt (xs:=ks) (k:=0) (by have:ks.length=2:=hl;omega)
   obtain ⟨k1,g1⟩:=get_of_lt (xs:=ks) (k:=1) (by have:ks.length=2:=hl;omega)
   obtain ⟨b1,o1,s0,rfl,hbl,i0,i1,i2,i3,i4,i5⟩:=h.kid g0
   obtain ⟨b1',o1',s1,hbe, -,j0,j1,j2,j3,j4,j5⟩:=h.kid g1
   simp only [Option.some.injEq,Addr.mk.injEq,and_true] at hbe
   obtain ⟨rfl,rfl⟩:=hbe
   simp only [Nat.zero_mul,Nat.add_zero,Nat.one_mul] at i0 i1 i2 i3 i4 j0 j1 j2 j3 j4
   have HC0:=hide (fun w' h' hO'=>IH.out k0.op k0.th k0.pl k0.val k0.kids s0.a s0.n s0.cap oa on oc os N w' h' hO' HLEN.out hN (by rw [Cd.eta];exact hk k0 (List.mem_of_getElem? g0)))
   have HC1:=hide (fun w' h' hO'=>IH.out k1.op k1.th k1.pl k1.val k1.kids s1.a s1.n s1.cap oa on oc os N w' h' hO' HLEN.out hN (by rw [Cd.eta];exact hk k1 (List.mem_of_getElem? g1)))
   have E:Hid (holdsF (d+1) N os (.mk 3 t p x ks)=(holdsF d N os k0&&holdsF d N os k1)):=hide (by
    simp [holdsF,Cd.op,kid_of g0,kid_of g1])
   rw [Cd.eta] at HC0 HC1
   have I5:=hide (i5.below HB.out);have J5:=hide (j5.below HB.out)
   obtain rfl:n=2:=E1.out.trans hl
   clear hn hk ih h g0 g1 i5 j5 hl hO
   generalize holdsF (d+1) N os (.mk 3 t p x ks)=R at *
   generalize holdsF d N os k0=B0 at *
   generalize holdsF d N os k1=B1 at *
   cases B0
   ·obtain rfl:R=false:=by rw [E.out];rfl
    go_enter Tryz.func82,Tryz.ntmps82
    go_wp2_with fail
    (with_reducible refine (HC0.out _ I5.out HOW.out).mono ?_);rintro e w1 ⟨rfl,hb1⟩
    go_wp2_with fail
    go_ret
    exact ⟨rfl,HB.out.trans (hb1.mono HB.out.size)⟩
   ·obtain rfl:R=B1:=by rw [E.out];rfl
    go_enter Tryz.func82,Tryz.ntmps82
    go_wp2_with fail
    (with_reducible refine (HC0.out _ I5.out HOW.out).mono ?_);rintro e w1 ⟨rfl,hb1⟩
    obtain ⟨hcc,hff⟩:=bcell hb1
    go_wp2_with fail
    (with_reducible refine (HC1.out _ (J5.out.below hb1) (HOW.out.below hb1)).mono ?_);rintro e w2 ⟨rfl,hb2⟩
    go_wp2_with fail
    go_ret
    exact ⟨rfl,HB.out.trans ((hb1.trans (hb2.mono hb1.size)).mono HB.out.size)⟩
  ·obtain ⟨k0,g0⟩:=get_of_lt (xs:=ks) (k:=0) (by have:ks.length=2:=hl;omega)
   obtain ⟨k1,g1⟩:=get_of_lt (xs:=ks) (k:=1) (by have:ks.length=2:=hl;omega)
   obtain ⟨b1,o1,s0,rfl,hbl,i0,i1,i2,i3,i4,i5⟩:=h.kid g0
   obtain ⟨b1',o1',s1,hbe, -,j0,j1,j2,j3,j4,j5⟩:=h.kid g1
   simp only [Option.some.injEq,Addr.mk.injEq,and_true] at hbe
   obtain ⟨rfl,rfl⟩:=hbe
   simp only [Nat.zero_mul,Nat.add_zero,Nat.one_mul] at i0 i1 i2 i3 i4 j0 j1 j2 j3 j4
   have HC0:=hide (fun w' h' hO'=>IH.out k0.op k0.th k0.pl k0.val k0.kids s0.a s0.n s0.cap oa on oc os N w' h' hO' HLEN.out hN (by rw [Cd.eta];exact hk k0 (List.mem_of_getElem? g0)))
   have HC1:=hide (fun w' h' hO'=>IH.out k1.op k1.th k1.pl k1.val k1.kids s1.a s1.n s1.cap oa on oc os N w' h' hO' HLEN.out hN (by rw [Cd.eta];exact hk k1 (List.mem_of_getElem? g1)))
   have E:Hid (holdsF (d+1) N os (.mk 4 t p x ks)=(holdsF d N os k0||holdsF d N os k1)):=hide (by
    simp [holdsF,Cd.op,kid_of g0,kid_of g1])
   rw [Cd.eta] at HC0 HC1
   have I5:=hide (i5.below HB.out);have J5:=hide (j5.below HB.out)
   obtain rfl:n=2:=E1.out.trans hl
   clear hn hk ih h g0 g1 i5 j5 hl hO
   generalize holdsF (d+1) N os (.mk 4 t p x ks)=R at *
   generalize holdsF d N os k0=B0 at *
   generalize holdsF d N os k1=B1 at *
   cases B0
   ·obtain rfl:R=B1:=by rw [E.out];rfl
    go_enter Tryz.func82,Tryz.ntmps82
    go_wp2_with fail
    (with_reducible refine (HC0.out _ I5.out HOW.out).mono ?_);rintro e w1 ⟨rfl,hb1⟩
    obtain ⟨hcc,hff⟩:=bcell hb1
    go_wp2_with fail
    (with_reducible refine (HC1.out _ (J5.out.below hb1) (HOW.out.below hb1)).mono ?_);rintro e w2 ⟨rfl,hb2⟩
    go_wp2_with fail
    go_ret
    exact ⟨rfl,HB.out.trans ((hb1.trans (hb2.mono hb1.size)).mono HB.out.size)⟩
   ·obtain rfl:R=true:=by rw [E.out];rfl
    go_enter Tryz.func82,Tryz.ntmps82
    go_wp2_with fail
    (with_reducible refine (HC0.out _ I5.out HOW.out).mono ?_);rintro e w1 ⟨rfl,hb1⟩
    go_wp2_with fail
    go_ret
    exact ⟨rfl,HB.out.trans (hb1.mono HB.out.size)⟩
  ·obtain ⟨k0,g0⟩:=get_of_lt (xs:=ks) (k:=0) (by have:ks.length=1:=hl;omega)
   obtain ⟨b1,o1,s0,rfl,hbl,i0,i1,i2,i3,i4,i5⟩:=h.kid g0
   simp only [Nat.zero_mul,Nat.add_zero] at i0 i1 i2 i3 i4
   have HC0:=hide (fun w' h' hO'=>IH.out k0.op k0.th k0.pl k0.val k0.kids s0.a s0.n s0.cap oa on oc os N w' h' hO' HLEN.out hN (by rw [Cd.eta];exact hk k0 (List.mem_of_getElem? g0)))
   have E:Hid (holdsF (d+1) N os (.mk 5 t p x ks)=(!holdsF d N os k0)):=hide (by
    simp [holdsF,Cd.op,kid_of g0])
   rw [Cd.eta] at HC0
   have I5:=hide (i5.below HB.out)
   obtain rfl:n=1:=E1.out.trans hl
   clear hn hk ih h g0 i5 hl hO
   generalize holdsF (d+1) N os (.mk 5 t p x ks)=R at *
   generalize holdsF d N os k0=B0 at *
   go_enter Tryz.func82,Tryz.ntmps82
   go_wp2_with fail
   (with_reducible refine (HC0.out _ I5.out HOW.out).mono ?_);rintro e w1 ⟨rfl,hb1⟩
   go_wp2_with fail
   go_ret
   exact ⟨by rw [E.out];rfl,HB.out.trans (hb1.mono HB.out.size)⟩
end Go.Proofs.YtlddmagfbcomgaaGreat
namespace Go.Proofs.YtlddmagfbcomgaaGreat
open Go.RowKit
def condHolds (p:List (List Ins)) (os:List Int) (c:Cd):Bool:=outValid p os&&(validC c&&holdsF 10 p.length os c)
theorem CondHolds_any (v v':Value) (p0:List (List Ins)) (os:List Int) (o t p x:Int) (ks:List Cd) (a:Option Addr) (n c:Nat) (w:World) (hp:RepP w v p0) (ho:Rep IntE w v' os) (h:RepK 0 w ⟨a,n,c⟩ ks) (hl:p0.flatten.length≤1048576) (hpl:p0.length≤1048576) :
 Calls Tryz.prog 28 #[v,v', .agg #[.int .i64 o, .int .i64 t, .int .i64 p, .int .i64 x, .slice a n c]] w fun e w'=>e = .returned (.bool (condHolds p0 os (.mk o t p x ks)))∧Below w.heap.size w w':=by
 have HB:=hide ((Below.refl w.heap.size w).alloc (Nat.le_refl _) (.cells #[.int .i64 o, .int .i64 t, .int .i64 p, .int .i64 x, .slice a n c] 45))
 have HP:=hide (hp.below HB.out);have HO:=hide (ho.below HB.out);have HK:=hide (h.below HB.out)
 have HOV:=hide (OutcomeValid_any v v' p0 os _ HP.out HO.out hl hpl)
 have HV:=hide (fun w' h'=>CondValid_raw o t p x ks a n c w' h')
 obtain ⟨a0,c0,rfl, -,hp1, -, -⟩:=hp.open
 obtain ⟨a1,c1,rfl, -,ho1, -, -⟩:=ho.open
 have HH:=hide (fun w' hk' ho' h1 h2 h3=>holds_any 10 o t p x ks a n c a1 os.length c1 os p0.length w' hk' ho' h1 h2 h3)
 have E:Hid (condHolds p0 os (.mk o t p x ks)=(outValid p0 os&&(validC (.mk o t p x ks)&&holdsF 10 p0.length os (.mk o t p x ks)))):=hide rfl
 have HS:Hid (validC (.mk o t p x ks)=true→shapeF 10 (.mk o t p x ks)=true):=hide (by unfold validC;simp;intro h _;exact h)
 have HQ:Hid (outValid p0 os=true→os.length=3 * p0.length+3∧p0.length≤3):=hide (by
  intro hq
  unfold outValid at hq
  simp only [Bool.and_eq_true,decide_eq_true_eq] at hq
  have h2:=valid_le hq.1
  exact ⟨hq.2.1,by omega⟩)
 clear hp ho h
 generalize Cd.mk o t p x ks=C at *
 generalize condHolds p0 os C=R at *
 generalize validC C=bv at *
 generalize outValid p0 os=bo at *
 cases bo
 ·obtain rfl:R=false:=by rw [E.out];rfl
  go_enter Tryz.func28,Tryz.ntmps28
  go_wp2_with fail
  (with_reducible refine HOV.out.mono ?_);rintro e w1 ⟨rfl,hb1⟩
  go_wp2_with fail
  go_ret
  exact ⟨rfl,HB.out.trans (hb1.mono HB.out.size)⟩
 ·obtain ⟨q1,q2⟩:=HQ.out rfl
  have Q1:=hide q1;clear q1 HQ
  cases bv
  ·obtain rfl:R=false:=by rw [E.out];rfl
   go_enter Tryz.func28,Tryz.ntmps28
   go_wp2_with fail
   (with_reducible refine HOV.out.mono ?_);rintro e w1 ⟨rfl,hb1⟩
   obtain ⟨hc1,hf1⟩:=bcell hb1
   go_wp2_with fail
   (with_reducible refine (HV.out _ (HK.out.below hb1)).mono ?_);rintro e w2 ⟨rfl,hb2⟩
   go_wp2_with fail
   go_ret
   exact ⟨rfl,HB.out.trans ((hb1.trans (hb2.mono hb1.size)).mono HB.out.size)⟩
  ·have E2:Hid (R=holdsF 10 p0.length os C):=hide (by rw [E.out];rfl)
   have HH2:=hide (fun w' hk' ho'=>HH.out w' hk' ho' Q1.out q2 (HS.out rfl))
   clear E HH HS Q1
   generalize holdsF 10 p0.length os C=Z at *
   obtain rfl:R=Z:=E2.out
   go_enter Tryz.func28,Tryz.ntmps28
   go_wp2_with fail
   (with_reducible refine HOV.out.mono ?_);rintro e w1 ⟨rfl,hb1⟩
   obtain ⟨hc1,hf1⟩:=bcell hb1
   go_wp2_with fail
   (with_reducible refine (HV.out _ (HK.out.below hb1)).mono ?_);rintro e w2 ⟨rfl,hb2⟩
   have hb12:=hb1.trans (hb2.mono hb1.size)
   obtain ⟨hc2,hf2⟩:=bcell hb12
   clear hc1 hf1
   go_wp2_with fail
   (with_reducible refine (HH2.out _ (HK.out.below hb12) (HO.out.below hb12)).mono ?_);rintro e w3 ⟨rfl,hb3⟩
   go_wp2_with fail
   go_ret
   exact ⟨rfl,HB.out.trans ((hb12.trans (hb3.mono hb12.size)).mono HB.out.size)⟩
end Go.Proofs.YtlddmagfbcomgaaGreat
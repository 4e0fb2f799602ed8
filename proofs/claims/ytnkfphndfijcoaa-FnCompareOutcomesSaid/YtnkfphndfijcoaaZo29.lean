/-
  FnCompareOutcomes: for every input the law returns true and the input reads afterwards as it read before. No condition.
-/
import Derived.Test.YtnkfphndfijcoaaZo28
import Derived.Test.YtnkfphndfijcoaaZo23
import Derived.Test.YtnkfphndfijcoaaZo04
import Derived.Test.YtnkfphndfijcoaaZo09
import Derived.Test.YtnkfphndfijcoaaZo05
import Derived.Test.YtnkfphndfijcoaaZo03
import Derived.Test.YtnkfphndfijcoaaZo01
set_option maxHeartbeats 6400000
set_option maxRecDepth 100000
namespace Go.Proofs.Ytnkfphndfijcoaa
open Go.RowKit
def cmpN (p q:List (List Int)):Int:=if subN p q=true then (if subN q p=true then 0 else 1) else (if subN q p=true then 2 else 3)
theorem CompareOutcomes_any (v u:Value) (p q:List (List Int)) (w:World) (hp:RepNN w v p) (hq:RepNN w u q) :
 Calls Try.prog 5 #[v,u] w fun e w'=>e = .returned (.int .i64 (cmpN p q))∧Below w.heap.size w w':=by
 have HP:=hide hp;have HQ:=hide hq;clear hp hq
 have HN:Hid (cmpN p q=if subN p q=true then (if subN q p=true then 0 else 1) else (if subN q p=true then 2 else 3)):=hide rfl;have C1:=hide (fun w' h h'=>contains_any v u p q w' h h');have C2:=hide (fun w' h h'=>contains_any u v q p w' h h');generalize subN p q=x at *;generalize subN q p=y at *;cases x <;> cases y
 all_goals
  go_enter Try.func5,Try.ntmps5;go_wp2_with fail
  (with_reducible refine(C1.out w HP.out HQ.out).mono ?_)
  rintro e w1 ⟨rfl,hb1⟩;go_wp2_with fail
  (with_reducible refine(C2.out w1 (HQ.out.below hb1) (HP.out.below hb1)).mono ?_)
  rintro e w2 ⟨rfl,hb2⟩;go_wp2_with fail;go_ret;rw[HN.out];exact⟨rfl,Below.next hb1 hb2⟩
theorem sCompareOutcomes_any (v u:Value) (p q:List (List Int)) (w:World) (hp:RepNN w v p) (hq:RepNN w u q) :
 Calls Try.prog 6 #[v,u] w fun e w'=>e = .returned (.int .i64 (cmpN p q))∧Below w.heap.size w w':=by
 have HP:=hide hp;have HQ:=hide hq;clear hp hq
 have HN:Hid (cmpN p q=if subN p q=true then (if subN q p=true then 0 else 1) else (if subN q p=true then 2 else 3)):=hide rfl;have C1:=hide (fun w' h h'=>l8Within_any v u p q w' h h');have C2:=hide (fun w' h h'=>l8Within_any u v q p w' h h');generalize subN p q=x at *;generalize subN q p=y at *;cases x <;> cases y
 all_goals
  go_enter Try.func6,Try.ntmps6;go_wp2_with fail
  (with_reducible refine(C1.out w HP.out HQ.out).mono ?_)
  rintro e w1 ⟨rfl,hb1⟩;go_wp2_with fail
  (with_reducible refine(C2.out w1 (HQ.out.below hb1) (HP.out.below hb1)).mono ?_)
  rintro e w2 ⟨rfl,hb2⟩;go_wp2_with fail;go_ret;rw[HN.out];exact⟨rfl,Below.next hb1 hb2⟩
def OrL (w:World) (base:Nat) (v:Value) (L:List (List Int)):Prop:=
 ∃ us:List Slc,us.length=L.length∧Own SlcE 34 w base v us∧∀ (i:Nat) (u:Slc) (r:List Int),us[i]? = some u→L[i]? = some r→Own IntE 3 w base u.v r
theorem OrL.of {Ls:List TypeId}{B:Nat}{w:World}{base:Nat}{v:Value}{L:List (List Int)}(h:OutL Ls B w base v L):OrL w base v L:=by
 obtain⟨-,us,h1,h2,h3⟩:=h;exact⟨us,h1,h2,fun i u r hu hr=>(h3 i u r hu hr).now⟩
theorem OrL.mono {w:World}{base base':Nat}{v:Value}{L:List (List Int)}(h:OrL w base v L) (hb:base'≤base):OrL w base' v L:=by
 obtain⟨us,h1,h2,h3⟩:=h;exact⟨us,h1,h2.mono hb,fun i u r hu hr=>(h3 i u r hu hr).mono hb⟩
theorem OrL.below {w w':World}{base:Nat}{v:Value}{L:List (List Int)}(h:OrL w base v L) (hb:Below w.heap.size w w'):OrL w' base v L:=by
 obtain⟨us,h1,h2,h3⟩:=h;exact⟨us,h1,h2.below hb,fun i u r hu hr=>(h3 i u r hu hr).below hb⟩
theorem OrL.outs {w w':World}{base b:Nat}{v:Value}{L:List (List Int)}(h:OrL w base v L) (ho:Outside b (b+1) w w') (hb:b < base):OrL w' base v L:=by
 obtain⟨us,h1,h2,h3⟩:=h;exact⟨us,h1,ho.ownHi h2 hb,fun i u r hu hr=>ho.ownHi (h3 i u r hu hr) hb⟩
theorem OrL.rep {w:World}{base:Nat}{v:Value}{L:List (List Int)}(h:OrL w base v L):Rep2 IntE w v L:=by
 obtain⟨us,h1,h2,h3⟩:=h;exact⟨us,h1,h2.rep,fun i u r hu hr=>(h3 i u r hu hr).rep⟩
def RetOr (n:Nat) (w:World) (e:Ending) (w':World):Prop:=∃ (vo:Slc) (L:List (List Int)),e = .returned (.slice vo.a vo.n vo.cap)∧OrL w' w.heap.size vo.v L∧OutsOk n L∧Below w.heap.size w w'
theorem oRunSeq_any (vp:Value) (p:List (List Ins)) (w:World) (hp:RepP w vp p) (hl:p.flatten.length≤1048576) (hpl:p.length≤1048576) :
 Calls Try.prog 10 #[vp] w (RetOr (p.length * 3+3) w):=by
 have kf:∀ (x y:Value) (w:World),(Instr.field 45 (.agg #[x,y]) 1).run Try.prog w = .ok y w:=fun x y w=>by kernel_rfl
 have HV:=hide (sProgramValid_any vp p w hp hl hpl);have HR:=hide (fun (hv:progValid p=true) W (h:RepP W vp p)=>l3Seq_any vp p W h hv);have HP:=hide hp;clear hp hl hpl;cases hv:progValid p
 ·clear HR
  generalize p.length * 3+3=n at *;go_enter Try.func10,Try.ntmps10;go_wp2_with (go_at_call 21;(with_reducible refine HV.out.mono ?_);rintro e w1 ⟨rfl,hb1⟩;have B1:=hide hb1;rw[hv];clear hb1);go_ret;exact⟨⟨some ⟨w1.heap.size,0,none⟩,0,0⟩,[],rfl,⟨[],rfl,Own.empty _ _ B1.out.size,fun i u r h=>by simp at h⟩,.nil _,B1.out.alloc B1.out.size _⟩
 ·have HR2:=hide (HR.out hv)
  clear HR;generalize hn:p.length * 3+3=n at *;have HN:=hide hn;clear hn;go_enter Try.func10,Try.ntmps10;go_wp2_with (first
   | (go_at_call 21;(with_reducible refine HV.out.mono ?_);rintro e w1 ⟨rfl,hb1⟩;have B1:=hide hb1;rw[hv];clear hb1)
   | (go_at_call 22;(with_reducible refine(HR2.out _ (HP.out.below B1.out)).mono ?_);rintro e w2 ⟨seen,taken,L,h3,cn,vo,-,rfl,h2,h5⟩;have G:=hide (show RetOr n w (.returned (.slice vo.a vo.n vo.cap)) w2 from ⟨vo,L,rfl,OrL.mono (OrL.of h2) B1.out.size,HN.out ▸ h3.o.ok,B1.out.trans (h5.mono B1.out.size)⟩);clear h2 h3 h5))
  go_ret;exact G.out
theorem oRunTso_any (vp:Value) (p:List (List Ins)) (w:World) (hp:RepP w vp p) (hl:p.flatten.length≤1048576) (hpl:p.length≤1048576) :
 Calls Try.prog 11 #[vp] w (RetOr (p.length * 3+3) w):=by
 have kf:∀ (x y:Value) (w:World),(Instr.field 45 (.agg #[x,y]) 1).run Try.prog w = .ok y w:=fun x y w=>by kernel_rfl
 have HV:=hide (sProgramValid_any vp p w hp hl hpl);have HR:=hide (fun (hv:progValid p=true) W (h:RepP W vp p)=>l4Run_any vp p false W h hv);have HP:=hide hp;clear hp hl hpl;cases hv:progValid p
 ·clear HR
  generalize p.length * 3+3=n at *;go_enter Try.func11,Try.ntmps11;go_wp2_with (go_at_call 21;(with_reducible refine HV.out.mono ?_);rintro e w1 ⟨rfl,hb1⟩;have B1:=hide hb1;rw[hv];clear hb1);go_ret;exact⟨⟨some ⟨w1.heap.size,0,none⟩,0,0⟩,[],rfl,⟨[],rfl,Own.empty _ _ B1.out.size,fun i u r h=>by simp at h⟩,.nil _,B1.out.alloc B1.out.size _⟩
 ·have HR2:=hide (HR.out hv)
  clear HR;generalize hn:p.length * 3+3=n at *;have HN:=hide hn;clear hn;go_enter Try.func11,Try.ntmps11;go_wp2_with (first
   | (go_at_call 21;(with_reducible refine HV.out.mono ?_);rintro e w1 ⟨rfl,hb1⟩;have B1:=hide hb1;rw[hv];clear hb1)
   | (go_at_call 23;(with_reducible refine(HR2.out _ (HP.out.below B1.out)).mono ?_);rintro e w2 ⟨cn,vo,L,-,rfl,h2,h3,-,h5⟩;have G:=hide (show RetOr n w (.returned (.slice vo.a vo.n vo.cap)) w2 from ⟨vo,L,rfl,OrL.mono (OrL.of h2) B1.out.size,HN.out ▸ h3,B1.out.trans (h5.mono B1.out.size)⟩);clear h2 h3 h5))
  go_ret;exact G.out
theorem oRunPso_any (vp:Value) (p:List (List Ins)) (w:World) (hp:RepP w vp p) (hl:p.flatten.length≤1048576) (hpl:p.length≤1048576) :
 Calls Try.prog 12 #[vp] w (RetOr (p.length * 3+3) w):=by
 have kf:∀ (x y:Value) (w:World),(Instr.field 45 (.agg #[x,y]) 1).run Try.prog w = .ok y w:=fun x y w=>by kernel_rfl
 have HV:=hide (sProgramValid_any vp p w hp hl hpl);have HR:=hide (fun (hv:progValid p=true) W (h:RepP W vp p)=>l4Run_any vp p true W h hv);have HP:=hide hp;clear hp hl hpl;cases hv:progValid p
 ·clear HR
  generalize p.length * 3+3=n at *;go_enter Try.func12,Try.ntmps12;go_wp2_with (go_at_call 21;(with_reducible refine HV.out.mono ?_);rintro e w1 ⟨rfl,hb1⟩;have B1:=hide hb1;rw[hv];clear hb1);go_ret;exact⟨⟨some ⟨w1.heap.size,0,none⟩,0,0⟩,[],rfl,⟨[],rfl,Own.empty _ _ B1.out.size,fun i u r h=>by simp at h⟩,.nil _,B1.out.alloc B1.out.size _⟩
 ·have HR2:=hide (HR.out hv)
  clear HR;generalize hn:p.length * 3+3=n at *;have HN:=hide hn;clear hn;go_enter Try.func12,Try.ntmps12;go_wp2_with (first
   | (go_at_call 21;(with_reducible refine HV.out.mono ?_);rintro e w1 ⟨rfl,hb1⟩;have B1:=hide hb1;rw[hv];clear hb1)
   | (go_at_call 23;(with_reducible refine(HR2.out _ (HP.out.below B1.out)).mono ?_);rintro e w2 ⟨cn,vo,L,-,rfl,h2,h3,-,h5⟩;have G:=hide (show RetOr n w (.returned (.slice vo.a vo.n vo.cap)) w2 from ⟨vo,L,rfl,OrL.mono (OrL.of h2) B1.out.size,HN.out ▸ h3,B1.out.trans (h5.mono B1.out.size)⟩);clear h2 h3 h5))
  go_ret;exact G.out
theorem oRunRa_any (vp:Value) (p:List (List Ins)) (w:World) (hp:RepP w vp p) (hl:p.flatten.length≤1048576) (hpl:p.length≤1048576) :
 Calls Try.prog 13 #[vp] w (RetOr (p.length * 3+3) w):=by
 have kf:∀ (x y:Value) (w:World),(Instr.field 45 (.agg #[x,y]) 1).run Try.prog w = .ok y w:=fun x y w=>by kernel_rfl
 have HV:=hide (sProgramValid_any vp p w hp hl hpl);have HR:=hide (fun (hv:progValid p=true) W (h:RepP W vp p)=>l5Run_any vp p W h hv);have HP:=hide hp;clear hp hl hpl;cases hv:progValid p
 ·clear HR
  generalize p.length * 3+3=n at *;go_enter Try.func13,Try.ntmps13;go_wp2_with (go_at_call 21;(with_reducible refine HV.out.mono ?_);rintro e w1 ⟨rfl,hb1⟩;have B1:=hide hb1;rw[hv];clear hb1);go_ret;exact⟨⟨some ⟨w1.heap.size,0,none⟩,0,0⟩,[],rfl,⟨[],rfl,Own.empty _ _ B1.out.size,fun i u r h=>by simp at h⟩,.nil _,B1.out.alloc B1.out.size _⟩
 ·have HR2:=hide (HR.out hv)
  clear HR;generalize hn:p.length * 3+3=n at *;have HN:=hide hn;clear hn;go_enter Try.func13,Try.ntmps13;go_wp2_with (first
   | (go_at_call 21;(with_reducible refine HV.out.mono ?_);rintro e w1 ⟨rfl,hb1⟩;have B1:=hide hb1;rw[hv];clear hb1)
   | (go_at_call 24;(with_reducible refine(HR2.out _ (HP.out.below B1.out)).mono ?_);rintro e w2 ⟨cn,vo,L,-,rfl,h2,h3,-,h5⟩;have G:=hide (show RetOr n w (.returned (.slice vo.a vo.n vo.cap)) w2 from ⟨vo,L,rfl,OrL.mono (OrL.of h2) B1.out.size,HN.out ▸ h3,B1.out.trans (h5.mono B1.out.size)⟩);clear h2 h3 h5))
  go_ret;exact G.out
theorem subN_iff {a b:List (List Int)}:subN a b=true↔∀ o∈a,o∈b:=by
 unfold subN hasN;simp only[List.all_eq_true,List.any_eq_true,decide_eq_true_eq];exact⟨fun h o ho=>by obtain⟨x,hx,e⟩:=h o ho;exact e ▸ hx,fun h o ho=>⟨o,h o ho,rfl⟩⟩
theorem cmpN_flip (a b:List (List Int)):(cmpN a b=0↔cmpN b a=0)∧(cmpN a b=1↔cmpN b a=2)∧(cmpN a b=3↔cmpN b a=3):=by
 unfold cmpN;cases subN a b <;> cases subN b a <;> simp
theorem cmpN_self (a:List (List Int)):cmpN a a=0:=by
 unfold cmpN;rw[if_pos (subN_iff.2 fun o h=>h),if_pos (subN_iff.2 fun o h=>h)]
theorem cmpN_zero {a b:List (List Int)}{n m:Nat}(ha:OutsOk n a) (hb:OutsOk m b):cmpN a b=0↔a=b:=by
 constructor
 ·intro h
  have h1:subN a b=true∧subN b a=true:=by
   unfold cmpN at h;cases h1:subN a b <;> cases h2:subN b a <;> simp[h1,h2]at h ⊢
  have h2:=subN_iff.1 h1.1;have h3:=subN_iff.1 h1.2;cases a with
  | nil =>
   cases b with
   | nil=>rfl
   | cons y b=>exact absurd (h3 y (by simp)) (by simp)
  | cons x a =>
   have e:n=m:=by rw[← ha.len x (by simp),hb.len x (h2 x (by simp))]
   subst e;exact outs_unique ha hb fun o=>⟨h2 o,h3 o⟩
 ·rintro rfl;exact cmpN_self a
theorem wmListsG_any (v v':Value) (p q:List (List Int)) (w:World) (h:Rep2 IntE w v p) (h':Rep2 IntE w v' q) :
 Calls Try.prog 7 #[v,v'] w fun e w'=>e = .returned (.bool (decide (p=q)))∧Below w.heap.size w w':=by
 have HX:=hide h;have HY:=hide h'
 obtain⟨a,c,rfl,-,hc1,-,-⟩:=h.open;obtain⟨a',c',rfl,-,-,-,-⟩:=h'.open;clear h h';generalize hn:p.length=n at *;generalize hm:q.length=m at *;have HN:=hide hn;have HM:=hide hm
 clear hn hm;by_cases hc:n=m
 ·subst hc
  have hcn:((n:Int) != n)=false:=by simp
  go_enter Try.func7,Try.ntmps7;go_wp2_with fail
  go_loopw [5] (fun i wr => ∃ k:Nat,k≤n∧i = .int .i64 k∧Hid (p.take k=q.take k)∧Below w.heap.size w wr) (fun i _=>n - (intOf i).toNat)
  case atStart=>exact⟨0,Nat.zero_le _,rfl,hide (by simp),Below.refl _ _⟩
  case round =>
   obtain⟨k,hk,rfl,T,hb⟩:=hrel;have HB:=hide hb;by_cases hlt:k < n
   ·have hlt':=nat_of_lt hlt
    obtain⟨r,hr⟩:=get_of_lt (xs:=p) (k:=k) (by rw[HN.out];exact hlt);obtain⟨r2,hr2'⟩:=get_of_lt (xs:=q) (k:=k) (by rw[HM.out];exact hlt);obtain⟨b1,o1,ra1,rc1,rfl,hl1,q1,hr1⟩:=Rep2.row (HX.out.below hb) hr;obtain⟨b2,o2,ra2,rc2,rfl,hl2,q2,hr2⟩:=Rep2.row (HY.out.below hb) hr2';have HW:=hide (fun X:BW wr=>wmIntsG_any (.slice ra1 r.length rc1) (.slice ra2 r2.length rc2) r r2 X.val (hr1.below X.prop) (hr2.below X.prop));have HR:=hide hr;have HR2:=hide hr2'
    clear hr hr2' hb hr1 hr2;by_cases hrr:r=r2
    ·have T':=hide (take_eq_succ T.out HR.out HR2.out hrr)
     have hd:decide (r=r2)=true:=decide_eq_true hrr;rw[hd]at HW;clear hrr hd;generalize r.length=rn at *;generalize r2.length=rn2 at *;go_wp2_with fail;refine wp_region_bw (by kernel_rfl) (by kernel_rfl) ?_
     repeat (go_big_quiet_step ((go_at_call 17;(with_reducible exact Calls.bw (HW.out _)))))
     refine wpQuiet_nil ?_;intro w1 hw1;have B1:=hide (HB.out.trans (hw1.mono HB.out.size));clear hw1 q1 q2;go_wp2_with fail;go_roundw
     case rel=>exact⟨k+1,by omega,by go_num,T',B1.out⟩
     case measure=>simp[intOf];omega
    ·have hq:=hide (ne_of_get HR.out HR2.out hrr)
     have hd:decide (r=r2)=false:=decide_eq_false hrr;rw[hd]at HW;clear hrr hd;generalize r.length=rn at *;generalize r2.length=rn2 at *;go_wp2_with fail;refine wp_region_bw (by kernel_rfl) (by kernel_rfl) ?_
     repeat (go_big_quiet_step ((go_at_call 17;(with_reducible exact Calls.bw (HW.out _)))))
     refine wpQuiet_nil ?_;intro w1 hw1;have B1:=hide (HB.out.trans (hw1.mono HB.out.size));clear hw1 q1 q2;go_wp2_with fail;go_ret;exact⟨by rw[decide_eq_false hq.out];rfl,B1.out⟩
   ·obtain rfl:k=n:=by omega
    have E:Hid (p=q):=hide (by
     have h:=T.out;rwa[List.take_of_length_le (by rw[HN.out];exact Nat.le_refl _),List.take_of_length_le (by rw[HM.out];exact Nat.le_refl _)]at h)
    go_wp2_with fail;go_ret;exact⟨by rw[decide_eq_true E.out];rfl,HB.out⟩
 ·have hne:p≠q:=fun e=>hc (by rw[← HN.out,← HM.out,e])
  have hcn:((n:Int) != m)=true:=by simp;omega
  have HNE:=hide hne;clear hne;go_enter Try.func7,Try.ntmps7;go_wp2_with fail;go_ret;exact⟨by rw[decide_eq_false HNE.out];rfl,Below.refl _ _⟩
end Go.Proofs.Ytnkfphndfijcoaa
namespace Go.Proofs.Ytnkfphndfijcoaa
open Go.RowKit
structure JPk (V:World) (b:Nat) (a:Option Addr) (c:Nat) (xs:List Int) (c1 c2:Bool) (Q1 Q2:Nat) (W:World):Prop where
 out:Outside b (b+1) V W
 rd:∃ p',p'≤100+(c1.toNat:Int)+(c2.toNat:Int)∧Rd W b a c xs p'
 q1:c1=true→Q1 < 6
 q2:c2=true→Q2 < 6
theorem toNat_le1 (b:Bool):(b.toNat:Int)≤1:=by cases b <;> simp
theorem JPk.pick1 {V W W':World}{b:Nat}{a:Option Addr}{c:Nat}{xs:List Int}{c2:Bool}{Q1 Q1' Q2:Nat}{p p':Int}(h:JPk V b a c xs false c2 Q1 Q2 W) (ho:Outside b (b+1) W W') (hp:p≤100+(c2.toNat:Int)) (hp':p'≤p+1) (hr:Rd W' b a c xs p') (hq:Q1' < 6):JPk V b a c xs true c2 Q1' Q2 W':=
 ⟨h.out.trans ho,⟨p',by simp;omega,hr⟩,fun _=>hq,h.q2⟩
theorem JPk.pick2 {V W W':World}{b:Nat}{a:Option Addr}{c:Nat}{xs:List Int}{c1:Bool}{Q1 Q2 Q2':Nat}{p p':Int}(h:JPk V b a c xs c1 false Q1 Q2 W) (ho:Outside b (b+1) W W') (hp:p≤100+(c1.toNat:Int)) (hp':p'≤p+1) (hr:Rd W' b a c xs p') (hq:Q2' < 6):JPk V b a c xs c1 true Q1 Q2' W':=
 ⟨h.out.trans ho,⟨p',by simp;omega,hr⟩,h.q1,fun _=>hq⟩
def RetLists (w:World) (e:Ending) (w':World):Prop:=∃ (va vb:Slc) (A B:List (List Int)) (n m:Nat),e = .returned (.tuple #[.slice va.a va.n va.cap,.slice vb.a vb.n vb.cap])∧Rep2 IntE w' va.v A∧Rep2 IntE w' vb.v B∧OutsOk n A∧OutsOk m B∧Below w.heap.size w w'
theorem DrawCompareOutcomes_any (v:Value) (xs0:List Int) (w:World) (hx:Rep ByteE w v xs0) (hb:∀ x∈xs0,0≤x∧x≤255) :
 Calls Try.prog 4 #[v] w (RetLists w):=by
 have HO:=hide (l17Open_any v xs0 w hx hb);clear hx hb;go_enter Try.func4,Try.ntmps4;go_wp2_with fail
 (with_reducible refine HO.out.mono ?_);rintro e w1 ⟨b,a,c,xs,rfl,hr1,hbs,hb1⟩
 have R1:=hide hr1;have HB1:=hide hb1
 have hlt:=hr1.lt;clear hr1 hb1 HO;go_wp2_with fail
 (with_reducible refine(l8Small_any b a c xs 0 _ R1.out (by omega)).mono ?_);rintro e w2 ⟨v2,p2,rfl,⟨P,hP,hPl,hPr⟩,hp2,hr2,ho2⟩
 have hfl:P.flatten.length≤1048576:=by
  have:=flatten_bound P 8 hPr;have:P.length * 8≤4 * 8:=Nat.mul_le_mul_right _ (by omega);omega
 have R2:=hide hr2;have HP:=hide hP.rep
 have hs2:=ho2.size;have HB2:=hide (HB1.out.trans (below_of_outside ho2 hbs HB1.out.size));have hb2:b < w2.heap.size:=hr2.lt;obtain⟨va,vc,rfl,-,-,-,-⟩:=hP.rep.open;clear hr2 ho2 hP hPr R1 HB1;have C1:=hide (fun W h=>oRunSeq_any (.slice va P.length vc) P W h hfl (by omega));have C2:=hide (fun W h=>oRunTso_any (.slice va P.length vc) P W h hfl (by omega));have C3:=hide (fun W h=>oRunPso_any (.slice va P.length vc) P W h hfl (by omega));have C4:=hide (fun W h=>oRunRa_any (.slice va P.length vc) P W h hfl (by omega))
 clear hfl hPl;generalize P.length * 3+3=nn at *;generalize P.length=pl at *;go_wp2_with (first
  | (go_at_call 10;(with_reducible refine(C1.out _ HP.out).mono ?_);rintro e w3 ⟨v3,L3,rfl,hl3,hk3,hb3⟩;have O3:=hide hl3;have K3:=hide hk3;have B3:=hide hb3;clear hl3 hk3 hb3)
  | (go_at_call 11;(with_reducible refine(C2.out _ (HP.out.below B3.out)).mono ?_);rintro e w4 ⟨v4,L4,rfl,hl4,hk4,hb4⟩;have O4:=hide hl4;have K4:=hide hk4;have B4:=hide (B3.out.trans (hb4.mono B3.out.size));have O3':=hide (O3.out.below hb4);clear hl4 hk4 hb4)
  | (go_at_call 12;(with_reducible refine(C3.out _ (HP.out.below B4.out)).mono ?_);rintro e w5 ⟨v5,L5,rfl,hl5,hk5,hb5⟩;have O5:=hide hl5;have K5:=hide hk5;have B5:=hide (B4.out.trans (hb5.mono B4.out.size));have O3'':=hide (O3'.out.below hb5);have O4':=hide (O4.out.below hb5);clear hl5 hk5 hb5)
  | (go_at_call 13;(with_reducible refine(C4.out _ (HP.out.below B5.out)).mono ?_);rintro e w6 ⟨v6,L6,rfl,hl6,hk6,hb6⟩;have O6:=hide hl6;have K6:=hide hk6;have B6:=hide (B5.out.trans (hb6.mono B5.out.size));have P3:=hide (O3''.out.below hb6);have P4:=hide (O4'.out.below hb6);have P5:=hide (O5.out.below hb6);have hs3:=B3.out.size;have hs4:=B4.out.size;have hs5:=B5.out.size;have hs6:=B6.out.size;clear hl6 hk6 hb6))
 obtain⟨V,hV⟩:∃ V,V=((((w6.alloc (.cells #[.int .i64 0,.int .i64 1] 3)).alloc (.cells #[.slice (some ⟨w6.heap.size,0,none⟩) 2 2] 34)).alloc (.cells #[] 34)).alloc (.cells #[.slice v3.a v3.n v3.cap,.slice v4.a v4.n v4.cap,.slice v5.a v5.n v5.cap,.slice v6.a v6.n v6.cap,.slice (some ⟨w6.heap.size+1,0,none⟩) 1 1,.slice (some ⟨w6.heap.size+1+1,0,none⟩) 0 0] 23)):=⟨_,rfl⟩
 have BV:=hide (show Below w6.heap.size w6 V by rw[hV];exact(((belowAlloc w6 _).alloc (by simp) _).alloc (by simp;omega) _).alloc (by simp;omega) _);obtain⟨T,hT⟩:∃ T,T=w6.heap.size+1+1+1:=⟨_,rfl⟩
 have HTB:Hid (V.heap[T]? = some (.cells #[.slice v3.a v3.n v3.cap,.slice v4.a v4.n v4.cap,.slice v5.a v5.n v5.cap,.slice v6.a v6.n v6.cap,.slice (some ⟨w6.heap.size+1,0,none⟩) 1 1,.slice (some ⟨w6.heap.size+1+1,0,none⟩) 0 0] 23 (0,0))):=hide (by
  rw[hV,hT];have h:=heap_alloc_new (((w6.alloc (.cells #[.int .i64 0,.int .i64 1] 3)).alloc (.cells #[.slice (some ⟨w6.heap.size,0,none⟩) 2 2] 34)).alloc (.cells #[] 34)) (.cells #[.slice v3.a v3.n v3.cap,.slice v4.a v4.n v4.cap,.slice v5.a v5.n v5.cap,.slice v6.a v6.n v6.cap,.slice (some ⟨w6.heap.size+1,0,none⟩) 1 1,.slice (some ⟨w6.heap.size+1+1,0,none⟩) 0 0] 23);simpa using h)
 have L7:OrL V w2.heap.size (Slc.v ⟨some ⟨w6.heap.size+1,0,none⟩,1,1⟩) [[0,1]]:=by
  have h1:Own IntE 3 (w6.alloc (.cells #[.int .i64 0,.int .i64 1] 3)) w2.heap.size (.slice (some ⟨w6.heap.size,0,none⟩) 2 2) [0,1]:=⟨rfl,.inr ⟨w6.heap.size,2,#[.int .i64 0,.int .i64 1],rfl,hs6,heap_alloc_new w6 _,Nat.le_refl _,by unfold maxLen;omega,rfl,rfl⟩⟩
  have h2:Own SlcE 34 ((w6.alloc (.cells #[.int .i64 0,.int .i64 1] 3)).alloc (.cells #[.slice (some ⟨w6.heap.size,0,none⟩) 2 2] 34)) w2.heap.size (.slice (some ⟨w6.heap.size+1,0,none⟩) 1 1) [⟨some ⟨w6.heap.size,0,none⟩,2,2⟩]:=by
   have h:=Own.lit1 (E:=SlcE) (T:=34) (w6.alloc (.cells #[.int .i64 0,.int .i64 1] 3)) (base:=w2.heap.size) (by simp;omega) (⟨some ⟨w6.heap.size,0,none⟩,2,2⟩:Slc);simpa[SlcE] using h
  refine⟨[⟨some ⟨w6.heap.size,0,none⟩,2,2⟩],rfl,by rw[hV];exact(h2.alloc _).alloc _,fun i u r hu hr => ?_⟩;cases i with
  | zero =>
   simp at hu hr;subst hu;subst hr;rw[hV];exact((h1.alloc _).alloc _).alloc _
  | succ i=>simp at hu
 have L8:OrL V w2.heap.size (Slc.v ⟨some ⟨w6.heap.size+1+1,0,none⟩,0,0⟩) []:=by
  refine⟨[],rfl,?_,fun i u r hu=>by simp at hu⟩;have h:=Own.empty (E:=SlcE) 34 ((w6.alloc (.cells #[.int .i64 0,.int .i64 1] 3)).alloc (.cells #[.slice (some ⟨w6.heap.size,0,none⟩) 2 2] 34)) (base:=w2.heap.size) (by simp;omega);rw[hV];have h3:=h.alloc (.cells #[.slice v3.a v3.n v3.cap,.slice v4.a v4.n v4.cap,.slice v5.a v5.n v5.cap,.slice v6.a v6.n v6.cap,.slice (some ⟨w6.heap.size+1,0,none⟩) 1 1,.slice (some ⟨w6.heap.size+1+1,0,none⟩) 0 0] 23);simpa using h3
 have HALL:∃ F:Nat→Slc,∀ q,q < 6→V.cell? ⟨T,q,none⟩=some (.slice (F q).a (F q).n (F q).cap)∧∃ L n,OrL V w2.heap.size (F q).v L∧OutsOk n L:=by
  refine⟨fun q=>([v3,v4,v5,v6,⟨some ⟨w6.heap.size+1,0,none⟩,1,1⟩,⟨some ⟨w6.heap.size+1+1,0,none⟩,0,0⟩]:List Slc).getD q ⟨none,0,0⟩,fun q hq => ?_⟩
  match q,hq with
  | 0,_=>exact⟨cellH HTB.out (k:=0) rfl,L3,nn,P3.out.below BV.out,K3.out⟩
  | 1,_=>exact⟨cellH HTB.out (k:=1) rfl,L4,nn,(P4.out.mono (by omega)).below BV.out,K4.out⟩
  | 2,_=>exact⟨cellH HTB.out (k:=2) rfl,L5,nn,(P5.out.mono (by omega)).below BV.out,K5.out⟩
  | 3,_=>exact⟨cellH HTB.out (k:=3) rfl,L6,nn,(O6.out.mono (by omega)).below BV.out,K6.out⟩
  | 4,_=>exact⟨cellH HTB.out (k:=4) rfl,[[0,1]],2,L7,⟨fun o ho=>by simp at ho;rw[ho];rfl,by simp⟩⟩
  | 5,_=>exact⟨cellH HTB.out (k:=5) rfl,[],2,L8,.nil _⟩
  | q+6,h=>omega
 obtain⟨F,hF⟩:=HALL;have HF:=hide hF;have BW:=hide (HB2.out.trans ((B6.out.trans (BV.out.mono hs6)).mono HB2.out.size));have RV:=hide (R2.out.keep (B6.out.trans (BV.out.mono hs6)) hb2);have hTl:T < V.heap.size:=(Array.getElem?_eq_some_iff.1 HTB.out).1;have hTb:b < T:=by omega
 rw[← hV,← hT];clear hF L7 L8 hV HTB BV O3 O4 O5 O6 O3' O3'' O4' P3 P4 P5 K3 K4 K5 K6 B3 B4 B5 B6 R2 HB2 C1 C2 C3 C4 HP;clear hT
 -- reg pick
 refine wp_region_inv4 (n:=15) (by kernel_rfl) rfl (by kernel_rfl) (by kernel_rfl) (fun A ls a' W => ∃ (Q1:Nat) (Q2:Nat) (x23 x24 x25 x26 x27 x28 x29 x30 x31 x32 x33 x34 x35 x36 x2:Value),a'=putAll A [(23,x23),(24,x24),(25,x25),(26,x26),(27,x27),(28,x28),(29,x29),(30,x30),(31,x31),(32,x32),(33,x33),(34,x34),(35,x35),(36,x36),(2,x2)]∧Vd ls 0 [] x23 (.slice (some ⟨T,0,none⟩) 6 6)∧Vd ls 1 [] x24 (.pointer (some ⟨b,0,none⟩))∧Vd ls 2 [] x25 (.slice (some ⟨T,0,none⟩) 6 6)∧Vd ls 3 [] x26 (.int .i64 6)∧Vd ls 4 [] x27 (.int .i64 (Q1:Int))∧Vd ls 5 [4] x28 (.pointer (some ⟨T,Q1,none⟩))∧Vd ls 6 [4] x29 (.slice (F Q1).a (F Q1).n (F Q1).cap)∧Vd ls 7 [] x30 (.slice (some ⟨T,0,none⟩) 6 6)∧Vd ls 8 [] x31 (.pointer (some ⟨b,0,none⟩))∧Vd ls 9 [] x32 (.slice (some ⟨T,0,none⟩) 6 6)∧Vd ls 10 [] x33 (.int .i64 6)∧Vd ls 11 [] x34 (.int .i64 (Q2:Int))∧Vd ls 12 [11] x35 (.pointer (some ⟨T,Q2,none⟩))∧Vd ls 13 [11] x36 (.slice (F Q2).a (F Q2).n (F Q2).cap)∧Vd ls 14 [4] x2 (.slice (F Q1).a (F Q1).n (F Q1).cap)∧JPk V b a c xs (fl ls 4) (fl ls 11) Q1 Q2 W) ?r0 ?rs ?re
 case r0 =>
  exact⟨0,0,undef,undef,undef,undef,undef,undef,undef,undef,undef,undef,undef,undef,undef,undef,.slice none 0 0,by simp only[putAll,Act.put,List.setIfInBounds_toArray,List.set_cons_succ,List.set_cons_zero],Vd.start,Vd.start,Vd.start,Vd.start,Vd.start,Vd.start,Vd.start,Vd.start,Vd.start,Vd.start,Vd.start,Vd.start,Vd.start,Vd.start,Vd.start,by simp only[fl_start];exact⟨(Outside.of_below (Below.refl _ _).drew),⟨p2,by simp;omega,RV.out.keep (Below.refl _ _).drew RV.out.lt⟩,fun h=>(nomatch h),fun h=>(nomatch h)⟩⟩
 case rs =>
  rintro ls a' W hs hnl ⟨Q1,Q2,x23,x24,x25,x26,x27,x28,x29,x30,x31,x32,x33,x34,x35,x36,x2,ha,cv0,cv1,cv2,cv3,cv4,cv5,cv6,cv7,cv8,cv9,cv10,cv11,cv12,cv13,cv14,hJ⟩ k o hkn mc K hK;simp only[putAll,Act.put,List.setIfInBounds_toArray,List.set_cons_succ,List.set_cons_zero]at ha;subst ha;have hkc:k=0∨k=1∨k=2∨k=3∨k=4∨k=5∨k=6∨k=7∨k=8∨k=9∨k=10∨k=11∨k=12∨k=13∨k=14:=by omega
  have hop:=mc.op;have haf:=mc.after;rcases hkc with rfl | rfl | rfl | rfl | rfl | rfl | rfl | rfl | rfl | rfl | rfl | rfl | rfl | rfl | rfl
  ·simp at hop;subst hop;simp[Region.binds]at haf
   go_simp;exact hK _ _ ⟨Q1,Q2,_,_,_,_,_,_,_,_,_,_,_,_,_,_,_,by simp only[putAll,Act.put,List.setIfInBounds_toArray,List.set_cons_succ,List.set_cons_zero],Vd.same (by simp),cv1.set (by decide),cv2.set (by decide),cv3.set (by decide),cv4.set (by decide),cv5.set (by decide),cv6.set (by decide),cv7.set (by decide),cv8.set (by decide),cv9.set (by decide),cv10.set (by decide),cv11.set (by decide),cv12.set (by decide),cv13.set (by decide),cv14.set (by decide),by rw[fl_set (show 0≠4 by decide),fl_set (show 0≠11 by decide)];exact hJ⟩
  ·simp at hop;subst hop;simp[Region.binds]at haf
   go_simp;exact hK _ _ ⟨Q1,Q2,_,_,_,_,_,_,_,_,_,_,_,_,_,_,_,by simp only[putAll,Act.put,List.setIfInBounds_toArray,List.set_cons_succ,List.set_cons_zero],cv0.set (by decide),Vd.same (by simp),cv2.set (by decide),cv3.set (by decide),cv4.set (by decide),cv5.set (by decide),cv6.set (by decide),cv7.set (by decide),cv8.set (by decide),cv9.set (by decide),cv10.set (by decide),cv11.set (by decide),cv12.set (by decide),cv13.set (by decide),cv14.set (by decide),by rw[fl_set (show 1≠4 by decide),fl_set (show 1≠11 by decide)];exact hJ⟩
  ·simp at hop;subst hop;simp[Region.binds]at haf
   go_simp;exact hK _ _ ⟨Q1,Q2,_,_,_,_,_,_,_,_,_,_,_,_,_,_,_,by simp only[putAll,Act.put,List.setIfInBounds_toArray,List.set_cons_succ,List.set_cons_zero],cv0.set (by decide),cv1.set (by decide),Vd.same (by simp),cv3.set (by decide),cv4.set (by decide),cv5.set (by decide),cv6.set (by decide),cv7.set (by decide),cv8.set (by decide),cv9.set (by decide),cv10.set (by decide),cv11.set (by decide),cv12.set (by decide),cv13.set (by decide),cv14.set (by decide),by rw[fl_set (show 2≠4 by decide),fl_set (show 2≠11 by decide)];exact hJ⟩
  ·simp at hop;subst hop;simp[Region.binds]at haf
   obtain rfl:=(cv2.get (by simp[haf])).symm;go_simp;exact hK _ _ ⟨Q1,Q2,_,_,_,_,_,_,_,_,_,_,_,_,_,_,_,by simp only[putAll,Act.put,List.setIfInBounds_toArray,List.set_cons_succ,List.set_cons_zero],cv0.set (by decide),cv1.set (by decide),cv2.set (by decide),Vd.same (by simp),cv4.set (by decide),cv5.set (by decide),cv6.set (by decide),cv7.set (by decide),cv8.set (by decide),cv9.set (by decide),cv10.set (by decide),cv11.set (by decide),cv12.set (by decide),cv13.set (by decide),cv14.set (by decide),by rw[fl_set (show 3≠4 by decide),fl_set (show 3≠11 by decide)];exact hJ⟩
  ·simp at hop;subst hop;simp[Region.binds]at haf
   obtain rfl:=(cv1.get (by simp[haf])).symm;obtain rfl:=(cv3.get (by simp[haf])).symm;have f4:=fl_no mc.new;rw[f4]at hJ;go_simp;obtain⟨p',hp',hrd⟩:=hJ.rd;have hc2:=toNat_le1 (fl ls 11);go_at_call 14
   (with_reducible refine(pick_any b a c xs p' 6 W hrd (by simp at hp';omega) (by decide) (by decide)).mono ?_);rintro e u' ⟨v9,p9,rfl,⟨q,rfl,hq0,hqn⟩,hp9,hr9,ho9⟩
   obtain⟨Q,rfl⟩:∃ Q:Nat,q=(Q:Int):=⟨q.toNat,by omega⟩
   exact hK _ _ ⟨Q,Q2,_,_,_,_,_,_,_,_,_,_,_,_,_,_,_,by simp only[putAll,Act.put,List.setIfInBounds_toArray,List.set_cons_succ,List.set_cons_zero],cv0.set (by decide),cv1.set (by decide),cv2.set (by decide),cv3.set (by decide),Vd.same (by simp),cv5.void (by decide) (by decide) mc.new,cv6.void (by decide) (by decide) mc.new,cv7.set (by decide),cv8.set (by decide),cv9.set (by decide),cv10.set (by decide),cv11.set (by decide),cv12.set (by decide),cv13.set (by decide),cv14.void (by decide) (by decide) mc.new,by rw[fl_got hs (by decide),fl_set (show 4≠11 by decide)];exact hJ.pick1 ho9 (by simpa using hp') hp9 hr9 (by have:=hqn (by decide);omega)⟩
  ·simp at hop;subst hop;simp[Region.binds]at haf
   obtain rfl:=(cv0.get (by simp[haf])).symm;obtain rfl:=(cv4.get (by simp[haf])).symm;have hq1:(Q1:Int) < 6:=by have:=hJ.q1 (fl_yes (by simp[haf]));omega
   go_simp;exact hK _ _ ⟨Q1,Q2,_,_,_,_,_,_,_,_,_,_,_,_,_,_,_,by simp only[putAll,Act.put,List.setIfInBounds_toArray,List.set_cons_succ,List.set_cons_zero],cv0.set (by decide),cv1.set (by decide),cv2.set (by decide),cv3.set (by decide),cv4.set (by decide),Vd.same (by simp[haf]),cv6.set (by decide),cv7.set (by decide),cv8.set (by decide),cv9.set (by decide),cv10.set (by decide),cv11.set (by decide),cv12.set (by decide),cv13.set (by decide),cv14.set (by decide),by rw[fl_set (show 5≠4 by decide),fl_set (show 5≠11 by decide)];exact hJ⟩
  ·simp at hop;subst hop;simp[Region.binds]at haf
   have q5:=(cv5 (by simp[haf])).1;simp at q5;obtain rfl:=(cv5.get (by simp[haf])).symm;have d1:W.cell? ⟨T,Q1,none⟩=some (.slice (F Q1).a (F Q1).n (F Q1).cap):=by
    have h:=(HF.out Q1 (hJ.q1 (fl_yes (by simp[q5])))).1;unfold World.cell? at h ⊢;rw[hJ.out.block T hTl (.inr (by show b+1≤T;omega))];exact h
   have dl:=lt_of_cell d1;go_simp;exact hK _ _ ⟨Q1,Q2,_,_,_,_,_,_,_,_,_,_,_,_,_,_,_,by simp only[putAll,Act.put,List.setIfInBounds_toArray,List.set_cons_succ,List.set_cons_zero],cv0.set (by decide),cv1.set (by decide),cv2.set (by decide),cv3.set (by decide),cv4.set (by decide),cv5.set (by decide),Vd.same (by simp[q5]),cv7.set (by decide),cv8.set (by decide),cv9.set (by decide),cv10.set (by decide),cv11.set (by decide),cv12.set (by decide),cv13.set (by decide),cv14.set (by decide),by rw[fl_set (show 6≠4 by decide),fl_set (show 6≠11 by decide)];exact hJ⟩
  ·simp at hop;subst hop;simp[Region.binds]at haf
   go_simp;exact hK _ _ ⟨Q1,Q2,_,_,_,_,_,_,_,_,_,_,_,_,_,_,_,by simp only[putAll,Act.put,List.setIfInBounds_toArray,List.set_cons_succ,List.set_cons_zero],cv0.set (by decide),cv1.set (by decide),cv2.set (by decide),cv3.set (by decide),cv4.set (by decide),cv5.set (by decide),cv6.set (by decide),Vd.same (by simp),cv8.set (by decide),cv9.set (by decide),cv10.set (by decide),cv11.set (by decide),cv12.set (by decide),cv13.set (by decide),cv14.set (by decide),by rw[fl_set (show 7≠4 by decide),fl_set (show 7≠11 by decide)];exact hJ⟩
  ·simp at hop;subst hop;simp[Region.binds]at haf
   go_simp;exact hK _ _ ⟨Q1,Q2,_,_,_,_,_,_,_,_,_,_,_,_,_,_,_,by simp only[putAll,Act.put,List.setIfInBounds_toArray,List.set_cons_succ,List.set_cons_zero],cv0.set (by decide),cv1.set (by decide),cv2.set (by decide),cv3.set (by decide),cv4.set (by decide),cv5.set (by decide),cv6.set (by decide),cv7.set (by decide),Vd.same (by simp),cv9.set (by decide),cv10.set (by decide),cv11.set (by decide),cv12.set (by decide),cv13.set (by decide),cv14.set (by decide),by rw[fl_set (show 8≠4 by decide),fl_set (show 8≠11 by decide)];exact hJ⟩
  ·simp at hop;subst hop;simp[Region.binds]at haf
   go_simp;exact hK _ _ ⟨Q1,Q2,_,_,_,_,_,_,_,_,_,_,_,_,_,_,_,by simp only[putAll,Act.put,List.setIfInBounds_toArray,List.set_cons_succ,List.set_cons_zero],cv0.set (by decide),cv1.set (by decide),cv2.set (by decide),cv3.set (by decide),cv4.set (by decide),cv5.set (by decide),cv6.set (by decide),cv7.set (by decide),cv8.set (by decide),Vd.same (by simp),cv10.set (by decide),cv11.set (by decide),cv12.set (by decide),cv13.set (by decide),cv14.set (by decide),by rw[fl_set (show 9≠4 by decide),fl_set (show 9≠11 by decide)];exact hJ⟩
  ·simp at hop;subst hop;simp[Region.binds]at haf
   obtain rfl:=(cv9.get (by simp[haf])).symm;go_simp;exact hK _ _ ⟨Q1,Q2,_,_,_,_,_,_,_,_,_,_,_,_,_,_,_,by simp only[putAll,Act.put,List.setIfInBounds_toArray,List.set_cons_succ,List.set_cons_zero],cv0.set (by decide),cv1.set (by decide),cv2.set (by decide),cv3.set (by decide),cv4.set (by decide),cv5.set (by decide),cv6.set (by decide),cv7.set (by decide),cv8.set (by decide),cv9.set (by decide),Vd.same (by simp),cv11.set (by decide),cv12.set (by decide),cv13.set (by decide),cv14.set (by decide),by rw[fl_set (show 10≠4 by decide),fl_set (show 10≠11 by decide)];exact hJ⟩
  ·simp at hop;subst hop;simp[Region.binds]at haf
   obtain rfl:=(cv8.get (by simp[haf])).symm;obtain rfl:=(cv10.get (by simp[haf])).symm;have f11:=fl_no mc.new;rw[f11]at hJ;go_simp;obtain⟨p',hp',hrd⟩:=hJ.rd;have hc1:=toNat_le1 (fl ls 4);go_at_call 14
   (with_reducible refine(pick_any b a c xs p' 6 W hrd (by simp at hp';omega) (by decide) (by decide)).mono ?_);rintro e u' ⟨v9,p9,rfl,⟨q,rfl,hq0,hqn⟩,hp9,hr9,ho9⟩
   obtain⟨Q,rfl⟩:∃ Q:Nat,q=(Q:Int):=⟨q.toNat,by omega⟩
   exact hK _ _ ⟨Q1,Q,_,_,_,_,_,_,_,_,_,_,_,_,_,_,_,by simp only[putAll,Act.put,List.setIfInBounds_toArray,List.set_cons_succ,List.set_cons_zero],cv0.set (by decide),cv1.set (by decide),cv2.set (by decide),cv3.set (by decide),cv4.set (by decide),cv5.set (by decide),cv6.set (by decide),cv7.set (by decide),cv8.set (by decide),cv9.set (by decide),cv10.set (by decide),Vd.same (by simp),cv12.void (by decide) (by decide) mc.new,cv13.void (by decide) (by decide) mc.new,cv14.set (by decide),by rw[fl_set (show 11≠4 by decide),fl_got hs (by decide)];exact hJ.pick2 ho9 (by simpa using hp') hp9 hr9 (by have:=hqn (by decide);omega)⟩
  ·simp at hop;subst hop;simp[Region.binds]at haf
   obtain rfl:=(cv7.get (by simp[haf])).symm;obtain rfl:=(cv11.get (by simp[haf])).symm;have hq2:(Q2:Int) < 6:=by have:=hJ.q2 (fl_yes (by simp[haf]));omega
   go_simp;exact hK _ _ ⟨Q1,Q2,_,_,_,_,_,_,_,_,_,_,_,_,_,_,_,by simp only[putAll,Act.put,List.setIfInBounds_toArray,List.set_cons_succ,List.set_cons_zero],cv0.set (by decide),cv1.set (by decide),cv2.set (by decide),cv3.set (by decide),cv4.set (by decide),cv5.set (by decide),cv6.set (by decide),cv7.set (by decide),cv8.set (by decide),cv9.set (by decide),cv10.set (by decide),cv11.set (by decide),Vd.same (by simp[haf]),cv13.set (by decide),cv14.set (by decide),by rw[fl_set (show 12≠4 by decide),fl_set (show 12≠11 by decide)];exact hJ⟩
  ·simp at hop;subst hop;simp[Region.binds]at haf
   have q12:=(cv12 (by simp[haf])).1;simp at q12;obtain rfl:=(cv12.get (by simp[haf])).symm;have d2:W.cell? ⟨T,Q2,none⟩=some (.slice (F Q2).a (F Q2).n (F Q2).cap):=by
    have h:=(HF.out Q2 (hJ.q2 (fl_yes (by simp[q12])))).1;unfold World.cell? at h ⊢;rw[hJ.out.block T hTl (.inr (by show b+1≤T;omega))];exact h
   have dl:=lt_of_cell d2;go_simp;exact hK _ _ ⟨Q1,Q2,_,_,_,_,_,_,_,_,_,_,_,_,_,_,_,by simp only[putAll,Act.put,List.setIfInBounds_toArray,List.set_cons_succ,List.set_cons_zero],cv0.set (by decide),cv1.set (by decide),cv2.set (by decide),cv3.set (by decide),cv4.set (by decide),cv5.set (by decide),cv6.set (by decide),cv7.set (by decide),cv8.set (by decide),cv9.set (by decide),cv10.set (by decide),cv11.set (by decide),cv12.set (by decide),Vd.same (by simp[q12]),cv14.set (by decide),by rw[fl_set (show 13≠4 by decide),fl_set (show 13≠11 by decide)];exact hJ⟩
  ·simp at hop;subst hop;simp[Region.binds]at haf
   have q6:=(cv6 (by simp[haf])).1;simp at q6;obtain rfl:=(cv6.get (by simp[haf])).symm;go_simp;exact hK _ _ ⟨Q1,Q2,_,_,_,_,_,_,_,_,_,_,_,_,_,_,_,by simp only[putAll,Act.put,List.setIfInBounds_toArray,List.set_cons_succ,List.set_cons_zero],cv0.set (by decide),cv1.set (by decide),cv2.set (by decide),cv3.set (by decide),cv4.set (by decide),cv5.set (by decide),cv6.set (by decide),cv7.set (by decide),cv8.set (by decide),cv9.set (by decide),cv10.set (by decide),cv11.set (by decide),cv12.set (by decide),cv13.set (by decide),Vd.same (by simp[q6]),by rw[fl_set (show 14≠4 by decide),fl_set (show 14≠11 by decide)];exact hJ⟩
 case re =>
  rintro ls a' W hall ⟨Q1,Q2,x23,x24,x25,x26,x27,x28,x29,x30,x31,x32,x33,x34,x35,x36,x2,ha,cv0,cv1,cv2,cv3,cv4,cv5,cv6,cv7,cv8,cv9,cv10,cv11,cv12,cv13,cv14,hJ⟩ o hop;simp only[putAll,Act.put,List.setIfInBounds_toArray,List.set_cons_succ,List.set_cons_zero]at ha;subst ha;simp at hop;subst hop;obtain rfl:=(cv0.get (hall 0 (by decide))).symm;obtain rfl:=(cv1.get (hall 1 (by decide))).symm;obtain rfl:=(cv2.get (hall 2 (by decide))).symm;obtain rfl:=(cv3.get (hall 3 (by decide))).symm;obtain rfl:=(cv4.get (hall 4 (by decide))).symm;obtain rfl:=(cv5.get (hall 5 (by decide))).symm;obtain rfl:=(cv6.get (hall 6 (by decide))).symm;obtain rfl:=(cv7.get (hall 7 (by decide))).symm;obtain rfl:=(cv8.get (hall 8 (by decide))).symm;obtain rfl:=(cv9.get (hall 9 (by decide))).symm;obtain rfl:=(cv10.get (hall 10 (by decide))).symm;obtain rfl:=(cv11.get (hall 11 (by decide))).symm;obtain rfl:=(cv12.get (hall 12 (by decide))).symm;obtain rfl:=(cv13.get (hall 13 (by decide))).symm;obtain rfl:=(cv14.get (hall 14 (by decide))).symm;rw[fl_yes (hall 4 (by decide))]at hJ;rw[fl_yes (hall 11 (by decide))]at hJ;go_simp;obtain⟨-,A,n,hA,hAo⟩:=HF.out Q1 (hJ.q1 rfl);obtain⟨-,B,m,hB,hBo⟩:=HF.out Q2 (hJ.q2 rfl)
  have hout:=hJ.out;have BF:=BW.out.trans (below_of_outside hout hbs BW.out.size);have hRA:=(hA.outs hout hb2).rep;have hRB:=(hB.outs hout hb2).rep;clear hJ;go_wp2_with fail;go_ret2;exact⟨F Q1,F Q2,A,B,n,m,rfl,hRA,hRB,hAo,hBo,BF⟩
 -- end pick
end Go.Proofs.Ytnkfphndfijcoaa
namespace Go.Proofs.Ytnkfphndfijcoaa
open Go.RowKit
theorem cmp_cases {A B:List (List Int)}{n m:Nat}(ha:OutsOk n A) (hb:OutsOk m B):(cmpN A B=0∧cmpN B A=0∧decide (A=B)=true)∨(cmpN A B=1∧cmpN B A=2∧decide (A=B)=false)∨(cmpN A B=2∧cmpN B A=1∧decide (A=B)=false)∨(cmpN A B=3∧cmpN B A=3∧decide (A=B)=false):=by
 have hz:=cmpN_zero ha hb;have hd:cmpN A B≠0→decide (A=B)=false:=fun h=>decide_eq_false fun e=>h (hz.2 e);by_cases h0:cmpN A B=0
 ·exact .inl ⟨h0,(cmpN_flip A B).1.1 h0,decide_eq_true (hz.1 h0)⟩
 ·have h1:=hd h0
  unfold cmpN at *;cases h2:subN A B <;> cases h3:subN B A <;> simp[h2,h3]at h0 ⊢ <;> simpa using h1
theorem lawFnCompareOutcomes (v:Value) (xs:List Int) (w:World) (h:Rep ByteE w v xs∧∀ x∈xs,0≤x∧x≤255) :
 Calls Try.prog 3 #[v] w fun e w'=>e = .returned (.bool true)∧Below w.heap.size w w':=by
 obtain⟨hx,hb⟩:=h;obtain⟨a0,c0,rfl,-,hm,-,hx⟩:=hx.open;have HD:=hide (DrawCompareOutcomes_any (.slice a0 xs.length c0) xs w hx hb);clear hx hb;generalize xs.length=n at *;by_cases hl:(n:Int) > 1048576
 ·go_enter Try.func3,Try.ntmps3
  go_wp2_with fail;go_ret;exact⟨rfl,Below.refl _ _⟩
 ·have hl':decide ((n:Int) > 1048576)=false:=decide_eq_false hl
  go_enter Try.func3,Try.ntmps3;go_wp2_with fail
  (with_reducible refine HD.out.mono ?_);rintro e w1 ⟨⟨aa,an,ac⟩,⟨ba,bn,bc⟩,A,B,n1,n2,rfl,hA,hB,hAo,hBo,hb1⟩
  have HC:=cmp_cases hAo hBo;have HA:=hide hA;have HB:=hide hB;have B1:=hide hb1
  have C1:=hide (fun W h h'=>CompareOutcomes_any (.slice aa an ac) (.slice ba bn bc) A B W h h');have C2:=hide (fun W h h'=>CompareOutcomes_any (.slice ba bn bc) (.slice aa an ac) B A W h h');have C3:=hide (fun W h h'=>sCompareOutcomes_any (.slice aa an ac) (.slice ba bn bc) A B W h h');have C4:=hide (fun W h h'=>CompareOutcomes_any (.slice aa an ac) (.slice aa an ac) A A W h h');have C5:=hide (fun W h h'=>wmListsG_any (.slice aa an ac) (.slice ba bn bc) A B W h h');rw[cmpN_self]at C4;clear hA hB hAo hBo hb1 HD;generalize cmpN A B=x at *;generalize cmpN B A=y at *;generalize decide (A=B)=z at *;rcases HC with⟨rfl,rfl,rfl⟩ | ⟨rfl,rfl,rfl⟩ | ⟨rfl,rfl,rfl⟩ | ⟨rfl,rfl,rfl⟩
  all_goals
   go_wp2_with fail
   (with_reducible refine(C1.out _ HA.out HB.out).mono ?_);rintro e w2 ⟨rfl,hb2⟩
   have B2:=hide hb2;clear hb2;go_wp2_with fail
   (with_reducible refine(C2.out _ (HB.out.below B2.out) (HA.out.below B2.out)).mono ?_);rintro e w3 ⟨rfl,hb3⟩
   have B3:=hide (B2.out.trans (hb3.mono B2.out.size));clear hb3;go_wp2_with fail
   (with_reducible refine(C3.out _ (HA.out.below B3.out) (HB.out.below B3.out)).mono ?_);rintro e w4 ⟨rfl,hb4⟩
   have B4:=hide (B3.out.trans (hb4.mono B3.out.size));clear hb4;go_wp2_with fail
   (with_reducible refine(C4.out _ (HA.out.below B4.out) (HA.out.below B4.out)).mono ?_);rintro e w5 ⟨rfl,hb5⟩
   have B5:=hide (B4.out.trans (hb5.mono B4.out.size));clear hb5;go_wp2_with fail
   (with_reducible refine(C5.out _ (HA.out.below B5.out) (HB.out.below B5.out)).mono ?_);rintro e w6 ⟨rfl,hb6⟩
   have B6:=hide (B5.out.trans (hb6.mono B5.out.size));clear hb6;go_wp2_with fail;go_ret;exact⟨rfl,B1.out.trans (B6.out.mono B1.out.size)⟩
end Go.Proofs.Ytnkfphndfijcoaa
namespace Go.Proofs.Ytnkfphndfijcoaa
open Go.RowKit Go.ChangeShapes Go.WideShapes Go.ChangeAt
open Go.ChangeMaps (open_string)
theorem fnCompareOutcomes_reads:∀ t∈Try.f3.params.toList,Try.prog.readableRec t=true∧t < Try.prog.types.size:=by
 intro t ht;have:t=22:=by simpa[Try.params3] using ht
 subst this;exact⟨by kernel_rfl,of_decide_eq_true (by kernel_rfl)⟩
theorem fnCompareOutcomes_lifted (os:Os) (started:os.Started) (H:Type) (enc:TypeId × Value→H) :
 ReturnsInHanded {} Try.checked os 3 .any (Rows.fnCompareOutcomesSpec.pre6 enc Try.prog Try.f3 Rows.fnCompareOutcomesRow.domain false) (Rows.fnCompareOutcomesSpec.post enc Try.prog Try.f3 false true false false):=by
 refine returnsInHanded_of_change (C:=Try.checked) Try.own started (by kernel_rfl) Try.func3
  (ChangeSpec.witness6 (enc:=enc) (C:=Try.checked) false ⟨#[],#[.slice none 0 0],[]⟩ 8 (by kernel_rfl) (by kernel_rfl) (by kernel_rfl) (by kernel_rfl)) ?_
 intro W base args ds gs before hval0 hW hcnd _;have hval:∀ (j:Nat) t v,Try.f3.params[j]? = some t→args[j]? = some v→Value.okWide Try.prog W .any base t v:=hval0;have hW':=hW;obtain⟨p,q,hA0,hV,rfl,hfz,hnd⟩:=hW;have hA:DataW.TrodAll enc Try.prog W 0 (fun _=>true) true Try.f3.params.toList args.toList ds p:=hA0;rw[Try.params3]at hA hval;obtain⟨v0,d0,rfl,rfl,h0⟩:=trodAll_one hA;obtain⟨rfl,rfl⟩:=trodVars_none hV;obtain⟨B0,hB0⟩:=bytes_of_trod (okWide_slice Try.underlying22 (hval 0 22 v0 rfl rfl)) h0;refine(lawFnCompareOutcomes v0 B0 W hB0).mono fun e W' ⟨he,hb⟩ => ?_;exact⟨_,he,post_law Try.laidOut fnCompareOutcomes_reads rfl rfl (by kernel_rfl) Try.underlying4 hW' hb⟩
theorem fnCompareOutcomes_holds:Rows.FnCompareOutcomesSaid:=
 OpenClaim.holds_of_wide 3 Try.f3 rfl rfl rfl rfl rfl rfl rfl ⟨rfl,rfl,rfl,rfl,rfl⟩ rfl rfl rfl rfl rfl (by kernel_rfl) Try.func3 (by kernel_rfl)
  (of_decide_eq_true (by kernel_rfl)) (by unfold Func.isWrapper;first | (rw[if_pos (by decide +kernel)];kernel_rfl) | (rw[if_neg (by decide +kernel)];exact⟨rfl,rfl⟩))
  (fun os started H enc _=>fnCompareOutcomes_lifted os started H enc)
end Go.Proofs.Ytnkfphndfijcoaa
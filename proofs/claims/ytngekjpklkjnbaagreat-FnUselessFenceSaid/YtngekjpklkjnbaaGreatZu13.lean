/-
  PutFences of the reference; gaps as the laws take them. Condition: bounds on lengths.
-/
import Derived.Test.YtngekjpklkjnbaaGreatZu08
import Derived.Test.YtngekjpklkjnbaaGreatZu07
import Derived.RangeFuncNested
import Derived.RangeFuncBound
import Derived.Shelf.RegionOpen
import Derived.OwnWalkIn
import Derived.LoopNIn
import Derived.LoopIn
import Derived.Test.YtngekjpklkjnbaaGreatZu06
set_option maxHeartbeats 6400000
set_option maxRecDepth 100000
namespace Go.Proofs.YtngekjpklkjnbaaGreat
open Go.RowKit
end Go.Proofs.YtngekjpklkjnbaaGreat
namespace Go.Proofs.YtngekjpklkjnbaaGreat
open Go.RowKit Go.Shelf
attribute [local go_sem] Oper.semAt_some
attribute [local go_sem] Oper.semAt_some
attribute [local go_sem] Oper.semAt_some
end Go.Proofs.YtngekjpklkjnbaaGreat
namespace Go.Proofs.YtngekjpklkjnbaaGreat
structure Bk (p:List (List Ins)) (s:Bf):Prop where
 rg:∀ (t g:Nat) (r:List Ins),p[t]? = some r→g < 3→Yg r g=false→s.q.rg.getD (t * 3+g) 0=0
 mm:∀ l:Nat,Ki p l=false→s.q.mm.getD l 0=0
 bf:∀ b∈s.bf,∀ e∈b,Ki p e.1=true
theorem EK {r:List Ins}{k:Nat}{x:Ins}(hx:r[k]? = some x) (h:Z8 x.op=true):Yg r x.ZQ=true:=by
 unfold Yg;rw[List.any_eq_true];exact⟨x,List.mem_of_getElem? hx,by simp[h]⟩
theorem Gq {p:List (List Ins)}{t k:Nat}{r:List Ins}{x:Ins}(hr:p[t]? = some r) (hx:r[k]? = some x) (h:ZF x.op=true):Ki p x.loc=true:=by
 unfold Ki;rw[List.any_eq_true];refine⟨r,List.mem_of_getElem? hr,?_⟩;rw[List.any_eq_true];exact⟨x,List.mem_of_getElem? hx,by simp[h]⟩
theorem Bk.reach {p:List (List Ins)}{split:Bool}{s:Bf}(hp:∀ r∈p,∀ x∈r,Zg x=true) (h:Zx (Zn p split) (Zu p split) s):Bk p s:=by
 have z:∀ n k,(List.replicate n (0:Int)).getD k 0=0:=fun n k=>by
  rw[List.getD_eq_getElem?_getD,List.getElem?_replicate];split <;> rfl
 induction h with
 | start =>
  refine⟨fun t g r _ _ _=>z _ _,fun l _=>z _ _,fun b hb e he => ?_⟩;simp only[Zn]at hb;rw[List.eq_of_mem_replicate hb]at he;simp at he
 | step hs ht ih =>
  rename_i s s' m;have ho:=ZE.reach hp hs;by_cases hm:m < p.length
  ·obtain⟨r,k,x,hr,hk,hx,hd⟩:=Yw ht hm
   have hv:=Ku (hp r (List.mem_of_getElem? hr) x (List.mem_of_getElem? hx));have rgS:∀ v,Z8 x.op=true→∀ (t g:Nat) (r':List Ins),p[t]? = some r'→g < 3→Yg r' g=false→(s.q.rg.set (m * 3+x.ZQ.toNat) v).getD (t * 3+g) 0=0:=fun v hop t g r' hr' hg hn=>by
    rw[Xf (fun e => ?_)]
    ·exact ih.rg t g r' hr' hg hn
    ·have e1:m=t:=Om
     subst e1;rw[hr,Option.some.injEq]at hr';subst hr';have h1:=EK hx hop;rw[show x.ZQ=(g:Int) by omega,hn]at h1;cases h1
   have mmS:∀ v,ZF x.op=true→∀ l:Nat,Ki p l=false→(s.q.mm.set x.loc.toNat v).getD l 0=0:=fun v hop l hn=>by
    rw[Xf (fun e => ?_)]
    ·exact ih.mm l hn
    ·have h1:=Gq hr hx hop
     have h4:x.op≠4:=fun q=>by rw[q]at hop;cases hop
     have:=hv.2.1 h4;rw[show x.loc=(l:Int) by omega,hn]at h1;cases h1
   unfold YR at hd;split at hd
   ·split at hd
    ·simp only[Option.some.injEq]at hd
     subst hd;refine⟨fun t g r' hr' hg hn => ?_,fun l hn => ?_,ih.bf⟩
     ·simp only[Yy]
      split
      ·rename_i hop;exact rgS _ hop t g r' hr' hg hn
      ·exact ih.rg t g r' hr' hg hn
     ·simp only[Yy]
      split
      ·rename_i hop;exact mmS _ hop l hn
      ·exact ih.mm l hn
    ·cases hd
   ·rename_i h45
    split at hd
    ·rename_i h1
     simp only[Option.some.injEq]at hd;subst hd;exact⟨rgS _ (by rw[h1];rfl),ih.mm,ih.bf⟩
    ·rename_i h1
     simp only[Option.some.injEq]at hd;subst hd;refine⟨ih.rg,ih.mm,fun b hb e he => ?_⟩;have hop:ZF x.op=true:=by
      have h23:x.op=2∨x.op=3:=Om;rcases h23 with q | q <;> (rw[q];rfl)
     rcases List.mem_or_eq_of_mem_set hb with q | q
     ·exact ih.bf b q e he
     ·rw[q]at he
      rcases List.mem_append.1 he with g | g
      ·rw[List.getD_eq_getElem?_getD]at g
       cases hb2:s.bf[Zj m x.loc split]? with
       | none=>rw[hb2]at g;simp at g
       | some b2=>rw[hb2]at g;exact ih.bf b2 (List.mem_of_getElem? hb2) e g
      ·simp only[List.mem_singleton]at g
       subst g;exact Gq hr hx hop
  ·obtain⟨l,v,rest,hb,rfl⟩:=Yu ht hm
   have hw:=ih.bf _ (List.mem_of_getElem? hb) (l,v) Sm;have hl:=ho.en _ (List.mem_of_getElem? hb) (l,v) Sm;unfold Y8 at hl;simp only at hw hl;refine⟨ih.rg,fun l' hn => ?_,fun b hb' e he => ?_⟩
   ·simp only
    rw[Xf (fun q => ?_)]
    ·exact ih.mm l' hn
    ·rw[show l=(l':Int) by omega,hn]at hw
     cases hw
   ·rcases List.mem_or_eq_of_mem_set hb' with q | q
    ·exact ih.bf b q e he
    ·rw[q]at he
     exact ih.bf _ (List.mem_of_getElem? hb) e (by simp[he])
end Go.Proofs.YtngekjpklkjnbaaGreat
namespace Go.Proofs.YtngekjpklkjnbaaGreat
open Go.RowKit
end Go.Proofs.YtngekjpklkjnbaaGreat
namespace Go.Proofs.YtngekjpklkjnbaaGreat
end Go.Proofs.YtngekjpklkjnbaaGreat
namespace Go.Proofs.YtngekjpklkjnbaaGreat
open Go.RowKit Go.Shelf
attribute [local go_sem] Oper.semAt_some
def FB (p:List (List Ins)) (k:Nat) (P:List (List Ins)):Prop:=P.length=p.length∧∀ (t:Nat) (r:List Ins),p[t]? = some r→∃ r',P[t]? = some r'∧r.length≤r'.length∧r'.length≤r.length+k
end Go.Proofs.YtngekjpklkjnbaaGreat
namespace Go.Proofs.YtngekjpklkjnbaaGreat
open Go.RowKit
end Go.Proofs.YtngekjpklkjnbaaGreat
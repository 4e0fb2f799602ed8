/-
  Plain: the condition of an outcome of a machine with buffers holds for this outcome only. No condition.
-/
import Derived.Test.YtnkfphndfijcoaaZo08
import Derived.Test.YtnkfphndfijcoaaZo07
import Derived.Test.YtnkfphndfijcoaaZo04
import Derived.Test.YtnkfphndfijcoaaZo03
import Derived.Test.YtnkfphndfijcoaaZo01
set_option maxHeartbeats 6400000
set_option maxRecDepth 100000
namespace Go.Proofs.Ytnkfphndfijcoaa
open Go.RowKit Go.Shelf
attribute [local go_sem] Oper.semAt_some
end Go.Proofs.Ytnkfphndfijcoaa
namespace Go.Proofs.Ytnkfphndfijcoaa
structure Unsaid (p:List (List Ins)) (s:Bf):Prop where
 rg:∀ (t g:Nat) (r:List Ins),p[t]? = some r→g < 3→readsR r g=false→s.q.rg.getD (t * 3+g) 0=0
 mm:∀ l:Nat,writesP p l=false→s.q.mm.getD l 0=0
 bf:∀ b∈s.bf,∀ e∈b,writesP p e.1=true
theorem reads_of {r:List Ins}{k:Nat}{x:Ins}(hx:r[k]? = some x) (h:isRop x.op=true):readsR r x.reg=true:=by
 unfold readsR;rw[List.any_eq_true];exact⟨x,List.mem_of_getElem? hx,by simp[h]⟩
theorem writes_of {p:List (List Ins)}{t k:Nat}{r:List Ins}{x:Ins}(hr:p[t]? = some r) (hx:r[k]? = some x) (h:isWop x.op=true):writesP p x.loc=true:=by
 unfold writesP;rw[List.any_eq_true];refine⟨r,List.mem_of_getElem? hr,?_⟩;rw[List.any_eq_true];exact⟨x,List.mem_of_getElem? hx,by simp[h]⟩
theorem Unsaid.reach {p:List (List Ins)}{split:Bool}{s:Bf}(hp:∀ r∈p,∀ x∈r,insValid x=true) (h:ReachM (bfStart p split) (bfNext p split) s):Unsaid p s:=by
 have z:∀ n k,(List.replicate n (0:Int)).getD k 0=0:=fun n k=>by
  rw[List.getD_eq_getElem?_getD,List.getElem?_replicate];split <;> rfl
 induction h with
 | start =>
  refine⟨fun t g r _ _ _=>z _ _,fun l _=>z _ _,fun b hb e he => ?_⟩;simp only[bfStart]at hb;rw[List.eq_of_mem_replicate hb]at he;simp at he
 | step hs ht ih =>
  rename_i s s' m;have ho:=BfOk.reach hp hs;by_cases hm:m < p.length
  ·obtain⟨r,k,x,hr,hk,hx,hd⟩:=bfNext_thread ht hm
   have hv:=ins_facts (hp r (List.mem_of_getElem? hr) x (List.mem_of_getElem? hx));have rgS:∀ v,isRop x.op=true→∀ (t g:Nat) (r':List Ins),p[t]? = some r'→g < 3→readsR r' g=false→(s.q.rg.set (m * 3+x.reg.toNat) v).getD (t * 3+g) 0=0:=fun v hop t g r' hr' hg hn=>by
    rw[getD_set_other (fun e => ?_)]
    ·exact ih.rg t g r' hr' hg hn
    ·have e1:m=t:=by omega
     subst e1;rw[hr,Option.some.injEq]at hr';subst hr';have h1:=reads_of hx hop;rw[show x.reg=(g:Int) by omega,hn]at h1;cases h1
   have mmS:∀ v,isWop x.op=true→∀ l:Nat,writesP p l=false→(s.q.mm.set x.loc.toNat v).getD l 0=0:=fun v hop l hn=>by
    rw[getD_set_other (fun e => ?_)]
    ·exact ih.mm l hn
    ·have h1:=writes_of hr hx hop
     have h4:x.op≠4:=fun q=>by rw[q]at hop;cases hop
     have:=hv.2.1 h4;rw[show x.loc=(l:Int) by omega,hn]at h1;cases h1
   unfold bfDo at hd;split at hd
   ·split at hd
    ·simp only[Option.some.injEq]at hd
     subst hd;refine⟨fun t g r' hr' hg hn => ?_,fun l hn => ?_,ih.bf⟩
     ·simp only[sqDo]
      split
      ·rename_i hop;exact rgS _ hop t g r' hr' hg hn
      ·exact ih.rg t g r' hr' hg hn
     ·simp only[sqDo]
      split
      ·rename_i hop;exact mmS _ hop l hn
      ·exact ih.mm l hn
    ·cases hd
   ·rename_i h45
    split at hd
    ·rename_i h1
     simp only[Option.some.injEq]at hd;subst hd;exact⟨rgS _ (by rw[h1];rfl),ih.mm,ih.bf⟩
    ·rename_i h1
     simp only[Option.some.injEq]at hd;subst hd;refine⟨ih.rg,ih.mm,fun b hb e he => ?_⟩;have hop:isWop x.op=true:=by
      have h23:x.op=2∨x.op=3:=by omega
      rcases h23 with q | q <;> (rw[q];rfl)
     rcases List.mem_or_eq_of_mem_set hb with q | q
     ·exact ih.bf b q e he
     ·rw[q]at he
      rcases List.mem_append.1 he with g | g
      ·rw[List.getD_eq_getElem?_getD]at g
       cases hb2:s.bf[bfPlace m x.loc split]? with
       | none=>rw[hb2]at g;simp at g
       | some b2=>rw[hb2]at g;exact ih.bf b2 (List.mem_of_getElem? hb2) e g
      ·simp only[List.mem_singleton]at g
       subst g;exact writes_of hr hx hop
  ·obtain⟨l,v,rest,hb,rfl⟩:=bfNext_flush ht hm
   have hw:=ih.bf _ (List.mem_of_getElem? hb) (l,v) (by simp);have hl:=ho.en _ (List.mem_of_getElem? hb) (l,v) (by simp);unfold entOk at hl;simp only at hw hl;refine⟨ih.rg,fun l' hn => ?_,fun b hb' e he => ?_⟩
   ·simp only
    rw[getD_set_other (fun q => ?_)]
    ·exact ih.mm l' hn
    ·rw[show l=(l':Int) by omega,hn]at hw
     cases hw
   ·rcases List.mem_or_eq_of_mem_set hb' with q | q
    ·exact ih.bf b q e he
    ·rw[q]at he
     exact ih.bf _ (List.mem_of_getElem? hb) e (by simp[he])
end Go.Proofs.Ytnkfphndfijcoaa
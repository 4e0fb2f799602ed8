/-
  Plain: the code of a state with buffers, and how many states there are. Condition: a valid program.
-/
import Derived.Test.YtnkfphndfijcoaaZo10
import Derived.Test.YtnkfphndfijcoaaZo11
import Derived.Test.YtnkfphndfijcoaaZo12
import Derived.Test.YtnkfphndfijcoaaZo06
set_option maxHeartbeats 6400000
set_option maxRecDepth 100000
namespace Go.Proofs.Ytnkfphndfijcoaa
open Go.RowKit
def rowsB (ls:List (List Int)):List Int:=ls.flatMap fun r=>(r.length:Int) :: r
def bufB (s:Bf):List Int:=sqB s.q++rowsB (s.bf.map encR2)
end Go.Proofs.Ytnkfphndfijcoaa
namespace Go.Proofs.Ytnkfphndfijcoaa
open Go.RowKit
theorem bfNext_can {p:List (List Ins)}{split:Bool}{s:Bf}{t:Nat}(ht:t < p.length):(bfNext p split s t).isSome=bfCan p split s t:=by
 unfold bfNext bfCan sqIns;rw[if_pos ht];cases hr:p[t]? with
 | none=>simp
 | some r =>
  cases hk:s.q.pc[t]? with
  | none=>simp
  | some k =>
   cases hx:r[k.toNat]? with
   | none=>simp[hx]
   | some x =>
    simp only[Option.bind_some,hx];unfold bfDo;by_cases h45:x.op=4∨x.op=5
    ·rw[if_pos h45,if_pos h45]
     cases he:bfEmpty s t split <;> simp
    ·rw[if_neg h45,if_neg h45]
     split <;> simp
theorem bfNext_has {p:List (List Ins)}{split:Bool}{s:Bf}{k:Nat}:(bfNext p split s (p.length+k)).isSome=bfHas s k:=by
 unfold bfNext bfHas;rw[if_neg (by omega),Nat.add_sub_cancel_left,List.getD_eq_getElem?_getD];cases hk:s.bf[k]? with
 | none=>simp
 | some row =>
  cases row with
  | nil=>simp
  | cons e r=>obtain⟨l,v⟩:=e;simp
def bfAf (p:List (List Ins)) (split:Bool) (s:Bf) (m:Nat):Bf:=(bfNext p split s m).getD s
theorem bfAf_next {p:List (List Ins)}{split:Bool}{s s':Bf}{m:Nat}(h:bfNext p split s m=some s'):bfAf p split s m=s':=by unfold bfAf;rw[h];rfl
theorem BfOk.reach' {p:List (List Ins)}{split:Bool}(hp:∀ r∈p,∀ x∈r,insValid x=true) {s:Bf}(h:ReachM (bfStart p split) (bfNext p split) s):BfOk p split s∧bfLeft p s≤bfLeft p (bfStart p split):=by
 induction h with
 | start=>exact⟨BfOk.start p split,Nat.le_refl _⟩
 | step _ ht ih=>exact⟨ih.1.next hp ht,Nat.le_trans (Nat.le_of_lt (bfLeft_next ih.1 ht)) ih.2⟩
theorem len_le_sum:∀ {l:List (List (Int × Int))}{r:List (Int × Int)},r∈l→r.length≤(l.map List.length).sum
 | [],_,h=>by simp at h
 | x :: l,r,h=>by
  rcases List.mem_cons.1 h with e | e
  ·subst e;simp
  ·have:=len_le_sum e;simp;omega
theorem bfLeft_start {p:List (List Ins)}{split:Bool}(hv:progValid p=true):bfLeft p (bfStart p split)≤42:=by
 unfold bfLeft;have h1:=sqLeft_le hv (bfStart p split).q;have h2:(((bfStart p split).bf).map List.length).sum=0:=by
  simp[bfStart]
 omega
theorem bf_rows {p:List (List Ins)}{split:Bool}(hv:progValid p=true) {s:Bf}(h:ReachM (bfStart p split) (bfNext p split) s):∀ r∈s.bf,r.length≤42:=fun r hr=>by
 have h1:=(BfOk.reach' (valid_ins hv) h).2;have h2:=bfLeft_start (split:=split) hv;have h3:=len_le_sum hr;unfold bfLeft at h1 h2;omega
theorem rowsB_inj:∀ {ls ls':List (List Int)},ls.length=ls'.length→rowsB ls=rowsB ls'→ls=ls'
 | [],[],_,_=>rfl
 | [],_ :: _,h,_=>by simp at h
 | _ :: _,[],h,_=>by simp at h
 | r :: ls,r' :: ls',h,e=>by
  simp only[rowsB,List.flatMap_cons,List.cons_append,List.cons.injEq]at e;have h1:r.length=r'.length:=by omega
  have h2:=List.append_inj e.2 h1;rw[h2.1,rowsB_inj (by simpa using h) h2.2]
theorem encR2_inj:∀ {r r':List (Int × Int)},(∀ e∈r,entOk e)→(∀ e∈r',entOk e)→encR2 r=encR2 r'→r=r'
 | [],[],_,_,_=>rfl
 | [],_ :: _,_,_,h=>by simp at h
 | _ :: _,[],_,_,h=>by simp at h
 | x :: r,y :: r',h1,h2,h=>by
  simp only[encR2,List.map_cons,List.cons.injEq]at h;have a:=h1 x (by simp);have b:=h2 y (by simp);unfold entOk at a b;have e:x=y:=by
   obtain⟨x1,x2⟩:=x;obtain⟨y1,y2⟩:=y;simp only at a b h;simp only[Prod.mk.injEq];omega
  rw[e,encR2_inj (fun z hz=>h1 z (by simp[hz])) (fun z hz=>h2 z (by simp[hz])) h.2]
theorem bufB_inj {p:List (List Ins)}{split:Bool}{s s':Bf}(h:BfOk p split s) (h':BfOk p split s') (hp:p.length≤3) (e:bufB s=bufB s'):s=s':=by
 have h1:=List.append_inj e (by rfl);have h2:=sqB_inj h.q h'.q hp h1.1;have h3:=rowsB_inj (by rw[List.length_map,List.length_map,h.lb,h'.lb]) h1.2;have h4:s.bf=s'.bf:=by
  apply List.ext_getElem (by rw[h.lb,h'.lb]);intro i hi hi';have h5:=congrArg (fun t:List (List Int)=>t[i]?) h3;simp only[List.getElem?_map,List.getElem?_eq_getElem hi,List.getElem?_eq_getElem hi',Option.map_some,Option.some.injEq]at h5;exact encR2_inj (h.en _ (List.getElem_mem hi)) (h'.en _ (List.getElem_mem hi')) h5
 cases s;cases s';simp only[Bf.mk.injEq];exact⟨h2,h4⟩
theorem bf_done_pc {p:List (List Ins)}{split:Bool}{a b:Bf}(ha:BfOk p split a) (hb:BfOk p split b) (da:bfDone p a=true) (db:bfDone p b=true) (e:bfOut a=bfOut b):a=b:=by
 unfold bfDone at da db;rw[Bool.and_eq_true]at da db;have h1:=sq_done_pc ha.q hb.q da.2 db.2 e;have h2:a.bf=b.bf:=by
  apply List.ext_getElem (by rw[ha.lb,hb.lb]);intro i hi hi';have h3:=List.all_eq_true.1 da.1 _ (List.getElem_mem hi);have h4:=List.all_eq_true.1 db.1 _ (List.getElem_mem hi');rw[List.isEmpty_iff]at h3 h4;rw[h3,h4]
 cases a;cases b;simp only[Bf.mk.injEq];exact⟨h1,h2⟩
end Go.Proofs.Ytnkfphndfijcoaa
namespace Go.Proofs.Ytnkfphndfijcoaa
def mixC:List (Nat × Nat)→Nat
 | []=>0
 | x :: l=>x.1+x.2 * mixC l
def radP:List (Nat × Nat)→Nat
 | []=>1
 | x :: l=>x.2 * radP l
theorem radP_app (l l':List (Nat × Nat)):radP (l++l')=radP l * radP l':=by
 induction l with
 | nil=>simp[radP]
 | cons x l ih=>simp only[List.cons_append,radP,ih,Nat.mul_assoc]
theorem mixC_lt {l:List (Nat × Nat)}(h:∀ x∈l,x.1 < x.2):mixC l < radP l:=by
 induction l with
 | nil=>simp[mixC,radP]
 | cons x l ih =>
  have h1:=h x (by simp);have h2:=ih fun y hy=>h y (by simp[hy]);have h3:x.2 * (mixC l+1)≤x.2 * radP l:=Nat.mul_le_mul_left _ h2;rw[Nat.mul_add,Nat.mul_one]at h3;simp only[mixC,radP];omega
theorem mixC_inj:∀ {l l':List (Nat × Nat)},l.map Prod.snd=l'.map Prod.snd→(∀ x∈l,x.1 < x.2)→(∀ x∈l',x.1 < x.2)→mixC l=mixC l'→l=l'
 | [],[],_,_,_,_=>rfl
 | [],_ :: _,h,_,_,_=>by simp at h
 | _ :: _,[],h,_,_,_=>by simp at h
 | x :: l,y :: l',h,h1,h2,e=>by
  simp only[List.map_cons,List.cons.injEq]at h;have a:=h1 x (by simp);have b:=h2 y (by simp);simp only[mixC]at e;rw[h.1]at e a;have e1:x.1=y.1:=by
   have:=congrArg (· % y.2) e;simp only[Nat.add_mul_mod_self_left]at this;rwa[Nat.mod_eq_of_lt a,Nat.mod_eq_of_lt b]at this
  have e2:mixC l=mixC l':=by
   rw[e1]at e;exact Nat.eq_of_mul_eq_mul_left (by omega) (Nat.add_left_cancel e)
  rw[mixC_inj h.2 (fun z hz=>h1 z (by simp[hz])) (fun z hz=>h2 z (by simp[hz])) e2,Prod.ext e1 h.1]
def bcode:List Int→Nat
 | []=>0
 | v :: l=>1+v.toNat+4 * bcode l
theorem bcode_le {l:List Int}(h:∀ x∈l,0≤x∧x≤3):3 * bcode l+4≤4 ^ (l.length+1):=by
 induction l with
 | nil=>simp[bcode]
 | cons v l ih =>
  have h1:=h v (by simp);have h2:=ih fun y hy=>h y (by simp[hy]);simp only[bcode,List.length_cons];rw[Nat.pow_succ 4 (l.length+1)];omega
theorem bcode_inj:∀ {l l':List Int},(∀ x∈l,0≤x∧x≤3)→(∀ x∈l',0≤x∧x≤3)→bcode l=bcode l'→l=l'
 | [],[],_,_,_=>rfl
 | [],_ :: _,_,_,h=>by simp only[bcode]at h;omega
 | _ :: _,[],_,_,h=>by simp only[bcode]at h;omega
 | v :: l,u :: l',h1,h2,h=>by
  have a:=h1 v (by simp);have b:=h2 u (by simp);simp only[bcode]at h;rw[bcode_inj (l:=l) (l':=l') (fun z hz=>h1 z (by simp[hz])) (fun z hz=>h2 z (by simp[hz])) (by omega),show v=u by omega]
def betaB (k:Nat):Nat:=(4 ^ (k+1) - 1) / 3
theorem betaB_lt {l:List Int}{k:Nat}(h:∀ x∈l,0≤x∧x≤3) (hk:l.length≤k):bcode l < betaB k:=by
 have h1:=bcode_le h;have h2:4 ^ (l.length+1)≤4 ^ (k+1):=Nat.pow_le_pow_right (by decide) (by omega);unfold betaB;have:=(Nat.le_div_iff_mul_le (k:=3) (x:=bcode l+1) (y:=4 ^ (k+1) - 1) (by decide)).2 (by omega);omega
theorem betaB_le (k:Nat):3 * betaB k≤4 ^ (k+1):=by
 have h0:0 < 4 ^ (k+1):=Nat.pow_pos (by decide);unfold betaB;generalize 4 ^ (k+1)=X at *;omega
def isSt (x:Ins):Bool:=x.op==2||x.op==3
def stAt (split:Bool) (b t:Nat) (r:List Ins):List Int:=(r.filter fun x=>isSt x&&decide (bfPlace t x.loc split=b)).map fun x=>x.loc
theorem stAt_snoc (split:Bool) (b t:Nat) {r:List Ins}{k:Nat}{x:Ins}(h:r[k]? = some x):stAt split b t (r.take (k+1))=stAt split b t (r.take k)++(if isSt x=true∧bfPlace t x.loc split=b then [x.loc] else []):=by
 unfold stAt;rw[List.take_add_one,h,Option.toList_some,List.filter_append,List.map_append]
 congr 1
 by_cases h1:isSt x=true∧bfPlace t x.loc split=b
 ·rw[if_pos h1];simp[h1]
 ·rw[if_neg h1]
  have:(isSt x&&decide (bfPlace t x.loc split=b))=false:=by
   cases hs:isSt x with
   | false=>simp
   | true=>simp only[hs,true_and]at h1;simp[h1]
  simp[this]
def BI (p:List (List Ins)) (split:Bool) (s:Bf):Prop:=∀ (b:Nat) (row:List (Int × Int)),s.bf[b]? = some row→∃ pre,stAt split b (b / bfN split) ((p.getD (b / bfN split) []).take (s.q.pc.getD (b / bfN split) 0).toNat)=pre++row.map Prod.fst
theorem BI.step {p:List (List Ins)}{split:Bool}{s s':Bf}{m:Nat}(hok:BfOk p split s) (hp:∀ r∈p,∀ x∈r,insValid x=true) (h:BI p split s) (hn:bfNext p split s m=some s'):BI p split s':=by
 by_cases hm:m < p.length
 ·obtain⟨r,k,x,hr,hk,hx,hd⟩:=bfNext_thread hn hm
  have hv:=hp r (List.mem_of_getElem? hr) x (List.mem_of_getElem? hx);have hk0:=(hok.q.pc m k r hk hr).1;have hpr:p.getD m []=r:=by rw[List.getD_eq_getElem?_getD,hr];rfl
  have hkd:s.q.pc.getD m 0=k:=by rw[List.getD_eq_getElem?_getD,hk];rfl
  have hml:=(List.getElem?_eq_some_iff.1 hk).1;have e1:∀ t,(s.q.pc.set m (k+1)).getD t 0=if t=m then k+1 else s.q.pc.getD t 0:=fun t=>by
   rw[List.getD_eq_getElem?_getD,List.getElem?_set];by_cases e:m=t
   ·subst e;simp[hml]
   ·rw[if_neg e,if_neg (fun q=>e q.symm),List.getD_eq_getElem?_getD]
  have keep:∀ (q':Sq),q'.pc=s.q.pc.set m (k+1)→isSt x=false→BI p split ⟨q',s.bf⟩:=fun q' hq hst b row hb=>by
   obtain⟨pre,hpre⟩:=h b row hb;simp only[hq,e1];by_cases e:b / bfN split=m
   ·rw[if_pos e,e,hpr,show (k+1).toNat=k.toNat+1 by omega,stAt_snoc split b m hx,if_neg (by simp[hst]),List.append_nil]
    rw[e,hpr,hkd]at hpre;exact⟨pre,hpre⟩
   ·rw[if_neg e];exact⟨pre,hpre⟩
  unfold bfDo at hd;split at hd
  ·rename_i h45
   split at hd
   ·simp only[Option.some.injEq]at hd
    subst hd;exact keep _ rfl (by unfold isSt;rcases h45 with e | e <;> simp[e])
   ·cases hd
  ·split at hd
   ·rename_i h1
    simp only[Option.some.injEq]at hd;subst hd;exact keep _ rfl (by unfold isSt;simp[h1])
   ·rename_i h45 h1
    simp only[Option.some.injEq]at hd;subst hd;have h23:x.op=2∨x.op=3:=by
     unfold insValid at hv
     repeat' split at hv
     all_goals first | omega | (simp at hv;done)
    have hst:isSt x=true:=by unfold isSt;rcases h23 with e | e <;> simp[e]
    have hloc:0≤x.loc∧x.loc≤2:=by
     unfold insValid inB at hv;rcases h23 with e2 | e2 <;> (simp[e2]at hv;omega)
    intro b row hb;simp only at hb;simp only[e1];rw[List.getElem?_set]at hb;by_cases e:bfPlace m x.loc split=b
    ·rw[if_pos e]at hb
     split at hb
     ·rename_i hlt
      simp only[Option.some.injEq]at hb;subst hb;subst e;obtain⟨old,ho⟩:=get_of_lt (xs:=s.bf) (k:=bfPlace m x.loc split) (by simpa using hlt);obtain⟨pre,hpre⟩:=h _ old ho;rw[place_div hloc.1 hloc.2,hpr,hkd]at hpre;rw[place_div hloc.1 hloc.2,if_pos rfl,hpr,show (k+1).toNat=k.toNat+1 by omega,stAt_snoc split _ m hx,if_pos ⟨hst,rfl⟩,hpre];exact⟨pre,by rw[List.getD_eq_getElem?_getD,ho];simp⟩
     ·cases hb
    ·rw[if_neg e]at hb
     obtain⟨pre,hpre⟩:=h b row hb;by_cases e2:b / bfN split=m
     ·rw[if_pos e2,e2,hpr,show (k+1).toNat=k.toNat+1 by omega,stAt_snoc split b m hx,if_neg (by simp[e]),List.append_nil]
      rw[e2,hpr,hkd]at hpre;exact⟨pre,hpre⟩
     ·rw[if_neg e2];exact⟨pre,hpre⟩
 ·obtain⟨l,v,rest,hb0,rfl⟩:=bfNext_flush hn hm
  intro b row hb;simp only at hb;rw[List.getElem?_set]at hb;by_cases e:m - p.length=b
  ·rw[if_pos e]at hb
   split at hb
   ·simp only[Option.some.injEq]at hb
    subst hb;obtain⟨pre,hpre⟩:=h _ _ hb0;rw[← e];exact⟨pre++[l],by simp only;rw[hpre];simp⟩
   ·cases hb
  ·rw[if_neg e]at hb
   exact h b row hb
theorem BI.reach {p:List (List Ins)}{split:Bool}(hp:∀ r∈p,∀ x∈r,insValid x=true) {s:Bf}(h:ReachM (bfStart p split) (bfNext p split) s):BI p split s:=by
 induction h with
 | start =>
  intro b row hb;unfold bfStart at hb;simp only[List.getElem?_replicate]at hb;split at hb
  ·simp only[Option.some.injEq]at hb
   subst hb;exact⟨stAt split b (b / bfN split) ((p.getD (b / bfN split) []).take ((bfStart p split).q.pc.getD (b / bfN split) 0).toNat),by simp[bfStart]⟩
  ·cases hb
 | step h1 ht ih=>exact ih.step (BfOk.reach' hp h1).1 hp ht
def kB (p:List (List Ins)) (split:Bool) (b:Nat):Nat:=(stAt split b (b / bfN split) (p.getD (b / bfN split) [])).length
theorem BI.len {p:List (List Ins)}{split:Bool}{s:Bf}(h:BI p split s) {b:Nat}{row:List (Int × Int)}(hb:s.bf[b]? = some row):row.length≤kB p split b:=by
 obtain⟨pre,hpre⟩:=h b row hb;have h1:=congrArg List.length hpre;rw[List.length_append,List.length_map]at h1;have h2:(stAt split b (b / bfN split) ((p.getD (b / bfN split) []).take (s.q.pc.getD (b / bfN split) 0).toNat)).length≤kB p split b:=by
  unfold kB stAt;rw[List.length_map,List.length_map];exact((List.take_sublist _ _).filter _).length_le
 omega
theorem BI.same {p:List (List Ins)}{split:Bool}{s s':Bf}(h:BI p split s) (h':BI p split s') {b:Nat}{row row':List (Int × Int)}(hb:s.bf[b]? = some row) (hb':s'.bf[b]? = some row') (hpc:s.q.pc.getD (b / bfN split) 0=s'.q.pc.getD (b / bfN split) 0) (hv:row.map Prod.snd=row'.map Prod.snd):row=row':=by
 obtain⟨pre,hpre⟩:=h b row hb;obtain⟨pre',hpre'⟩:=h' b row' hb';rw[hpc,hpre']at hpre;have hl:row.length=row'.length:=by have:=congrArg List.length hv;simpa using this
 have h1:=(List.append_inj' hpre (by simp[hl])).2;clear hb hb' hpre hpre' hpc pre pre' h h'
 induction row generalizing row' with
 | nil=>cases row' with
  | nil=>rfl
  | cons y r=>simp at hl
 | cons x row ih=>cases row' with
  | nil=>simp at hl
  | cons y row' =>
   simp only[List.map_cons,List.cons.injEq]at hv h1;rw[ih hv.2 (by simpa using hl) h1.2,Prod.ext h1.1.symm hv.1]
end Go.Proofs.Ytnkfphndfijcoaa
namespace Go.Proofs.Ytnkfphndfijcoaa
def pcC (s:Bf):List (Nat × Nat):=(List.range 3).map fun t=>((s.q.pc.getD t 0).toNat,8)
def mmC (s:Bf):List (Nat × Nat):=(List.range 3).map fun l=>((s.q.mm.getD l 0).toNat,4)
def rgC (p:List (List Ins)) (s:Bf):List (Nat × Nat):=(List.range 9).map fun j=>((s.q.rg.getD j 0).toNat,if readsR (p.getD (j / 3) []) ((j % 3:Nat):Int)=true then 4 else 1)
def bfC (p:List (List Ins)) (split:Bool) (s:Bf):List (Nat × Nat):=(List.range (p.length * bfN split)).map fun b=>(bcode ((s.bf.getD b []).map Prod.snd),betaB (kB p split b))
def codeL (p:List (List Ins)) (split:Bool) (s:Bf):List (Nat × Nat):=pcC s++(mmC s++(rgC p s++bfC p split s))
theorem map_range_inj {α:Type}{f g:Nat→α}{n:Nat}(h:(List.range n).map f=(List.range n).map g):∀ k,k < n→f k=g k:=fun k hk=>by
 have:=congrArg (fun l:List α=>l[k]?) h;simpa[hk] using this
theorem bfv_range {l:List (Int × Int)}(h:∀ e∈l,entOk e):∀ x∈l.map Prod.snd,0≤x∧x≤3:=fun x hx=>by
 obtain⟨e,he,rfl⟩:=List.mem_map.1 hx;exact(h e he).2
theorem codeL_ok {p:List (List Ins)}{split:Bool}{s:Bf}(hv:progValid p=true) (h:ReachM (bfStart p split) (bfNext p split) s):∀ x∈codeL p split s,x.1 < x.2:=by
 have hok:=(BfOk.reach' (valid_ins hv) h).1;have hun:=Unsaid.reach (valid_ins hv) h;have hbi:=BI.reach (valid_ins hv) h;have hl:=valid_le hv;intro x hx;rcases List.mem_append.1 hx with hx | hx
 ·obtain⟨t,-,rfl⟩:=List.mem_map.1 hx
  show (s.q.pc.getD t 0).toNat < 8;rw[List.getD_eq_getElem?_getD];cases hk:s.q.pc[t]? with
  | none=>simp
  | some k =>
   obtain⟨r,hr⟩:=get_of_lt (xs:=p) (k:=t) (by rw[← hok.q.lp];exact(List.getElem?_eq_some_iff.1 hk).1);have h1:=hok.q.pc t k r hk hr;have h2:=(hl.2.2.1 r (List.mem_of_getElem? hr)).1;simp only[Option.getD_some];omega
 rcases List.mem_append.1 hx with hx | hx
 ·obtain⟨l,-,rfl⟩:=List.mem_map.1 hx
  show (s.q.mm.getD l 0).toNat < 4;have:=getD_range hok.q.mm l;omega
 rcases List.mem_append.1 hx with hx | hx
 ·obtain⟨j,hj,rfl⟩:=List.mem_map.1 hx
  have hj9:=List.mem_range.1 hj;show (s.q.rg.getD j 0).toNat < if readsR (p.getD (j / 3) []) ((j % 3:Nat):Int)=true then 4 else 1
  have h1:=getD_range hok.q.rg j;split
  ·omega
  ·rename_i hr
   cases hp:p[j / 3]? with
   | none =>
    have:p.length≤j / 3:=by simpa using hp
    have h2:s.q.rg.getD j 0=0:=by
     rw[List.getD_eq_getElem?_getD,List.getElem?_eq_none (by rw[hok.q.lr];omega)];rfl
    omega
   | some r =>
    have h2:=hun.rg (j / 3) (j % 3) r hp (Nat.mod_lt _ (by decide)) (by
     have e:p.getD (j / 3) []=r:=by rw[List.getD_eq_getElem?_getD,hp];rfl
     rw[e]at hr;simpa using hr)
    rw[show j / 3 * 3+j % 3=j by omega]at h2;omega
 ·obtain⟨b,hb,rfl⟩:=List.mem_map.1 hx
  have hb2:=List.mem_range.1 hb;obtain⟨row,hrow⟩:=get_of_lt (xs:=s.bf) (k:=b) (by rw[hok.lb];exact hb2);have e:s.bf.getD b []=row:=by rw[List.getD_eq_getElem?_getD,hrow];rfl
  show bcode ((s.bf.getD b []).map Prod.snd) < betaB (kB p split b);rw[e];exact betaB_lt (bfv_range (hok.en row (List.mem_of_getElem? hrow))) (by rw[List.length_map];exact hbi.len hrow)
theorem codeL_rad (p:List (List Ins)) (split:Bool) (s s':Bf):(codeL p split s).map Prod.snd=(codeL p split s').map Prod.snd:=by
 unfold codeL pcC mmC rgC bfC;simp only[List.map_append,List.map_map];rfl
theorem codeL_inj {p:List (List Ins)}{split:Bool}{s s':Bf}(hv:progValid p=true) (h:ReachM (bfStart p split) (bfNext p split) s) (h':ReachM (bfStart p split) (bfNext p split) s') (e:mixC (codeL p split s)=mixC (codeL p split s')):s=s':=by
 have hok:=(BfOk.reach' (valid_ins hv) h).1;have hok':=(BfOk.reach' (valid_ins hv) h').1;have hbi:=BI.reach (valid_ins hv) h;have hbi':=BI.reach (valid_ins hv) h';have hl:=valid_le hv;have e1:=mixC_inj (codeL_rad p split s s') (codeL_ok hv h) (codeL_ok hv h') e;unfold codeL at e1;obtain⟨a1,e1⟩:=List.append_inj e1 (by simp[pcC]);obtain⟨a2,e1⟩:=List.append_inj e1 (by simp[mmC]);obtain⟨a3,a4⟩:=List.append_inj e1 (by simp[rgC]);have r1:∀ k,0≤s.q.pc.getD k 0:=fun k=>by
  rw[List.getD_eq_getElem?_getD];cases hk:s.q.pc[k]? with
  | none=>simp
  | some c =>
   obtain⟨r,hr⟩:=get_of_lt (xs:=p) (k:=k) (by rw[← hok.q.lp];exact(List.getElem?_eq_some_iff.1 hk).1);simpa using (hok.q.pc k c r hk hr).1
 have r1':∀ k,0≤s'.q.pc.getD k 0:=fun k=>by
  rw[List.getD_eq_getElem?_getD];cases hk:s'.q.pc[k]? with
  | none=>simp
  | some c =>
   obtain⟨r,hr⟩:=get_of_lt (xs:=p) (k:=k) (by rw[← hok'.q.lp];exact(List.getElem?_eq_some_iff.1 hk).1);simpa using (hok'.q.pc k c r hk hr).1
 have b1:∀ k,k < 3→s.q.pc.getD k 0=s'.q.pc.getD k 0:=fun k hk=>by
  have h1:=congrArg Prod.fst (map_range_inj a1 k hk);have h2:=r1 k;have h3:=r1' k
  simp only at h1;omega
 have b2:∀ k,k < 3→s.q.mm.getD k 0=s'.q.mm.getD k 0:=fun k hk=>by
  have h1:=congrArg Prod.fst (map_range_inj a2 k hk);have h2:=getD_range hok.q.mm k;have h3:=getD_range hok'.q.mm k
  simp only at h1;omega
 have b3:∀ k,k < 9→s.q.rg.getD k 0=s'.q.rg.getD k 0:=fun k hk=>by
  have h1:=congrArg Prod.fst (map_range_inj a3 k hk);have h2:=getD_range hok.q.rg k;have h3:=getD_range hok'.q.rg k
  simp only at h1;omega
 have hn:0 < bfN split:=by cases split <;> simp[bfN]
 have b4:s.bf=s'.bf:=by
  apply List.ext_getElem (by rw[hok.lb,hok'.lb]);intro b hb hb';have hbn:b < p.length * bfN split:=by rw[← hok.lb];exact hb
  have g:=List.getElem?_eq_getElem hb;have g':=List.getElem?_eq_getElem hb';have h1:=congrArg Prod.fst (map_range_inj a4 b hbn);simp only[List.getD_eq_getElem?_getD,g,g',Option.getD_some]at h1;have h2:=bcode_inj (bfv_range (hok.en _ (List.mem_of_getElem? g))) (bfv_range (hok'.en _ (List.mem_of_getElem? g'))) h1;have hdv:b / bfN split < 3:=Nat.lt_of_lt_of_le ((Nat.div_lt_iff_lt_mul hn).2 hbn) hl.1;exact BI.same hbi hbi' g g' (b1 _ hdv) h2
 refine bufB_inj hok hok' hl.1 ?_;unfold bufB sqB;rw[b4,b1 0 (by decide),b1 1 (by decide),b1 2 (by decide),b2 0 (by decide),b2 1 (by decide),b2 2 (by decide),b3 0 (by decide),b3 1 (by decide),b3 2 (by decide),b3 3 (by decide),b3 4 (by decide),b3 5 (by decide),b3 6 (by decide),b3 7 (by decide),b3 8 (by decide)]
def ind (b:Bool):Nat:=if b=true then 1 else 0
theorem ind_le (b:Bool):ind b≤1:=by cases b <;> simp[ind]
theorem reads_three (r:List Ins):ind (readsR r 0)+ind (readsR r 1)+ind (readsR r 2)≤r.countP fun x=>isRop x.op:=by
 induction r with
 | nil=>simp[readsR,ind]
 | cons x r ih =>
  have h:∀ g:Int,ind (readsR (x :: r) g)≤(if isRop x.op=true∧x.reg=g then 1 else 0)+ind (readsR r g):=fun g=>by
   unfold readsR;rw[List.any_cons];by_cases h1:isRop x.op=true∧x.reg=g
   ·rw[if_pos h1];have:=ind_le ((isRop x.op&&x.reg==g)||r.any fun x=>isRop x.op&&x.reg==g);omega
   ·rw[if_neg h1]
    have:(isRop x.op&&x.reg==g)=false:=by
     cases hr:isRop x.op with
     | false=>simp
     | true=>simp only[hr,true_and]at h1;simp[h1]
    rw[this,Bool.false_or];omega
  have h0:=h 0;have h1:=h 1;have h2:=h 2
  rw[List.countP_cons];by_cases hx:isRop x.op=true
  ·simp only[hx,true_and,if_true]at h0 h1 h2 ⊢
   by_cases e0:x.reg=0
   ·simp[e0]at h0 h1 h2;omega
   ·by_cases e1:x.reg=1
    ·simp[e1]at h0 h1 h2;omega
    ·simp only[e0,e1,if_false]at h0 h1
     split at h2 <;> omega
  ·have hx':isRop x.op=false:=by simpa using hx
   simp only[hx',Bool.false_eq_true,false_and,if_false]at h0 h1 h2 ⊢;omega
theorem st_three (t:Nat) (r:List Ins) (h:∀ x∈r,insValid x=true):(stAt true (t * 3) t r).length+(stAt true (t * 3+1) t r).length+(stAt true (t * 3+2) t r).length≤r.countP isSt:=by
 induction r with
 | nil=>simp[stAt]
 | cons x r ih =>
  have ih:=ih fun y hy=>h y (by simp[hy]);unfold stAt at ih ⊢;simp only[List.length_map]at ih ⊢;rw[List.countP_cons];have hc:∀ b,((x :: r).filter fun x=>isSt x&&decide (bfPlace t x.loc true=b)).length=(r.filter fun x=>isSt x&&decide (bfPlace t x.loc true=b)).length+if isSt x=true∧bfPlace t x.loc true=b then 1 else 0:=fun b=>by
   rw[List.filter_cons];by_cases h1:isSt x=true∧bfPlace t x.loc true=b
   ·rw[if_pos h1,if_pos (by simp[h1])];simp
   ·rw[if_neg h1,if_neg (by simpa using h1)];simp
  rw[hc,hc,hc];by_cases hx:isSt x=true
  ·simp only[hx,true_and,if_true]
   generalize bfPlace t x.loc true=q at *;by_cases e0:q=t * 3
   ·simp only[e0,if_true];rw[if_neg (by omega),if_neg (by omega)];omega
   ·by_cases e1:q=t * 3+1
    ·simp only[e1,if_true];rw[if_neg (by omega),if_neg (by omega)];omega
    ·rw[if_neg e0,if_neg e1];split <;> omega
  ·simp only[hx,false_and,Bool.false_eq_true,if_false]
   omega
theorem st_one (t:Nat) (r:List Ins):(stAt false t t r).length≤r.countP isSt:=by
 unfold stAt;rw[List.length_map,List.countP_eq_length_filter];have:(fun x:Ins=>isSt x&&decide (bfPlace t x.loc false=t))=isSt:=by funext x;simp[bfPlace]
 rw[this];exact Nat.le_refl _
theorem both_le (r:List Ins) (h:∀ x∈r,insValid x=true):(r.countP fun x=>isRop x.op)+r.countP isSt≤r.countP notFence:=by
 induction r with
 | nil=>simp
 | cons x r ih =>
  have ih:=ih fun y hy=>h y (by simp[hy]);have hv:=(ins_facts (h x (by simp))).1;simp only[List.countP_cons];generalize (r.countP fun x=>isRop x.op)=A at *;generalize r.countP isSt=B at *;generalize r.countP notFence=C at *;rcases hv with e | e | e | e | e <;> simp[isRop,isSt,notFence,e] <;> omega
theorem codes_le {p:List (List Ins)}{split:Bool}(hv:progValid p=true) (s:Bf):∃ R K,radP (rgC p s)=4 ^ R∧3 ^ (p.length * bfN split) * radP (bfC p split s)≤4 ^ (K+p.length * bfN split)∧R+K≤12:=by
 have hl:=valid_le hv;have hi:=valid_ins hv;refine⟨((List.range 9).map fun j=>ind (readsR (p.getD (j / 3) []) ((j % 3:Nat):Int))).sum,((List.range (p.length * bfN split)).map fun b=>kB p split b).sum,?_,?_,?_⟩
 ·have:∀ l:List Nat,radP (l.map fun j=>((s.q.rg.getD j 0).toNat,if readsR (p.getD (j / 3) []) ((j % 3:Nat):Int)=true then 4 else 1))=4 ^ (l.map fun j=>ind (readsR (p.getD (j / 3) []) ((j % 3:Nat):Int))).sum:=by
   intro l
   induction l with
   | nil=>rfl
   | cons j l ih =>
    simp only[List.map_cons,radP,List.sum_cons,Nat.pow_add,ih]
    congr 1
    unfold ind;split <;> rfl
  exact this _
 ·have:∀ l:List Nat,3 ^ l.length * radP (l.map fun b=>(bcode ((s.bf.getD b []).map Prod.snd),betaB (kB p split b)))≤4 ^ ((l.map fun b=>kB p split b).sum+l.length):=by
   intro l
   induction l with
   | nil=>simp[radP]
   | cons b l ih =>
    simp only[List.map_cons,radP,List.sum_cons,List.length_cons];have h1:=betaB_le (kB p split b);have h2:=Nat.mul_le_mul h1 ih;rw[← Nat.pow_add]at h2;rw[Nat.pow_succ,show kB p split b+(l.map fun b=>kB p split b).sum+(l.length+1)=kB p split b+1+((l.map fun b=>kB p split b).sum+l.length) by omega];refine Nat.le_trans (Nat.le_of_eq ?_) h2;generalize 3 ^ l.length=X;generalize betaB (kB p split b)=Y;generalize radP _=Z;rw[Nat.mul_assoc,Nat.mul_assoc,Nat.mul_left_comm X 3,Nat.mul_left_comm X Y]
  have h:=this (List.range (p.length * bfN split));rw[List.length_range]at h;exact h
 ·have row:∀ t r,p[t]? = some r→(ind (readsR r 0)+ind (readsR r 1)+ind (readsR r 2))+(if split=true then (stAt true (t * 3) t r).length+(stAt true (t * 3+1) t r).length+(stAt true (t * 3+2) t r).length else (stAt false t t r).length)≤r.countP notFence:=fun t r hr=>by
   have h0:=hi r (List.mem_of_getElem? hr);have h1:=reads_three r;have h2:=st_three t r h0;have h3:=st_one t r;have h4:=both_le r h0;split <;> omega
  have hc:=hl.2.2.2.1;have hp:=hl.1;clear hl hi hv;unfold kB
  match p,hp,row,hc with
  | [],_,_,_=>cases split <;> simp[List.range_succ,readsR,ind]
  | [a],_,row,hc =>
   have ra:=row 0 a rfl;simp only[cnt,List.flatten_cons,List.flatten_nil,List.append_nil]at hc;cases split <;> simp[List.range_succ,bfN,readsR,ind]at ra ⊢ <;> (try simp[readsR,ind]at ra) <;> omega
  | [a,b],_,row,hc =>
   have ra:=row 0 a rfl;have rb:=row 1 b rfl;simp only[cnt,List.flatten_cons,List.flatten_nil,List.append_nil,List.countP_append]at hc;cases split <;> simp[List.range_succ,bfN,readsR,ind]at ra rb ⊢ <;> omega
  | [a,b,c],_,row,hc =>
   have ra:=row 0 a rfl;have rb:=row 1 b rfl;have rc:=row 2 c rfl;simp only[cnt,List.flatten_cons,List.flatten_nil,List.append_nil,List.countP_append]at hc;cases split <;> simp[List.range_succ,bfN,readsR,ind]at ra rb rc ⊢ <;> omega
  | _ :: _ :: _ :: _ :: _,hp,_,_=>simp at hp
theorem codeL_le {p:List (List Ins)}{split:Bool}(hv:progValid p=true) (s:Bf):radP (codeL p split s)≤7321811000000:=by
 obtain⟨R,K,h1,h2,h3⟩:=codes_le (split:=split) hv s;have hnb:p.length * bfN split≤9:=by
  have h4:bfN split≤3:=by cases split <;> simp[bfN]
  have:=Nat.mul_le_mul (valid_le hv).1 h4;omega
 unfold codeL;rw[radP_app,radP_app,radP_app,h1];have e1:radP (pcC s)=512:=by simp[pcC,List.range_succ,radP]
 have e2:radP (mmC s)=64:=by simp[mmC,List.range_succ,radP]
 rw[e1,e2];generalize radP (bfC p split s)=X at *;generalize p.length * bfN split=nb at *;have h5:3 ^ (9 - nb) * (3 ^ nb * X)≤4 ^ (9 - nb) * 4 ^ (K+nb):=Nat.mul_le_mul (Nat.pow_le_pow_left (by decide) _) h2;rw[← Nat.mul_assoc,← Nat.pow_add,← Nat.pow_add,show 9 - nb+nb=9 by omega,show 9 - nb+(K+nb)=K+9 by omega]at h5;have h6:4 ^ R * (3 ^ 9 * X)≤4 ^ R * 4 ^ (K+9):=Nat.mul_le_mul_left _ h5;rw[← Nat.pow_add]at h6;have h7:4 ^ (R+(K+9))≤4 ^ 21:=Nat.pow_le_pow_right (by decide) (by omega);have h8:4 ^ R * (3 ^ 9 * X)=19683 * (4 ^ R * X):=by rw[Nat.mul_left_comm]
 have h9:(4:Nat) ^ 21=4398046511104:=by decide
 rw[h8]at h6;generalize 4 ^ R * X=Y at *;omega
theorem bf_few {p:List (List Ins)}{split:Bool}(hv:progValid p=true) {l:List Bf}(hn:l.Nodup) (h:∀ s∈l,ReachM (bfStart p split) (bfNext p split) s):l.length≤7321811000000:=by
 have h1:(l.map fun s=>mixC (codeL p split s)).Nodup:=by
  unfold List.Nodup;rw[List.pairwise_map];refine List.Pairwise.imp_of_mem ?_ hn;intro a b ha hb hab e;exact hab (codeL_inj hv (h a ha) (h b hb) e)
 have h2:=nodup_ltI 7321811000000 _ h1 fun x hx=>by
  obtain⟨s,hs,rfl⟩:=List.mem_map.1 hx;exact Nat.lt_of_lt_of_le (mixC_lt (codeL_ok hv (h s hs))) (codeL_le hv s)
 simpa using h2
end Go.Proofs.Ytnkfphndfijcoaa
/-
  Plain: how many states with views can be reached: fewer than a row of texts may hold. Condition: a valid program.
-/
import Derived.Test.YtnkfphndfijcoaaZo02
import Derived.Test.YtnkfphndfijcoaaZo04
import Derived.Test.YtnkfphndfijcoaaZo03
import Derived.Test.YtnkfphndfijcoaaZo00
set_option maxHeartbeats 6400000
set_option maxRecDepth 100000
namespace Go.Proofs.Ytnkfphndfijcoaa
theorem BfOk.reach {p:List (List Ins)}{split:Bool}(hp:∀ r∈p,∀ x∈r,insValid x=true) {s:Bf}(h:ReachM (bfStart p split) (bfNext p split) s):BfOk p split s:=by
 induction h with
 | start=>exact BfOk.start p split
 | step _ ht ih=>exact ih.next hp ht
def flatE (l:List (Int × Int)):List Int:=l.flatMap fun e=>[e.1,e.2]
def bfText:List (List (Int × Int))→List Int
 | []=>[]
 | l :: ls=>255 :: (flatE l++bfText ls)
def bfKey (s:Bf):List Int:=sqKey s.q++bfText s.bf
theorem bfText_head (ls:List (List (Int × Int))):bfText ls=[]∨∃ r,bfText ls=255 :: r:=by
 cases ls with
 | nil=>exact .inl rfl
 | cons l ls=>exact .inr ⟨_,rfl⟩
theorem flat_inj:∀ {l l':List (Int × Int)}{r r':List Int},(∀ e∈l,entOk e)→(∀ e∈l',entOk e)→(r=[]∨∃ q,r=255 :: q)→(r'=[]∨∃ q,r'=255 :: q)→flatE l++r=flatE l'++r'→l=l'∧r=r':=by
 intro l
 induction l with
 | nil =>
  intro l' r r' _ h2 hr _ he;cases l' with
  | nil=>exact⟨rfl,by simpa[flatE] using he⟩
  | cons e l' =>
   have h3:=h2 e (by simp);simp only[flatE,List.flatMap_nil,List.nil_append,List.flatMap_cons,List.cons_append]at he;rcases hr with hr | ⟨q,hr⟩
   ·rw[hr]at he;cases he
   ·rw[hr]at he
    simp only[List.cons.injEq]at he;unfold entOk at h3;omega
 | cons e l ih =>
  intro l' r r' h1 h2 hr hr' he;have h3:=h1 e (by simp);cases l' with
  | nil =>
   simp only[flatE,List.flatMap_nil,List.nil_append,List.flatMap_cons,List.cons_append]at he;rcases hr' with hr' | ⟨q,hr'⟩
   ·rw[hr']at he;cases he
   ·rw[hr']at he
    simp only[List.cons.injEq]at he;unfold entOk at h3;omega
  | cons e' l' =>
   simp only[flatE,List.nil_append,List.flatMap_cons,List.cons_append,List.cons.injEq]at he;obtain⟨a,b,c⟩:=he;obtain⟨h4,h5⟩:=ih (l':=l') (fun x hx=>h1 x (by simp[hx])) (fun x hx=>h2 x (by simp[hx])) hr hr' c;exact⟨by rw[h4,show e=e' from Prod.ext a b],h5⟩
theorem bfText_inj:∀ {ls ls':List (List (Int × Int))},(∀ l∈ls,∀ e∈l,entOk e)→(∀ l∈ls',∀ e∈l,entOk e)→bfText ls=bfText ls'→ls=ls':=by
 intro ls
 induction ls with
 | nil =>
  intro ls' _ _ he;cases ls' with
  | nil=>rfl
  | cons l ls'=>simp[bfText]at he
 | cons l ls ih =>
  intro ls' h1 h2 he;cases ls' with
  | nil=>simp[bfText]at he
  | cons l' ls' =>
   simp only[bfText,List.cons.injEq,true_and]at he;obtain⟨h3,h4⟩:=flat_inj (h1 l (by simp)) (h2 l' (by simp)) (bfText_head ls) (bfText_head ls') he;rw[h3,ih (fun x hx=>h1 x (by simp[hx])) (fun x hx=>h2 x (by simp[hx])) h4]
theorem bfKey_inj {p:List (List Ins)}{split:Bool}{s s':Bf}(h:BfOk p split s) (h':BfOk p split s') (e:bfKey s=bfKey s'):s=s':=by
 unfold bfKey at e;have hl:(sqKey s.q).length=(sqKey s'.q).length:=by simp[sqKey,h.q.lp,h.q.lr,h.q.lm,h'.q.lp,h'.q.lr,h'.q.lm]
 have e1:=List.append_inj e hl;have h1:=sqKey_inj h.q h'.q e1.1;have h2:=bfText_inj h.en h'.en e1.2;cases s;cases s';simp only at h1 h2;rw[h1,h2]
theorem bfKey_reach {p:List (List Ins)}{split:Bool}(hp:∀ r∈p,∀ x∈r,insValid x=true) (a b:Bf) (ha:ReachM (bfStart p split) (bfNext p split) a) (hb:ReachM (bfStart p split) (bfNext p split) b) (e:bfKey a=bfKey b):a=b:=
 bfKey_inj (BfOk.reach hp ha) (BfOk.reach hp hb) e
end Go.Proofs.Ytnkfphndfijcoaa
namespace Go.Proofs.Ytnkfphndfijcoaa
open Go.RowKit
end Go.Proofs.Ytnkfphndfijcoaa
namespace Go.Proofs.Ytnkfphndfijcoaa
open Go.RowKit
end Go.Proofs.Ytnkfphndfijcoaa
namespace Go.Proofs.Ytnkfphndfijcoaa
theorem place_div {split:Bool}{t:Nat}{loc:Int}(h0:0≤loc) (h2:loc≤2):bfPlace t loc split / bfN split=t:=by
 cases split
 ·simp[bfPlace,bfN]
 ·simp only[bfPlace,bfN,if_true];omega
end Go.Proofs.Ytnkfphndfijcoaa
namespace Go.Proofs.Ytnkfphndfijcoaa
open Go.RowKit
end Go.Proofs.Ytnkfphndfijcoaa
namespace Go.Proofs.Ytnkfphndfijcoaa
structure Mg where
 val:Int
 lock:Bool
 view:List Int
structure Vw where
 pc:List Int
 rg:List Int
 vw:List (List Int)
 ls:List (List Mg)
def vwStart (p:List (List Ins)):Vw:=⟨List.replicate p.length 0,List.replicate (p.length * 3) 0,List.replicate p.length [0,0,0],List.replicate 3 [⟨0,false,[0,0,0]⟩]⟩
def vwJoin (v u:List Int):List Int:=List.zipWith (fun a b=>if a < b then b else a) v u
def bump (loc:Nat) (k:Int) (v:List Int):List Int:=v.set loc (if k≤v.getD loc 0 then v.getD loc 0+1 else v.getD loc 0)
def bumpM (loc:Nat) (k:Int) (m:Mg):Mg:=⟨m.val,m.lock,bump loc k m.view⟩
def vwPut (s:Vw) (t loc:Nat) (k:Nat) (val:Int):Vw:=
 ⟨s.pc,s.rg,(s.vw.map (bump loc k)).set t ((bump loc k (s.vw.getD t [])).set loc k),
  (s.ls.map (List.map (bumpM loc k))).set loc (((s.ls.getD loc []).map (bumpM loc k)).take k++[⟨val,false,(bump loc k (s.vw.getD t [])).set loc k⟩]++((s.ls.getD loc []).map (bumpM loc k)).drop k)⟩
def vwGet (s:Vw) (t:Nat) (reg:Int) (m:Mg):Vw:=⟨s.pc,s.rg.set (t * 3+reg.toNat) m.val,s.vw.set t (vwJoin (s.vw.getD t []) m.view),s.ls⟩
def vwLock (s:Vw) (loc k:Nat):Vw:=⟨s.pc,s.rg,s.vw,s.ls.set loc ((s.ls.getD loc []).modify k fun m=>⟨m.val,true,m.view⟩)⟩
def vwStep (s:Vw) (t:Nat) (k:Int):Vw:=⟨s.pc.set t (k+1),s.rg,s.vw,s.ls⟩
def vwDo (s:Vw) (t:Nat) (c:Int) (k:Nat) (x:Ins):Option Vw:=
 let l:=s.ls.getD x.loc.toNat []
 let v:=(s.vw.getD t []).getD x.loc.toNat 0
 if x.op=4 then if k=0 then some (vwStep s t c) else none
 else if x.op=1 then match l[k]? with
  | some m=>if v≤k then some (vwGet (vwStep s t c) t x.reg m) else none
  | none=>none
 else if x.op=5 then match l[k]? with
  | some m=>if v≤k∧m.lock=false then some (vwPut (vwLock (vwGet (vwStep s t c) t x.reg m) x.loc.toNat k) t x.loc.toNat (k+1) x.val) else none
  | none=>none
 else match l[k - 1]? with
  | some m=>if v < k∧k≤l.length∧m.lock=false then some (vwPut (vwStep s t c) t x.loc.toNat k (if x.op=3 then s.rg.getD (t * 3+x.reg.toNat) 0 else x.val)) else none
  | none=>none
def vwNext (p:List (List Ins)) (s:Vw) (c:Nat):Option Vw:=
 match p[c % 3]?,s.pc[c % 3]? with
 | some r,some i=>match r[i.toNat]? with
  | some x=>vwDo s (c % 3) i (c / 3) x
  | none=>none
 | _,_=>none
def viewOk (ls:List (List Mg)) (v:List Int):Prop:=v.length=3∧∀ (i:Nat) (a:Int) (l:List Mg),v[i]? = some a→ls[i]? = some l→0≤a∧a < l.length
structure VwOk (p:List (List Ins)) (s:Vw):Prop where
 lp:s.pc.length=p.length
 lr:s.rg.length=p.length * 3
 lv:s.vw.length=p.length
 ll:s.ls.length=3
 pc:∀ (t:Nat) (k:Int) (r:List Ins),s.pc[t]? = some k→p[t]? = some r→0≤k∧k≤r.length
 rg:∀ x∈s.rg,0≤x∧x≤3
 vw:∀ v∈s.vw,viewOk s.ls v
 ms:∀ l∈s.ls,∀ m∈l,(0≤m.val∧m.val≤3)∧viewOk s.ls m.view
 ne:∀ l∈s.ls,0 < l.length
 lk:∀ l∈s.ls,∀ (k:Nat) (m:Mg),l[k]? = some m→m.lock=true→k+1 < l.length
theorem VwOk.start (p:List (List Ins)):VwOk p (vwStart p):=by
 have hv:viewOk (List.replicate 3 [(⟨0,false,[0,0,0]⟩:Mg)]) [0,0,0]:=by
  refine⟨rfl,fun i a l h1 h2 => ?_⟩;rw[List.getElem?_replicate]at h2;split at h2
  ·simp at h2;subst h2
   match i,h1 with
   | 0,h1=>simp at h1;subst h1;simp
   | 1,h1=>simp at h1;subst h1;simp
   | 2,h1=>simp at h1;subst h1;simp
   | i+3,h1=>simp at h1
  ·cases h2
 refine⟨by simp[vwStart],by simp[vwStart],by simp[vwStart],by simp[vwStart],fun t k r h _ => ?_,fun x hx=>by simp[vwStart]at hx;omega,fun v h => ?_,fun l h m hm => ?_,fun l h => ?_,fun l h k m hm hk => ?_⟩
 ·simp only[vwStart,List.getElem?_replicate]at h
  split at h
  ·simp at h;subst h;omega
  ·simp at h
 ·have:=List.eq_of_mem_replicate h;rw[this];exact hv
 ·have:=List.eq_of_mem_replicate h;rw[this]at hm
  simp at hm;subst hm;exact⟨by simp,hv⟩
 ·have:=List.eq_of_mem_replicate h;rw[this];simp
 ·have:=List.eq_of_mem_replicate h;rw[this]at hm
  cases k with
  | zero=>simp at hm;subst hm;simp at hk
  | succ k=>simp at hm
theorem VwOk.step {p:List (List Ins)}{s:Vw}(h:VwOk p s) {t:Nat}{c:Int}{r:List Ins}{x:Ins}(hr:p[t]? = some r) (hc:s.pc[t]? = some c) (hx:r[c.toNat]? = some x):VwOk p (vwStep s t c):=by
 have hk0:=h.pc t c r hc hr;have hlt:=(List.getElem?_eq_some_iff.1 hx).1;refine⟨by simp[vwStep,h.lp],h.lr,h.lv,h.ll,fun t' k' r' g1 g2 => ?_,h.rg,h.vw,h.ms,h.ne,h.lk⟩;simp only[vwStep]at g1;rw[List.getElem?_set]at g1;by_cases e:t=t'
 ·subst e
  rw[if_pos rfl]at g1;split at g1
  ·simp only[Option.some.injEq]at g1
   rw[hr]at g2;simp only[Option.some.injEq]at g2;subst g2;omega
  ·cases g1
 ·rw[if_neg e]at g1;exact h.pc t' k' r' g1 g2
theorem viewOk.join {ls:List (List Mg)}{v u:List Int}(h:viewOk ls v) (h':viewOk ls u):viewOk ls (vwJoin v u):=by
 refine⟨by simp[vwJoin,h.1,h'.1],fun i a l h1 h2 => ?_⟩;unfold vwJoin at h1;rw[List.getElem?_zipWith]at h1;cases h3:v[i]? with
 | none=>rw[h3]at h1;cases h1
 | some b =>
  cases h4:u[i]? with
  | none=>rw[h3,h4]at h1;cases h1
  | some c =>
   rw[h3,h4]at h1;simp only[Option.some.injEq]at h1;have:=h.2 i b l h3 h2;have:=h'.2 i c l h4 h2;split at h1 <;> omega
theorem VwOk.view {p:List (List Ins)}{s:Vw}(h:VwOk p s) {t:Nat}(ht:t < p.length):viewOk s.ls (s.vw.getD t []):=by
 obtain⟨v,hv⟩:=get_of_lt (xs:=s.vw) (k:=t) (by rw[h.lv];exact ht);rw[List.getD_eq_getElem?_getD,hv];exact h.vw v (List.mem_of_getElem? hv)
theorem VwOk.get {p:List (List Ins)}{s:Vw}(h:VwOk p s) {t:Nat}(ht:t < p.length) {reg:Int}{l:List Mg}{m:Mg}(hl:l∈s.ls) (hm:m∈l):VwOk p (vwGet s t reg m):=by
 obtain⟨h1,h2⟩:=h.ms l hl m hm;refine⟨h.lp,by simp[vwGet,h.lr],by simp[vwGet,h.lv],h.ll,h.pc,set_range h.rg h1 _,fun v hv => ?_,h.ms,h.ne,h.lk⟩;rcases List.mem_or_eq_of_mem_set hv with e | e
 ·exact h.vw v e
 ·rw[e];exact(h.view ht).join h2
end Go.Proofs.Ytnkfphndfijcoaa
namespace Go.Proofs.Ytnkfphndfijcoaa
structure VwOk0 (p:List (List Ins)) (s:Vw):Prop where
 lp:s.pc.length=p.length
 lr:s.rg.length=p.length * 3
 lv:s.vw.length=p.length
 ll:s.ls.length=3
 pc:∀ (t:Nat) (k:Int) (r:List Ins),s.pc[t]? = some k→p[t]? = some r→0≤k∧k≤r.length
 rg:∀ x∈s.rg,0≤x∧x≤3
 vw:∀ v∈s.vw,viewOk s.ls v
 ms:∀ l∈s.ls,∀ m∈l,(0≤m.val∧m.val≤3)∧viewOk s.ls m.view
 ne:∀ l∈s.ls,0 < l.length
theorem VwOk.to0 {p:List (List Ins)}{s:Vw}(h:VwOk p s):VwOk0 p s:=⟨h.lp,h.lr,h.lv,h.ll,h.pc,h.rg,h.vw,h.ms,h.ne⟩
theorem VwOk0.full {p:List (List Ins)}{s:Vw}(h:VwOk0 p s) (hk:∀ l∈s.ls,∀ (k:Nat) (m:Mg),l[k]? = some m→m.lock=true→k+1 < l.length):VwOk p s:=⟨h.lp,h.lr,h.lv,h.ll,h.pc,h.rg,h.vw,h.ms,h.ne,hk⟩
theorem viewOk.len {ls ls':List (List Mg)}{v:List Int}(h:viewOk ls v) (hl:∀ (i:Nat) (l':List Mg),ls'[i]? = some l'→∃ l,ls[i]? = some l∧l.length≤l'.length):viewOk ls' v:=
 ⟨h.1,fun i a l' h1 h2=>by
  obtain⟨l,h3,h4⟩:=hl i l' h2;have:=h.2 i a l h1 h3;omega⟩
theorem viewOk.bump {ls ls':List (List Mg)}{v:List Int}{loc:Nat}{k:Int}(h:viewOk ls v) (hl:∀ (i:Nat) (l':List Mg),ls'[i]? = some l'→∃ l,ls[i]? = some l∧l'.length=l.length+(if i=loc then 1 else 0)):viewOk ls' (bump loc k v):=by
 refine⟨by unfold Go.Proofs.Ytnkfphndfijcoaa.bump;rw[List.length_set];exact h.1,fun i a l' h1 h2 => ?_⟩;obtain⟨l,h3,h4⟩:=hl i l' h2;unfold Go.Proofs.Ytnkfphndfijcoaa.bump at h1;rw[List.getElem?_set]at h1;by_cases e:loc=i
 ·subst e
  rw[if_pos rfl]at h1;rw[if_pos rfl]at h4;split at h1
  ·rename_i hlt
   obtain⟨b,hb⟩:=get_of_lt hlt;rw[List.getD_eq_getElem?_getD,hb]at h1;simp only[Option.getD_some,Option.some.injEq]at h1;have:=h.2 _ b l hb h3;split at h1 <;> omega
  ·cases h1
 ·rw[if_neg e]at h1
  rw[if_neg (fun q=>e q.symm)]at h4;have:=h.2 i a l h1 h3;omega
theorem viewOk.put {ls:List (List Mg)}{v:List Int}{loc:Nat}{k:Nat}(h:viewOk ls v) (hk:∀ l,ls[loc]? = some l→k < l.length):viewOk ls (v.set loc k):=by
 refine⟨by rw[List.length_set];exact h.1,fun i a l h1 h2 => ?_⟩;rw[List.getElem?_set]at h1;by_cases e:loc=i
 ·subst e
  rw[if_pos rfl]at h1;split at h1
  ·simp only[Option.some.injEq]at h1
   have:=hk l h2;omega
  ·cases h1
 ·rw[if_neg e]at h1
  exact h.2 i a l h1 h2
theorem VwOk0.lock {p:List (List Ins)}{s:Vw}(h:VwOk0 p s) (loc k:Nat):VwOk0 p (vwLock s loc k):=by
 have hlen:∀ (i:Nat) (l':List Mg),(vwLock s loc k).ls[i]? = some l'→∃ l,s.ls[i]? = some l∧l.length≤l'.length:=by
  intro i l' hi;simp only[vwLock]at hi;rcases (show (i=loc∧l'=(s.ls.getD loc []).modify k fun m=>⟨m.val,true,m.view⟩)∨(i≠loc∧s.ls[i]? = some l') by
   rw[List.getElem?_set]at hi;by_cases e:loc=i
   ·subst e
    rw[if_pos rfl]at hi;split at hi
    ·simp only[Option.some.injEq]at hi;exact .inl ⟨rfl,hi.symm⟩
    ·cases hi
   ·rw[if_neg e]at hi;exact .inr ⟨fun q=>e q.symm,hi⟩) with⟨rfl,rfl⟩ | ⟨-,e⟩
  ·obtain⟨l,hl⟩:=get_of_lt (xs:=s.ls) (k:=i) (by have:=(List.getElem?_eq_some_iff.1 hi).1;simpa using this)
   refine⟨l,hl,?_⟩;rw[List.getD_eq_getElem?_getD,hl,List.length_modify];simp
  ·exact⟨l',e,Nat.le_refl _⟩
 have hvw:=fun (v:List Int) (hv:viewOk s.ls v)=>hv.len hlen;refine⟨h.lp,h.lr,h.lv,by simp[vwLock,h.ll],h.pc,h.rg,fun v hv=>hvw v (h.vw v hv),fun l hl m hm => ?_,fun l hl => ?_⟩
 ·simp only[vwLock]at hl
  rcases List.mem_or_eq_of_mem_set hl with e | e
  ·obtain⟨h1,h2⟩:=h.ms l e m hm
   exact⟨h1,hvw _ h2⟩
  ·rw[e]at hm
   rw[List.getD_eq_getElem?_getD]at hm;cases hq:s.ls[loc]? with
   | none=>rw[hq]at hm;simp at hm
   | some q =>
    rw[hq]at hm;simp only[Option.getD_some]at hm;obtain⟨j,hj⟩:=List.getElem?_of_mem hm;rw[List.getElem?_modify]at hj;cases hqj:q[j]? with
    | none=>rw[hqj]at hj;simp at hj
    | some m0 =>
     rw[hqj]at hj;obtain⟨h1,h2⟩:=h.ms q (List.mem_of_getElem? hq) m0 (List.mem_of_getElem? hqj);by_cases hkj:k=j
     ·simp[hkj]at hj;subst hj;exact⟨h1,hvw _ h2⟩
     ·simp[hkj]at hj;subst hj;exact⟨h1,hvw _ h2⟩
 ·obtain⟨i,hi⟩:=List.getElem?_of_mem hl
  obtain⟨l0,h1,h2⟩:=hlen i l hi;have:=h.ne l0 (List.mem_of_getElem? h1);omega
end Go.Proofs.Ytnkfphndfijcoaa
namespace Go.Proofs.Ytnkfphndfijcoaa
theorem vwPut_ls {s:Vw}{t loc k:Nat}{val:Int}{i:Nat}{l':List Mg}(hi:(vwPut s t loc k val).ls[i]? = some l'):∃ l,s.ls[i]? = some l∧((i≠loc∧l'=l.map (bumpM loc k))∨(i=loc∧l'=(l.map (bumpM loc k)).take k++[⟨val,false,(bump loc k (s.vw.getD t [])).set loc k⟩]++(l.map (bumpM loc k)).drop k)):=by
 simp only[vwPut]at hi;rw[List.getElem?_set]at hi;by_cases e:loc=i
 ·subst e
  rw[if_pos rfl]at hi;split at hi
  ·rename_i hlt
   obtain⟨l,hl⟩:=get_of_lt (xs:=s.ls) (k:=loc) (by simpa using hlt);rw[List.getD_eq_getElem?_getD,hl]at hi;simp only[Option.getD_some,Option.some.injEq]at hi;exact⟨l,hl,.inr ⟨rfl,hi.symm⟩⟩
  ·cases hi
 ·rw[if_neg e,List.getElem?_map]at hi
  cases hl:s.ls[i]? with
  | none=>rw[hl]at hi;cases hi
  | some l =>
   rw[hl]at hi;simp only[Option.map_some,Option.some.injEq]at hi;exact⟨l,rfl,.inl ⟨fun q=>e q.symm,hi.symm⟩⟩
theorem VwOk0.put {p:List (List Ins)}{s:Vw}(h:VwOk0 p s) {t loc k:Nat}{val:Int}(ht:t < p.length) (hv:0≤val∧val≤3) (hk:∀ l,s.ls[loc]? = some l→k≤l.length)
 (hlk:∀ (i:Nat) (l:List Mg),s.ls[i]? = some l→∀ (j:Nat) (m:Mg),l[j]? = some m→m.lock=true→(i=loc∧j < k)∨j+1 < l.length):VwOk p (vwPut s t loc k val):=by
 have hlen:∀ (i:Nat) (l':List Mg),(vwPut s t loc k val).ls[i]? = some l'→∃ l,s.ls[i]? = some l∧l'.length=l.length+(if i=loc then 1 else 0):=by
  intro i l' hi;obtain⟨l,hl,⟨e1,rfl⟩ | ⟨rfl,rfl⟩⟩:=vwPut_ls hi
  ·exact⟨l,hl,by rw[if_neg e1,List.length_map];rfl⟩
  ·have:=hk l hl
   refine⟨l,hl,?_⟩;rw[if_pos rfl];simp only[List.length_append,List.length_take,List.length_drop,List.length_map,List.length_cons,List.length_nil];omega
 have hb:∀ v,viewOk s.ls v→viewOk (vwPut s t loc k val).ls (bump loc k v):=fun v hv=>hv.bump hlen;have ht0:viewOk s.ls (s.vw.getD t []):=by
  obtain⟨v,hv⟩:=get_of_lt (xs:=s.vw) (k:=t) (by rw[h.lv];exact ht);rw[List.getD_eq_getElem?_getD,hv];exact h.vw v (List.mem_of_getElem? hv)
 have hnew:viewOk (vwPut s t loc k val).ls ((bump loc k (s.vw.getD t [])).set loc k):=(hb _ ht0).put fun l' hl'=>by
  obtain⟨l,hl,e⟩:=hlen loc l' hl';have:=hk l hl;rw[if_pos rfl]at e;omega
 refine VwOk0.full ⟨h.lp,h.lr,by simp[vwPut,h.lv],by simp[vwPut,h.ll],h.pc,h.rg,fun v hvv => ?_,fun l' hl' m hm => ?_,fun l' hl' => ?_⟩ fun l' hl' j m hj hm => ?_
 ·simp only[vwPut]at hvv
  rcases List.mem_or_eq_of_mem_set hvv with e | e
  ·obtain⟨u,hu,rfl⟩:=List.mem_map.1 e
   exact hb u (h.vw u hu)
  ·rw[e];exact hnew
 ·obtain⟨i,hi⟩:=List.getElem?_of_mem hl'
  obtain⟨l,hl,e⟩:=vwPut_ls hi;have old:m∈l.map (bumpM loc k)→(0≤m.val∧m.val≤3)∧viewOk (vwPut s t loc k val).ls m.view:=fun hq=>by
   obtain⟨m0,hm0,rfl⟩:=List.mem_map.1 hq;obtain⟨g1,g2⟩:=h.ms l (List.mem_of_getElem? hl) m0 hm0;exact⟨g1,hb _ g2⟩
  rcases e with⟨-,rfl⟩ | ⟨-,rfl⟩
  ·exact old hm
  ·rcases List.mem_append.1 hm with g | g
   ·rcases List.mem_append.1 g with g | g
    ·exact old (List.mem_of_mem_take g)
    ·simp only[List.mem_singleton]at g
     rw[g];exact⟨hv,hnew⟩
   ·exact old (List.mem_of_mem_drop g)
 ·obtain⟨i,hi⟩:=List.getElem?_of_mem hl'
  obtain⟨l,hl,e⟩:=hlen i l' hi;have:=h.ne l (List.mem_of_getElem? hl);omega
 ·obtain⟨i,hi⟩:=List.getElem?_of_mem hl'
  obtain⟨l,hl,e⟩:=vwPut_ls hi;obtain⟨l2,hl2,e2⟩:=hlen i l' hi;rw[hl]at hl2;simp only[Option.some.injEq]at hl2;subst hl2;rcases e with⟨hne,rfl⟩ | ⟨rfl,rfl⟩
  ·rw[List.getElem?_map]at hj
   cases hq:l[j]? with
   | none=>rw[hq]at hj;cases hj
   | some m0 =>
    rw[hq]at hj;simp only[Option.map_some,Option.some.injEq]at hj;subst hj;rcases hlk i l hl j m0 hq hm with g | g
    ·exact absurd g.1 hne
    ·rw[e2,if_neg hne];omega
  ·have hkl:=hk l hl
   rw[e2,if_pos rfl];have ltk:((l.map (bumpM i k)).take k).length=k:=by rw[List.length_take,List.length_map];omega
   rcases Nat.lt_or_ge j k with hjk | hjk
   ·omega
   ·rw[List.append_assoc,List.getElem?_append_right (by rw[ltk];exact hjk),ltk]at hj
    cases hd:j - k with
    | zero =>
     rw[hd]at hj;simp only[List.cons_append,List.nil_append,List.getElem?_cons_zero,Option.some.injEq]at hj;subst hj;simp at hm
    | succ d =>
     rw[hd]at hj;simp only[List.cons_append,List.nil_append,List.getElem?_cons_succ]at hj;rw[List.getElem?_drop,List.getElem?_map]at hj;cases hq:l[k+d]? with
     | none=>rw[hq]at hj;cases hj
     | some m0 =>
      rw[hq]at hj;simp only[Option.map_some,Option.some.injEq]at hj;subst hj;rcases hlk i l hl (k+d) m0 hq hm with g | g <;> omega
end Go.Proofs.Ytnkfphndfijcoaa
namespace Go.Proofs.Ytnkfphndfijcoaa
theorem vwNext_parts {p:List (List Ins)}{s s':Vw}{c:Nat}(h:vwNext p s c=some s'):∃ r i x,p[c % 3]? = some r∧s.pc[c % 3]? = some i∧r[i.toNat]? = some x∧vwDo s (c % 3) i (c / 3) x=some s':=by
 unfold vwNext at h;split at h
 ·rename_i r i hr hi
  split at h
  ·rename_i x hx
   exact⟨r,i,x,hr,hi,hx,h⟩
  ·cases h
 ·cases h
theorem ls_getD {p:List (List Ins)}{s:Vw}(h:VwOk p s) {loc:Int}(h0:0≤loc) (h2:loc≤2):∃ l,s.ls[loc.toNat]? = some l∧s.ls.getD loc.toNat []=l∧l∈s.ls:=by
 obtain⟨l,hl⟩:=get_of_lt (xs:=s.ls) (k:=loc.toNat) (by rw[h.ll];omega);exact⟨l,hl,by rw[List.getD_eq_getElem?_getD,hl];rfl,List.mem_of_getElem? hl⟩
theorem op_loc {x:Ins}(hv:insValid x=true) (h4:x.op≠4):0≤x.loc∧x.loc≤2:=by
 unfold insValid inB at hv;split at hv
 ·simp at hv;omega
 ·split at hv
  ·simp at hv;omega
  ·split at hv
   ·simp at hv;omega
   ·cases hv
theorem op_val {x:Ins}(hv:insValid x=true) (h:x.op≠3) (h1:x.op≠1) (h4:x.op≠4):0≤x.val∧x.val≤3:=by
 unfold insValid inB at hv;split at hv
 ·omega
 ·split at hv
  ·simp at hv;omega
  ·split at hv
   ·simp at hv;omega
   ·cases hv
theorem VwOk.next {p:List (List Ins)}{s s':Vw}{c:Nat}(h:VwOk p s) (hp:∀ r∈p,∀ x∈r,insValid x=true) (hn:vwNext p s c=some s'):VwOk p s':=by
 obtain⟨r,i,x,hr,hi,hx,hd⟩:=vwNext_parts hn;have hv:=hp r (List.mem_of_getElem? hr) x (List.mem_of_getElem? hx);have ht:=(List.getElem?_eq_some_iff.1 hr).1;have hs:=h.step hr hi hx;unfold vwDo at hd;simp only at hd;split at hd
 ·split at hd
  ·simp only[Option.some.injEq]at hd
   subst hd;exact hs
  ·cases hd
 ·rename_i h4
  obtain⟨hl0,hl2⟩:=op_loc hv h4;obtain⟨l,hl,he,hml⟩:=ls_getD h hl0 hl2;rw[he]at hd;split at hd
  ·split at hd
   ·rename_i m hm
    split at hd
    ·simp only[Option.some.injEq]at hd
     subst hd;exact hs.get ht (l:=l) hml (List.mem_of_getElem? hm)
    ·cases hd
   ·cases hd
  ·rename_i h1
   split at hd
   ·rename_i h5
    split at hd
    ·rename_i m hm
     split at hd
     ·rename_i hc
      simp only[Option.some.injEq]at hd;subst hd;have hg:=hs.get ht (reg:=x.reg) (l:=l) hml (List.mem_of_getElem? hm);have hkl:=(List.getElem?_eq_some_iff.1 hm).1;have hls:(vwGet (vwStep s (c % 3) i) (c % 3) x.reg m).ls=s.ls:=rfl;refine(hg.to0.lock x.loc.toNat (c / 3)).put ht (op_val hv (by omega) h1 h4) (fun l' hl' => ?_) (fun j l' hl' q m' hq hm' => ?_)
      ·simp only[vwLock,hls,he]at hl'
       rw[List.getElem?_set,if_pos rfl]at hl';split at hl'
       ·simp only[Option.some.injEq]at hl'
        subst hl';rw[List.length_modify];omega
       ·cases hl'
      ·simp only[vwLock,hls,he]at hl'
       rw[List.getElem?_set]at hl';by_cases e:x.loc.toNat=j
       ·rw[if_pos e]at hl'
        split at hl'
        ·simp only[Option.some.injEq]at hl'
         subst hl';rw[List.getElem?_modify]at hq;rw[List.length_modify];by_cases hkq:c / 3=q
         ·exact .inl ⟨e.symm,by omega⟩
         ·simp[hkq]at hq
          exact .inr (h.lk l hml q m' hq hm')
        ·cases hl'
       ·rw[if_neg e]at hl'
        exact .inr (h.lk l' (List.mem_of_getElem? hl') q m' hq hm')
     ·cases hd
    ·cases hd
   ·rename_i h5
    split at hd
    ·rename_i m hm
     split at hd
     ·rename_i hc
      simp only[Option.some.injEq]at hd;subst hd;have hls:(vwStep s (c % 3) i).ls=s.ls:=rfl;refine hs.to0.put ht ?_ (fun l' hl' => ?_) (fun j l' hl' q m' hq hm' => .inr (h.lk l' (List.mem_of_getElem? hl') q m' hq hm'))
      ·split
       ·exact getD_range h.rg _
       ·rename_i h3
        exact op_val hv h3 h1 h4
      ·rw[hls,hl]at hl'
       simp only[Option.some.injEq]at hl';subst hl';exact hc.2.1
     ·cases hd
    ·cases hd
theorem VwOk.reach {p:List (List Ins)}(hp:∀ r∈p,∀ x∈r,insValid x=true) {s:Vw}(h:ReachM (vwStart p) (vwNext p) s):VwOk p s:=by
 induction h with
 | start=>exact VwOk.start p
 | step _ ht ih=>exact ih.next hp ht
def vwLeft (p:List (List Ins)) (s:Vw):Nat:=sqLeft p ⟨s.pc,s.rg,[0,0,0]⟩
theorem vwDo_pc {s s':Vw}{t:Nat}{i:Int}{k:Nat}{x:Ins}(h:vwDo s t i k x=some s'):s'.pc=s.pc.set t (i+1):=by
 unfold vwDo at h;simp only at h
 repeat' split at h
 all_goals first
  | (cases h;rfl)
  | cases h
theorem vwLeft_next {p:List (List Ins)}{s s':Vw}{c:Nat}(h:VwOk p s) (hn:vwNext p s c=some s'):vwLeft p s' < vwLeft p s:=by
 obtain⟨r,i,x,hr,hi,hx,hd⟩:=vwNext_parts hn;have hpc:=vwDo_pc hd;have hq:SqOk p ⟨s.pc,s.rg,[0,0,0]⟩:=⟨h.lp,h.lr,rfl,h.pc,h.rg,fun x hx=>by simp at hx;omega⟩
 have h1:=sqLeft_next hq (show sqNext p ⟨s.pc,s.rg,[0,0,0]⟩ (c % 3)=some (sqDo ⟨s.pc,s.rg,[0,0,0]⟩ (c % 3) i x) by unfold sqNext;simp[hr,hi,hx]);unfold vwLeft;rw[hpc];exact h1
def vwDone (p:List (List Ins)) (s:Vw):Bool:=(List.range p.length).all fun t=>decide (¬ s.pc.getD t 0 < ((p.getD t []).length:Int))
def vwOut (s:Vw):List Int:=s.rg++s.ls.map fun l=>(l.getLast?.map Mg.val).getD 0
end Go.Proofs.Ytnkfphndfijcoaa
namespace Go.Proofs.Ytnkfphndfijcoaa
theorem vwOut_length {p:List (List Ins)}{s:Vw}(h:VwOk p s):(vwOut s).length=p.length * 3+3:=by
 unfold vwOut;rw[List.length_append,h.lr,List.length_map,h.ll]
theorem vwOut_range {p:List (List Ins)}{s:Vw}(h:VwOk p s):∀ x∈vwOut s,0≤x∧x≤3:=fun x hx=>by
 unfold vwOut at hx;rcases List.mem_append.1 hx with e | e
 ·exact h.rg x e
 ·obtain⟨l,hl,rfl⟩:=List.mem_map.1 e
  cases hq:l.getLast? with
  | none=>simp
  | some m=>simpa using (h.ms l hl m (List.mem_of_getLast? hq)).1
end Go.Proofs.Ytnkfphndfijcoaa
namespace Go.Proofs.Ytnkfphndfijcoaa
theorem lens_set {α:Type}:∀ (l:List (List α)) (k:Nat) (y:List α),(∀ x,l[k]? = some x→y.length≤x.length+1)→((l.set k y).map List.length).sum≤(l.map List.length).sum+1:=by
 intro l
 induction l with
 | nil=>intro k y _;simp
 | cons z l ih =>
  intro k y h;cases k with
  | zero =>
   have:=h z (by simp);simp only[List.set_cons_zero,List.map_cons,List.sum_cons];omega
  | succ k =>
   have:=ih k y (fun x hx=>h x (by simpa using hx));simp only[List.set_cons_succ,List.map_cons,List.sum_cons];omega
def vwLen (s:Vw):Nat:=(s.ls.map List.length).sum
theorem vwPut_len (s:Vw) (t loc k:Nat) (val:Int):vwLen (vwPut s t loc k val)≤vwLen s+1:=by
 unfold vwLen vwPut;simp only;refine Nat.le_trans (lens_set _ _ _ fun x hx => ?_) ?_
 ·rw[List.getElem?_map]at hx
  cases hl:s.ls[loc]? with
  | none=>rw[hl]at hx;cases hx
  | some l =>
   rw[hl]at hx;simp only[Option.map_some,Option.some.injEq]at hx;subst hx;rw[List.getD_eq_getElem?_getD,hl];simp only[Option.getD_some,List.length_append,List.length_take,List.length_drop,List.length_map,List.length_cons,List.length_nil];omega
 ·rw[List.map_map]
  have:(List.length ∘ List.map (bumpM loc k))=(List.length:List Mg→Nat):=by funext x;simp
  rw[this];exact Nat.le_refl _
theorem vwLock_ls (s:Vw) (loc k:Nat):(vwLock s loc k).ls.map List.length=s.ls.map List.length:=by
 unfold vwLock;simp only;apply List.ext_getElem?;intro i;rw[List.getElem?_map,List.getElem?_map,List.getElem?_set];by_cases e:loc=i
 ·subst e
  rw[if_pos rfl];cases hl:s.ls[loc]? with
  | none=>rw[if_neg (by have:=List.getElem?_eq_none_iff.1 hl;omega)]
  | some l=>rw[if_pos (List.getElem?_eq_some_iff.1 hl).1,List.getD_eq_getElem?_getD,hl];simp
 ·rw[if_neg e]
theorem vwLock_len (s:Vw) (loc k:Nat):vwLen (vwLock s loc k)=vwLen s:=by unfold vwLen;rw[vwLock_ls]
theorem vwDo_len {s s':Vw}{t:Nat}{i:Int}{k:Nat}{x:Ins}(h:vwDo s t i k x=some s'):vwLen s'≤vwLen s+1:=by
 unfold vwDo at h;simp only at h
 repeat' split at h
 all_goals first
  | (cases h;exact Nat.le_succ _)
  | (cases h;exact vwPut_len _ _ _ _ _)
  | (cases h;exact Nat.le_trans (vwPut_len _ _ _ _ _) (Nat.le_of_eq (by rw[vwLock_len];rfl)))
  | cases h
theorem vw_lens {p:List (List Ins)}(hp:∀ r∈p,∀ x∈r,insValid x=true) {s:Vw}(h:ReachM (vwStart p) (vwNext p) s):vwLen s+vwLeft p s≤3+vwLeft p (vwStart p):=by
 induction h with
 | start=>exact Nat.le_of_eq (by simp[vwLen,vwStart])
 | step hr ht ih =>
  have h1:=vwLeft_next (VwOk.reach hp hr) ht;obtain⟨r,i,x,-,-,-,hd⟩:=vwNext_parts ht;have h2:=vwDo_len hd;omega
def mText (m:Mg):List Int:=m.val :: ((if m.lock=true then [254] else [])++m.view)
def msText:List Mg→List Int
 | []=>[]
 | m :: l=>mText m++msText l
def lsText:List (List Mg)→List Int
 | []=>[]
 | l :: ls=>255 :: (msText l++lsText ls)
def vwKey (s:Vw):List Int:=s.pc++s.rg++s.vw.flatten++lsText s.ls
def mOk (m:Mg):Prop:=(0≤m.val∧m.val≤3)∧m.view.length=3∧∀ a∈m.view,a < 254
theorem mText_inj {m m':Mg}{r r':List Int}(h:mOk m) (h':mOk m') (e:mText m++r=mText m'++r'):m=m'∧r=r':=by
 obtain⟨v,l,w⟩:=m;obtain⟨v',l',w'⟩:=m';obtain⟨-,h2,h3⟩:=h;obtain⟨-,h2',h3'⟩:=h';simp only at h2 h3 h2' h3';simp only[mText,List.cons_append,List.append_assoc,List.cons.injEq]at e;obtain⟨rfl,e⟩:=e
 match w,h2,h3 with
 | [a,b,c],_,h3 =>
  match w',h2',h3' with
  | [a',b',c'],_,h3' =>
   have ha:=h3 a (by simp);have ha':=h3' a' (by simp);cases l <;> cases l' <;> simp at e
   ·obtain⟨rfl,rfl,rfl,rfl⟩:=e;exact⟨rfl,rfl⟩
   ·omega
   ·omega
   ·obtain⟨rfl,rfl,rfl,rfl⟩:=e;exact⟨rfl,rfl⟩
theorem msText_inj:∀ {l l':List Mg}{r r':List Int},(∀ m∈l,mOk m)→(∀ m∈l',mOk m)→(r=[]∨∃ q,r=255 :: q)→(r'=[]∨∃ q,r'=255 :: q)→msText l++r=msText l'++r'→l=l'∧r=r':=by
 intro l
 induction l with
 | nil =>
  intro l' r r' _ h2 hr _ he;cases l' with
  | nil=>exact⟨rfl,by simpa[msText] using he⟩
  | cons m l' =>
   have h3:=(h2 m (by simp)).1;simp only[msText,mText,List.nil_append,List.cons_append]at he;rcases hr with hr | ⟨q,hr⟩
   ·rw[hr]at he;cases he
   ·rw[hr]at he
    simp only[List.cons.injEq]at he;omega
 | cons m l ih =>
  intro l' r r' h1 h2 hr hr' he;cases l' with
  | nil =>
   have h3:=(h1 m (by simp)).1;simp only[msText,mText,List.nil_append,List.cons_append]at he;rcases hr' with hr' | ⟨q,hr'⟩
   ·rw[hr']at he;cases he
   ·rw[hr']at he
    simp only[List.cons.injEq]at he;omega
  | cons m' l' =>
   simp only[msText,List.append_assoc]at he;obtain⟨h3,h4⟩:=mText_inj (h1 m (by simp)) (h2 m' (by simp)) he;obtain⟨h5,h6⟩:=ih (fun x hx=>h1 x (by simp[hx])) (fun x hx=>h2 x (by simp[hx])) hr hr' h4;exact⟨by rw[h3,h5],h6⟩
theorem lsText_head (ls:List (List Mg)):lsText ls=[]∨∃ r,lsText ls=255 :: r:=by
 cases ls with
 | nil=>exact .inl rfl
 | cons l ls=>exact .inr ⟨_,rfl⟩
theorem lsText_inj:∀ {ls ls':List (List Mg)},(∀ l∈ls,∀ m∈l,mOk m)→(∀ l∈ls',∀ m∈l,mOk m)→lsText ls=lsText ls'→ls=ls':=by
 intro ls
 induction ls with
 | nil =>
  intro ls' _ _ he;cases ls' with
  | nil=>rfl
  | cons l ls'=>simp[lsText]at he
 | cons l ls ih =>
  intro ls' h1 h2 he;cases ls' with
  | nil=>simp[lsText]at he
  | cons l' ls' =>
   simp only[lsText,List.cons.injEq,true_and]at he;obtain⟨h3,h4⟩:=msText_inj (h1 l (by simp)) (h2 l' (by simp)) (lsText_head ls) (lsText_head ls') he;rw[h3,ih (fun x hx=>h1 x (by simp[hx])) (fun x hx=>h2 x (by simp[hx])) h4]
end Go.Proofs.Ytnkfphndfijcoaa
namespace Go.Proofs.Ytnkfphndfijcoaa
theorem flat3_inj:∀ {a b:List (List Int)},(∀ x∈a,x.length=3)→(∀ x∈b,x.length=3)→a.length=b.length→a.flatten=b.flatten→a=b:=by
 intro a
 induction a with
 | nil=>intro b _ _ h _;exact(List.eq_nil_of_length_eq_zero h.symm).symm
 | cons x a ih =>
  intro b h1 h2 hl he;cases b with
  | nil=>simp at hl
  | cons y b =>
   simp only[List.flatten_cons]at he;have e:=List.append_inj he (by rw[h1 x (by simp),h2 y (by simp)]);rw[e.1,ih (fun z hz=>h1 z (by simp[hz])) (fun z hz=>h2 z (by simp[hz])) (by simpa using hl) e.2]
theorem flat3_length:∀ {a:List (List Int)},(∀ x∈a,x.length=3)→a.flatten.length=a.length * 3:=by
 intro a
 induction a with
 | nil=>intro _;rfl
 | cons x a ih =>
  intro h;rw[List.flatten_cons,List.length_append,h x (by simp),ih (fun z hz=>h z (by simp[hz])),List.length_cons];omega
theorem len_le {s:Vw}{l:List Mg}(h:l∈s.ls):l.length≤vwLen s:=by
 unfold vwLen;generalize s.ls=ls at *
 induction ls with
 | nil=>simp at h
 | cons x ls ih =>
  simp only[List.map_cons,List.sum_cons];rcases List.mem_cons.1 h with e | e
  ·rw[e];omega
  ·have:=ih e;omega
theorem VwOk.mok {p:List (List Ins)}{s:Vw}(h:VwOk p s) (hl:vwLen s≤200):∀ l∈s.ls,∀ m∈l,mOk m:=fun l hm m hmm=>by
 obtain⟨h1,h2⟩:=h.ms l hm m hmm;refine⟨h1,h2.1,fun a ha => ?_⟩;obtain⟨i,hi⟩:=List.getElem?_of_mem ha;obtain⟨q,hq⟩:=get_of_lt (xs:=s.ls) (k:=i) (by rw[h.ll,← h2.1];exact(List.getElem?_eq_some_iff.1 hi).1);have h3:=h2.2 i a q hi hq;have h4:=len_le (s:=s) (List.mem_of_getElem? hq);omega
theorem vwKey_inj {p:List (List Ins)}{s s':Vw}(h:VwOk p s) (h':VwOk p s') (hl:vwLen s≤200) (hl':vwLen s'≤200) (e:vwKey s=vwKey s'):s=s':=by
 unfold vwKey at e;have hv:∀ x∈s.vw,x.length=3:=fun x hx=>(h.vw x hx).1;have hv':∀ x∈s'.vw,x.length=3:=fun x hx=>(h'.vw x hx).1;have e1:=List.append_inj e (by simp only[List.length_append,flat3_length hv,flat3_length hv',h.lp,h.lr,h.lv,h'.lp,h'.lr,h'.lv]);have e2:=List.append_inj e1.1 (by simp only[List.length_append,h.lp,h.lr,h'.lp,h'.lr]);have e3:=List.append_inj e2.1 (by rw[h.lp,h'.lp]);have h1:=flat3_inj hv hv' (by rw[h.lv,h'.lv]) e2.2;have h2:=lsText_inj (h.mok hl) (h'.mok hl') e1.2;cases s;cases s';simp only at h1 h2 e3;rw[e3.1,e3.2,h1,h2]
theorem vwKey_reach {p:List (List Ins)}(hp:∀ r∈p,∀ x∈r,insValid x=true) (hn:vwLeft p (vwStart p)≤197) (a b:Vw) (ha:ReachM (vwStart p) (vwNext p) a) (hb:ReachM (vwStart p) (vwNext p) b) (e:vwKey a=vwKey b):a=b:=by
 have h1:=vw_lens hp ha;have h2:=vw_lens hp hb;exact vwKey_inj (VwOk.reach hp ha) (VwOk.reach hp hb) (by omega) (by omega) e
end Go.Proofs.Ytnkfphndfijcoaa
namespace Go.Proofs.Ytnkfphndfijcoaa
theorem vwLeft_le {p:List (List Ins)}(h:progValid p=true) (s:Vw):vwLeft p s≤21:=sqLeft_le h _
end Go.Proofs.Ytnkfphndfijcoaa
namespace Go.Proofs.Ytnkfphndfijcoaa
def gridT:List (List (List Nat)):=[[[1,2,3,4,5,6,7,8],[2,5,9,14,20,27,35,44],[3,9,19,34,55,83,119,164],[4,14,34,69,125,209,329,494],[5,20,55,125,251,461,791,1286],[6,27,83,209,461,923,1715,3002],[7,35,119,329,791,1715,3431,6434],[8,44,164,494,1286,3002,6434,12869]],
 [[2,5,9,14,20,27,35,44],[5,16,35,64,105,160,231,320],[9,35,90,189,350,594,945,1430],[14,64,189,448,924,1728,3003,4928],[20,105,350,924,2100,4290,8085,14300],[27,160,594,1728,4290,9504,19305,36608],[35,231,945,3003,8085,19305,42042,85085],[44,320,1430,4928,14300,36608,85085,183040]],
 [[3,9,19,34,55,83,119,164],[9,35,90,189,350,594,945,1430],[19,90,271,650,1351,2540,4431,7292],[34,189,650,1749,4025,8294,15729,27950],[55,350,1351,4025,10151,22736,46551,88802],[83,594,2540,8294,22736,54977,120834,246245],[119,945,4431,15729,46551,120834,283711,615042],[164,1430,7292,27950,88802,246245,615042,1413125]],
 [[4,14,34,69,125,209,329,494],[14,64,189,448,924,1728,3003,4928],[34,189,650,1749,4025,8294,15729,27950],[69,448,1749,5248,13299,29888,61347,117248],[125,924,4025,13299,36750,89375,197274,403325],[209,1728,8294,29888,89375,233728,551837,1201408],[329,3003,15729,61347,197274,551837,1387386,3203837],[494,4928,27950,117248,403325,1201408,3203837,7820800]],
 [[5,20,55,125,251,461,791,1286],[20,105,350,924,2100,4290,8085,14300],[55,350,1351,4025,10151,22736,46551,88802],[125,924,4025,13299,36750,89375,197274,403325],[251,2100,10151,36750,110251,289002,683551,1490202],[461,4290,22736,89375,289002,811733,2047122,4738733],[791,8085,46551,197274,683551,2047122,5481631,13424202],[1286,14300,88802,403325,1490202,4738733,13424202,34669205]],
 [[6,27,83,209,461,923,1715,3002],[27,160,594,1728,4290,9504,19305,36608],[83,594,2540,8294,22736,54977,120834,246245],[209,1728,8294,29888,89375,233728,551837,1201408],[461,4290,22736,89375,289002,811733,2047122,4738733],[923,9504,54977,233728,811733,2435200,6529445,16006912],[1715,19305,120834,551837,2047122,6529445,18540522,47971637],[3002,36608,246245,1201408,4738733,16006912,47971637,130612480]],
 [[7,35,119,329,791,1715,3431,6434],[35,231,945,3003,8085,19305,42042,85085],[119,945,4431,15729,46551,120834,283711,615042],[329,3003,15729,61347,197274,551837,1387386,3203837],[791,8085,46551,197274,683551,2047122,5481631,13424202],[1715,19305,120834,551837,2047122,6529445,18540522,47971637],[3431,42042,283711,1387386,5481631,18540522,55621567,151564842],[6434,85085,615042,3203837,13424202,47971637,151564842,433742165]],
 [[8,44,164,494,1286,3002,6434,12869],[44,320,1430,4928,14300,36608,85085,183040],[164,1430,7292,27950,88802,246245,615042,1413125],[494,4928,27950,117248,403325,1201408,3203837,7820800],[1286,14300,88802,403325,1490202,4738733,13424202,34669205],[3002,36608,246245,1201408,4738733,16006912,47971637,130612480],[6434,85085,615042,3203837,13424202,47971637,151564842,433742165],[12869,183040,1413125,7820800,34669205,130612480,433742165,1301226496]]]
def grid (a b c:Nat):Nat:=((gridT.getD a []).getD b []).getD c 0
theorem grid_step:∀ a,a < 8→∀ b,b < 8→∀ c,c < 8→1+(if a=0 then 0 else grid (a - 1) b c)+(if b=0 then 0 else grid a (b - 1) c)+(if c=0 then 0 else grid a b (c - 1))≤grid a b c:=by decide
theorem grid_le:∀ a,a < 8→∀ b,b < 8→∀ c,c < 8→grid a b c≤1301226496:=by decide
def rise:Nat→Nat→Nat
 | _,0=>1
 | n,u+1=>n * rise (n+1) u
theorem rise_last (u:Nat):∀ n,rise n (u+1)=rise n u * (n+u):=by
 induction u with
 | zero=>intro n;simp[rise]
 | succ u ih =>
  intro n;rw[rise,ih (n+1),rise,Nat.mul_assoc,show n+1+u=n+(u+1) by omega]
theorem rise_fact (u:Nat):rise 1 u=fact u:=by
 induction u with
 | zero=>rfl
 | succ u ih=>rw[rise_last,ih,fact,Nat.add_comm 1 u]
theorem rise_pos (u:Nat):∀ {n:Nat},1≤n→1≤rise n u:=by
 induction u with
 | zero=>intro n _;exact Nat.le_refl _
 | succ u ih=>intro n h;exact Nat.mul_pos h (ih (by omega))
theorem sum_one {f g:Nat→Nat}{t d:Nat}:∀ {n:Nat},t < n→(∀ i,i≠t→f i=g i)→f t=g t+d→((List.range n).map f).sum=((List.range n).map g).sum+d:=by
 intro n
 induction n with
 | zero=>intro h;omega
 | succ n ih =>
  intro ht he hlt;rw[List.range_succ,List.map_append,List.map_append,List.sum_append,List.sum_append];simp only[List.map_cons,List.map_nil,List.sum_cons,List.sum_nil];by_cases e:t=n
  ·subst e
   have:((List.range t).map f)=((List.range t).map g):=List.map_congr_left fun i hi=>he i (by have:=List.mem_range.1 hi;omega);rw[this];omega
  ·have h1:=ih (by omega) he hlt
   have h2:=he n (fun q=>e q.symm);omega
theorem nodup_sub {α:Type}:∀ {l L:List α},l.Nodup→(∀ x∈l,x∈L)→l.length≤L.length
 | [],_,_,_=>Nat.zero_le _
 | x :: l,L,hn,hs=>by
  obtain⟨A,B,rfl⟩:=List.append_of_mem (hs x (by simp));rw[List.nodup_cons]at hn;have:=nodup_sub (l:=l) (L:=A++B) hn.2 fun y hy=>by
   have h:=hs y (by simp[hy]);have hne:y≠x:=fun e=>hn.1 (e ▸ hy);simp only[List.mem_append,List.mem_cons]at h ⊢;rcases h with h | h | h
   ·exact .inl h
   ·exact absurd h hne
   ·exact .inr h
  simp only[List.length_cons,List.length_append]at this ⊢;omega
def rmV (p:List (List Ins)) (s:Vw) (t:Nat):Nat:=(p.getD t []).length - (s.pc.getD t 0).toNat
def cntL (f:Ins→Bool) (p:List (List Ins)) (s:Vw):Nat:=((List.range p.length).map fun t=>((p.getD t []).drop (s.pc.getD t 0).toNat).countP f).sum
def lnV (s:Vw) (A:Nat):Nat:=(s.ls.getD A []).length
def fL (loc:Int) (x:Ins):Bool:=x.loc==loc&&x.op==1
def wtA (p:List (List Ins)) (s:Vw) (A:Nat):Nat:=rise (lnV s A) (cntL (fW A) p s) * (cnt (fW A) p+1) ^ cntL (fL A) p s
def wtD (p:List (List Ins)) (s:Vw):Nat:=wtA p s 0 * wtA p s 1 * wtA p s 2
def wtV (p:List (List Ins)) (s:Vw):Nat:=grid (rmV p s 0) (rmV p s 1) (rmV p s 2) * wtD p s
theorem cntL_step {f:Ins→Bool}{p:List (List Ins)}{s s':Vw}{t:Nat}{i:Int}{r:List Ins}{x:Ins}(hr:p[t]? = some r) (hi:s.pc[t]? = some i) (h0:0≤i) (hx:r[i.toNat]? = some x) (hpc:s'.pc=s.pc.set t (i+1)) :
 cntL f p s=cntL f p s'+if f x=true then 1 else 0:=by
 have ht:=(List.getElem?_eq_some_iff.1 hr).1;have ht2:=(List.getElem?_eq_some_iff.1 hi).1;obtain⟨hlt,hxe⟩:=List.getElem?_eq_some_iff.1 hx;have e1:p.getD t []=r:=by rw[List.getD_eq_getElem?_getD,hr];rfl
 have e2:s.pc.getD t 0=i:=by rw[List.getD_eq_getElem?_getD,hi];rfl
 have e3:s'.pc.getD t 0=i+1:=by rw[hpc,List.getD_eq_getElem?_getD,List.getElem?_set,if_pos rfl,if_pos ht2];rfl
 unfold cntL;refine sum_one (t:=t) ht (fun j hj => ?_) ?_
 ·have:s'.pc.getD j 0=s.pc.getD j 0:=by rw[hpc,List.getD_eq_getElem?_getD,List.getElem?_set,if_neg (fun e=>hj e.symm),List.getD_eq_getElem?_getD]
  rw[this]
 ·rw[e1,e2,e3,show (i+1).toNat=i.toNat+1 by omega,List.drop_eq_getElem_cons hlt,hxe,List.countP_cons]
theorem rmV_step {p:List (List Ins)}{s s':Vw}{t:Nat}{i:Int}{r:List Ins}{x:Ins}(hr:p[t]? = some r) (hi:s.pc[t]? = some i) (h0:0≤i) (hx:r[i.toNat]? = some x) (hpc:s'.pc=s.pc.set t (i+1)) :
 rmV p s t=rmV p s' t+1∧∀ j,j≠t→rmV p s' j=rmV p s j:=by
 have ht2:=(List.getElem?_eq_some_iff.1 hi).1;obtain⟨hlt,hxe⟩:=List.getElem?_eq_some_iff.1 hx;have e1:p.getD t []=r:=by rw[List.getD_eq_getElem?_getD,hr];rfl
 have e2:s.pc.getD t 0=i:=by rw[List.getD_eq_getElem?_getD,hi];rfl
 have e3:s'.pc.getD t 0=i+1:=by rw[hpc,List.getD_eq_getElem?_getD,List.getElem?_set,if_pos rfl,if_pos ht2];rfl
 refine⟨?_,fun j hj => ?_⟩
 ·unfold rmV
  rw[e1,e2,e3];omega
 ·have:s'.pc.getD j 0=s.pc.getD j 0:=by rw[hpc,List.getD_eq_getElem?_getD,List.getElem?_set,if_neg (fun e=>hj e.symm),List.getD_eq_getElem?_getD]
  unfold rmV;rw[this]
theorem lnV_lock (s:Vw) (loc k A:Nat):lnV (vwLock s loc k) A=lnV s A:=by
 have h:=vwLock_ls s loc k;have h2:=congrArg (fun l:List Nat=>l.getD A 0) h;unfold lnV;simp only[List.getD_eq_getElem?_getD,List.getElem?_map]at h2 ⊢;cases h3:(vwLock s loc k).ls[A]? <;> cases h4:s.ls[A]? <;> simp[h3,h4]at h2 ⊢ <;> omega
theorem lnV_put {s:Vw}{t loc k:Nat}{val:Int}(hl:loc < s.ls.length) (A:Nat):lnV (vwPut s t loc k val) A=lnV s A+if loc=A then 1 else 0:=by
 unfold lnV vwPut;simp only[List.getD_eq_getElem?_getD,List.getElem?_set,List.length_map,List.getElem?_map];by_cases e:loc=A
 ·subst e
  rw[if_pos rfl,if_pos hl,if_pos rfl];simp only[Option.getD_some,List.length_append,List.length_take,List.length_drop,List.length_map,List.length_singleton];omega
 ·rw[if_neg e,if_neg e]
  cases s.ls[A]? <;> simp
theorem lnV_do {s s':Vw}{t:Nat}{i:Int}{k:Nat}{x:Ins}(hv:insValid x=true) (hl:s.ls.length=3) (h:vwDo s t i k x=some s') (A:Nat):lnV s' A=lnV s A+if isWop x.op=true∧x.loc.toNat=A then 1 else 0:=by
 have hg:∀ (u:Vw) (reg:Int) (m:Mg),lnV (vwGet u t reg m) A=lnV u A:=fun u reg m=>rfl;have hs:∀ u:Vw,lnV (vwStep u t i) A=lnV u A:=fun u=>rfl;have hlk:∀ (u:Vw) (a b:Nat),(vwLock u a b).ls.length=u.ls.length:=fun u a b=>by simp[vwLock]
 unfold vwDo at h;simp only at h;split at h
 ·rename_i h4
  split at h
  ·cases h
   rw[hs,if_neg (by simp[isWop,h4]),Nat.add_zero]
  ·cases h
 ·rename_i h4
  have hloc:=op_loc hv h4;have hlt:x.loc.toNat < s.ls.length:=by omega
  split at h
  ·rename_i h1
   split at h
   ·split at h
    ·cases h
     rw[hg,hs,if_neg (by simp[isWop,h1]),Nat.add_zero]
    ·cases h
   ·cases h
  ·rename_i h1
   split at h
   ·rename_i h5
    split at h
    ·split at h
     ·cases h
      rw[lnV_put (by rw[hlk];exact hlt),lnV_lock,hg,hs];simp[isWop,h5]
     ·cases h
    ·cases h
   ·rename_i h5
    split at h
    ·split at h
     ·cases h
      rw[lnV_put (show x.loc.toNat < (vwStep s t i).ls.length from hlt),hs];have:isWop x.op=true:=by
       unfold insValid at hv;unfold isWop;by_cases e2:x.op=2
       ·simp[e2]
       ·by_cases e3:x.op=3
        ·simp[e3]
        ·simp[h1,e2,e3,h4,h5]at hv
      simp[this]
     ·cases h
    ·cases h
def kst (x:Ins) (n:Nat):List Nat:=if x.op=4 then [0] else if x.op=1∨x.op=5 then List.range n else (List.range n).map (· + 1)
theorem kst_mem {p:List (List Ins)}{s s':Vw}(hok:VwOk p s) {t:Nat}(ht:t < p.length) {i:Int}{k:Nat}{x:Ins}(hv:insValid x=true) (h:vwDo s t i k x=some s'):k∈kst x (lnV s x.loc.toNat):=by
 unfold vwDo at h;simp only at h;unfold kst;split at h
 ·rename_i h4
  rw[if_pos h4];split at h
  ·rename_i hk;simp[hk]
  ·cases h
 ·rename_i h4
  rw[if_neg h4];have hloc:=op_loc hv h4;split at h
  ·rename_i h1
   rw[if_pos (.inl h1)];split at h
   ·rename_i m hm
    exact List.mem_range.2 (List.getElem?_eq_some_iff.1 hm).1
   ·cases h
  ·rename_i h1
   split at h
   ·rename_i h5
    rw[if_pos (.inr h5)];split at h
    ·rename_i m hm
     exact List.mem_range.2 (List.getElem?_eq_some_iff.1 hm).1
    ·cases h
   ·rename_i h5
    rw[if_neg (by intro q;rcases q with q | q <;> contradiction)];split at h
    ·split at h
     ·rename_i hc
      have hvw:=hok.view ht;have h0:0≤(s.vw.getD t []).getD x.loc.toNat 0:=by
       obtain⟨a,ha⟩:=get_of_lt (xs:=s.vw.getD t []) (k:=x.loc.toNat) (by rw[hvw.1];omega);obtain⟨l,hl,-,-⟩:=ls_getD hok hloc.1 hloc.2;have:=(hvw.2 _ a l ha hl).1;rw[List.getD_eq_getElem?_getD,ha];exact this
      refine List.mem_map.2 ⟨k - 1,List.mem_range.2 ?_,?_⟩
      ·unfold lnV
       omega
      ·omega
     ·cases h
    ·cases h
def LnOk (p:List (List Ins)) (s:Vw):Prop:=∀ A,A < 3→lnV s A+cntL (fW A) p s=cnt (fW A) p+1
theorem fW_iff {A:Nat}{x:Ins}(h0:0≤x.loc):fW A x=true↔isWop x.op=true∧x.loc.toNat=A:=by
 unfold fW;rw[Bool.and_eq_true,beq_iff_eq];constructor
 ·rintro ⟨h1,h2⟩;exact⟨h2,by omega⟩
 ·rintro ⟨h1,h2⟩;exact⟨by omega,h1⟩
theorem ins_loc0 {x:Ins}(hv:insValid x=true):0≤x.loc:=by
 by_cases h4:x.op=4
 ·unfold insValid at hv
  simp[h4]at hv;omega
 ·exact(op_loc hv h4).1
theorem LnOk.next {p:List (List Ins)}{s s':Vw}{c:Nat}(hl:LnOk p s) (h:VwOk p s) (hp:∀ r∈p,∀ x∈r,insValid x=true) (hn:vwNext p s c=some s'):LnOk p s':=by
 obtain⟨r,i,x,hr,hi,hx,hd⟩:=vwNext_parts hn;have hv:=hp r (List.mem_of_getElem? hr) x (List.mem_of_getElem? hx);have hi0:=(h.pc _ i r hi hr).1;intro A hA;have h1:=hl A hA;have h2:=cntL_step (f:=fW A) hr hi hi0 hx (vwDo_pc hd);have h3:=lnV_do hv h.ll hd A;have h4:=fW_iff (A:=A) (ins_loc0 hv);by_cases e:fW A x=true
 ·rw[if_pos e]at h2;rw[if_pos (h4.1 e)]at h3;omega
 ·rw[if_neg e]at h2;rw[if_neg (fun q=>e (h4.2 q))]at h3;omega
theorem wtA_pos {p:List (List Ins)}{s:Vw}(h:VwOk p s) {A:Nat}(hA:A < 3):1≤wtA p s A:=by
 obtain⟨l,hl⟩:=get_of_lt (xs:=s.ls) (k:=A) (by rw[h.ll];exact hA);have:lnV s A=l.length:=by unfold lnV;rw[List.getD_eq_getElem?_getD,hl];rfl
 exact Nat.mul_pos (rise_pos _ (by rw[this];exact h.ne l (List.mem_of_getElem? hl))) (pow_pos' _ _)
theorem wtD_pos {p:List (List Ins)}{s:Vw}(h:VwOk p s):1≤wtD p s:=Nat.mul_pos (Nat.mul_pos (wtA_pos h (by decide)) (wtA_pos h (by decide))) (wtA_pos h (by decide))
theorem wtD_step {p:List (List Ins)}{s s':Vw}{t:Nat}{i:Int}{k:Nat}{r:List Ins}{x:Ins}(h:VwOk p s) (hl:LnOk p s) (hp:∀ r∈p,∀ x∈r,insValid x=true) (hr:p[t]? = some r) (hi:s.pc[t]? = some i) (hx:r[i.toNat]? = some x) (hd:vwDo s t i k x=some s') :
 (kst x (lnV s x.loc.toNat)).length * wtD p s'≤wtD p s:=by
 have hv:=hp r (List.mem_of_getElem? hr) x (List.mem_of_getElem? hx);have hi0:=(h.pc _ i r hi hr).1;have hloc0:=ins_loc0 hv;have same:∀ A:Nat,fW A x=false→fL A x=false→wtA p s' A=wtA p s A:=fun A h1 h2=>by
  have g1:=cntL_step (f:=fW A) hr hi hi0 hx (vwDo_pc hd);have g2:=cntL_step (f:=fL A) hr hi hi0 hx (vwDo_pc hd);have g3:=lnV_do hv h.ll hd A;rw[h1]at g1;rw[h2]at g2;rw[if_neg (fun q=>by rw[(fW_iff hloc0).2 q]at h1;cases h1)]at g3;simp at g1 g2;unfold wtA;rw[g1,g2,g3,Nat.add_zero]
 have three:∀ (A0 m:Nat),A0 < 3→wtA p s A0=m * wtA p s' A0→(∀ A,A≠A0→wtA p s' A=wtA p s A)→wtD p s=m * wtD p s':=fun A0 m hA e hs=>by
  unfold wtD;have hc:A0=0∨A0=1∨A0=2:=by omega
  rcases hc with rfl | rfl | rfl
  ·rw[e,hs 1 (by decide),hs 2 (by decide)];simp only[Nat.mul_assoc]
  ·rw[e,hs 0 (by decide),hs 2 (by decide)];simp only[Nat.mul_assoc,Nat.mul_left_comm m]
  ·rw[e,hs 0 (by decide),hs 1 (by decide)];simp only[Nat.mul_assoc,Nat.mul_left_comm m]
 unfold kst;by_cases h4:x.op=4
 ·rw[if_pos h4,List.length_singleton,Nat.one_mul]
  have e:∀ A,wtA p s' A=wtA p s A:=fun A=>same A (by simp[fW,isWop,h4]) (by simp[fL,h4]);unfold wtD;rw[e,e,e];exact Nat.le_refl _
 ·rw[if_neg h4]
  have hloc:=op_loc hv h4;obtain⟨A0,hA0⟩:∃ A0:Nat,x.loc=A0:=⟨x.loc.toNat,by omega⟩
  have hA3:A0 < 3:=by omega
  have hne:∀ A:Nat,A≠A0→fW A x=false∧fL A x=false:=fun A hA=>by
   have:¬ (A0:Int)=A:=by omega
   simp[fW,fL,hA0,this]
  have hLe:=hl A0 hA3;rw[hA0,Int.toNat_natCast];have g1:=cntL_step (f:=fW A0) hr hi hi0 hx (vwDo_pc hd);have g2:=cntL_step (f:=fL A0) hr hi hi0 hx (vwDo_pc hd);have g3:=lnV_do hv h.ll hd A0;have hw:=fW_iff (A:=A0) hloc0;by_cases h1:x.op=1
  ·rw[if_pos (.inl h1),List.length_range]
   have e1:fW A0 x=false:=by simp[fW,isWop,h1]
   have e2:fL A0 x=true:=by simp[fL,h1,hA0]
   rw[e1]at g1;rw[if_pos e2]at g2;rw[if_neg (fun q=>by rw[hw.2 q]at e1;cases e1)]at g3;simp at g1;have:=three A0 (cnt (fW A0) p+1) hA3 (by
    unfold wtA;rw[g1,g2,g3,Nat.add_zero,Nat.pow_succ];rw[← Nat.mul_assoc,Nat.mul_comm];rfl) (fun A hA=>same A (hne A hA).1 (hne A hA).2)
   rw[this];exact Nat.mul_le_mul_right _ (by omega)
  ·have e1:fW A0 x=true:=hw.2 ⟨by
    unfold insValid at hv;unfold isWop;by_cases e2:x.op=2
    ·simp[e2]
    ·by_cases e3:x.op=3
     ·simp[e3]
     ·by_cases e5:x.op=5
      ·simp[e5]
      ·simp[h1,e2,e3,h4,e5]at hv,by omega⟩
   have e2:fL A0 x=false:=by simp[fL,h1]
   rw[if_pos e1]at g1;rw[e2]at g2;rw[if_pos (hw.1 e1)]at g3;simp at g2;have:=three A0 (lnV s A0) hA3 (by
    unfold wtA;rw[g1,g2,g3,rise,Nat.mul_assoc]) (fun A hA=>same A (hne A hA).1 (hne A hA).2)
   rw[this];refine Nat.mul_le_mul_right _ ?_;split <;> simp
theorem reach_head {S:Type}{next:S→Nat→Option S}{s u:S}(h:ReachM s next u):u=s∨∃ c s',next s c=some s'∧ReachM s' next u:=by
 induction h with
 | start=>exact .inl rfl
 | step _ ht ih =>
  rcases ih with rfl | ⟨c,s',h1,h2⟩
  ·exact .inr ⟨_,_,ht,.start⟩
  ·exact .inr ⟨c,s',h1,.step h2 ht⟩
theorem cover_all {S:Type}{next:S→Nat→Option S}{wt:S→Nat}:∀ ns:List S,(∀ u∈ns,∃ L:List S,(∀ v,ReachM u next v→v∈L)∧L.length≤wt u)→∃ L:List S,(∀ u∈ns,∀ v,ReachM u next v→v∈L)∧L.length≤(ns.map wt).sum
 | [],_=>⟨[],fun u hu=>by simp at hu,by simp⟩
 | u :: ns,h=>by
  obtain⟨L1,h1,h2⟩:=h u (by simp);obtain⟨L2,h3,h4⟩:=cover_all ns fun v hv=>h v (by simp[hv]);refine⟨L1++L2,fun v hv z hz => ?_,by simp only[List.length_append,List.map_cons,List.sum_cons];omega⟩;rcases List.mem_cons.1 hv with rfl | hv
  ·exact List.mem_append.2 (.inl (h1 z hz))
  ·exact List.mem_append.2 (.inr (h3 v hv z hz))
theorem sum_le_all {α:Type}{f:α→Nat}{K:Nat}:∀ l:List α,(∀ x∈l,f x≤K)→(l.map f).sum≤l.length * K
 | [],_=>by simp
 | x :: l,h=>by
  have h1:=h x (by simp);have h2:=sum_le_all l fun y hy=>h y (by simp[hy]);simp only[List.map_cons,List.sum_cons,List.length_cons,Nat.succ_mul];omega
theorem thread_next {p:List (List Ins)}{s:Vw}(h:VwOk p s) (hl:LnOk p s) (hp:∀ r∈p,∀ x∈r,insValid x=true) (t:Nat) (ht:t < 3) (G:Nat→Nat) (hG:∀ s':Vw,rmV p s t=rmV p s' t+1→(∀ j,j≠t→rmV p s' j=rmV p s j)→grid (rmV p s' 0) (rmV p s' 1) (rmV p s' 2)=G (rmV p s t - 1)) :
 ∃ ns:List Vw,(∀ c s',c % 3=t→vwNext p s c=some s'→s'∈ns)∧(∀ u∈ns,∃ c,vwNext p s c=some u)∧(ns.map (wtV p)).sum≤(if rmV p s t=0 then 0 else G (rmV p s t - 1)) * wtD p s:=by
 by_cases hx:∃ r i x,p[t]? = some r∧s.pc[t]? = some i∧r[i.toNat]? = some x
 ·obtain⟨r,i,x,hr,hi,hx⟩:=hx
  have hv:=hp r (List.mem_of_getElem? hr) x (List.mem_of_getElem? hx);have hi0:=(h.pc _ i r hi hr).1;have htl:=(List.getElem?_eq_some_iff.1 hr).1;have hm3:∀ k:Nat,(k * 3+t) % 3=t:=fun k=>by omega
  have hd3:∀ k:Nat,(k * 3+t) / 3=k:=fun k=>by omega
  have hnx:∀ k,vwNext p s (k * 3+t)=vwDo s t i k x:=fun k=>by
   unfold vwNext;simp only[hm3,hd3,hr,hi,hx]
  have hwt:∀ k s',vwDo s t i k x=some s'→(kst x (lnV s x.loc.toNat)).length * wtV p s'≤G (rmV p s t - 1) * wtD p s:=fun k s' hd=>by
   have g1:=wtD_step h hl hp hr hi hx hd;obtain⟨g2,g3⟩:=rmV_step hr hi hi0 hx (vwDo_pc hd);unfold wtV;rw[hG s' g2 g3,Nat.mul_left_comm];exact Nat.mul_le_mul_left _ g1
  have hrm:rmV p s t≠0:=by
   have hlt:=(List.getElem?_eq_some_iff.1 hx).1;unfold rmV;rw[show p.getD t []=r by rw[List.getD_eq_getElem?_getD,hr];rfl,show s.pc.getD t 0=i by rw[List.getD_eq_getElem?_getD,hi];rfl];omega
  rw[if_neg hrm];refine⟨(kst x (lnV s x.loc.toNat)).filterMap fun k=>vwNext p s (k * 3+t),fun c s' hc hn => ?_,fun u hu => ?_,?_⟩
  ·refine List.mem_filterMap.2 ⟨c / 3,?_,?_⟩
   ·have hn':=hn
    rw[show c=c / 3 * 3+t by omega,hnx]at hn';exact kst_mem h htl hv hn'
   ·rw[show c / 3 * 3+t=c by omega];exact hn
  ·obtain⟨k,-,hk⟩:=List.mem_filterMap.1 hu
   exact⟨_,hk⟩
  ·by_cases he:(kst x (lnV s x.loc.toNat)).filterMap (fun k=>vwNext p s (k * 3+t))=[]
   ·rw[he];simp
   ·obtain⟨u,us,hus⟩:=List.exists_cons_of_ne_nil he
    have hall:∀ u∈(kst x (lnV s x.loc.toNat)).filterMap (fun k=>vwNext p s (k * 3+t)),(kst x (lnV s x.loc.toNat)).length * wtV p u≤G (rmV p s t - 1) * wtD p s:=fun u hu=>by
     obtain⟨k,-,hk⟩:=List.mem_filterMap.1 hu;rw[hnx]at hk;exact hwt k u hk
    generalize (kst x (lnV s x.loc.toNat))=ks at *;have hlen:(ks.filterMap (fun k=>vwNext p s (k * 3+t))).length≤ks.length:=List.length_filterMap_le _ _;generalize ks.filterMap (fun k=>vwNext p s (k * 3+t))=ns at *;have hk0:0 < ks.length:=by rw[hus]at hlen;simp at hlen;omega
    have h1:=sum_le_all (f:=wtV p) (K:=G (rmV p s t - 1) * wtD p s / ks.length) ns fun u hu=>(Nat.le_div_iff_mul_le hk0).2 (by rw[Nat.mul_comm];exact hall u hu);refine Nat.le_trans h1 (Nat.le_trans (Nat.mul_le_mul_right _ hlen) ?_);exact Nat.mul_div_le _ _
 ·refine⟨[],fun c s' hc hn => ?_,fun u hu=>by simp at hu,by simp⟩
  obtain⟨r,i,x,hr,hi,hx',-⟩:=vwNext_parts hn;rw[hc]at hr hi;exact absurd ⟨r,i,x,hr,hi,hx'⟩ hx
theorem vw_cover {p:List (List Ins)}(hp:∀ r∈p,∀ x∈r,insValid x=true) (h7:∀ r∈p,r.length≤7):∀ (n:Nat) (s:Vw),VwOk p s→LnOk p s→vwLeft p s≤n→∃ L:List Vw,(∀ u,ReachM s (vwNext p) u→u∈L)∧L.length≤wtV p s:=by
 intro n
 induction n with
 | zero =>
  intro s h hl hn;refine⟨[s],fun u hu => ?_,?_⟩
  ·rcases reach_head hu with rfl | ⟨c,s',h1,-⟩
   ·simp
   ·have:=vwLeft_next h h1;omega
  ·have h8:∀ t,rmV p s t < 8:=fun t=>by
    unfold rmV;cases hr:p[t]? with
    | none=>rw[show p.getD t []=[] by rw[List.getD_eq_getElem?_getD,hr];rfl];simp
    | some r=>rw[show p.getD t []=r by rw[List.getD_eq_getElem?_getD,hr];rfl];have:=h7 r (List.mem_of_getElem? hr);omega
   have h1:=grid_step _ (h8 0) _ (h8 1) _ (h8 2);exact Nat.mul_pos (by omega) (wtD_pos h)
 | succ n ih =>
  intro s h hl hn;have h8:∀ t,rmV p s t < 8:=fun t=>by
   unfold rmV;cases hr:p[t]? with
   | none=>rw[show p.getD t []=[] by rw[List.getD_eq_getElem?_getD,hr];rfl];simp
   | some r=>rw[show p.getD t []=r by rw[List.getD_eq_getElem?_getD,hr];rfl];have:=h7 r (List.mem_of_getElem? hr);omega
  have h1:=grid_step _ (h8 0) _ (h8 1) _ (h8 2);obtain⟨n0,a0,b0,c0⟩:=thread_next h hl hp 0 (by decide) (fun a=>grid a (rmV p s 1) (rmV p s 2)) (fun s' e1 e2=>by rw[e2 1 (by decide),e2 2 (by decide)];congr 1;omega);obtain⟨n1,a1,b1,c1⟩:=thread_next h hl hp 1 (by decide) (fun a=>grid (rmV p s 0) a (rmV p s 2)) (fun s' e1 e2=>by rw[e2 0 (by decide),e2 2 (by decide)];congr 1;omega);obtain⟨n2,a2,b2,c2⟩:=thread_next h hl hp 2 (by decide) (fun a=>grid (rmV p s 0) (rmV p s 1) a) (fun s' e1 e2=>by rw[e2 0 (by decide),e2 1 (by decide)];congr 1;omega);obtain⟨L,g1,g2⟩:=cover_all (next:=vwNext p) (wt:=wtV p) (n0++n1++n2) fun u hu=>by
   obtain⟨c,hc⟩:∃ c,vwNext p s c=some u:=by
    rcases List.mem_append.1 hu with hu | hu
    ·rcases List.mem_append.1 hu with hu | hu
     ·exact b0 u hu
     ·exact b1 u hu
    ·exact b2 u hu
   have:=vwLeft_next h hc;exact ih u (h.next hp hc) (hl.next h hp hc) (by omega)
  refine⟨s :: L,fun u hu => ?_,?_⟩
  ·rcases reach_head hu with rfl | ⟨c,s',hc,hr⟩
   ·simp
   ·refine List.mem_cons.2 (.inr (g1 s' ?_ u hr))
    have hc3:c % 3=0∨c % 3=1∨c % 3=2:=by omega
    rcases hc3 with e | e | e
    ·exact List.mem_append.2 (.inl (List.mem_append.2 (.inl (a0 c s' e hc))))
    ·exact List.mem_append.2 (.inl (List.mem_append.2 (.inr (a1 c s' e hc))))
    ·exact List.mem_append.2 (.inr (a2 c s' e hc))
  ·rw[List.map_append,List.map_append,List.sum_append,List.sum_append]at g2
   have hD:=wtD_pos h;unfold wtV;have h2:=Nat.mul_le_mul_right (wtD p s) h1;rw[Nat.add_mul,Nat.add_mul,Nat.add_mul,Nat.one_mul]at h2;rw[List.length_cons];omega
theorem cntL_start (f:Ins→Bool) (p:List (List Ins)):cntL f p (vwStart p)=cnt f p:=by
 have h0:∀ t,(vwStart p).pc.getD t 0=0:=fun t=>by
  simp only[vwStart,List.getD_eq_getElem?_getD,List.getElem?_replicate];split <;> rfl
 unfold cntL cnt;rw[List.countP_flatten]
 congr 1
 apply List.ext_getElem?;intro k;simp only[List.getElem?_map,h0];by_cases hk:k < p.length
 ·obtain⟨r,hr⟩:=get_of_lt hk
  rw[List.getElem?_range hk,hr];simp[hr]
 ·rw[List.getElem?_eq_none (by simpa using hk),List.getElem?_eq_none (by simpa using hk)]
  rfl
theorem lnV_start (p:List (List Ins)) {A:Nat}(hA:A < 3):lnV (vwStart p) A=1:=by
 unfold lnV vwStart;simp only[List.getD_eq_getElem?_getD,List.getElem?_replicate,if_pos hA,Option.getD_some,List.length_singleton]
theorem wtD_start {p:List (List Ins)}:wtD p (vwStart p)≤prodP p:=by
 have h:∀ A,A < 3→wtA p (vwStart p) A≤pl p A:=fun A hA=>by
  unfold wtA pl;rw[lnV_start p hA,cntL_start,cntL_start,rise_fact,Nat.mul_comm];refine Nat.mul_le_mul_right _ (Nat.pow_le_pow_right (Nat.succ_pos _) ?_);refine List.countP_mono_left fun x _ hx => ?_;unfold fL at hx;simp only[Bool.and_eq_true,beq_iff_eq]at hx;simp[fR,isRop,hx.1,hx.2]
 unfold wtD prodP;simp only[prodTo,Nat.one_mul];exact Nat.mul_le_mul (Nat.mul_le_mul (h 0 (by decide)) (h 1 (by decide))) (h 2 (by decide))
theorem vw_few {p:List (List Ins)}(hv:progValid p=true) {l:List Vw}(hn:l.Nodup) (h:∀ s∈l,ReachM (vwStart p) (vwNext p) s):l.length≤3903679488000:=by
 have hl:=valid_le hv;have hp:=valid_ins hv;obtain⟨L,h1,h2⟩:=vw_cover hp (fun r hr=>(hl.2.2.1 r hr).1) _ (vwStart p) (VwOk.start p) (fun A hA=>by rw[lnV_start p hA,cntL_start];omega) (Nat.le_refl _);have h3:=nodup_sub hn fun s hs=>h1 s (h s hs);have h4:wtV p (vwStart p)≤1301226496 * 3000:=by
  unfold wtV;have h8:∀ t,rmV p (vwStart p) t < 8:=fun t=>by
   unfold rmV;cases hr:p[t]? with
   | none=>rw[show p.getD t []=[] by rw[List.getD_eq_getElem?_getD,hr];rfl];simp
   | some r=>rw[show p.getD t []=r by rw[List.getD_eq_getElem?_getD,hr];rfl];have:=(hl.2.2.1 r (List.mem_of_getElem? hr)).1;omega
  exact Nat.mul_le_mul (grid_le _ (h8 0) _ (h8 1) _ (h8 2)) (Nat.le_trans wtD_start hl.2.2.2.2)
 omega
end Go.Proofs.Ytnkfphndfijcoaa
/-
  The reference's copy of a state with views. Condition: bounds on lengths.
-/
import Derived.Test.YtnkfphndfijcoaaZo19
import Derived.Test.YtnkfphndfijcoaaZo09
import Derived.Test.YtnkfphndfijcoaaZo03
import Derived.Test.YtnkfphndfijcoaaZo07
set_option maxHeartbeats 6400000
set_option maxRecDepth 100000
namespace Go.Proofs.Ytnkfphndfijcoaa
def bst (loc:Nat) (k:Int) (s:Vw) (n:Nat) (D:Nat→Nat→Bool):Vw:=
 ⟨s.pc,s.rg,s.vw.mapIdx fun i v=>if i < n then bump loc k v else v,s.ls.mapIdx fun i l=>l.mapIdx fun j m=>if D i j=true then bumpM loc k m else m⟩
def dl (i j:Nat):Nat→Nat→Bool:=fun i' j'=>decide (i' < i∨(i'=i∧j' < j))
theorem Vw.ext' {a b:Vw}(h1:a.pc=b.pc) (h2:a.rg=b.rg) (h3:∀ i:Nat,a.vw[i]? = b.vw[i]?) (h4:∀ i:Nat,a.ls[i]? = b.ls[i]?):a=b:=by
 obtain⟨a1,a2,a3,a4⟩:=a;obtain⟨b1,b2,b3,b4⟩:=b;simp only at h1 h2;have h3':a3=b3:=List.ext_getElem? h3;have h4':a4=b4:=List.ext_getElem? h4;rw[h1,h2,h3',h4']
theorem bst_vw (loc:Nat) (k:Int) (s:Vw) (n:Nat) (D:Nat→Nat→Bool) (i:Nat):(bst loc k s n D).vw[i]? = (s.vw[i]?).map fun v=>if i < n then bump loc k v else v:=by simp[bst,List.getElem?_mapIdx]
theorem bst_ls (loc:Nat) (k:Int) (s:Vw) (n:Nat) (D:Nat→Nat→Bool) (i:Nat):(bst loc k s n D).ls[i]? = (s.ls[i]?).map fun l=>l.mapIdx fun j m=>if D i j=true then bumpM loc k m else m:=by simp[bst,List.getElem?_mapIdx]
theorem bst_start (loc:Nat) (k:Int) (s:Vw):bst loc k s 0 (dl 0 0)=s:=by
 refine Vw.ext' rfl rfl (fun i => ?_) (fun i => ?_)
 ·rw[bst_vw];simp
 ·rw[bst_ls]
  have:∀ l:List Mg,(l.mapIdx fun j m=>if dl 0 0 i j=true then bumpM loc k m else m)=l:=fun l=>by
   apply List.ext_getElem?;intro j;simp[List.getElem?_mapIdx,dl]
  simp[this]
theorem bst_view {loc:Nat}{k:Int}{s:Vw}{n:Nat}{D:Nat→Nat→Bool}{v:List Int}(h:s.vw[n]? = some v):(bst loc k s n D).vw[n]? = some v:=by rw[bst_vw,h];simp
theorem bst_view_succ {loc:Nat}{k:Int}{s:Vw}{n:Nat}{D:Nat→Nat→Bool}{v:List Int}(h:s.vw[n]? = some v):(bst loc k s n D).sv n (bump loc k v)=bst loc k s (n+1) D:=by
 refine Vw.ext' rfl rfl (fun i => ?_) (fun i=>rfl);have hl:=(List.getElem?_eq_some_iff.1 h).1;show ((bst loc k s n D).vw.set n (bump loc k v))[i]? = _;rw[List.getElem?_set,bst_vw];by_cases e:n=i
 ·subst e
  rw[if_pos rfl,if_pos (by simp[bst,hl]),bst_vw,h];simp
 ·rw[if_neg e,bst_vw]
  cases s.vw[i]? with
  | none=>rfl
  | some v' =>
   by_cases hi:i < n
   ·simp[hi,Nat.lt_succ_of_lt hi]
   ·have:¬ i < n+1:=by omega
    simp[hi,this]
theorem bst_view_same {loc:Nat}{k:Int}{s:Vw}{n:Nat}{D:Nat→Nat→Bool}{v:List Int}(h:s.vw[n]? = some v) (hb:bump loc k v=v):bst loc k s (n+1) D=bst loc k s n D:=by
 rw[← bst_view_succ h,hb];exact Vw.sv_self (bst_view h)
def bumpTo (loc:Nat) (k:Int) (l:List Mg) (j:Nat):List Mg:=l.mapIdx fun j' m=>if j' < j then bumpM loc k m else m
theorem bst_row {loc:Nat}{k:Int}{s:Vw}{n i j:Nat}{l:List Mg}(h:s.ls[i]? = some l):(bst loc k s n (dl i j)).ls[i]? = some (bumpTo loc k l j):=by
 rw[bst_ls,h];simp[bumpTo,dl]
theorem bumpTo_get {loc:Nat}{k:Int}{l:List Mg}{j:Nat}{m:Mg}(h:l[j]? = some m):(bumpTo loc k l j)[j]? = some m:=by simp[bumpTo,List.getElem?_mapIdx,h]
theorem bumpTo_len (loc:Nat) (k:Int) (l:List Mg) (j:Nat):(bumpTo loc k l j).length=l.length:=by simp[bumpTo]
theorem bumpTo_set {loc:Nat}{k:Int}{l:List Mg}{j:Nat}{m:Mg}(h:l[j]? = some m):(bumpTo loc k l j).set j (bumpM loc k m)=bumpTo loc k l (j+1):=by
 have hl:=(List.getElem?_eq_some_iff.1 h).1;apply List.ext_getElem?;intro i;rw[List.getElem?_set];by_cases e:j=i
 ·subst e
  rw[if_pos rfl,if_pos (by rw[bumpTo_len];exact hl)];simp[bumpTo,List.getElem?_mapIdx,h]
 ·rw[if_neg e]
  simp only[bumpTo,List.getElem?_mapIdx];cases l[i]? with
  | none=>rfl
  | some m' =>
   by_cases hi:i < j
   ·simp[hi,Nat.lt_succ_of_lt hi]
   ·have:¬ i < j+1:=by omega
    simp[hi,this]
theorem bst_other {loc:Nat}{k:Int}{s:Vw}{n i j j' i':Nat}(h:i'≠i):(bst loc k s n (dl i j)).ls[i']? = (bst loc k s n (dl i j')).ls[i']?:=by
 rw[bst_ls,bst_ls]
 congr 1
 funext l;apply List.ext_getElem?;intro q;simp[List.getElem?_mapIdx,dl,h]
theorem bst_msg_succ {loc:Nat}{k:Int}{s:Vw}{n i j:Nat}{l:List Mg}{m:Mg}(h:s.ls[i]? = some l) (hm:l[j]? = some m):(bst loc k s n (dl i j)).sm i j (bumpM loc k m)=bst loc k s n (dl i (j+1)):=by
 refine Vw.ext' rfl rfl (fun i=>rfl) (fun i' => ?_);by_cases e:i=i'
 ·subst e
  rw[Vw.sm_ls (bst_row h),bst_row h,bumpTo_set hm]
 ·rw[Vw.sm_other e]
  exact bst_other (Ne.symm e)
theorem Vw.sm_self {s:Vw}{i k:Nat}{l:List Mg}{m:Mg}(hl:s.ls[i]? = some l) (hm:l[k]? = some m):s.sm i k m=s:=by
 refine Vw.ext' rfl rfl (fun i=>rfl) (fun i' => ?_);by_cases e:i=i'
 ·subst e
  rw[Vw.sm_ls hl,hl];obtain⟨h1,h2⟩:=List.getElem?_eq_some_iff.1 hm;rw[← h2,List.set_getElem_self h1]
 ·rw[Vw.sm_other e]
theorem bst_msg_same {loc:Nat}{k:Int}{s:Vw}{n i j:Nat}{l:List Mg}{m:Mg}(h:s.ls[i]? = some l) (hm:l[j]? = some m) (hb:bumpM loc k m=m):bst loc k s n (dl i (j+1))=bst loc k s n (dl i j):=by
 rw[← bst_msg_succ h hm,hb];exact Vw.sm_self (bst_row h) (bumpTo_get hm)
theorem bst_row_end {loc:Nat}{k:Int}{s:Vw}{n i:Nat}{l:List Mg}(h:s.ls[i]? = some l):bst loc k s n (dl i l.length)=bst loc k s n (dl (i+1) 0):=by
 refine Vw.ext' rfl rfl (fun i=>rfl) (fun i' => ?_);rw[bst_ls,bst_ls];cases hl':s.ls[i']? with
 | none=>rfl
 | some l' =>
  simp only[Option.map_some,Option.some.injEq];apply List.ext_getElem?;intro q;simp only[List.getElem?_mapIdx];cases hq:l'[q]? with
  | none=>rfl
  | some m =>
   have hql:=(List.getElem?_eq_some_iff.1 hq).1;have:dl i l.length i' q=dl (i+1) 0 i' q:=by
    unfold dl
    congr 1
    apply propext;by_cases e:i'=i
    ·subst e
     rw[h]at hl';cases hl';simp[hql]
    ·constructor <;> intro hh <;> omega
   rw[this]
theorem bst_end (loc:Nat) (k:Int) (s:Vw):bst loc k s s.vw.length (dl s.ls.length 0)=⟨s.pc,s.rg,s.vw.map (bump loc k),s.ls.map (List.map (bumpM loc k))⟩:=by
 refine Vw.ext' rfl rfl (fun i => ?_) (fun i => ?_)
 ·rw[bst_vw,List.getElem?_map]
  cases h:s.vw[i]? with
  | none=>rfl
  | some v=>simp[(List.getElem?_eq_some_iff.1 h).1]
 ·rw[bst_ls,List.getElem?_map]
  cases h:s.ls[i]? with
  | none=>rfl
  | some l =>
   have hi:=(List.getElem?_eq_some_iff.1 h).1;simp only[Option.map_some,Option.some.injEq];apply List.ext_getElem?;intro q;simp[List.getElem?_mapIdx,dl,hi]
theorem bump_len (loc:Nat) (k:Int) (v:List Int):(bump loc k v).length=v.length:=by simp[bump]
end Go.Proofs.Ytnkfphndfijcoaa
namespace Go.Proofs.Ytnkfphndfijcoaa
open Go.RowKit
def Vw.sr (s:Vw) (i:Nat) (l:List Mg):Vw:=⟨s.pc,s.rg,s.vw,s.ls.set i l⟩
def psi (i kn:Nat) (j:Ix):Ix:=if j.1=3∧j.2.1=i∧kn < j.2.2 then (3,i,j.2.2 - 1) else j
theorem psi_inj {i kn:Nat}{a b:Ix}(ha:a≠(3,i,kn)) (hb:b≠(3,i,kn)) (h:psi i kn a=psi i kn b):a=b:=by
 obtain⟨a1,a2,a3⟩:=a;obtain⟨b1,b2,b3⟩:=b;unfold psi at h;simp only[ne_eq,Prod.mk.injEq]at ha hb h ⊢;split at h <;> split at h <;> rename_i h1 h2 <;> simp only[Prod.mk.injEq]at h
 ·exact⟨h1.1.trans h2.1.symm,h1.2.1.trans h2.2.1.symm,by omega⟩
 ·exfalso
  obtain⟨q1,q2,q3⟩:=h;have:¬ b3=kn:=fun e=>hb ⟨q1.symm,q2.symm,e⟩;have:¬ kn < b3:=fun e=>h2 ⟨q1.symm,q2.symm,e⟩;omega
 ·exfalso
  obtain⟨q1,q2,q3⟩:=h;have:¬ a3=kn:=fun e=>ha ⟨q1,q2,e⟩;have:¬ kn < a3:=fun e=>h1 ⟨q1,q2,e⟩;omega
 ·exact h
theorem ins_get {α:Type}{xs:List α}{kn:Nat}(hk:kn≤xs.length) (y:α) (q:Nat):(xs.take kn++[y]++xs.drop kn)[q]? = if q < kn then xs[q]? else if q=kn then some y else xs[q - 1]?:=by
 have hl:(xs.take kn).length=kn:=by rw[List.length_take];omega
 by_cases h1:q < kn
 ·rw[if_pos h1,List.append_assoc,List.getElem?_append_left (by omega),List.getElem?_take,if_pos h1]
 ·rw[if_neg h1]
  by_cases h2:q=kn
  ·subst h2
   rw[if_pos rfl,List.append_assoc,List.getElem?_append_right (by omega),hl];simp
  ·rw[if_neg h2,List.getElem?_append_right (by simp;omega),List.getElem?_drop]
   congr 1
   simp;omega
theorem famOf_sr {x:SV}{us:List Slc}{ms:List (List MV)}{s:Vw}{i kn:Nat}{mr:List MV}{l:List Mg}{mn:MV}{g:Mg}(hr:ms[i]? = some mr) (hl:s.ls[i]? = some l) (hlen:mr.length=l.length) (hk:kn≤l.length) (j:Ix) (u:Slc) (r:List Int)
 (h:famOf x us (ms.set i (mr.take kn++[mn]++mr.drop kn)) (s.sr i (l.take kn++[g]++l.drop kn)) j=some (u,r)) :
 (j=(3,i,kn)∧u=mn.s∧r=g.view)∨(j≠(3,i,kn)∧famOf x us ms s (psi i kn j)=some (u,r)):=by
 have hil:=(List.getElem?_eq_some_iff.1 hl).1;have him:=(List.getElem?_eq_some_iff.1 hr).1;by_cases e:j=(3,i,kn)
 ·left
  subst e;simp only[famOf,Vw.sr,List.getElem?_set,if_pos,him,hil,Option.bind_some]at h;rw[ins_get (by omega),ins_get hk]at h;simp at h;exact⟨rfl,h.1.symm,h.2.symm⟩
 ·right
  refine⟨e,?_⟩;obtain⟨j1,j2,j3⟩:=j;by_cases e3:j1=3
  ·subst e3
   by_cases e2:j2=i
   ·subst e2
    have hne:j3≠kn:=fun q=>e (by rw[q]);simp only[famOf,Vw.sr,List.getElem?_set,if_pos,him,hil,Option.bind_some]at h;rw[ins_get (by omega),ins_get hk,if_neg hne,if_neg hne]at h;unfold psi;by_cases hlt:kn < j3
    ·rw[if_pos ⟨rfl,rfl,hlt⟩]
     rw[if_neg (by omega),if_neg (by omega)]at h;simp only[famOf,hr,hl,Option.bind_some];exact h
    ·rw[if_neg (fun q=>hlt q.2.2)]
     rw[if_pos (by omega),if_pos (by omega)]at h;simp only[famOf,hr,hl,Option.bind_some];exact h
   ·unfold psi
    rw[if_neg (fun q=>e2 q.2.1)];have e2':¬ i=j2:=fun q=>e2 q.symm;simp only[famOf,Vw.sr,List.getElem?_set,if_neg e2']at h;exact h
  ·unfold psi
   rw[if_neg (fun q=>e3 q.1)];unfold famOf at h ⊢;split at h <;> first | exact h | (rename_i heq;exact absurd (congrArg Prod.fst heq) e3) | (exfalso;simp_all)
theorem OwnVw.put {w W:World}{base:Nat}{x:SV}{s:Vw}{us lu:List Slc}{ms:List (List MV)}(h:OwnVw w base x s us lu ms) (hb:Below w.heap.size w W) (hbase:base≤w.heap.size) {i kn gl cl:Nat}{l:List Mg}{mr:List MV}{mn:MV}{g:Mg}{u':Slc}
 (hxb:x.b=⟨some ⟨gl,0,none⟩,s.ls.length,cl⟩) (hl:s.ls[i]? = some l) (hmr:ms[i]? = some mr) (hk:kn≤l.length) (hg:mn.val=g.val∧mn.lock=g.lock)
 (ho:Own IntE 3 W w.heap.size mn.s.v g.view) (hr:Own MgE 101 W w.heap.size u'.v (mr.take kn++[mn]++mr.drop kn)) :
 OwnVw (W.setCell ⟨gl,i,none⟩ u'.v) base x (s.sr i (l.take kn++[g]++l.drop kn)) us (lu.set i u') (ms.set i (mr.take kn++[mn]++mr.drop kn)):=by
 have hil:=(List.getElem?_eq_some_iff.1 hl).1;obtain⟨e1,e2⟩:=h.mv i mr l hmr hl;have h':=h.below hb;obtain⟨u0,hu0⟩:=get_of_lt (xs:=lu) (k:=i) (by rw[h.ll];exact hil);have hhl:=h'.hl;rw[hxb]at hhl;obtain⟨a,ha⟩:=hhl.typeT (g:=gl) rfl;have hset:=hhl.set (i:=i) (j:=0) u' (u:=u'.v) (by decide) hu0 rfl;simp only[SlcE,Nat.mul_one,Nat.add_zero]at hset;have fsp:=famOf_sr (x:=x) (us:=us) (mn:=mn) (g:=g) hmr hl e1 hk;refine⟨⟨fun j u r hj => ?_,fun j j' u r v q h1 h2 hjj g' hg' => ?_⟩,h'.hv.setOther (by decide) ha,by rw[hxb];exact hset,h.lv,by simp[Vw.sr,h.ll],by simp[Vw.sr,h.lm],fun j u q hu hq => ?_,fun j q l' hq hl' => ?_,fun j j' u v hu hv hjj g' hg' => ?_⟩
 ·rcases fsp j u r hj with⟨rfl,rfl,rfl⟩ | ⟨-,hf⟩
  ·exact(ho.mono hbase).setOther (by decide) ha
  ·exact(h'.fam.own _ u r hf).setOther (by decide) ha
 ·rcases fsp j u r h1 with⟨rfl,rfl,rfl⟩ | ⟨n1,f1⟩ <;> rcases fsp j' v q h2 with⟨rfl,rfl,rfl⟩ | ⟨n2,f2⟩
  ·exact absurd rfl hjj
  ·intro e
   have q1:=(World.ownsRow.lt ho g' hg').1;have q2:=(World.ownsRow.lt (h.fam.own _ v q f2) g' e).2;omega
  ·intro e
   have q1:=(World.ownsRow.lt ho g' e).1;have q2:=(World.ownsRow.lt (h.fam.own _ u r f1) g' hg').2;omega
  ·exact h.fam.far _ _ u r v q f1 f2 (fun e=>hjj (psi_inj n1 n2 e)) g' hg'
 ·rw[List.getElem?_set]at hu hq
  by_cases e:i=j
  ·subst e
   rw[if_pos rfl,if_pos (by rw[h.ll];exact hil)]at hu;rw[if_pos rfl,if_pos (by rw[h.lm];exact hil)]at hq;cases hu;cases hq;exact(hr.mono hbase).setOther (by decide) ha
  ·rw[if_neg e]at hu hq
   exact(h'.hm j u q hu hq).setOther (by decide) ha
 ·simp only[Vw.sr]at hl'
  rw[List.getElem?_set]at hq hl';by_cases e:i=j
  ·subst e
   rw[if_pos rfl,if_pos (by rw[h.lm];exact hil)]at hq;rw[if_pos rfl,if_pos hil]at hl';cases hq;cases hl';refine⟨by simp only[List.length_append,List.length_take,List.length_drop,List.length_singleton];omega,fun k m g' hm hg' => ?_⟩;rw[ins_get (by omega)]at hm;rw[ins_get hk]at hg';by_cases h1:k < kn
   ·rw[if_pos h1]at hm hg'
    exact e2 k m g' hm hg'
   ·rw[if_neg h1]at hm hg'
    by_cases h2:k=kn
    ·rw[if_pos h2]at hm hg'
     cases hm;cases hg';exact hg
    ·rw[if_neg h2]at hm hg'
     exact e2 (k - 1) m g' hm hg'
  ·rw[if_neg e]at hq hl'
   exact h.mv j q l' hq hl'
 ·rw[List.getElem?_set]at hu hv
  by_cases e:i=j
  ·subst e
   rw[if_pos rfl,if_pos (by rw[h.ll];exact hil)]at hu;rw[if_neg hjj]at hv;cases hu;intro e;have q1:=(World.ownsRow.lt hr g' hg').1;obtain⟨mr',hmr'⟩:=get_of_lt (xs:=ms) (k:=j') (by rw[h.lm,← h.ll];exact(List.getElem?_eq_some_iff.1 hv).1);have q2:=(World.ownsRow.lt (h.hm j' v mr' hv hmr') g' e).2;omega
  ·rw[if_neg e]at hu
   by_cases e':i=j'
   ·subst e'
    rw[if_pos rfl,if_pos (by rw[h.ll];exact hil)]at hv;cases hv;intro e;have q1:=(World.ownsRow.lt hr g' e).1;obtain⟨mr',hmr'⟩:=get_of_lt (xs:=ms) (k:=j) (by rw[h.lm,← h.ll];exact(List.getElem?_eq_some_iff.1 hu).1);have q2:=(World.ownsRow.lt (h.hm j u mr' hu hmr') g' hg').2;omega
   ·rw[if_neg e']at hv
    exact h.mf j j' u v hu hv hjj g' hg'
end Go.Proofs.Ytnkfphndfijcoaa
namespace Go.Proofs.Ytnkfphndfijcoaa
open Go.RowKit
structure PVw (w:World) (base:Nat) (x:SV) (s:Vw) (us lu lk:List Slc) (ms:List (List MV)):Prop where
 fam:Fam w base (famOf x us ms s)
 hv:Own SlcE 34 w base x.m.v us
 hl:Own SlcE 102 w base x.b.v lk
 lv:us.length=s.vw.length
 ll:lu.length=s.ls.length
 lm:ms.length=s.ls.length
 hm:∀ (i:Nat) (u:Slc) (mr:List MV),lu[i]? = some u→ms[i]? = some mr→Own MgE 101 w base u.v mr
 mv:∀ (i:Nat) (mr:List MV) (l:List Mg),ms[i]? = some mr→s.ls[i]? = some l→mr.length=l.length∧∀ (k:Nat) (m:MV) (g:Mg),mr[k]? = some m→l[k]? = some g→m.val=g.val∧m.lock=g.lock
 mf:∀ (i j:Nat) (u v:Slc),lu[i]? = some u→lu[j]? = some v→i≠j→∀ g,u.v.ownBlock=some g→v.v.ownBlock≠some g
theorem PVw.full {w:World}{base:Nat}{x:SV}{s:Vw}{us lu:List Slc}{ms:List (List MV)}(h:PVw w base x s us lu lu ms):OwnVw w base x s us lu ms:=⟨h.fam,h.hv,h.hl,h.lv,h.ll,h.lm,h.hm,h.mv,h.mf⟩
theorem PVw.below {w w':World}{base:Nat}{x:SV}{s:Vw}{us lu lk:List Slc}{ms:List (List MV)}(h:PVw w base x s us lu lk ms) (hb:Below w.heap.size w w'):PVw w' base x s us lu lk ms:=
 ⟨h.fam.below hb,h.hv.below hb,h.hl.below hb,h.lv,h.ll,h.lm,fun i u mr h1 h2=>(h.hm i u mr h1 h2).below hb,h.mv,h.mf⟩
theorem PVw.mono {w:World}{base base':Nat}{x:SV}{s:Vw}{us lu lk:List Slc}{ms:List (List MV)}(h:PVw w base x s us lu lk ms) (hb:base'≤base):PVw w base' x s us lu lk ms:=
 ⟨⟨fun i u r hi=>(h.fam.own i u r hi).mono hb,h.fam.far⟩,h.hv.mono hb,h.hl.mono hb,h.lv,h.ll,h.lm,fun i u mr h1 h2=>(h.hm i u mr h1 h2).mono hb,h.mv,h.mf⟩
theorem PVw.setT {T:TypeId}{w:World}{base:Nat}{x:SV}{s:Vw}{us lu lk:List Slc}{ms:List (List MV)}(h:PVw w base x s us lu lk ms) (h1:T≠3) (h2:T≠34) (h3:T≠102) (h4:T≠101) {g:Nat}(t:TyB T w g) (j:Nat) (u:Value):PVw (w.setCell ⟨g,j,none⟩ u) base x s us lu lk ms:=by
 obtain⟨a,ha⟩:=t;exact⟨⟨fun i u r hi=>(h.fam.own i u r hi).setOther h1.symm ha,h.fam.far⟩,h.hv.setOther h2.symm ha,h.hl.setOther h3.symm ha,h.lv,h.ll,h.lm,fun i u mr e1 e2=>(h.hm i u mr e1 e2).setOther h4.symm ha,h.mv,h.mf⟩
theorem OwnVw.part {w:World}{base:Nat}{x:SV}{s:Vw}{us lu:List Slc}{ms:List (List MV)}(h:OwnVw w base x s us lu ms):PVw w base x s us lu lu ms:=⟨h.fam,h.hv,h.hl,h.lv,h.ll,h.lm,h.hm,h.mv,h.mf⟩
theorem OwnVw.setT {T:TypeId}{w:World}{base:Nat}{x:SV}{s:Vw}{us lu:List Slc}{ms:List (List MV)}(h:OwnVw w base x s us lu ms) (h1:T≠3) (h2:T≠34) (h3:T≠102) (h4:T≠101) {g:Nat}(t:TyB T w g) (j:Nat) (u:Value):OwnVw (w.setCell ⟨g,j,none⟩ u) base x s us lu ms:=(h.part.setT h1 h2 h3 h4 t j u).full
theorem KpT.own {α:Type}{E:El α}{T:TypeId}{L:List TypeId}{B base:Nat}{w w':World}{v:Value}{xs:List α}(k:KpT L B w w') (h:Own E T w base v xs) (hT:T∉L):Own E T w' base v xs:=
 h.sameT fun q hq=>by
  obtain⟨a,ha⟩:=h.typeT hq;rw[k.same ha hT,ha]
theorem Fam.more {w w':World}{base:Nat}{f f':Ix→Option (Slc × List Int)}(h:Fam w base f) (k:∀ (u:Slc) (r:List Int),Own IntE 3 w base u.v r→Own IntE 3 w' base u.v r) {ix:Ix}{u:Slc}{r:List Int}(ho:Own IntE 3 w' base u.v r) (hn:∀ q,u.v.ownBlock=some q→w.heap.size≤q)
 (hf:∀ j v q,f' j=some (v,q)→(j=ix∧v=u∧q=r)∨f j=some (v,q)):Fam w' base f':=by
 refine⟨fun j v q hj => ?_,fun j j' v q v' q' h1 h2 hne g hg => ?_⟩
 ·rcases hf j v q hj with⟨-,rfl,rfl⟩ | e
  ·exact ho
  ·exact k _ _ (h.own j v q e)
 ·rcases hf j v q h1 with⟨rfl,rfl,rfl⟩ | e1 <;> rcases hf j' v' q' h2 with⟨rfl,rfl,rfl⟩ | e2
  ·exact absurd rfl hne
  ·intro e
   have q1:=(World.ownsRow.lt (h.own j' v' q' e2) g e).2;have q2:=hn g hg;omega
  ·intro e
   have q1:=(World.ownsRow.lt (h.own j v q e1) g hg).2;have q2:=hn g e;omega
  ·exact h.far j j' v q v' q' e1 e2 hne g hg
theorem Fam.sub {w w':World}{base:Nat}{f f':Ix→Option (Slc × List Int)}(h:Fam w base f) (k:∀ (u:Slc) (r:List Int),Own IntE 3 w base u.v r→Own IntE 3 w' base u.v r) (hf:∀ j v q,f' j=some (v,q)→f j=some (v,q)):Fam w' base f':=
 ⟨fun j v q hj=>k _ _ (h.own j v q (hf j v q hj)),fun j j' v q v' q' h1 h2=>h.far j j' v q v' q' (hf _ _ _ h1) (hf _ _ _ h2)⟩
theorem PVw.start {w:World}{base:Nat}{p r:Slc}{pc rg:List Int}(h1:Own IntE 3 w base p.v pc) (h2:Own IntE 3 w base r.v rg) (hd:∀ q,p.v.ownBlock=some q→r.v.ownBlock≠some q):PVw w base ⟨p,r,⟨none,0,0⟩,⟨none,0,0⟩⟩ ⟨pc,rg,[],[]⟩ [] [] [] []:=by
 have key:∀ (j:Ix) (v:Slc) (q:List Int),famOf ⟨p,r,⟨none,0,0⟩,⟨none,0,0⟩⟩ [] [] ⟨pc,rg,[],[]⟩ j=some (v,q)→(j=(0,0,0)∧v=p∧q=pc)∨(j=(1,0,0)∧v=r∧q=rg):=fun j v q h=>by
  unfold famOf at h;split at h
  ·simp at h;exact .inl ⟨rfl,h.1.symm,h.2.symm⟩
  ·simp at h;exact .inr ⟨rfl,h.1.symm,h.2.symm⟩
  ·simp at h
  ·simp at h
  ·cases h
 refine⟨⟨fun j v q h => ?_,fun j j' v q v' q' e1 e2 hne g hg => ?_⟩,Own.nil _ _ _,Own.nil _ _ _,rfl,rfl,rfl,fun i u mr h=>by simp at h,fun i mr l h=>by simp at h,fun i j u v h=>by simp at h⟩
 ·rcases key j v q h with⟨-,rfl,rfl⟩ | ⟨-,rfl,rfl⟩
  ·exact h1
  ·exact h2
 ·rcases key j v q e1 with⟨rfl,rfl,rfl⟩ | ⟨rfl,rfl,rfl⟩ <;> rcases key j' v' q' e2 with⟨rfl,rfl,rfl⟩ | ⟨rfl,rfl,rfl⟩
  ·exact absurd rfl hne
  ·exact hd g hg
  ·exact fun e=>hd g e hg
  ·exact absurd rfl hne
theorem PVw.addView {w w1 w':World}{base:Nat}{x:SV}{s:Vw}{us lu lk:List Slc}{ms:List (List MV)}(h:PVw w base x s us lu lk ms) (hb:Below w.heap.size w w1) (hg:w1.grownBy w' x.m.v.ownBlock) {u v':Slc}{r:List Int}
 (hr:Own IntE 3 w1 base u.v r) (hn:∀ q,u.v.ownBlock=some q→w.heap.size≤q) (hv:Own SlcE 34 w' base v'.v (us++[u])):PVw w' base ⟨x.p,x.r,v',x.b⟩ ⟨s.pc,s.rg,s.vw++[r],s.ls⟩ (us++[u]) lu lk ms:=by
 have K:KpT [34] 0 w1 w':=KpT.grown (h.hv.below hb) (by simp) (Nat.zero_le _) hg;have lv:=h.lv;refine⟨h.fam.more (ix:=(2,us.length,0)) (fun u r ho=>K.own (ho.below hb) (by decide)) (K.own hr (by decide)) hn (fun j v q hj => ?_),hv,K.own (h.hl.below hb) (by decide),by simp[lv],h.ll,h.lm,fun i u mr h1 h2=>K.own ((h.hm i u mr h1 h2).below hb) (by decide),h.mv,h.mf⟩;unfold famOf at hj ⊢;split at hj <;> try (right;exact hj)
 rename_i i;rcases Nat.lt_or_ge i us.length with hi | hi
 ·rw[List.getElem?_append_left hi,List.getElem?_append_left (by omega)]at hj
  exact .inr hj
 ·left
  rw[List.getElem?_append_right hi,List.getElem?_append_right (by omega)]at hj;have hi0:i=us.length:=by
   cases hk:i - us.length with
   | zero=>omega
   | succ k=>rw[hk]at hj;simp at hj
  subst hi0;rw[Nat.sub_self,show us.length - s.vw.length=0 by omega]at hj;simp at hj;exact⟨rfl,hj.1.symm,hj.2.symm⟩
theorem PVw.newRow {w w':World}{base:Nat}{x:SV}{s:Vw}{us lu lk:List Slc}{ms:List (List MV)}(h:PVw w base x s us lu lk ms) (hb:Below w.heap.size w w') {u:Slc}(ho:Own MgE 101 w' base u.v []) (hn:∀ q,u.v.ownBlock=some q→w.heap.size≤q):PVw w' base x ⟨s.pc,s.rg,s.vw,s.ls++[[]]⟩ us (lu++[u]) lk (ms++[[]]):=by
 have h':=h.below hb;have ll:=h.ll;have lm:=h.lm
 refine⟨h.fam.sub (fun u r ho=>ho.below hb) (fun j v q hj => ?_),h'.hv,h'.hl,h.lv,by simp[ll],by simp[lm],fun i u' mr h1 h2 => ?_,fun i mr l h1 h2 => ?_,fun i j a b h1 h2 hij g hg => ?_⟩
 ·unfold famOf at hj ⊢
  split at hj <;> try exact hj
  rename_i i k;rcases Nat.lt_or_ge i ms.length with hi | hi
  ·rw[List.getElem?_append_left hi,List.getElem?_append_left (by omega)]at hj
   exact hj
  ·exfalso
   rw[List.getElem?_append_right hi]at hj;cases hk:i - ms.length with
   | zero=>rw[hk]at hj;simp at hj
   | succ k=>rw[hk]at hj;simp at hj
 ·rcases Nat.lt_or_ge i lu.length with hi | hi
  ·rw[List.getElem?_append_left hi]at h1
   rw[List.getElem?_append_left (by omega)]at h2;exact h'.hm i u' mr h1 h2
  ·rw[List.getElem?_append_right hi]at h1
   rw[List.getElem?_append_right (by omega),show i - ms.length=i - lu.length by omega]at h2;cases hk:i - lu.length with
   | zero=>rw[hk]at h1 h2;simp at h1 h2;subst h1;subst h2;exact ho
   | succ k=>rw[hk]at h1;simp at h1
 ·rcases Nat.lt_or_ge i ms.length with hi | hi
  ·rw[List.getElem?_append_left hi]at h1
   rw[List.getElem?_append_left (by omega)]at h2;exact h.mv i mr l h1 h2
  ·rw[List.getElem?_append_right hi]at h1
   rw[List.getElem?_append_right (by omega),show i - s.ls.length=i - ms.length by omega]at h2;cases hk:i - ms.length with
   | zero=>rw[hk]at h1 h2;simp at h1 h2;subst h1;subst h2;exact⟨rfl,fun k m g hm=>by simp at hm⟩
   | succ k=>rw[hk]at h1;simp at h1
 ·have key:∀ (i:Nat) (a:Slc),(lu++[u])[i]? = some a→(i < lu.length∧lu[i]? = some a)∨(i=lu.length∧a=u):=fun i a h1=>by
   rcases Nat.lt_or_ge i lu.length with hi | hi
   ·rw[List.getElem?_append_left hi]at h1;exact .inl ⟨hi,h1⟩
   ·rw[List.getElem?_append_right hi]at h1
    cases hk:i - lu.length with
    | zero=>rw[hk]at h1;simp at h1;exact .inr ⟨by omega,h1.symm⟩
    | succ k=>rw[hk]at h1;simp at h1
  have old:∀ (i:Nat) (a:Slc),lu[i]? = some a→∀ q,a.v.ownBlock=some q→q < w.heap.size:=fun i a h1 q hq=>by
   obtain⟨mr,hmr⟩:=get_of_lt (xs:=ms) (k:=i) (by rw[lm,← ll];exact(List.getElem?_eq_some_iff.1 h1).1);exact(World.ownsRow.lt (h.hm i a mr h1 hmr) q hq).2
  rcases key i a h1 with⟨-,e1⟩ | ⟨rfl,rfl⟩ <;> rcases key j b h2 with⟨-,e2⟩ | ⟨rfl,rfl⟩
  ·exact h.mf i j a b e1 e2 hij g hg
  ·intro e;have:=old i a e1 g hg;have:=hn g e;omega
  ·intro e;have:=old j b e2 g e;have:=hn g hg;omega
  ·exact absurd rfl hij
theorem PVw.addMsg {w w1 w':World}{base:Nat}{x:SV}{pc rg:List Int}{vw:List (List Int)}{ls:List (List Mg)}{l:List Mg}{us lu lk:List Slc}{u u':Slc}{ms:List (List MV)}{mr:List MV}{m:MV}{g:Mg}(h:PVw w base x ⟨pc,rg,vw,ls++[l]⟩ us (lu++[u]) lk (ms++[mr]))
 (hb:Below w.heap.size w w1) (hg:w1.grownBy w' u.v.ownBlock) (hat:u'.v.ownBlock=u.v.ownBlock∨∀ q,u'.v.ownBlock=some q→w1.heap.size≤q) (hr:Own IntE 3 w1 base m.s.v g.view) (hn:∀ q,m.s.v.ownBlock=some q→w.heap.size≤q) (hgv:m.val=g.val∧m.lock=g.lock)
 (hrow:Own MgE 101 w' base u'.v (mr++[m])):PVw w' base x ⟨pc,rg,vw,ls++[l++[g]]⟩ us (lu++[u']) lk (ms++[mr++[m]]):=by
 have ll:=h.ll;have lm:=h.lm
 simp only[List.length_append,List.length_singleton]at ll lm;have hlu:lu.length=ls.length:=by omega
 have hms:ms.length=ls.length:=by omega
 have hbs:=hb.size;have K:KpT [101] 0 w1 w':=KpT.grown ((h.hm lu.length u mr (by simp) (by rw[hlu,← hms];simp)).below hb) (by simp) (Nat.zero_le _) hg;have hml:mr.length=l.length:=(h.mv ms.length mr l (by simp) (by rw[hms];simp)).1;have last:∀ {α:Type}(xs:List α) (a b:α) (i:Nat),(xs++[a])[i]? = some b→(i < xs.length∧xs[i]? = some b)∨(i=xs.length∧b=a):=fun xs a b i h1=>by
  rcases Nat.lt_or_ge i xs.length with hi | hi
  ·rw[List.getElem?_append_left hi]at h1;exact .inl ⟨hi,h1⟩
  ·rw[List.getElem?_append_right hi]at h1
   cases hk:i - xs.length with
   | zero=>rw[hk]at h1;simp at h1;exact .inr ⟨by omega,h1.symm⟩
   | succ k=>rw[hk]at h1;simp at h1
 have old:∀ (i:Nat) (a:Slc),(lu++[u])[i]? = some a→∀ q,a.v.ownBlock=some q→q < w.heap.size:=fun i a h1 q hq=>by
  obtain⟨mr,hmr⟩:=get_of_lt (xs:=ms++[mr]) (k:=i) (by have:=(List.getElem?_eq_some_iff.1 h1).1;simp at this ⊢;omega);exact(World.ownsRow.lt (h.hm i a mr h1 hmr) q hq).2
 have farU:∀ (i:Nat) (a:Slc),lu[i]? = some a→∀ q,a.v.ownBlock=some q→u'.v.ownBlock≠some q:=fun i a h1 q hq e=>by
  have hi:=(List.getElem?_eq_some_iff.1 h1).1;have h1':(lu++[u])[i]? = some a:=by rw[List.getElem?_append_left hi];exact h1
  rcases hat with e' | e'
  ·exact h.mf i lu.length a u h1' (by simp) (by omega) q hq (e' ▸ e)
  ·have:=old i a h1' q hq;have:=e' q e;omega
 refine⟨h.fam.more (ix:=(3,ms.length,mr.length)) (fun u r ho=>K.own (ho.below hb) (by decide)) (K.own hr (by decide)) hn (fun j v q hj => ?_),K.own (h.hv.below hb) (by decide),K.own (h.hl.below hb) (by decide),h.lv,by simp[hlu],by simp[hms],fun i a r h1 h2 => ?_,fun i r l' h1 h2 => ?_,fun i j a b h1 h2 hij q hq => ?_⟩
 ·unfold famOf at hj ⊢
  split at hj <;> try (right;exact hj)
  rename_i i k;rcases Nat.lt_or_ge i ms.length with hi | hi
  ·rw[List.getElem?_append_left hi,List.getElem?_append_left (by omega)]at hj
   right;rw[List.getElem?_append_left hi,List.getElem?_append_left (by omega)];exact hj
  ·rw[List.getElem?_append_right hi,List.getElem?_append_right (by omega)]at hj
   rw[List.getElem?_append_right hi,List.getElem?_append_right (by omega)];cases hk:i - ms.length with
   | succ k=>rw[hk]at hj;simp at hj
   | zero =>
    rw[show i - ls.length=0 by omega,hk]at hj;rw[show i - ls.length=0 by omega];simp only[List.getElem?_cons_zero,Option.bind_some]at hj ⊢;rcases Nat.lt_or_ge k mr.length with hkl | hkl
    ·rw[List.getElem?_append_left hkl,List.getElem?_append_left (by omega)]at hj
     exact .inr hj
    ·left
     rw[List.getElem?_append_right hkl,List.getElem?_append_right (by omega)]at hj;cases hk2:k - mr.length with
     | succ k=>rw[hk2]at hj;simp at hj
     | zero =>
      rw[show k - l.length=0 by omega,hk2]at hj;simp at hj;exact⟨by rw[show i=ms.length by omega,show k=mr.length by omega],hj.1.symm,hj.2.symm⟩
 ·rcases last lu u' a i h1 with⟨hi,e1⟩ | ⟨rfl,rfl⟩
  ·rw[List.getElem?_append_left (by omega)]at h2
   have ho:=(h.hm i a r (by rw[List.getElem?_append_left hi];exact e1) (by rw[List.getElem?_append_left (by omega)];exact h2)).below hb;refine ho.sameT fun q hq=>hg.block q ?_ ?_
   ·exact(World.ownsRow.lt ho q hq).2
   ·intro e
    exact h.mf i lu.length a u (by rw[List.getElem?_append_left hi];exact e1) (by simp) (by omega) q hq e.symm
  ·rcases last ms (mr++[m]) r lu.length h2 with⟨hi,-⟩ | ⟨-,rfl⟩
   ·omega
   ·exact hrow
 ·rcases last ms (mr++[m]) r i h1 with⟨hi,e1⟩ | ⟨rfl,rfl⟩
  ·rw[List.getElem?_append_left (by omega)]at h2
   exact h.mv i r l' (by rw[List.getElem?_append_left hi];exact e1) (by rw[List.getElem?_append_left (by omega)];exact h2)
  ·rcases last ls (l++[g]) l' ms.length h2 with⟨hi,-⟩ | ⟨-,rfl⟩
   ·omega
   ·obtain⟨q1,q2⟩:=h.mv ms.length mr l (by simp) (by rw[hms];simp)
    refine⟨by simp[hml],fun k m' g' hm hg' => ?_⟩;rcases last mr m m' k hm with⟨hk,e1⟩ | ⟨rfl,rfl⟩
    ·rw[List.getElem?_append_left (by omega)]at hg'
     exact q2 k m' g' e1 hg'
    ·rcases last l g g' mr.length hg' with⟨hk,-⟩ | ⟨-,rfl⟩
     ·omega
     ·exact hgv
 ·rcases last lu u' a i h1 with⟨hi,e1⟩ | ⟨ei,ea⟩ <;> rcases last lu u' b j h2 with⟨hj,e2⟩ | ⟨ej,eb⟩
  ·exact h.mf i j a b (by rw[List.getElem?_append_left hi];exact e1) (by rw[List.getElem?_append_left hj];exact e2) hij q hq
  ·rw[eb];exact farU i a e1 q hq
  ·rw[ea]at hq;exact fun e=>farU j b e2 q e hq
  ·exact absurd (ei.trans ej.symm) hij
theorem PVw.putRow {w w1 w':World}{base:Nat}{x:SV}{s:Vw}{us lu lk:List Slc}{ms:List (List MV)}(h:PVw w base x s us lu lk ms) (hb:Below w.heap.size w w1) (hg:w1.grownBy w' x.b.v.ownBlock) {b':Slc}(hl:Own SlcE 102 w' base b'.v lu):PVw w' base ⟨x.p,x.r,x.m,b'⟩ s us lu lu ms:=by
 have K:KpT [102] 0 w1 w':=KpT.grown (h.hl.below hb) (by simp) (Nat.zero_le _) hg;exact⟨h.fam.sub (fun u r ho=>K.own (ho.below hb) (by decide)) (fun j v q hj=>by unfold famOf at hj ⊢;exact hj),K.own (h.hv.below hb) (by decide),hl,h.lv,h.ll,h.lm,fun i u mr h1 h2=>K.own ((h.hm i u mr h1 h2).below hb) (by decide),h.mv,h.mf⟩
end Go.Proofs.Ytnkfphndfijcoaa
namespace Go.Proofs.Ytnkfphndfijcoaa
open Go.RowKit
structure JC5 (A0:World) (pc rg:List Int) (a1 f1 a2 f2 fo:Bool) (A B:Nat) (f g:Slc) (O:Nat) (W:World):Prop where
 out:Below A0.heap.size A0 W
 ln:Lanes W A0.heap.size (laneA a1 f1 A f) (laneA a2 f2 B g) ⟨none,0,0⟩ (laneL f1 pc) (laneL f2 rg) []
 i1:f1=true→a1=true
 i2:f2=true→a2=true
 ob:fo=true→W.heap[O]? = some (.cells #[.slice none 0 0,.slice none 0 0,.slice none 0 0,.slice none 0 0] 79 (0,0))∧A0.heap.size≤O
section
variable {A0 W w' : World} {pc rg : List Int} {a1 f1 a2 f2 fo : Bool} {A B O : Nat} {f g s' : Slc}
theorem JC5.start (hb:Below A0.heap.size A0 W):JC5 A0 pc rg false false false false false A B f g O W:=⟨hb,Lanes.nil _ _,fun e=>(nomatch e),fun e=>(nomatch e),fun e=>(nomatch e)⟩
theorem JC5.obB (hJ:JC5 A0 pc rg a1 f1 a2 f2 fo A B f g O W) (hb:Below W.heap.size W w'):fo=true→w'.heap[O]? = some (.cells #[.slice none 0 0,.slice none 0 0,.slice none 0 0,.slice none 0 0] 79 (0,0))∧A0.heap.size≤O:=fun e =>
 ⟨(hb.block O (Array.getElem?_eq_some_iff.1 (hJ.ob e).1).1).trans (hJ.ob e).1,(hJ.ob e).2⟩
theorem JC5.obG (hJ:JC5 A0 pc rg a1 f1 a2 f2 fo A B f g O W) {c:Slc}{l:List Int}{base:Nat}(ho:Own IntE 3 W base c.v l) (hg:W.grownBy w' c.v.ownBlock):fo=true→w'.heap[O]? = some (.cells #[.slice none 0 0,.slice none 0 0,.slice none 0 0,.slice none 0 0] 79 (0,0))∧A0.heap.size≤O:=fun e=>by
 have h1:=(hJ.ob e).1;refine⟨(hg.block O (Array.getElem?_eq_some_iff.1 h1).1 fun q => ?_).trans h1,(hJ.ob e).2⟩;obtain⟨a,ha⟩:=ho.typeT q.symm;rw[h1]at ha;simp at ha
theorem JC5.outG (hJ:JC5 A0 pc rg a1 f1 a2 f2 fo A B f g O W) {c:Slc}{l:List Int}(ho:Own IntE 3 W A0.heap.size c.v l) (hg:W.grownBy w' c.v.ownBlock):Below A0.heap.size A0 w':=
 hJ.out.grown hg hJ.out.size fun q hq=>(World.ownsRow.lt ho q hq).1
theorem JC5.lit1 (hJ:JC5 A0 pc rg false f1 a2 f2 fo A B f g O W) (hB:A0.heap.size≤W.heap.size):JC5 A0 pc rg true f1 a2 f2 fo W.heap.size B f g O (W.alloc (.cells #[] 3)):=by
 have hb:=(Below.refl W.heap.size W).alloc (Nat.le_refl _) (.cells #[] 3);cases hf:f1 with
 | true=>exact(nomatch hJ.i1 hf)
 | false =>
  subst hf;exact⟨hJ.out.alloc hB _,hJ.ln.put1 (c1':=⟨some ⟨W.heap.size,0,none⟩,0,0⟩) (Own.empty _ _ hB) (grown_of_below hb _) (.inr fun q hq=>by simp[Value.ownBlock]at hq;omega),fun e=>(nomatch e),hJ.i2,hJ.obB hb⟩
theorem JC5.lit2 (hJ:JC5 A0 pc rg a1 f1 false f2 fo A B f g O W) (hB:A0.heap.size≤W.heap.size):JC5 A0 pc rg a1 f1 true f2 fo A W.heap.size f g O (W.alloc (.cells #[] 3)):=by
 have hb:=(Below.refl W.heap.size W).alloc (Nat.le_refl _) (.cells #[] 3);cases hf:f2 with
 | true=>exact(nomatch hJ.i2 hf)
 | false =>
  subst hf;exact⟨hJ.out.alloc hB _,hJ.ln.put2 (c2':=⟨some ⟨W.heap.size,0,none⟩,0,0⟩) (Own.empty _ _ hB) (grown_of_below hb _) (.inr fun q hq=>by simp[Value.ownBlock]at hq;omega),hJ.i1,fun e=>(nomatch e),hJ.obB hb⟩
theorem JC5.app1 (hJ:JC5 A0 pc rg true false a2 f2 fo A B f g O W) (ho:Own IntE 3 w' A0.heap.size s'.v ([]++pc)) (hg:W.grownBy w' (Slc.v ⟨some ⟨A,0,none⟩,0,0⟩).ownBlock) (hat:s'.v.ownBlock=(Slc.v ⟨some ⟨A,0,none⟩,0,0⟩).ownBlock∨∀ q,s'.v.ownBlock=some q→W.heap.size≤q):JC5 A0 pc rg true true a2 f2 fo A B s' g O w':=
 ⟨hJ.outG hJ.ln.o1 hg,hJ.ln.put1 ho hg hat,fun _=>rfl,hJ.i2,hJ.obG hJ.ln.o1 hg⟩
theorem JC5.app2 (hJ:JC5 A0 pc rg a1 f1 true false fo A B f g O W) (ho:Own IntE 3 w' A0.heap.size s'.v ([]++rg)) (hg:W.grownBy w' (Slc.v ⟨some ⟨B,0,none⟩,0,0⟩).ownBlock) (hat:s'.v.ownBlock=(Slc.v ⟨some ⟨B,0,none⟩,0,0⟩).ownBlock∨∀ q,s'.v.ownBlock=some q→W.heap.size≤q):JC5 A0 pc rg a1 f1 true true fo A B f s' O w':=
 ⟨hJ.outG hJ.ln.o2 hg,hJ.ln.put2 ho hg hat,hJ.i1,fun _=>rfl,hJ.obG hJ.ln.o2 hg⟩
theorem JC5.obj (hJ:JC5 A0 pc rg a1 f1 a2 f2 false A B f g O W):JC5 A0 pc rg a1 f1 a2 f2 true A B f g W.heap.size (W.alloc (.cells #[.slice none 0 0,.slice none 0 0,.slice none 0 0,.slice none 0 0] 79)):=
 ⟨hJ.out.alloc hJ.out.size _,hJ.ln.below ((Below.refl _ _).alloc (Nat.le_refl _) _),hJ.i1,hJ.i2,fun _=>⟨heap_alloc_new W _,hJ.out.size⟩⟩
end
def RetVw (w:World) (s:Vw) (e:Ending) (w':World):Prop:=
 ∃ (x:SV) (us lu:List Slc) (ms:List (List MV)),e = .returned (.agg #[.slice x.p.a x.p.n x.p.cap,.slice x.r.a x.r.n x.r.cap,.slice x.m.a x.m.n x.m.cap,.slice x.b.a x.b.n x.b.cap])∧OwnVw w' w.heap.size x s us lu ms∧Below w.heap.size w w'
structure CpB (w:World) (B O:Nat) (vs:List Value) (x:SV):Prop where
 bx:w.heap[B]? = some (.cells vs.toArray 79 (0,0))
 br:w.heap[B+1]? = some (.cells #[.slice none 0 0,.slice none 0 0,.slice none 0 0,.slice none 0 0] 79 (0,0))
 bo:w.heap[O]? = some (.cells #[.slice x.p.a x.p.n x.p.cap,.slice x.r.a x.r.n x.r.cap,.slice x.m.a x.m.n x.m.cap,.slice x.b.a x.b.n x.b.cap] 79 (0,0))
 lO:B+1 < O
theorem CpB.kp {w w':World}{B O:Nat}{vs:List Value}{x:SV}{L:List TypeId}(h:CpB w B O vs x) (k:KpT L 0 w w') (hL:79∉L):CpB w' B O vs x:=⟨k.same h.bx hL,k.same h.br hL,k.same h.bo hL,h.lO⟩
theorem CpB.below {w w':World}{B O:Nat}{vs:List Value}{x:SV}(h:CpB w B O vs x) (k:Below w.heap.size w w'):CpB w' B O vs x:=h.kp ((KpT.of_below (L:=[]) (B:=0) k)) (by simp)
theorem CpB.setM {w:World}{B O:Nat}{vs:List Value}{x:SV}(h:CpB w B O vs x) (m:Slc):CpB (w.setCell ⟨O,2,none⟩ m.v) B O vs ⟨x.p,x.r,m,x.b⟩:=by
 have:=h.lO;exact⟨(heap_setCell_other w ⟨O,2,none⟩ _ _ (show B≠O by omega)).trans h.bx,(heap_setCell_other w ⟨O,2,none⟩ _ _ (show B+1≠O by omega)).trans h.br,heap_setCell_same w O 2 _ _ _ h.bo,h.lO⟩
theorem CpB.setB {w:World}{B O:Nat}{vs:List Value}{x:SV}(h:CpB w B O vs x) (b:Slc):CpB (w.setCell ⟨O,3,none⟩ b.v) B O vs ⟨x.p,x.r,x.m,b⟩:=by
 have:=h.lO;exact⟨(heap_setCell_other w ⟨O,3,none⟩ _ _ (show B≠O by omega)).trans h.bx,(heap_setCell_other w ⟨O,3,none⟩ _ _ (show B+1≠O by omega)).trans h.br,heap_setCell_same w O 3 _ _ _ h.bo,h.lO⟩
theorem Try.infoMgC:(Try.prog.info? 101).map (fun i=>(i.zero,i.size,i.bytes))=some (some (.agg #[.int .i64 0,.bool false,.slice none 0 0]),3,40):=by kernel_rfl
theorem Try.infoMsSM:(Try.prog.info? 102).map (fun i=>(i.zero,i.size,i.bytes))=some (some (.slice none 0 0),1,24):=by kernel_rfl
theorem take_step {α:Type}{xs:List α}{k:Nat}{x:α}(h:xs[k]? = some x):xs.take (k+1)=xs.take k++[x]:=by rw[List.take_add_one,h];rfl
theorem l5Copy_any (x:SV) (s:Vw) (w:World) (hx:RepVw w x s) (h1:s.pc.length≤1048576) (h2:s.rg.length≤1048576) (h3:s.vw.length≤1048576) (h3':∀ r∈s.vw,r.length≤1048576) (h4:s.ls.length≤1048576) (h5:∀ l∈s.ls,l.length≤1048576∧∀ m∈l,m.view.length≤1048576) :
 Calls Try.prog 72 #[.agg #[.slice x.p.a x.p.n x.p.cap,.slice x.r.a x.r.n x.r.cap,.slice x.m.a x.m.n x.m.cap,.slice x.b.a x.b.n x.b.cap]] w (RetVw w s):=by
 obtain⟨⟨pa,pn,pk⟩,⟨ra,rn,rk⟩,⟨ma,mn,mk⟩,⟨ba,bn,bk⟩⟩:=x;have HX:=hide hx;obtain⟨ma',mc',hvm,-,-,-,-⟩:=hx.vw.open;simp only[Slc.v,Value.slice.injEq]at hvm;obtain⟨rfl,hmn,rfl⟩:=hvm;obtain⟨ba',bc',hv,-,-⟩:=hx.ls.open;simp only[Slc.v,Value.slice.injEq]at hv;obtain⟨rfl,hbn,rfl⟩:=hv;have HMN:=hide hmn;have HBN:=hide hbn
 have H3':=hide h3';have H5:=hide h5
 have hmn4:mn≤1048576:=by rw[hmn];exact h3
 have hbn4:bn≤1048576:=by rw[hbn];exact h4
 clear hx h3' h5;have HB0:=hide (((Below.refl w.heap.size w).alloc (Nat.le_refl _) (.cells #[.slice pa pn pk,.slice ra rn rk,.slice ma mn mk,.slice ba bn bk] 79)).alloc (by simp) (.cells #[.slice none 0 0,.slice none 0 0,.slice none 0 0,.slice none 0 0] 79));obtain⟨A0,hA0⟩:∃ A0,A0=(w.alloc (.cells #[.slice pa pn pk,.slice ra rn rk,.slice ma mn mk,.slice ba bn bk] 79)).alloc (.cells #[.slice none 0 0,.slice none 0 0,.slice none 0 0,.slice none 0 0] 79):=⟨_,rfl⟩
 have hz:A0.heap.size=w.heap.size+2:=by rw[hA0];simp
 have HX2:Hid (A0.heap[w.heap.size]? = some (.cells #[.slice pa pn pk,.slice ra rn rk,.slice ma mn mk,.slice ba bn bk] 79 (0,0))):=hide (by
  rw[hA0,heap_alloc_old _ _ (by simp)];exact heap_alloc_new w _)
 have HR2:Hid (A0.heap[w.heap.size+1]? = some (.cells #[.slice none 0 0,.slice none 0 0,.slice none 0 0,.slice none 0 0] 79 (0,0))):=hide (by
  have h:=heap_alloc_new (w.alloc (.cells #[.slice pa pn pk,.slice ra rn rk,.slice ma mn mk,.slice ba bn bk] 79)) (.cells #[.slice none 0 0,.slice none 0 0,.slice none 0 0,.slice none 0 0] 79);rw[hA0];simpa using h)
 have HB:Hid (Below w.heap.size w A0):=hide (by rw[hA0];exact HB0.out);clear HB0;have HA0:=hide hA0;clear hA0 hbn hmn;go_enter Try.func72,Try.ntmps72;go_wp2_with fail;rw[← HA0.out]
 -- reg copy
 refine wp_region_inv3 (n:=10) (by kernel_rfl) rfl (by kernel_rfl) (by kernel_rfl) (fun A ls a' W => ∃ (ga:Nat) (gb:Nat) (f:Slc) (g:Slc) (O:Nat) (x9 x10 x11 x12 x13 x14 x15 x16 x17 x3:Value),a'=putAll A [(9,x9),(10,x10),(11,x11),(12,x12),(13,x13),(14,x14),(15,x15),(16,x16),(17,x17),(3,x3)]∧Vd ls 0 [] x9 (.slice (some ⟨ga,0,none⟩) 0 0)∧Vd ls 1 [] x10 (.pointer (some ⟨w.heap.size,0,none⟩))∧Vd ls 2 [] x11 (.slice pa pn pk)∧Vd ls 3 [0] x12 (.slice f.a f.n f.cap)∧Vd ls 4 [] x13 (.slice (some ⟨gb,0,none⟩) 0 0)∧Vd ls 5 [] x14 (.pointer (some ⟨w.heap.size,1,none⟩))∧Vd ls 6 [] x15 (.slice ra rn rk)∧Vd ls 7 [4] x16 (.slice g.a g.n g.cap)∧Vd ls 8 [0,3,4,7] x17 (.agg #[.slice f.a f.n f.cap,.slice g.a g.n g.cap,.slice none 0 0,.slice none 0 0])∧Vd ls 9 [] x3 (.pointer (some ⟨O,0,none⟩))∧JC5 A0 s.pc s.rg (fl ls 0) (fl ls 3) (fl ls 4) (fl ls 7) (fl ls 9) ga gb f g O W) ?r0 ?rs ?re
 case r0 =>
  exact⟨0,0,⟨none,0,0⟩,⟨none,0,0⟩,0,undef,undef,undef,undef,undef,undef,undef,undef,undef,undef,by simp only[putAll,Act.put,List.setIfInBounds_toArray,List.set_cons_succ,List.set_cons_zero],Vd.start,Vd.start,Vd.start,Vd.start,Vd.start,Vd.start,Vd.start,Vd.start,Vd.start,Vd.start,by simp only[fl_start];exact JC5.start (hz ▸ (Below.refl _ _).drew)⟩
 case rs =>
  rintro ls a' W hs hnl ⟨ga,gb,f,g,O,x9,x10,x11,x12,x13,x14,x15,x16,x17,x3,ha,cv0,cv1,cv2,cv3,cv4,cv5,cv6,cv7,cv8,cv9,hJ⟩ k o hkn mc K hK;simp only[putAll,Act.put,List.setIfInBounds_toArray,List.set_cons_succ,List.set_cons_zero]at ha;subst ha;have hkc:k=0∨k=1∨k=2∨k=3∨k=4∨k=5∨k=6∨k=7∨k=8∨k=9:=by omega
  have hop:=mc.op;have haf:=mc.after;rcases hkc with rfl | rfl | rfl | rfl | rfl | rfl | rfl | rfl | rfl | rfl
  ·simp at hop;subst hop;simp[Region.binds]at haf
   have f0:=fl_no mc.new;rw[f0]at hJ;go_simp;exact hK _ _ ⟨W.heap.size,gb,f,g,O,_,_,_,_,_,_,_,_,_,_,by simp only[putAll,Act.put,List.setIfInBounds_toArray,List.set_cons_succ,List.set_cons_zero],Vd.same (by simp),cv1.set (by decide),cv2.set (by decide),cv3.void (by decide) (by decide) mc.new,cv4.set (by decide),cv5.set (by decide),cv6.set (by decide),cv7.set (by decide),cv8.void (by decide) (by decide) mc.new,cv9.set (by decide),by rw[fl_got hs (by decide),fl_set (show 0≠3 by decide),fl_set (show 0≠4 by decide),fl_set (show 0≠7 by decide),fl_set (show 0≠9 by decide)];exact hJ.lit1 hJ.out.size⟩
  ·simp at hop;subst hop;simp[Region.binds]at haf
   go_simp;exact hK _ _ ⟨ga,gb,f,g,O,_,_,_,_,_,_,_,_,_,_,by simp only[putAll,Act.put,List.setIfInBounds_toArray,List.set_cons_succ,List.set_cons_zero],cv0.set (by decide),Vd.same (by simp),cv2.set (by decide),cv3.set (by decide),cv4.set (by decide),cv5.set (by decide),cv6.set (by decide),cv7.set (by decide),cv8.set (by decide),cv9.set (by decide),by rw[fl_set (show 1≠0 by decide),fl_set (show 1≠3 by decide),fl_set (show 1≠4 by decide),fl_set (show 1≠7 by decide),fl_set (show 1≠9 by decide)];exact hJ⟩
  ·simp at hop;subst hop;simp[Region.binds]at haf
   obtain rfl:=(cv1.get (by simp[haf])).symm;have hbk:=(hJ.out.block w.heap.size (by omega)).trans HX2.out;have d0:W.cell? ⟨w.heap.size,0,none⟩=some (.slice pa pn pk):=cellH hbk (k:=0) rfl;have d1:W.cell? ⟨w.heap.size,1,none⟩=some (.slice ra rn rk):=cellH hbk (k:=1) rfl;have dl:=lt_of_cell d0;go_simp;exact hK _ _ ⟨ga,gb,f,g,O,_,_,_,_,_,_,_,_,_,_,by simp only[putAll,Act.put,List.setIfInBounds_toArray,List.set_cons_succ,List.set_cons_zero],cv0.set (by decide),cv1.set (by decide),Vd.same (by simp),cv3.set (by decide),cv4.set (by decide),cv5.set (by decide),cv6.set (by decide),cv7.set (by decide),cv8.set (by decide),cv9.set (by decide),by rw[fl_set (show 2≠0 by decide),fl_set (show 2≠3 by decide),fl_set (show 2≠4 by decide),fl_set (show 2≠7 by decide),fl_set (show 2≠9 by decide)];exact hJ⟩
  ·simp at hop;subst hop;simp[Region.binds]at haf
   obtain rfl:=(cv0.get (by simp[haf])).symm;obtain rfl:=(cv2.get (by simp[haf])).symm;have f3:=fl_no mc.new;rw[f3]at hJ;have f0:=fl_yes (show ls[0]? = some true by simp[haf]);rw[f0]at hJ;refine step_appSAtM IntE 3 Try.infoInt rfl Try.underlying34 A0.heap.size ⟨some ⟨ga,0,none⟩,0,0⟩ [] s.pc _ (by have h:=hJ.ln.o1;simpa[laneA,laneL] using h) ((HX.out.pc.below HB.out).below (hz ▸ hJ.out)) (by decide) (by simp;omega) (by have:=hJ.out.size;omega) (by rfl) _ _ (by rfl) (by rfl) (by rfl) ?_;intro s6 w6 hown6 hgr6 hat6;exact hK _ _ ⟨ga,gb,s6,g,O,_,_,_,_,_,_,_,_,_,_,by simp only[putAll,Act.put,List.setIfInBounds_toArray,List.set_cons_succ,List.set_cons_zero],cv0.set (by decide),cv1.set (by decide),cv2.set (by decide),Vd.same (by simp[haf]),cv4.set (by decide),cv5.set (by decide),cv6.set (by decide),cv7.set (by decide),cv8.void (by decide) (by decide) mc.new,cv9.set (by decide),by rw[fl_set (show 3≠0 by decide),fl_got hs (by decide),fl_set (show 3≠4 by decide),fl_set (show 3≠7 by decide),fl_set (show 3≠9 by decide),f0];exact hJ.app1 hown6 hgr6 hat6⟩
  ·simp at hop;subst hop;simp[Region.binds]at haf
   have f4:=fl_no mc.new;rw[f4]at hJ;go_simp;exact hK _ _ ⟨ga,W.heap.size,f,g,O,_,_,_,_,_,_,_,_,_,_,by simp only[putAll,Act.put,List.setIfInBounds_toArray,List.set_cons_succ,List.set_cons_zero],cv0.set (by decide),cv1.set (by decide),cv2.set (by decide),cv3.set (by decide),Vd.same (by simp),cv5.set (by decide),cv6.set (by decide),cv7.void (by decide) (by decide) mc.new,cv8.void (by decide) (by decide) mc.new,cv9.set (by decide),by rw[fl_set (show 4≠0 by decide),fl_set (show 4≠3 by decide),fl_got hs (by decide),fl_set (show 4≠7 by decide),fl_set (show 4≠9 by decide)];exact hJ.lit2 hJ.out.size⟩
  ·simp at hop;subst hop;simp[Region.binds]at haf
   go_simp;exact hK _ _ ⟨ga,gb,f,g,O,_,_,_,_,_,_,_,_,_,_,by simp only[putAll,Act.put,List.setIfInBounds_toArray,List.set_cons_succ,List.set_cons_zero],cv0.set (by decide),cv1.set (by decide),cv2.set (by decide),cv3.set (by decide),cv4.set (by decide),Vd.same (by simp),cv6.set (by decide),cv7.set (by decide),cv8.set (by decide),cv9.set (by decide),by rw[fl_set (show 5≠0 by decide),fl_set (show 5≠3 by decide),fl_set (show 5≠4 by decide),fl_set (show 5≠7 by decide),fl_set (show 5≠9 by decide)];exact hJ⟩
  ·simp at hop;subst hop;simp[Region.binds]at haf
   obtain rfl:=(cv5.get (by simp[haf])).symm;have hbk:=(hJ.out.block w.heap.size (by omega)).trans HX2.out;have d0:W.cell? ⟨w.heap.size,0,none⟩=some (.slice pa pn pk):=cellH hbk (k:=0) rfl;have d1:W.cell? ⟨w.heap.size,1,none⟩=some (.slice ra rn rk):=cellH hbk (k:=1) rfl;have dl:=lt_of_cell d0;go_simp;exact hK _ _ ⟨ga,gb,f,g,O,_,_,_,_,_,_,_,_,_,_,by simp only[putAll,Act.put,List.setIfInBounds_toArray,List.set_cons_succ,List.set_cons_zero],cv0.set (by decide),cv1.set (by decide),cv2.set (by decide),cv3.set (by decide),cv4.set (by decide),cv5.set (by decide),Vd.same (by simp),cv7.set (by decide),cv8.set (by decide),cv9.set (by decide),by rw[fl_set (show 6≠0 by decide),fl_set (show 6≠3 by decide),fl_set (show 6≠4 by decide),fl_set (show 6≠7 by decide),fl_set (show 6≠9 by decide)];exact hJ⟩
  ·simp at hop;subst hop;simp[Region.binds]at haf
   obtain rfl:=(cv4.get (by simp[haf])).symm;obtain rfl:=(cv6.get (by simp[haf])).symm;have f7:=fl_no mc.new;rw[f7]at hJ;have f4:=fl_yes (show ls[4]? = some true by simp[haf]);rw[f4]at hJ;refine step_appSAtM IntE 3 Try.infoInt rfl Try.underlying34 A0.heap.size ⟨some ⟨gb,0,none⟩,0,0⟩ [] s.rg _ (by have h:=hJ.ln.o2;simpa[laneA,laneL] using h) ((HX.out.rg.below HB.out).below (hz ▸ hJ.out)) (by decide) (by simp;omega) (by have:=hJ.out.size;omega) (by rfl) _ _ (by rfl) (by rfl) (by rfl) ?_;intro s6 w6 hown6 hgr6 hat6;exact hK _ _ ⟨ga,gb,f,s6,O,_,_,_,_,_,_,_,_,_,_,by simp only[putAll,Act.put,List.setIfInBounds_toArray,List.set_cons_succ,List.set_cons_zero],cv0.set (by decide),cv1.set (by decide),cv2.set (by decide),cv3.set (by decide),cv4.set (by decide),cv5.set (by decide),cv6.set (by decide),Vd.same (by simp[haf]),cv8.void (by decide) (by decide) mc.new,cv9.set (by decide),by rw[fl_set (show 7≠0 by decide),fl_set (show 7≠3 by decide),fl_set (show 7≠4 by decide),fl_got hs (by decide),fl_set (show 7≠9 by decide),f4];exact hJ.app2 hown6 hgr6 hat6⟩
  ·simp at hop;subst hop;simp[Region.binds]at haf
   have q3:=(cv3 (by simp[haf])).1;simp at q3;have q7:=(cv7 (by simp[haf])).1;simp at q7;obtain rfl:=(cv3.get (by simp[haf])).symm;obtain rfl:=(cv7.get (by simp[haf])).symm;go_simp;exact hK _ _ ⟨ga,gb,f,g,O,_,_,_,_,_,_,_,_,_,_,by simp only[putAll,Act.put,List.setIfInBounds_toArray,List.set_cons_succ,List.set_cons_zero],cv0.set (by decide),cv1.set (by decide),cv2.set (by decide),cv3.set (by decide),cv4.set (by decide),cv5.set (by decide),cv6.set (by decide),cv7.set (by decide),Vd.same (by simp[haf,q3,q7]),cv9.set (by decide),by rw[fl_set (show 8≠0 by decide),fl_set (show 8≠3 by decide),fl_set (show 8≠4 by decide),fl_set (show 8≠7 by decide),fl_set (show 8≠9 by decide)];exact hJ⟩
  ·simp at hop;subst hop;simp[Region.binds]at haf
   have f9:=fl_no mc.new;rw[f9]at hJ;go_simp;exact hK _ _ ⟨ga,gb,f,g,W.heap.size,_,_,_,_,_,_,_,_,_,_,by simp only[putAll,Act.put,List.setIfInBounds_toArray,List.set_cons_succ,List.set_cons_zero],cv0.set (by decide),cv1.set (by decide),cv2.set (by decide),cv3.set (by decide),cv4.set (by decide),cv5.set (by decide),cv6.set (by decide),cv7.set (by decide),cv8.set (by decide),Vd.same (by simp),by rw[fl_set (show 9≠0 by decide),fl_set (show 9≠3 by decide),fl_set (show 9≠4 by decide),fl_set (show 9≠7 by decide),fl_got hs (by decide)];exact hJ.obj⟩
 case re =>
  rintro ls a' W hall ⟨ga,gb,f,g,O,x9,x10,x11,x12,x13,x14,x15,x16,x17,x3,ha,cv0,cv1,cv2,cv3,cv4,cv5,cv6,cv7,cv8,cv9,hJ⟩ o hop;simp only[putAll,Act.put,List.setIfInBounds_toArray,List.set_cons_succ,List.set_cons_zero]at ha;subst ha;simp at hop;subst hop;obtain rfl:=(cv0.get (hall 0 (by decide))).symm;obtain rfl:=(cv1.get (hall 1 (by decide))).symm;obtain rfl:=(cv2.get (hall 2 (by decide))).symm;obtain rfl:=(cv3.get (hall 3 (by decide))).symm;obtain rfl:=(cv4.get (hall 4 (by decide))).symm;obtain rfl:=(cv5.get (hall 5 (by decide))).symm;obtain rfl:=(cv6.get (hall 6 (by decide))).symm;obtain rfl:=(cv7.get (hall 7 (by decide))).symm;obtain rfl:=(cv8.get (hall 8 (by decide))).symm;obtain rfl:=(cv9.get (hall 9 (by decide))).symm;rw[fl_yes (hall 0 (by decide))]at hJ;rw[fl_yes (hall 3 (by decide))]at hJ;rw[fl_yes (hall 4 (by decide))]at hJ;rw[fl_yes (hall 7 (by decide))]at hJ;rw[fl_yes (hall 9 (by decide))]at hJ;obtain⟨hbo,hbB⟩:=hJ.ob rfl;have hln:=hJ.ln;simp only[laneA,laneL,if_true]at hln;have hbk:=(hJ.out.block w.heap.size (by omega)).trans HX2.out;have hbr:=(hJ.out.block (w.heap.size+1) (by omega)).trans HR2.out
  have d2:W.cell? ⟨w.heap.size,2,none⟩=some (.slice ma mn mk):=cellH hbk (k:=2) rfl;have dl:=lt_of_cell d2;have hne1:w.heap.size≠O:=by omega
  have c0:W.cell? ⟨O,0,none⟩=some (.slice none 0 0):=cellH hbo (k:=0) rfl;have c1:W.cell? ⟨O,1,none⟩=some (.slice none 0 0):=cellH hbo (k:=1) rfl;have c2:W.cell? ⟨O,2,none⟩=some (.slice none 0 0):=cellH hbo (k:=2) rfl;have c3:W.cell? ⟨O,3,none⟩=some (.slice none 0 0):=cellH hbo (k:=3) rfl;have cfz:=frozH hbo;have cl:=lt_of_cell c0;go_simp;have hb0:=heap_setCell_same W O 0 _ _ (.slice f.a f.n f.cap) hbo;have hb1:=heap_setCell_same (W.setCell ⟨O,0,none⟩ (.slice f.a f.n f.cap)) O 1 _ _ (.slice g.a g.n g.cap) hb0;have hb2:=heap_setCell_same ((W.setCell ⟨O,0,none⟩ (.slice f.a f.n f.cap)).setCell ⟨O,1,none⟩ (.slice g.a g.n g.cap)) O 2 _ _ (.slice none 0 0) hb1;have hb3:=heap_setCell_same (((W.setCell ⟨O,0,none⟩ (.slice f.a f.n f.cap)).setCell ⟨O,1,none⟩ (.slice g.a g.n g.cap)).setCell ⟨O,2,none⟩ (.slice none 0 0)) O 3 _ _ (.slice none 0 0) hb2;have hp0:=(PVw.start hln.o1 hln.o2 hln.d12).mono (base':=w.heap.size) (by omega)
  have hp4:=(((hp0.setT (T:=79) (by decide) (by decide) (by decide) (by decide) ⟨_,hbo⟩ 0 (.slice f.a f.n f.cap)).setT (T:=79) (by decide) (by decide) (by decide) (by decide) ⟨_,hb0⟩ 1 (.slice g.a g.n g.cap)).setT (T:=79) (by decide) (by decide) (by decide) (by decide) ⟨_,hb1⟩ 2 (.slice none 0 0)).setT (T:=79) (by decide) (by decide) (by decide) (by decide) ⟨_,hb2⟩ 3 (.slice none 0 0);have hO:=(((hJ.out.setCell (p:=⟨O,0,none⟩) hbB (.slice f.a f.n f.cap)).setCell (p:=⟨O,1,none⟩) hbB (.slice g.a g.n g.cap)).setCell (p:=⟨O,2,none⟩) hbB (.slice none 0 0)).setCell (p:=⟨O,3,none⟩) hbB (.slice none 0 0);have HP0:=hide hp4;have HC0:=hide (CpB.mk (x:=⟨f,g,⟨none,0,0⟩,⟨none,0,0⟩⟩) (B:=w.heap.size) ((hO.block w.heap.size (by omega)).trans HX2.out) ((hO.block (w.heap.size+1) (by omega)).trans HR2.out) hb3 (by omega));have HB9:=hide (HB.out.trans (hO.mono HB.out.size));clear hb0 hb1 hb2 hb3 hp0 hp4 hO hbB hJ hln hbk hbr c0 c1 c2 c3 cfz cl hbo;go_wp2_with fail;clear d2 dl hne1
  go_loopw [4] (fun i wr => ∃ k:Nat,k≤mn∧i = .int .i64 k∧(∃ (sv:Slc) (us:List Slc),CpB wr w.heap.size O [.slice pa pn pk,.slice ra rn rk,.slice ma mn mk,.slice ba bn bk] ⟨f,g,sv,⟨none,0,0⟩⟩∧PVw wr w.heap.size ⟨f,g,sv,⟨none,0,0⟩⟩ ⟨s.pc,s.rg,s.vw.take k,[]⟩ us [] [] [])∧Below w.heap.size w wr) (fun i _=>mn - (intOf i).toNat)
  case atStart=>exact⟨0,Nat.zero_le _,rfl,⟨_,_,HC0.out,HP0.out⟩,HB9.out⟩
  case round =>
   obtain⟨k,hk,rfl,⟨⟨sa,sn,sc⟩,us,hc,hp⟩,hbr⟩:=hrel;have x2:wr.cell? ⟨w.heap.size,2,none⟩=some (.slice ma mn mk):=cellH hc.bx (k:=2) rfl;have o2:wr.cell? ⟨O,2,none⟩=some (.slice sa sn sc):=cellH hc.bo (k:=2) rfl;have ofz:=frozH hc.bo;have xl:=lt_of_cell x2;have ol:=lt_of_cell o2;have HC:=hide hc;have HP:=hide hp;have HBR:=hide hbr
   have hbs:w.heap.size≤wr.heap.size:=hbr.size;have hlO:=hc.lO;clear hc hp hbr;by_cases hlt:k < mn
   ·obtain⟨r,hrk⟩:=get_of_lt (xs:=s.vw) (k:=k) (by rw[← HMN.out];exact hlt)
    have hltk:=nat_of_lt hlt;obtain⟨b2,o2',qa,qc,rfl,hbl2,q0,q1⟩:=(show Rep2 IntE w (.slice ma mn mk) s.vw from HX.out.vw).row hrk;have q0:=(HBR.out.cell (p:=⟨b2,o2'+k,none⟩) hbl2).trans q0;have hbl2':=Nat.lt_of_lt_of_le hbl2 hbs;have RS:=hide (take_step hrk);have hn1:([]:List Int).length+r.length≤68719476736:=by have:=H3'.out r (List.mem_of_getElem? hrk);simp;omega
    have HRP:=hide ((q1.below HBR.out).below ((Below.refl wr.heap.size wr).alloc (Nat.le_refl _) (.cells #[] 3)).drew);have HLT:Hid (Own IntE 3 (wr.alloc (.cells #[] 3)).drew wr.heap.size (.slice (some ⟨wr.heap.size,0,none⟩) 0 0) []):=hide (Own.empty (E:=IntE) 3 wr (Nat.le_refl _));have HUL:Hid (us.length≤68719476736):=hide (by rw[HP.out.lv];simp only[List.length_take];omega);clear hrk q1;go_wp2_with fail
    go_region_law (first
     | (refine step_appSAtM IntE 3 Try.infoInt rfl Try.underlying34 wr.heap.size ⟨some ⟨wr.heap.size,0,none⟩,0,0⟩ [] r _ HLT.out HRP.out (by decide) hn1 (by simp) (by rfl) _ _ (by rfl) (by rfl) (by rfl) ?_;rintro ⟨a6,n6,c6⟩ w6 hown6 hgr6 -;have O6:=hide hown6;have B6:=hide (below_litM hgr6);have hk6:(∀ o,w6.cell? ⟨O,o,none⟩=wr.cell? ⟨O,o,none⟩):=(fun o=>B6.out.cell (p:=⟨O,o,none⟩) ol);have hb6:=B6.out.size;have ol6:O < w6.heap.size:=(Nat.lt_of_lt_of_le ol hb6);clear hown6 hgr6)
     | (refine step_app SlcE 34 Try.infoIntSM rfl Try.underlying23 w.heap.size _ us ⟨a6,n6,c6⟩ ((HP.out.hv.below B6.out).alloc _) (by decide) HUL.out (by simp;omega) (by rfl) _ _ (by rfl) (by rfl) w6.heap.size 0 1 (by rfl) news_alloc ?_;intro v8 w8 hown8 hgr8;obtain⟨⟨a8,n8,c8⟩,rfl,-⟩:=hown8.toSlc;have K8:=(KpT.of_below (L:=[34]) (B:=0) (B6.out.alloc hb6 (.cells #[.slice a6 n6 c6] 34))).trans (KpT.grown ((HP.out.hv.below B6.out).alloc _) (by decide) (Nat.zero_le _) hgr8);have bo8:=K8.same HC.out.bo (by decide);have o8:w8.cell? ⟨O,2,none⟩=some (.slice sa sn sc):=cellH bo8 (k:=2) rfl;have ofz8:=frozH bo8;have ol8:=lt_of_cell o8;have G8:=hide hgr8;have O8:=hide hown8;clear hown8 hgr8))
    all_goals
     have P8:=HP.out.addView (B6.out.alloc hb6 (.cells #[.slice a6 n6 c6] 34)) G8.out ((O6.out.mono hbs).alloc _) (fun q hq=>(World.ownsRow.lt O6.out q hq).1) O8.out;simp only[List.nil_append]at P8;rw[← RS.out]at P8;have P9:=hide (P8.setT (T:=79) (by decide) (by decide) (by decide) (by decide) ⟨_,bo8⟩ 2 (.slice a8 n8 c8));have B8:=(HBR.out.trans (B6.out.mono hbs)).alloc (Nat.le_trans hbs hb6) (.cells #[.slice a6 n6 c6] 34);have B9:=B8.grown G8.out (by simp;omega) (fun q hq=>(World.ownsRow.lt HP.out.hv q hq).1);have HC9:=hide ((HC.out.kp K8 (by decide)).setM ⟨a8,n8,c8⟩);have HB10:=hide (B9.setCell (p:=⟨O,2,none⟩) (show w.heap.size≤O by omega) (.slice a8 n8 c8));clear P8 B8 B9 K8 bo8;go_wp2_with fail;go_roundw
     case rel=>exact⟨k+1,by omega,by go_num,⟨⟨a8,n8,c8⟩,_,HC9.out,P9.out⟩,HB10.out⟩
     case measure=>simp[intOf];omega
   ·obtain rfl:k=mn:=by omega
    have HP1:=hide (show PVw wr w.heap.size ⟨f,g,⟨sa,sn,sc⟩,⟨none,0,0⟩⟩ ⟨s.pc,s.rg,s.vw,s.ls.take 0⟩ us [] [] [] by have h:=HP.out;rw[List.take_of_length_le (by rw[HMN.out];exact Nat.le_refl _)]at h;simpa using h);have HC1:=HC;have HBR1:=HBR
    clear HC HP HBR ofz hlt hk;go_wp2_with fail;clear x2 o2 xl ol hbs
    go_loopw [5] (fun i wr => ∃ r:Nat,r≤bn∧i = .int .i64 r∧(∃ (sb:Slc) (lu:List Slc) (ms:List (List MV)),CpB wr w.heap.size O [.slice pa pn pk,.slice ra rn rk,.slice ma k mk,.slice ba bn bk] ⟨f,g,⟨sa,sn,sc⟩,sb⟩∧PVw wr w.heap.size ⟨f,g,⟨sa,sn,sc⟩,sb⟩ ⟨s.pc,s.rg,s.vw,s.ls.take r⟩ us lu lu ms)∧Below w.heap.size w wr) (fun i _=>bn - (intOf i).toNat)
    case atStart=>exact⟨0,Nat.zero_le _,rfl,⟨_,_,_,HC1.out,HP1.out⟩,HBR1.out⟩
    case round =>
     obtain⟨r,hr,rfl,⟨⟨ta,tn,tc⟩,lu,ms,hc,hp⟩,hbr⟩:=hrel;have x3:wr.cell? ⟨w.heap.size,3,none⟩=some (.slice ba bn bk):=cellH hc.bx (k:=3) rfl;have xl:=lt_of_cell x3;have HC:=hide hc;have HP:=hide hp;have HBR:=hide hbr
     have hbs:w.heap.size≤wr.heap.size:=hbr.size;by_cases hlt:r < bn
     ·obtain⟨l,hl⟩:=get_of_lt (xs:=s.ls) (k:=r) (by rw[← HBN.out];exact hlt)
      have hltr:=nat_of_lt hlt;obtain⟨b2,o2',la,lc,rfl,hbl2,q0,q1,-⟩:=(show RepLs w (.slice ba bn bk) s.ls from HX.out.ls).row hl;obtain⟨hll,hlm⟩:=H5.out l (List.mem_of_getElem? hl);have HLM:=hide hlm;have RS:=hide (take_step hl);have HL:=hide hl;have Q0:=hide q0;have Q1:=hide q1
      have PN:=hide (HP.out.newRow (w':=wr.alloc (.cells #[] 101)) ((Below.refl _ _).alloc (Nat.le_refl _) _) (u:=⟨some ⟨wr.heap.size,0,none⟩,0,0⟩) (Own.empty _ _ hbs) (fun q hq=>by simp[Value.ownBlock]at hq;omega));have CN:=hide (HC.out.below ((Below.refl wr.heap.size wr).alloc (Nat.le_refl _) (.cells #[] 101)));have BN:=hide (HBR.out.alloc hbs (.cells #[] 101));clear hc hp hbr hl q0 q1 hlm;go_wp2_with fail;clear x3 xl
      go_loopw [6,7] (fun v i wr => ∃ (j:Nat) (u:Slc) (mr:List MV),j≤l.length∧i = .int .i64 j∧v=u.v∧CpB wr w.heap.size O [.slice pa pn pk,.slice ra rn rk,.slice ma k mk,.slice (some ⟨b2,o2',none⟩) bn bk] ⟨f,g,⟨sa,sn,sc⟩,⟨ta,tn,tc⟩⟩∧PVw wr w.heap.size ⟨f,g,⟨sa,sn,sc⟩,⟨ta,tn,tc⟩⟩ ⟨s.pc,s.rg,s.vw,s.ls.take r++[l.take j]⟩ us (lu++[u]) lu (ms++[mr])∧Below w.heap.size w wr) (fun _ i _=>l.length - (intOf i).toNat)
      case atStart=>exact⟨0,_,_,Nat.zero_le _,rfl,rfl,CN.out,PN.out,BN.out⟩
      case round =>
       obtain⟨j,⟨ua,un,uc⟩,mr,hj,rfl,rfl,hc,hp,hbr⟩:=hrel;have x3:wr.cell? ⟨w.heap.size,3,none⟩=some (.slice (some ⟨b2,o2',none⟩) bn bk):=cellH hc.bx (k:=3) rfl;have xl:=lt_of_cell x3;have q0:=(hbr.cell (p:=⟨b2,o2'+r,none⟩) hbl2).trans Q0.out;have q0l:=lt_of_cell q0;have HC:=hide hc;have HP:=hide hp;have HBR:=hide hbr
       have hbs:w.heap.size≤wr.heap.size:=hbr.size;clear hc hp hbr;by_cases hltj:j < l.length
       ·obtain⟨m,hm⟩:=get_of_lt (xs:=l) (k:=j) hltj
        have hltj':=nat_of_lt hltj;obtain⟨b3,o3,va,vc,rfl,hb3,y0,y1,y2,y3⟩:=Q1.out.msg hm;have z0:=(HBR.out.cell (p:=⟨b3,o3+j * 3,none⟩) hb3).trans y0;have z1:=(HBR.out.cell (p:=⟨b3,o3+j * 3+1,none⟩) hb3).trans y1;have z2:=(HBR.out.cell (p:=⟨b3,o3+j * 3+2,none⟩) hb3).trans y2;have Z3:=hide (y3.below HBR.out);have zl:=lt_of_cell z0;have hml:=HLM.out m (List.mem_of_getElem? hm);have RM:=hide (take_step hm);clear y0 y1 y2 y3 hm;obtain⟨W1,hW1⟩:∃ W1,W1=wr.alloc (.cells #[.int .i64 m.val,.bool m.lock,.slice va m.view.length vc] 101):=⟨_,rfl⟩
        have HW1:=hide hW1;have hzw:W1.heap.size=wr.heap.size+1:=by rw[hW1];simp
        have B1:=hide (show Below wr.heap.size wr W1 by rw[hW1];exact belowAlloc _ _);have M1:=hide (show W1.heap[wr.heap.size]? = some (.cells #[.int .i64 m.val,.bool m.lock,.slice va m.view.length vc] 101 (0,0)) by rw[hW1];exact heap_alloc_new wr _);have OE:=hide (show Own IntE 3 (W1.alloc (.cells #[] 3)) (wr.heap.size+1) (.slice (some ⟨wr.heap.size+1,0,none⟩) 0 0) [] by rw[← hzw];exact Own.empty (E:=IntE) 3 W1 (Nat.le_refl _));have RR:=hide ((Z3.out.below B1.out).below (belowAlloc W1 (.cells #[] 3)));have hlen14:([]:List Int).length+m.view.length≤68719476736:=by simp;omega
        have hmrl:mr.length≤68719476736:=by
         have h:=HP.out.mv ms.length mr (l.take j) (by simp) (by have:=HP.out.lm;simp only[List.length_append,List.length_singleton]at this;rw[show ms.length=(s.ls.take r).length by omega];simp);rw[h.1,List.length_take];omega
        have OMR:=hide (HP.out.hm lu.length ⟨ua,un,uc⟩ mr (by simp) (by have h1:=HP.out.lm;have h2:=HP.out.ll;simp only[List.length_append,List.length_singleton]at h1 h2;rw[show lu.length=ms.length by omega];simp));clear hW1;go_wp2_with (first
         | (at_builtin;rw[← HW1.out];refine wpList_appS IntE 3 Try.infoInt rfl Try.underlying34 (wr.heap.size+1) _ [] m.view _ OE.out RR.out (by decide) hlen14 (by rw[← hzw];simp) rfl _ _ rfl rfl rfl ?_;intro v14 w14 hown14 hgr14;obtain⟨⟨a14,n14,c14⟩,rfl,-⟩:=hown14.toSlc;have O14:=hide hown14;have B14:=hide ((belowAlloc W1 (.cells #[] 3)).grown hgr14 (by simp) (fun q hq=>by simp[Value.ownBlock]at hq;omega));have M14:=hide ((B14.out.block wr.heap.size (by omega)).trans M1.out);have n2:=cellH M14.out (k:=2) rfl;have nz:=frozH M14.out;have nl:=lt_of_cell n2;have M15:=hide (heap_setCell_same w14 wr.heap.size 2 _ _ (.slice a14 n14 c14) M14.out);have m0:=cellH M15.out (k:=0) rfl;have m1:=cellH M15.out (k:=1) rfl;have m2:=cellH M15.out (k:=2) rfl;obtain⟨W15,hW15⟩:∃ W15,W15=w14.setCell ⟨wr.heap.size,2,none⟩ (.slice a14 n14 c14):=⟨_,rfl⟩;have HW15:=hide hW15;have B15:=hide (show Below wr.heap.size wr W15 from by rw[hW15];exact(B1.out.trans (B14.out.mono B1.out.size)).setCell (Nat.le_refl _) _);have O15:=hide (show Own IntE 3 W15 (wr.heap.size+1) (Slc.v ⟨a14,n14,c14⟩) m.view from by rw[hW15];exact Own.setOther (by decide) (by simpa using O14.out) M14.out);have hz15:W15.heap.size=w14.heap.size:=(by rw[hW15];simp);clear hown14 hgr14 hW15)
         | (at_builtin;rw[← HW15.out];refine wpList_appAt MgE 101 Try.infoMgC rfl Try.underlying102 w.heap.size _ mr ⟨m.val,m.lock,⟨a14,n14,c14⟩⟩ ((OMR.out.below B15.out).alloc _) (by decide) hmrl (by have:=B15.out.size;simp;omega) rfl _ _ rfl rfl w14.heap.size 0 1 rfl (news_allocA hz15) ?_;intro v16 w16 hown16 hgr16 hat16;obtain⟨⟨a16,n16,c16⟩,rfl,-⟩:=hown16.toSlc;have O16:=hide hown16;have G16:=hide hgr16;have A16:=hide hat16;clear hown16 hgr16 hat16))
        have B16:=hide (((HBR.out.trans (B15.out.mono hbs)).alloc (by have:=B15.out.size;omega) _).grown G16.out (by have:=B15.out.size;simp;omega) (fun q hq=>(World.ownsRow.lt OMR.out q hq).1));have P16:=HP.out.addMsg (g:=m) (m:=⟨m.val,m.lock,⟨a14,n14,c14⟩⟩) (B15.out.alloc B15.out.size _) G16.out (A16.out.imp id (fun ⟨q',h1,h2⟩ q hq=>by rw[h1]at hq;cases hq;exact h2)) ((O15.out.mono (by omega)).alloc _) (fun q hq=>by have:=(World.ownsRow.lt O15.out q hq).1;omega) ⟨rfl,rfl⟩ O16.out;rw[← RM.out]at P16;have P17:=hide P16;have C17:=hide ((HC.out.below (B15.out.alloc B15.out.size _)).kp (KpT.grown ((OMR.out.below B15.out).alloc _) (by simp) (Nat.zero_le _) G16.out:KpT [101] 0 _ _) (by decide));clear P16 m0 m1 m2 n2 nz nl;go_wp2_with fail;go_roundw
        case rel=>exact⟨j+1,⟨a16,n16,c16⟩,_,by omega,by go_num,rfl,C17.out,P17.out,B16.out⟩
        case measure=>simp[intOf];omega
       ·obtain rfl:j=l.length:=by omega
        have P1:=HP.out;rw[List.take_length,← RS.out]at P1;have HP1':=hide P1;have o3:wr.cell? ⟨O,3,none⟩=some (.slice ta tn tc):=cellH HC.out.bo (k:=3) rfl;have ofz:=frozH HC.out.bo;have ol:=lt_of_cell o3;have hlul:lu.length≤68719476736:=by
         have h1:=HP.out.ll;simp only[List.length_append,List.length_singleton,List.length_take]at h1;omega
        clear P1 hltj hj;go_wp2_with (at_builtin;refine wpList_app SlcE 102 Try.infoMsSM rfl Try.underlying77 w.heap.size _ lu ⟨ua,un,uc⟩ (HP1'.out.hl.alloc _) (by decide) hlul (by simp;omega) rfl _ _ rfl rfl _ 0 1 rfl news_alloc ?_;intro v18 w18 hown18 hgr18;obtain⟨⟨a18,n18,c18⟩,rfl,-⟩:=hown18.toSlc;have O18:=hide hown18;have G18:=hide hgr18;have K18:=hide ((KpT.of_below (L:=[102]) (B:=0) ((Below.refl wr.heap.size wr).alloc (Nat.le_refl _) (.cells #[.slice ua un uc] 102))).trans (KpT.grown (HP1'.out.hl.alloc _) (by simp) (Nat.zero_le _) hgr18));have bo18:=K18.out.same HC.out.bo (by decide);have o18:w18.cell? ⟨O,3,none⟩=some (.slice ta tn tc):=cellH bo18 (k:=3) rfl;have ofz18:=frozH bo18;have ol18:=lt_of_cell o18;have BO18:=hide bo18;clear hown18 hgr18 bo18);have P18:=hide ((HP1'.out.putRow ((Below.refl wr.heap.size wr).alloc (Nat.le_refl _) (.cells #[.slice ua un uc] 102)) G18.out O18.out).setT (T:=79) (by decide) (by decide) (by decide) (by decide) ⟨_,BO18.out⟩ 3 (.slice a18 n18 c18));have C18:=hide ((HC.out.kp K18.out (by decide)).setB ⟨a18,n18,c18⟩)
        have B18:=hide (((HBR.out.alloc hbs (.cells #[.slice ua un uc] 102)).grown G18.out (by simp;omega) (fun q hq=>(World.ownsRow.lt HP1'.out.hl q hq).1)).setCell (p:=⟨O,3,none⟩) (show w.heap.size≤O by have:=HC.out.lO;omega) (.slice a18 n18 c18));go_roundw
        case rel=>exact⟨r+1,by omega,by go_num,⟨⟨a18,n18,c18⟩,_,_,C18.out,P18.out⟩,B18.out⟩
        case measure=>simp[intOf];omega
     ·obtain rfl:r=bn:=by omega
      have PF:=hide (show OwnVw wr w.heap.size ⟨f,g,⟨sa,sn,sc⟩,⟨ta,tn,tc⟩⟩ s us lu ms by have h:=HP.out.full;rw[List.take_of_length_le (by rw[HBN.out];exact Nat.le_refl _)]at h;exact h);have o0:wr.cell? ⟨O,0,none⟩=some (.slice f.a f.n f.cap):=cellH hc.bo (k:=0) rfl;have o1:wr.cell? ⟨O,1,none⟩=some (.slice g.a g.n g.cap):=cellH hc.bo (k:=1) rfl;have o2:wr.cell? ⟨O,2,none⟩=some (.slice sa sn sc):=cellH hc.bo (k:=2) rfl;have o3:wr.cell? ⟨O,3,none⟩=some (.slice ta tn tc):=cellH hc.bo (k:=3) rfl;have ol:=lt_of_cell o0;have r0:wr.cell? ⟨w.heap.size+1,0,none⟩=some (.slice none 0 0):=cellH hc.br (k:=0) rfl;have r1:wr.cell? ⟨w.heap.size+1,1,none⟩=some (.slice none 0 0):=cellH hc.br (k:=1) rfl;have r2:wr.cell? ⟨w.heap.size+1,2,none⟩=some (.slice none 0 0):=cellH hc.br (k:=2) rfl;have r3:wr.cell? ⟨w.heap.size+1,3,none⟩=some (.slice none 0 0):=cellH hc.br (k:=3) rfl;have rfz:=frozH hc.br;have rl:=lt_of_cell r0;clear hc hp hbr;go_wp2_with fail;have t0:TyB 79 wr (w.heap.size+1):=⟨_,HC.out.br⟩
      refine bodyPost_ret (v:=.agg #[.slice f.a f.n f.cap,.slice g.a g.n g.cap,.slice sa sn sc,.slice ta tn tc]) (by simp[results,Try.results72,go_sem, *]) rfl ⟨⟨f,g,⟨sa,sn,sc⟩,⟨ta,tn,tc⟩⟩,us,lu,ms,rfl,?_,?_⟩
      ·exact(((PF.out.setT (by decide) (by decide) (by decide) (by decide) t0 0 _).setT (by decide) (by decide) (by decide) (by decide) (t0.set _ _ _) 1 _).setT (by decide) (by decide) (by decide) (by decide) ((t0.set _ _ _).set _ _ _) 2 _).setT (by decide) (by decide) (by decide) (by decide) (((t0.set _ _ _).set _ _ _).set _ _ _) 3 _
      ·exact(((HBR.out.setCell (p:=⟨w.heap.size+1,0,none⟩) (show w.heap.size≤w.heap.size+1 by omega) _).setCell (p:=⟨w.heap.size+1,1,none⟩) (show w.heap.size≤w.heap.size+1 by omega) _).setCell (p:=⟨w.heap.size+1,2,none⟩) (show w.heap.size≤w.heap.size+1 by omega) _).setCell (p:=⟨w.heap.size+1,3,none⟩) (show w.heap.size≤w.heap.size+1 by omega) _
 -- end copy
end Go.Proofs.Ytnkfphndfijcoaa
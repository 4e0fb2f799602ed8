/-
  RobustProgram at a machine with store buffers. Condition: a bound on the number of instructions.
-/
import Derived.Test.YtlddmagfbcomgaaGreatZq00
import Derived.Test.YtlddmagfbcomgaaGreatZq02
import Derived.Test.YtlddmagfbcomgaaGreatZq11
import Derived.Test.YtlddmagfbcomgaaGreatZq22
import Derived.Test.YtlddmagfbcomgaaGreatZq06
import Derived.Test.YtlddmagfbcomgaaGreatZq14
set_option maxHeartbeats 6400000
set_option maxRecDepth 100000
namespace Go.Proofs.YtlddmagfbcomgaaGreat
def rowIns (t k:Nat):List Gp:=(List.range k).map fun (i:Nat)=>⟨t,i⟩
def instrsTo (p:List (List Ins)) (j:Nat):List Gp:=(List.range j).flatMap fun t=>match p[t]? with
 | some r=>rowIns t r.length
 | none=>[]
def insAll (p:List (List Ins)):List Gp:=instrsTo p p.length
theorem rowIns_succ (t k:Nat):rowIns t (k+1)=rowIns t k++[⟨t,k⟩]:=by simp [rowIns,List.range_succ]
theorem instrsTo_succ {p:List (List Ins)} {j:Nat} {r:List Ins} (h:p[j]? = some r):instrsTo p (j+1)=instrsTo p j++rowIns j r.length:=by
 unfold instrsTo
 rw [List.range_succ,List.flatMap_append]
 simp [h]
theorem rowIns_length (t k:Nat):(rowIns t k).length=k:=by simp [rowIns]
theorem instrsTo_length (p:List (List Ins)):∀ j,j≤p.length→(instrsTo p j).length=(p.take j).flatten.length:=by
 intro j
 induction j with
 | zero=>intro _;simp [instrsTo]
 | succ j ih =>
  intro hj
  obtain ⟨r,hr⟩:=get_of_lt (xs:=p) (k:=j) hj
  rw [instrsTo_succ hr,List.take_add_one,hr,List.flatten_append,List.length_append,List.length_append,ih (by omega),rowIns_length]
  simp
theorem mem_instrsTo {p:List (List Ins)} {j:Nat} {g:Gp} (h:g∈instrsTo p j):∃ (t i:Nat) (r:List Ins) (x:Ins),g=⟨t,i⟩∧t < j∧p[t]? = some r∧r[i]? = some x:=by
 unfold instrsTo at h
 rw [List.mem_flatMap] at h
 obtain ⟨t,ht,hg⟩:=h
 cases hr:p[t]? with
 | none=>rw [hr] at hg;simp at hg
 | some r =>
  rw [hr] at hg
  simp only [rowIns,List.mem_map,List.mem_range] at hg
  obtain ⟨i,hi,rfl⟩:=hg
  obtain ⟨x,hx⟩:=get_of_lt (xs:=r) (k:=i) hi
  exact ⟨t,i,r,x,rfl,by simpa using ht,hr,hx⟩
def insAt (p:List (List Ins)) (g:Gp):Option Ins:=(p[g.t.toNat]?).bind fun r=>r[g.i.toNat]?
theorem insAt_eq {p:List (List Ins)} {t i:Nat} {r:List Ins} {x:Ins} (hr:p[t]? = some r) (hx:r[i]? = some x):insAt p ⟨t,i⟩=some x:=by simp [insAt,hr,hx]
def conflictR (o l o2 l2:Int):Bool:=o != 4&&o2 != 4&&l==l2&&(isWop o||isWop o2)
def conflictB (x y:Ins):Bool:=conflictR x.op x.loc y.op y.loc
def plainB (x:Ins):Bool:=x.op != 5
def raceB (p:List (List Ins)) (a b:Gp):Bool:=decide (a.t < b.t)&&match insAt p a,insAt p b with
 | some x,some y=>conflictB x y&&(plainB x||plainB y)
 | _,_=>false
structure Rc where
 a:Gp
 b:Gp
deriving DecidableEq
def RcE:El Rc:=⟨4,by decide,fun x=>[.int .i64 x.a.t, .int .i64 x.a.i, .int .i64 x.b.t, .int .i64 x.b.i],fun _=>rfl,fun x u h=>by simp at h;rcases h with rfl | rfl | rfl | rfl <;> rfl⟩
def racesOf (p:List (List Ins)) (a:Gp) (L:List Gp):List Rc:=(L.filter (raceB p a)).map fun b=>⟨a,b⟩
def racesTo (p:List (List Ins)) (L:List Gp):List Rc:=L.flatMap fun a=>racesOf p a (insAll p)
def racesP (p:List (List Ins)):List Rc:=racesTo p (insAll p)
def racesV (p:List (List Ins)):List Rc:=if progValid p=true then racesP p else []
theorem racesOf_succ (p:List (List Ins)) (a:Gp) {L:List Gp} {m:Nat} {b:Gp} (h:L[m]? = some b):racesOf p a (L.take (m+1))=racesOf p a (L.take m)++if raceB p a b=true then [⟨a,b⟩] else []:=by
 unfold racesOf
 rw [List.take_add_one,h,List.filter_append,List.map_append]
 by_cases e:raceB p a b=true <;> simp [e]
theorem racesOf_snoc (p:List (List Ins)) (a:Gp) (L:List Gp) (b:Gp):racesOf p a (L++[b])=racesOf p a L++if raceB p a b=true then [⟨a,b⟩] else []:=by
 unfold racesOf
 rw [List.filter_append,List.map_append]
 by_cases e:raceB p a b=true <;> simp [e]
theorem racesTo_succ (p:List (List Ins)) {L:List Gp} {k:Nat} {a:Gp} (h:L[k]? = some a):racesTo p (L.take (k+1))=racesTo p (L.take k)++racesOf p a (insAll p):=by
 unfold racesTo
 rw [List.take_add_one,h,List.flatMap_append];simp
theorem racesOf_length (p:List (List Ins)) (a:Gp) (L:List Gp):(racesOf p a L).length≤L.length:=by
 unfold racesOf;rw [List.length_map];exact List.length_filter_le _ _
theorem racesTo_length (p:List (List Ins)) (L:List Gp):(racesTo p L).length≤L.length * (insAll p).length:=by
 unfold racesTo
 induction L with
 | nil=>simp
 | cons a L ih =>
  rw [List.flatMap_cons,List.length_append,List.length_cons,Nat.add_mul]
  have:=racesOf_length p a (insAll p)
  omega
theorem raceB_eq {p:List (List Ins)} {t i u k:Nat} {r s:List Ins} {x y:Ins} (hr:p[t]? = some r) (hx:r[i]? = some x) (hs:p[u]? = some s) (hy:s[k]? = some y) :
 raceB p ⟨t,i⟩ ⟨u,k⟩=(decide ((t:Int) < u)&&(conflictB x y&&(plainB x||plainB y))):=by
 unfold raceB;rw [insAt_eq hr hx,insAt_eq hs hy]
end Go.Proofs.YtlddmagfbcomgaaGreat
namespace Go.Proofs.YtlddmagfbcomgaaGreat
open Go.RowKit
def bitsTo (f:Nat→Bool):Nat→Int
 | 0=>0
 | k+1=>if f k=true then bits .or .i64 (bitsTo f k) (wrap64 ((2:Int) ^ k)) else bitsTo f k
def relOf (n:Nat) (f:Nat→Nat→Bool):List Int:=(List.range n).map fun i=>bitsTo (f i) n
theorem relOf_length (n:Nat) (f:Nat→Nat→Bool):(relOf n f).length=n:=by simp [relOf]
theorem relOf_get {n:Nat} {f:Nat→Nat→Bool} {i:Nat} (h:i < n):(relOf n f)[i]? = some (bitsTo (f i) n):=by
 simp [relOf,h]
def confB (L:List Ev) (i k:Nat):Bool:=match L[i]?,L[k]? with
 | some a,some b=>decide (0≤a.t)&&(decide (0≤b.t)&&((a.t != b.t)&&((a.l==b.l)&&(a.w||b.w))))
 | _,_=>false
theorem confB_eq {L:List Ev} {i k:Nat} {a b:Ev} (hi:L[i]? = some a) (hk:L[k]? = some b):confB L i k=(decide (0≤a.t)&&(decide (0≤b.t)&&((a.t != b.t)&&((a.l==b.l)&&(a.w||b.w))))):=by
 unfold confB;rw [hi,hk]
def conflicts (p:List (List Ins)):List Int:=relOf (evAll p).length (confB (evAll p))
theorem mem_evOf {t i:Nat} {x:Ins} {e:Ev} (h:e∈evOf t i x):e=⟨t,i,x.loc,isRop x.op,isWop x.op⟩∧x.op≠4:=by
 unfold evOf at h
 split at h
 ·simp at h
 ·simp at h;exact ⟨h,by assumption⟩
theorem mem_evAll {p:List (List Ins)} {e:Ev} (h:e∈evAll p):(e.t = -1)∨∃ (t i:Nat) (r:List Ins) (x:Ins),p[t]? = some r∧r[i]? = some x∧e=⟨t,i,x.loc,isRop x.op,isWop x.op⟩∧x.op≠4:=by
 unfold evAll at h
 rcases List.mem_append.1 h with h | h
 ·left
  simp only [evHead,List.mem_map,List.mem_range] at h
  obtain ⟨l,_,rfl⟩:=h
  rfl
 ·right
  unfold evTo at h
  rw [List.mem_flatMap] at h
  obtain ⟨t,ht,h⟩:=h
  cases hr:p[t]? with
  | none=>rw [hr] at h;simp at h
  | some r =>
   rw [hr] at h
   simp only [evRow,List.mem_flatMap,List.mem_range] at h
   obtain ⟨i,hi,h⟩:=h
   obtain ⟨x,hx⟩:=get_of_lt (xs:=r) (k:=i) hi
   rw [hx] at h
   obtain ⟨rfl,hx4⟩:=mem_evOf h
   exact ⟨t,i,r,x,hr,hx,rfl,hx4⟩
theorem conflictR_ev {o l o2 l2:Int} (h:o≠4) (h2:o2≠4):conflictR o l o2 l2=((l==l2)&&(isWop o||isWop o2)):=by
 have g1:(o != 4)=true:=by simp [h]
 have g2:(o2 != 4)=true:=by simp [h2]
 unfold conflictR
 rw [g1,g2];rfl
end Go.Proofs.YtlddmagfbcomgaaGreat
namespace Go.Proofs.YtlddmagfbcomgaaGreat
inductive Fd:List Ins→List Ins→Prop
 | nil:Fd [] []
 | keep {r r':List Ins} (x:Ins) (h:Fd r r'):Fd (x :: r) (x :: r')
 | drop {r r':List Ins} (x:Ins) (h4:x.op=4) (h:Fd r r'):Fd (x :: r) r'
theorem Fd.snoc {r r':List Ins} (h:Fd r r') (x:Ins):Fd (r++[x]) (r'++[x]):=by
 induction h with
 | nil=>exact .keep x .nil
 | keep y _ ih=>exact .keep y ih
 | drop y h4 _ ih=>exact .drop y h4 ih
theorem Fd.snocD {r r':List Ins} (h:Fd r r') (x:Ins) (h4:x.op=4):Fd (r++[x]) r':=by
 induction h with
 | nil=>exact .drop x h4 .nil
 | keep y _ ih=>exact .keep y ih
 | drop y h4 _ ih=>exact .drop y h4 ih
def FdAt (r r':List Ins) (k k':Nat):Prop:=∃ a b a' b',r=a++b∧r'=a'++b'∧a.length=k∧a'.length=k'∧Fd a a'∧Fd b b'
theorem FdAt.zero {r r':List Ins} (h:Fd r r'):FdAt r r' 0 0:=⟨[],r,[],r',rfl,rfl,rfl,rfl, .nil,h⟩
theorem FdAt.next {r r':List Ins} {k k':Nat} (h:FdAt r r' k k') {x:Ins} (hx:r[k]? = some x):(r'[k']? = some x∧FdAt r r' (k+1) (k'+1))∨(x.op=4∧FdAt r r' (k+1) k'):=by
 obtain ⟨a,b,a',b',rfl,rfl,rfl,rfl,h1,h2⟩:=h
 rw [List.getElem?_append_right (Nat.le_refl _),Nat.sub_self] at hx
 cases h2 with
 | nil=>simp at hx
 | keep y h3 =>
  simp only [List.getElem?_cons_zero,Option.some.injEq] at hx
  subst hx
  exact .inl ⟨by simp,_,_,_,_,List.append_cons ..,List.append_cons ..,by simp,by simp,h1.snoc y,h3⟩
 | drop y h4 h3 =>
  simp only [List.getElem?_cons_zero,Option.some.injEq] at hx
  subst hx
  exact .inr ⟨h4,_,_,_,_,List.append_cons ..,rfl,by simp,rfl,h1.snocD y h4,h3⟩
theorem Fd.nil_left {r':List Ins} (h:Fd [] r'):r'=[]:=by cases h;rfl
theorem FdAt.fin {r r':List Ins} {k':Nat} (h:FdAt r r' r.length k'):k'=r'.length:=by
 obtain ⟨a,b,a',b',rfl,rfl,h1,rfl, -,h2⟩:=h
 rw [List.length_append] at h1
 obtain rfl:b=[]:=List.eq_nil_of_length_eq_zero (by omega)
 rw [h2.nil_left];simp
theorem FdAt.back {r r':List Ins} {k k':Nat} (h:FdAt r r' k k') {x:Ins} (hx:r'[k']? = some x):(r[k]? = some x∧FdAt r r' (k+1) (k'+1))∨∃ y,r[k]? = some y∧y.op=4∧FdAt r r' (k+1) k':=by
 obtain ⟨a,b,a',b',rfl,rfl,rfl,rfl,h1,h2⟩:=h
 cases h2 with
 | nil=>simp at hx
 | keep y h3 =>
  rw [List.getElem?_append_right (Nat.le_refl _),Nat.sub_self] at hx
  simp only [List.getElem?_cons_zero,Option.some.injEq] at hx
  subst hx
  exact .inl ⟨by simp,_,_,_,_,List.append_cons ..,List.append_cons ..,by simp,by simp,h1.snoc y,h3⟩
 | drop y h4 h3 =>
  exact .inr ⟨y,by simp,h4,_,_,_,_,List.append_cons ..,rfl,by simp,rfl,h1.snocD y h4,h3⟩
theorem FdAt.rest {r r':List Ins} {k:Nat} (h:FdAt r r' k r'.length) {x:Ins} (hx:r[k]? = some x):x.op=4∧FdAt r r' (k+1) r'.length:=by
 rcases h.next hx with ⟨h1, -⟩ | h1
 ·rw [List.getElem?_eq_none (Nat.le_refl _)] at h1;cases h1
 ·exact h1
def FdP (p q:List (List Ins)):Prop:=p.length=q.length∧∀ (t:Nat) (r r':List Ins),p[t]? = some r→q[t]? = some r'→Fd r r'
def FdS (p q:List (List Ins)) (s s':Sq):Prop:=s'.rg=s.rg∧s'.mm=s.mm∧∀ t,t < p.length→FdAt (p.getD t []) (q.getD t []) (pcN s t) (pcN s' t)
theorem getD_some {α:Type} {l:List (List α)} {t:Nat} {r:List α} (h:l[t]? = some r):l.getD t []=r:=by rw [List.getD_eq_getElem?_getD,h];rfl
theorem FdS.start {p q:List (List Ins)} (h:FdP p q):FdS p q (sqStart p) (sqStart q):=by
 have hz:∀ p t,pcN (sqStart p) t=0:=fun p t=>by
  unfold pcN sqStart
  rw [List.getD_eq_getElem?_getD,List.getElem?_replicate]
  split <;> rfl
 refine ⟨by simp [sqStart,h.1],rfl,fun t ht => ?_⟩
 rw [hz,hz]
 have h1:=List.getElem?_eq_getElem ht
 have h2:=List.getElem?_eq_getElem (l:=q) (i:=t) (by rw [← h.1];exact ht)
 exact .zero (h.2 t _ _ (by rw [getD_some h1];exact h1) (by rw [getD_some h2];exact h2))
theorem bfDo_pc {s s1:Bf} {split:Bool} {t:Nat} {k:Int} {x:Ins} (h:bfDo s split t k x=some s1):s1.q.pc=s.q.pc.set t (k+1):=by
 unfold bfDo at h
 split at h
 ·split at h
  ·cases h;rfl
  ·cases h
 ·split at h
  ·cases h;rfl
  ·cases h;rfl
theorem bfDo_same {s s1 s':Bf} {split:Bool} {t:Nat} {k k':Int} {x:Ins} (hb:s'.bf=s.bf) (hr:s'.q.rg=s.q.rg) (hm:s'.q.mm=s.q.mm) (h:bfDo s split t k x=some s1) :
 ∃ s1',bfDo s' split t k' x=some s1'∧s1'.bf=s1.bf∧s1'.q.rg=s1.q.rg∧s1'.q.mm=s1.q.mm:=by
 obtain ⟨⟨pc,rg,mm⟩,bf⟩:=s
 obtain ⟨⟨pc',rg',mm'⟩,bf'⟩:=s'
 simp only at hb hr hm
 subst hb;subst hr;subst hm
 have e1:bfEmpty ⟨⟨pc',rg',mm'⟩,bf'⟩ t split=bfEmpty ⟨⟨pc,rg',mm'⟩,bf'⟩ t split:=rfl
 have e2:∀ t l,bfSeen ⟨⟨pc',rg',mm'⟩,bf'⟩ t l split=bfSeen ⟨⟨pc,rg',mm'⟩,bf'⟩ t l split:=fun _ _=>rfl
 have e3:∀ t x,sqVal ⟨pc',rg',mm'⟩ t x=sqVal ⟨pc,rg',mm'⟩ t x:=fun _ _=>rfl
 unfold bfDo at h ⊢
 by_cases h45:x.op=4∨x.op=5
 ·rw [if_pos h45] at h ⊢
  rw [e1]
  split at h
  ·rename_i he
   rw [if_pos he]
   cases h
   exact ⟨_,rfl,rfl,rfl,rfl⟩
  ·cases h
 ·rw [if_neg h45] at h ⊢
  by_cases h1:x.op=1
  ·rw [if_pos h1] at h ⊢
   cases h
   exact ⟨_,rfl,rfl,rfl,rfl⟩
  ·rw [if_neg h1] at h ⊢
   cases h
   exact ⟨_,rfl,rfl,rfl,rfl⟩
theorem pcN_set {s:Sq} {t:Nat} {k:Int} (hk:s.pc[t]? = some k) (h0:0≤k) {s1:Sq} (h1:s1.pc=s.pc.set t (k+1)) (u:Nat):pcN s1 u=if u=t then pcN s t+1 else pcN s u:=by
 have hg:s.pc.getD t 0=k:=by rw [List.getD_eq_getElem?_getD,hk];rfl
 have ht:=(List.getElem?_eq_some_iff.1 hk).1
 unfold pcN
 rw [h1,hg]
 by_cases e:u=t
 ·subst e
  rw [if_pos rfl,getD_set_same ht];omega
 ·rw [if_neg e,getD_set_other (fun q=>e q.symm)]
theorem bf_drop {p q:List (List Ins)} {split:Bool} (hp:∀ r∈p,∀ x∈r,insValid x=true) (hq:∀ r∈q,∀ x∈r,insValid x=true) (hpq:FdP p q) {s:Bf} (h:ReachM (bfStart p split) (bfNext p split) s) :
 ∃ s',ReachM (bfStart q split) (bfNext q split) s'∧s'.bf=s.bf∧FdS p q s.q s'.q:=by
 induction h with
 | start=>exact ⟨_, .start,by simp [bfStart,hpq.1],FdS.start hpq⟩
 | step hs ht ih =>
  rename_i s s1 m
  obtain ⟨s',h1,h2,h3,h4,h5⟩:=ih
  have ho:=BfOk.reach hp hs
  have ho':=BfOk.reach hq h1
  by_cases hm:m < p.length
  ·obtain ⟨r,k,x,hr,hk,hx,hd⟩:=bfNext_thread ht hm
   obtain ⟨r',hr'⟩:∃ r',q[m]? = some r':=⟨_,List.getElem?_eq_getElem (by rw [← hpq.1];exact hm)⟩
   obtain ⟨k',hk'⟩:∃ k',s'.q.pc[m]? = some k':=⟨_,List.getElem?_eq_getElem (by rw [ho'.q.lp,← hpq.1];exact hm)⟩
   have hk0:=(ho.q.pc m k r hk hr).1
   have hk0':=(ho'.q.pc m k' r' hk' hr').1
   have hn:pcN s.q m=k.toNat:=by unfold pcN;rw [List.getD_eq_getElem?_getD,hk];rfl
   have hn':pcN s'.q m=k'.toNat:=by unfold pcN;rw [List.getD_eq_getElem?_getD,hk'];rfl
   have hat:=h5 m hm
   rw [getD_some hr,getD_some hr',hn,hn'] at hat
   have hpc:=pcN_set hk hk0 (bfDo_pc hd)
   rcases hat.next hx with ⟨g1,g2⟩ | ⟨g1,g2⟩
   ·obtain ⟨s1',f1,f2,f3,f4⟩:=bfDo_same (k':=k') h2 h3 h4 hd
    have hpc':=pcN_set hk' hk0' (bfDo_pc f1)
    refine ⟨s1', .step (i:=m) h1 ?_,f2,f3,f4,fun t htl => ?_⟩
    ·unfold bfNext
     rw [if_pos (by rw [← hpq.1];exact hm),hr',hk']
     simp only [g1]
     exact f1
    ·rw [hpc,hpc']
     by_cases e:t=m
     ·subst e
      rw [if_pos rfl,if_pos rfl,getD_some hr,getD_some hr',hn,hn']
      exact g2
     ·rw [if_neg e,if_neg e]
      exact h5 t htl
   ·unfold bfDo at hd
    rw [if_pos (.inl g1)] at hd
    split at hd
    ·simp only [Option.some.injEq] at hd
     subst hd
     refine ⟨s',h1,h2, ?_, ?_,fun t htl => ?_⟩
     ·rw [h3];simp [sqDo,g1,isRop]
     ·rw [h4];simp [sqDo,g1,isWop]
     ·rw [hpc]
      by_cases e:t=m
      ·subst e
       rw [if_pos rfl,getD_some hr,getD_some hr',hn,hn']
       exact g2
      ·rw [if_neg e]
       exact h5 t htl
    ·cases hd
  ·obtain ⟨l,v,rest,hb,rfl⟩:=bfNext_flush ht hm
   refine ⟨⟨⟨s'.q.pc,s'.q.rg,s'.q.mm.set l.toNat v⟩,s'.bf.set (m - p.length) rest⟩, .step (i:=m) h1 ?_,by rw [h2],h3,by simp only;rw [h4],h5⟩
   unfold bfNext
   rw [if_neg (by rw [← hpq.1];exact hm),← hpq.1,h2,hb]
theorem FdS.done {p q:List (List Ins)} (hpq:FdP p q) {s s':Sq} (h:FdS p q s s') (hd:∀ t,t < p.length→pcN s t=(p.getD t []).length):∀ t,t < q.length→pcN s' t=(q.getD t []).length:=fun t ht=>by
 have h1:=h.2.2 t (by rw [hpq.1];exact ht)
 rw [hd t (by rw [hpq.1];exact ht)] at h1
 exact h1.fin
theorem done_pc {p:List (List Ins)} {s:Sq} (ho:SqOk p s) (h:∀ t,t < p.length→pcN s t=(p.getD t []).length):sqDone p s=true:=by
 unfold sqDone
 rw [List.all_eq_true]
 intro t ht
 have htl:=List.mem_range.1 ht
 have h1:=h t htl
 obtain ⟨k,hk⟩:∃ k,s.pc[t]? = some k:=⟨_,List.getElem?_eq_getElem (by rw [ho.lp];exact htl)⟩
 have h0:=(ho.pc t k p[t] hk (List.getElem?_eq_getElem htl)).1
 have e:s.pc.getD t 0=k:=by rw [List.getD_eq_getElem?_getD,hk,Option.getD_some]
 unfold pcN at h1
 simp only [decide_eq_true_eq]
 rw [e] at h1 ⊢
 omega
theorem done_pc' {p:List (List Ins)} {s:Sq} (ho:SqOk p s) (hd:sqDone p s=true) (t:Nat) (ht:t < p.length):pcN s t=(p.getD t []).length:=by
 unfold sqDone at hd
 have h1:=List.all_eq_true.1 hd t (List.mem_range.2 ht)
 simp only [decide_eq_true_eq] at h1
 obtain ⟨k,hk⟩:∃ k,s.pc[t]? = some k:=⟨_,List.getElem?_eq_getElem (by rw [ho.lp];exact ht)⟩
 obtain ⟨r,hr⟩:∃ r,p[t]? = some r:=⟨_,List.getElem?_eq_getElem ht⟩
 have h0:=ho.pc t k r hk hr
 have e:s.pc.getD t 0=k:=by rw [List.getD_eq_getElem?_getD,hk,Option.getD_some]
 have e2:p.getD t []=r:=getD_some hr
 unfold pcN
 rw [e] at h1 ⊢
 rw [e2] at h1 ⊢
 omega
theorem bf_out_drop {p q:List (List Ins)} {split:Bool} (hp:∀ r∈p,∀ x∈r,insValid x=true) (hq:∀ r∈q,∀ x∈r,insValid x=true) (hpq:FdP p q) {o:List Int}
 (h:∃ s,ReachM (bfStart p split) (bfNext p split) s∧bfDone p s=true∧bfOut s=o):∃ s,ReachM (bfStart q split) (bfNext q split) s∧bfDone q s=true∧bfOut s=o:=by
 obtain ⟨s,h1,h2,h3⟩:=h
 obtain ⟨s',k1,k2,k3⟩:=bf_drop hp hq hpq h1
 have ho:=BfOk.reach hp h1
 have ho':=BfOk.reach hq k1
 unfold bfDone at h2
 rw [Bool.and_eq_true] at h2
 refine ⟨s',k1, ?_, ?_⟩
 ·unfold bfDone
  rw [Bool.and_eq_true,k2]
  exact ⟨h2.1,done_pc ho'.q (k3.done hpq (done_pc' ho.q h2.2))⟩
 ·rw [← h3]
  unfold bfOut sqOut
  rw [k3.1,k3.2.1]
theorem sq_drop {p q:List (List Ins)} (hp:∀ r∈p,∀ x∈r,insValid x=true) (hq:∀ r∈q,∀ x∈r,insValid x=true) (hpq:FdP p q) {s:Sq} (h:ReachM (sqStart p) (sqNext p) s) :
 ∃ s',ReachM (sqStart q) (sqNext q) s'∧FdS p q s s':=by
 induction h with
 | start=>exact ⟨_, .start,FdS.start hpq⟩
 | step hs ht ih =>
  rename_i s s1 m
  obtain ⟨s',h1,h3,h4,h5⟩:=ih
  have ho:=SqOk.reach hp hs
  have ho':=SqOk.reach hq h1
  obtain ⟨r,k,x,hr,hk,hx,rfl⟩:=sqNext_parts ht
  have hm:=(List.getElem?_eq_some_iff.1 hr).1
  obtain ⟨r',hr'⟩:∃ r',q[m]? = some r':=⟨_,List.getElem?_eq_getElem (by rw [← hpq.1];exact hm)⟩
  obtain ⟨k',hk'⟩:∃ k',s'.pc[m]? = some k':=⟨_,List.getElem?_eq_getElem (by rw [ho'.lp,← hpq.1];exact hm)⟩
  have hk0:=(ho.pc m k r hk hr).1
  have hk0':=(ho'.pc m k' r' hk' hr').1
  have hn:pcN s m=k.toNat:=by unfold pcN;rw [List.getD_eq_getElem?_getD,hk];rfl
  have hn':pcN s' m=k'.toNat:=by unfold pcN;rw [List.getD_eq_getElem?_getD,hk'];rfl
  have hat:=h5 m hm
  rw [getD_some hr,getD_some hr',hn,hn'] at hat
  have hpc:∀ u,pcN (sqDo s m k x) u=if u=m then pcN s m+1 else pcN s u:=pcN_set hk hk0 rfl
  rcases hat.next hx with ⟨g1,g2⟩ | ⟨g1,g2⟩
  ·have hpc':∀ u,pcN (sqDo s' m k' x) u=if u=m then pcN s' m+1 else pcN s' u:=pcN_set hk' hk0' rfl
   refine ⟨sqDo s' m k' x, .step (i:=m) h1 (by unfold sqNext;simp [hr',hk',g1]),by simp [sqDo,h3,h4], ?_,fun t htl => ?_⟩
   ·unfold sqDo sqVal
    rw [h3,h4]
   ·rw [hpc,hpc']
    by_cases e:t=m
    ·subst e
     rw [if_pos rfl,if_pos rfl,getD_some hr,getD_some hr',hn,hn']
     exact g2
    ·rw [if_neg e,if_neg e]
     exact h5 t htl
  ·refine ⟨s',h1,by rw [h3];simp [sqDo,g1,isRop],by rw [h4];simp [sqDo,g1,isWop],fun t htl => ?_⟩
   rw [hpc]
   by_cases e:t=m
   ·subst e
    rw [if_pos rfl,getD_some hr,getD_some hr',hn,hn']
    exact g2
   ·rw [if_neg e]
    exact h5 t htl
theorem sq_fences {p q:List (List Ins)} (hp:∀ r∈p,∀ x∈r,insValid x=true) (hpq:FdP p q) {s':Sq} {m:Nat} {x:Ins} (hx:At q m (pcN s' m) x):∀ (n:Nat) (s:Sq),(p.getD m []).length - pcN s m≤n→ReachM (sqStart p) (sqNext p) s→FdS p q s s' →
 ∃ s,ReachM (sqStart p) (sqNext p) s∧FdS p q s s'∧At p m (pcN s m) x∧FdAt (p.getD m []) (q.getD m []) (pcN s m+1) (pcN s' m+1):=by
 intro n
 induction n with
 | zero =>
  intro s hn h1 h2
  have hat:=h2.2.2 m (by rw [hpq.1];exact hx.lt)
  rcases hat.back hx.row with ⟨g, -⟩ | ⟨y,g, -⟩ <;> have:=(List.getElem?_eq_some_iff.1 g).1 <;> omega
 | succ n ih =>
  intro s hn h1 h2
  have ho:=SqOk.reach hp h1
  have hml:m < p.length:=by rw [hpq.1];exact hx.lt
  have hat:=h2.2.2 m hml
  obtain ⟨r,hr⟩:∃ r,p[m]? = some r:=⟨_,List.getElem?_eq_getElem hml⟩
  rcases hat.back hx.row with ⟨g,g2⟩ | ⟨y,g,g4,g2⟩
  ·exact ⟨s,h1,h2,⟨r,hr,by rw [getD_some hr] at g;exact g⟩,g2⟩
  ·have hy:At p m (pcN s m) y:=⟨r,hr,by rw [getD_some hr] at g;exact g⟩
   have hlt:=hy.ilt
   obtain ⟨f1,f2⟩:=sq_step ho hy
   refine ih _ (by rw [f2,if_pos rfl];omega) (.step h1 f1) ⟨by rw [h2.1];simp [sqDo,g4,isRop],by rw [h2.2.1];simp [sqDo,g4,isWop],fun t htl => ?_⟩
   rw [f2]
   by_cases e:t=m
   ·subst e;rw [if_pos rfl];exact g2
   ·rw [if_neg e];exact h2.2.2 t htl
theorem sq_back {p q:List (List Ins)} (hp:∀ r∈p,∀ x∈r,insValid x=true) (hq:∀ r∈q,∀ x∈r,insValid x=true) (hpq:FdP p q) {s':Sq} (h:ReachM (sqStart q) (sqNext q) s') :
 ∃ s,ReachM (sqStart p) (sqNext p) s∧FdS p q s s':=by
 induction h with
 | start=>exact ⟨_, .start,FdS.start hpq⟩
 | step hs ht ih =>
  rename_i s' s1 m
  obtain ⟨s,h1,h2⟩:=ih
  have ho':=SqOk.reach hq hs
  obtain ⟨r',k',x,hr',hk',hx,rfl⟩:=sqNext_parts ht
  have hn':pcN s' m=k'.toNat:=by unfold pcN;rw [List.getD_eq_getElem?_getD,hk'];rfl
  have hat:At q m (pcN s' m) x:=⟨r',hr',by rw [hn'];exact hx⟩
  obtain ⟨s2,g1,⟨g2,g3,g4⟩,g5,g6⟩:=sq_fences hp hpq hat _ s (Nat.le_refl _) h1 h2
  obtain ⟨f1,f2⟩:=sq_step (SqOk.reach hp g1) g5
  have f2':∀ u,pcN (sqDo s' m k' x) u=if u=m then pcN s' m+1 else pcN s' u:=pcN_set hk' (ho'.pc m k' r' hk' hr').1 rfl
  refine ⟨_, .step g1 f1,by simp [sqDo,g2,g3], ?_,fun t htl => ?_⟩
  ·unfold sqDo sqVal
   rw [g2,g3]
  ·rw [f2,f2']
   by_cases e:t=m
   ·subst e;rw [if_pos rfl,if_pos rfl];exact g6
   ·rw [if_neg e,if_neg e];exact g4 t htl
theorem sq_rest {p q:List (List Ins)} (hp:∀ r∈p,∀ x∈r,insValid x=true) (hpq:FdP p q) {s':Sq} (hd:∀ t,t < q.length→pcN s' t=(q.getD t []).length):∀ (n:Nat) (s:Sq),sqLeft p s≤n→ReachM (sqStart p) (sqNext p) s→FdS p q s s' →
 ∃ s,ReachM (sqStart p) (sqNext p) s∧FdS p q s s'∧sqDone p s=true:=by
 intro n
 induction n with
 | zero =>
  intro s hn h1 h2
  cases hdn:sqDone p s with
  | true=>exact ⟨s,h1,h2,hdn⟩
  | false =>
   obtain ⟨t,s',h'⟩:=sq_more (SqOk.reach hp h1) hdn
   have:=sqLeft_next (SqOk.reach hp h1) h'
   omega
 | succ n ih =>
  intro s hn h1 h2
  cases hdn:sqDone p s with
  | true=>exact ⟨s,h1,h2,hdn⟩
  | false =>
   have ho:=SqOk.reach hp h1
   obtain ⟨t,x,hx⟩:=pcN_of ho hdn
   obtain ⟨f1,f2⟩:=sq_step ho hx
   have hat:=h2.2.2 t hx.lt
   rw [hd t (by rw [← hpq.1];exact hx.lt)] at hat
   obtain ⟨g4,g2⟩:=hat.rest hx.row
   have:=sqLeft_next ho f1
   refine ih _ (by omega) (.step h1 f1) ⟨by rw [h2.1];simp [sqDo,g4,isRop],by rw [h2.2.1];simp [sqDo,g4,isWop],fun u hu => ?_⟩
   rw [f2]
   by_cases e:u=t
   ·subst e;rw [if_pos rfl,hd u (by rw [← hpq.1];exact hu)];exact g2
   ·rw [if_neg e];exact h2.2.2 u hu
theorem sq_out_drop {p q:List (List Ins)} (hp:∀ r∈p,∀ x∈r,insValid x=true) (hq:∀ r∈q,∀ x∈r,insValid x=true) (hpq:FdP p q) (o:List Int) :
 (∃ s,ReachM (sqStart p) (sqNext p) s∧sqDone p s=true∧sqOut s=o)↔∃ s,ReachM (sqStart q) (sqNext q) s∧sqDone q s=true∧sqOut s=o:=by
 constructor
 ·rintro ⟨s,h1,h2,h3⟩
  obtain ⟨s',k1,k3⟩:=sq_drop hp hq hpq h1
  have ho:=SqOk.reach hp h1
  refine ⟨s',k1,done_pc (SqOk.reach hq k1) (k3.done hpq (done_pc' ho h2)), ?_⟩
  rw [← h3]
  unfold sqOut
  rw [k3.1,k3.2.1]
 ·rintro ⟨s',h1,h2,h3⟩
  obtain ⟨s,k1,k2⟩:=sq_back hp hq hpq h1
  obtain ⟨s2,g1,g2,g3⟩:=sq_rest hp hpq (done_pc' (SqOk.reach hq h1) h2) _ s (Nat.le_refl _) k1 k2
  refine ⟨s2,g1,g3, ?_⟩
  rw [← h3]
  unfold sqOut
  rw [g2.1,g2.2.1]
end Go.Proofs.YtlddmagfbcomgaaGreat
namespace Go.Proofs.YtlddmagfbcomgaaGreat
open Go.RowKit
theorem OutsU.rep {w:World} {base:Nat} {v:Value} {l:List (List Int)} (h:OutsU w base v l):RepNN w v l:=by
 obtain ⟨us,h1,h2,h3⟩:=h
 exact ⟨us,h1,h2.rep,fun i u r hu hr=>(h3 i u r hu hr).rep⟩
theorem subN_iff {a b:List (List Int)}:subN a b=true↔∀ o∈a,o∈b:=by
 simp [subN,hasN]
def nmBuf (split:Bool):ByteArray:=if split then ⟨#[112,115,111]⟩ else ⟨#[116,115,111]⟩
theorem isMachine_buf (split:Bool) (w:World):Calls Tryz.prog 63 #[.string (nmBuf split)] w fun e w'=>e = .returned (.bool true)∧w=w':=by
 cases split
 ·show Calls Tryz.prog 63 #[.string ⟨#[116,115,111]⟩] w _
  have n0:((⟨#[116,115,111]⟩:ByteArray).toList==[115,101,113])=false:=by kernel_rfl
  have n1:((⟨#[116,115,111]⟩:ByteArray).toList==[116,115,111])=true:=by kernel_rfl
  go_enter Tryz.func63,Tryz.ntmps63
  go_wp2_with fail
  go_ret
  exact ⟨rfl,rfl⟩
 ·show Calls Tryz.prog 63 #[.string ⟨#[112,115,111]⟩] w _
  have n0:((⟨#[112,115,111]⟩:ByteArray).toList==[115,101,113])=false:=by kernel_rfl
  have n1:((⟨#[112,115,111]⟩:ByteArray).toList==[116,115,111])=false:=by kernel_rfl
  have n2:((⟨#[112,115,111]⟩:ByteArray).toList==[112,115,111])=true:=by kernel_rfl
  go_enter Tryz.func63,Tryz.ntmps63
  go_wp2_with fail
  go_ret
  exact ⟨rfl,rfl⟩
theorem MachineOutcomes_buf (split:Bool) (vp:Value) (p:List (List Ins)) (w:World) (hp:RepP w vp p) (hl:p.flatten.length≤1048576) :
 Calls Tryz.prog 65 #[vp, .string (nmBuf split)] w (OutsPost (p.length * 3+3) (bufO split p) w):=by
 have HT:=hide (RunTso_any vp p w hp hl (sortedOutcomes_any _ _ (by decide)))
 have HP:=hide (RunPso_any vp p w hp hl (sortedOutcomes_any _ _ (by decide)))
 clear hp hl
 generalize p.length * 3+3=n at *
 cases split
 ·show Calls Tryz.prog 65 #[vp, .string ⟨#[116,115,111]⟩] w _
  have n0:((⟨#[116,115,111]⟩:ByteArray).toList==[115,101,113])=false:=by kernel_rfl
  have n1:((⟨#[116,115,111]⟩:ByteArray).toList==[116,115,111])=true:=by kernel_rfl
  go_enter Tryz.func65,Tryz.ntmps65
  go_wp2_with (go_at_call 14;(with_reducible refine HT.out.mono ?_);rintro e w1 ⟨v,l,rfl,h1,h2,h3,h4⟩;have F:Hid (OutsPost n (bufO false p) w (.returned v) w1):=hide ⟨v,l,rfl,h1,h2,h3,h4⟩;clear h1 h2 h3 h4)
  go_ret
  exact F.out
 ·show Calls Tryz.prog 65 #[vp, .string ⟨#[112,115,111]⟩] w _
  have n0:((⟨#[112,115,111]⟩:ByteArray).toList==[115,101,113])=false:=by kernel_rfl
  have n1:((⟨#[112,115,111]⟩:ByteArray).toList==[116,115,111])=false:=by kernel_rfl
  have n2:((⟨#[112,115,111]⟩:ByteArray).toList==[112,115,111])=true:=by kernel_rfl
  go_enter Tryz.func65,Tryz.ntmps65
  go_wp2_with (go_at_call 15;(with_reducible refine HP.out.mono ?_);rintro e w1 ⟨v,l,rfl,h1,h2,h3,h4⟩;have F:Hid (OutsPost n (bufO true p) w (.returned v) w1):=hide ⟨v,l,rfl,h1,h2,h3,h4⟩;clear h1 h2 h3 h4)
  go_ret
  exact F.out
def RobPost (split:Bool) (p:List (List Ins)) (w:World) (e:Ending) (w':World):Prop:=∃ b:Bool,e = .returned (.bool b)∧(b=true↔progValid p=true∧∀ o,bufO split p o→seqO p o)∧Below w.heap.size w w'
theorem RobustProgram_buf (split:Bool) (vp:Value) (p:List (List Ins)) (w:World) (hp:RepP w vp p) (hl:p.flatten.length≤1048576) :
 Calls Tryz.prog 19 #[vp, .string (nmBuf split)] w (RobPost split p w):=by
 have HPV:=hide (ProgramValid_any vp p w hp hl)
 have HIM:=hide (fun W=>isMachine_buf split W)
 have HMO:=hide (fun W hW=>MachineOutcomes_buf split vp p W hW hl)
 have HSQ:=hide (fun W hW=>RunSeq_any vp p W hW hl (sortedOutcomes_any _ _ (by decide)))
 have HP:=hide hp
 clear hp hl
 generalize nmBuf split=nm at *
 generalize p.length * 3+3=n at *
 cases hv:progValid p
 ·have F:Hid (∀ w1,Below w.heap.size w w1→RobPost split p w (.returned (.bool false)) w1):=hide fun w1 hb=>⟨_,rfl,by simp [hv],hb⟩
  go_enter Tryz.func19,Tryz.ntmps19
  go_wp2_with (go_at_call 35;(with_reducible refine HPV.out.mono ?_);rintro e w1 ⟨rfl,hb1⟩;have B1:=hide hb1;rw [hv];clear hb1)
  go_ret
  exact F.out _ B1.out
 ·have F:Hid (∀ w1 (la lb:List (List Int)),(∀ o,o∈la↔bufO split p o)→(∀ o,o∈lb↔seqO p o)→Below w.heap.size w w1→RobPost split p w (.returned (.bool (subN la lb))) w1):=hide fun w1 la lb ha hb h=>⟨_,rfl,by
   rw [subN_iff,hv]
   simp only [ha,hb,true_and],h⟩
  go_enter Tryz.func19,Tryz.ntmps19
  go_wp2_with (first
   | (go_at_call 35;(with_reducible refine HPV.out.mono ?_);rintro e w1 ⟨rfl,hb1⟩;have B1:=hide hb1;rw [hv];clear hb1)
   | (go_at_call 63;(with_reducible refine (HIM.out _).mono ?_);rintro e w2 ⟨rfl,rfl⟩)
   | (go_at_call 65;(with_reducible refine (HMO.out w1 (HP.out.below B1.out)).mono ?_);rintro e w3 ⟨va,la,rfl,ha,hka,hma,hb3⟩;have A3:=hide ha;have M3:=hide hma;have B3:=hide (B1.out.trans (hb3.mono B1.out.size));clear ha hka hma hb3)
   | (go_at_call 17;(with_reducible refine (HSQ.out w3 (HP.out.below B3.out)).mono ?_);rintro e w4 ⟨vb,lb,rfl,hb,hkb,hmb,hb4⟩;have A4:=hide hb;have A5:=hide (A3.out.below hb4);have M4:=hide hmb;have B4:=hide (B3.out.trans (hb4.mono B3.out.size));clear hb hkb hmb hb4)
   | (go_at_call 64;(with_reducible refine (contains_any va vb la lb w4 A5.out.rep A4.out.rep).mono ?_);rintro e w5 ⟨rfl,hb5⟩;have G:=hide (F.out w5 la lb M3.out M4.out (B4.out.trans (hb5.mono B4.out.size)));clear hb5))
  go_ret
  exact G.out
end Go.Proofs.YtlddmagfbcomgaaGreat
/-
  Store buffers: keys, and a final state is reached, plain. No condition.
-/
import Derived.Test.YtlddmagfbcomgaaGreatZq00
set_option maxHeartbeats 6400000
set_option maxRecDepth 100000
namespace Go.Proofs.YtlddmagfbcomgaaGreat
section
variable {S K : Type} (start : S) (next : S → Nat → Option S) (key : S → K)
inductive ReachM:S→Prop
 | start:ReachM start
 | step {s t:S} {i:Nat} (h:ReachM s) (ht:next s i=some t):ReachM t
structure SInv (work seen:List S):Prop where
 st:start∈seen
 sub:∀ s∈work,s∈seen
 rc:∀ s∈seen,ReachM start next s
 cl:∀ s∈seen,s∉work→∀ i t,next s i=some t→t∈seen
structure SMid (s:S) (k:Nat) (work seen:List S):Prop where
 st:start∈seen
 ms:s∈seen
 sub:∀ s∈work,s∈seen
 rc:∀ s∈seen,ReachM start next s
 cl:∀ u∈seen,u≠s→u∉work→∀ i t,next u i=some t→t∈seen
 nx:∀ (i:Nat) (t:S),i < k→next s i=some t→t∈seen
variable {start next key}
theorem SInv.init:SInv start next [start] [start]:=
 ⟨by simp,fun s h=>h,fun s h=>by simp at h;subst h;exact .start,fun s h h'=>absurd h h'⟩
theorem SInv.enter {work work' seen:List S} {s:S} (h:SInv start next work seen) (hw:∀ u,u∈work↔u=s∨u∈work'):SMid start next s 0 work' seen:=
 ⟨h.st,h.sub s ((hw s).2 (.inl rfl)),fun u hu=>h.sub u ((hw u).2 (.inr hu)),h.rc,fun u hu hne hn=>h.cl u hu (fun e=>((hw u).1 e).elim hne hn),fun i _ hi=>absurd hi (Nat.not_lt_zero i)⟩
theorem SMid.skip {work seen:List S} {s:S} {k:Nat} (h:SMid start next s k work seen) (ht:next s k=none):SMid start next s (k+1) work seen:=
 ⟨h.st,h.ms,h.sub,h.rc,h.cl,fun i x hi hx=>by
  rcases Nat.lt_or_ge i k with hik | hik
  ·exact h.nx i x hik hx
  ·obtain rfl:i=k:=by omega
   rw [ht] at hx;cases hx⟩
theorem SMid.old {work seen:List S} {s t u:S} {k:Nat} (h:SMid start next s k work seen) (ht:next s k=some t) (hu:u∈seen) (he:key u=key t)
 (hk:∀ a b,ReachM start next a→ReachM start next b→key a=key b→a=b):SMid start next s (k+1) work seen:=by
 have hr:ReachM start next t:=.step (h.rc s h.ms) ht
 have e:u=t:=hk u t (h.rc u hu) hr he
 refine ⟨h.st,h.ms,h.sub,h.rc,h.cl,fun i x hi hx => ?_⟩
 rcases Nat.lt_or_ge i k with hik | hik
 ·exact h.nx i x hik hx
 ·obtain rfl:i=k:=by omega
  rw [ht] at hx
  simp only [Option.some.injEq] at hx
  subst hx
  exact e ▸ hu
theorem SMid.new {work work' seen seen':List S} {s t:S} {k:Nat} (h:SMid start next s k work seen) (ht:next s k=some t) (hw:∀ u,u∈work'↔u=t∨u∈work) (hs:∀ u,u∈seen'↔u=t∨u∈seen):SMid start next s (k+1) work' seen':=by
 have hr:ReachM start next t:=.step (h.rc s h.ms) ht
 have up:∀ u,u∈seen→u∈seen':=fun u hu=>(hs u).2 (.inr hu)
 refine ⟨up _ h.st,up _ h.ms,fun u hu => ?_,fun u hu => ?_,fun u hu hne hn j x hx => ?_,fun i x hi hx => ?_⟩
 ·rcases (hw u).1 hu with e | e
  ·exact (hs u).2 (.inl e)
  ·exact up u (h.sub u e)
 ·rcases (hs u).1 hu with e | e
  ·exact e ▸ hr
  ·exact h.rc u e
 ·rcases (hs u).1 hu with e | e
  ·exact absurd ((hw u).2 (.inl e)) hn
  ·exact up x (h.cl u e hne (fun q=>hn ((hw u).2 (.inr q))) j x hx)
 ·rcases Nat.lt_or_ge i k with hik | hik
  ·exact up x (h.nx i x hik hx)
  ·obtain rfl:i=k:=by omega
   rw [ht] at hx
   simp only [Option.some.injEq] at hx
   exact (hs x).2 (.inl hx.symm)
theorem SMid.leave {work seen:List S} {s:S} {k:Nat} (h:SMid start next s k work seen) (hk:∀ i t,next s i=some t→i < k):SInv start next work seen:=
 ⟨h.st,h.sub,h.rc,fun u hu hn i t ht=>by
  by_cases e:u=s
  ·subst e
   exact h.nx i t (hk i t ht) ht
  ·exact h.cl u hu e hn i t ht⟩
theorem SInv.all {seen:List S} (h:SInv start next [] seen) (s:S):s∈seen↔ReachM start next s:=by
 refine ⟨h.rc s,fun hr => ?_⟩
 induction hr with
 | start=>exact h.st
 | step _ ht ih=>exact h.cl _ ih (by simp) _ _ ht
def wMs (B:Nat) (rank:S→Nat) (work:List S):Nat:=(work.map fun s=>B ^ rank s).sum
theorem wMs_cons (B:Nat) (rank:S→Nat) (s:S) (work:List S):wMs B rank (s :: work)=B ^ rank s+wMs B rank work:=by simp [wMs]
theorem wMs_append (B:Nat) (rank:S→Nat) (xs ys:List S):wMs B rank (xs++ys)=wMs B rank xs+wMs B rank ys:=by simp [wMs,List.sum_append]
theorem wMs_next {B:Nat} {rank:S→Nat} {s:S} {new:List S} (hB:new.length < B) (hr:∀ t∈new,rank t < rank s):wMs B rank new < B ^ rank s:=by
 have h1:∀ (l:List S),(∀ t∈l,rank t < rank s)→wMs B rank l≤l.length * B ^ (rank s - 1):=by
  intro l
  induction l with
  | nil=>intro _;simp [wMs]
  | cons t l ih =>
   intro hl
   have h2:=ih fun u hu=>hl u (by simp [hu])
   have h3:B ^ rank t≤B ^ (rank s - 1):=Nat.pow_le_pow_right (by omega) (by have:=hl t (by simp);omega)
   rw [wMs_cons,List.length_cons,Nat.add_mul,Nat.one_mul]
   omega
 cases new with
 | nil=>simp only [wMs,List.map_nil,List.sum_nil];exact Nat.pow_pos (by omega)
 | cons t l =>
  have h2:=hr t (by simp)
  have h3:=h1 (t :: l) hr
  have h4:B ^ rank s=B * B ^ (rank s - 1):=by
   conv=>lhs;rw [show rank s=(rank s - 1)+1 by omega,Nat.pow_succ]
   exact Nat.mul_comm _ _
  have h5:0 < B ^ (rank s - 1):=Nat.pow_pos (by omega)
  have h6:(t :: l).length * B ^ (rank s - 1) < B * B ^ (rank s - 1):=Nat.mul_lt_mul_of_pos_right hB h5
  omega
end
def lexO:List Int→List Int→Int
 | x :: xs,y :: ys=>if x < y then -1 else if y < x then 1 else lexO xs ys
 | _,_=>0
theorem lexO_three (a b:List Int):lexO a b = -1∨lexO a b=0∨lexO a b=1:=by
 induction a generalizing b with
 | nil=>simp [lexO]
 | cons x a ih =>
  cases b with
  | nil=>simp [lexO]
  | cons y b =>
   simp only [lexO]
   split
   ·simp
   ·split
    ·simp
    ·exact ih b
theorem lexO_eq {a b:List Int} (h:a.length=b.length):lexO a b=0↔a=b:=by
 induction a generalizing b with
 | nil=>cases b <;> simp_all [lexO]
 | cons x a ih =>
  cases b with
  | nil=>simp at h
  | cons y b =>
   have:=ih (b:=b) (by simpa using h)
   simp only [lexO,List.cons.injEq]
   split
   ·constructor
    ·intro h;omega
    ·intro h;omega
   ·split
    ·constructor
     ·intro h;omega
     ·intro h;omega
    ·rw [this]
     constructor
     ·intro h;exact ⟨by omega,h⟩
     ·intro h;exact h.2
theorem lexO_swap (a b:List Int):lexO b a = - lexO a b:=by
 induction a generalizing b with
 | nil=>cases b <;> simp [lexO]
 | cons x a ih =>
  cases b with
  | nil=>simp [lexO]
  | cons y b =>
   simp only [lexO]
   have:=ih b
   repeat' split
   all_goals omega
theorem lexO_trans {n:Nat} {a b c:List Int} (ha:a.length=n) (hb:b.length=n) (hc:c.length=n) (h1:lexO a b = -1) (h2:lexO b c = -1):lexO a c = -1:=by
 induction a generalizing b c n with
 | nil=>simp [lexO] at h1
 | cons x a ih =>
  match b,c,hb,hc,h1,h2 with
  | [],_,_,_,h1,_=>simp [lexO] at h1
  | _ :: _,[],_,_,_,h2=>simp [lexO] at h2
  | y :: b,z :: c,hb,hc,h1,h2 =>
   simp only [List.length_cons] at ha hb hc
   simp only [lexO] at h1 h2 ⊢
   have hh:=fun p q=>ih (n:=n - 1) (b:=b) (c:=c) (by omega) (by omega) (by omega) p q
   by_cases e1:x < y
   ·by_cases e2:y < z
    ·rw [if_pos (by omega)]
    ·rw [if_neg e2] at h2
     by_cases e3:z < y
     ·rw [if_pos e3] at h2;omega
     ·rw [if_pos (by omega)]
   ·rw [if_neg e1] at h1
    by_cases e4:y < x
    ·rw [if_pos e4] at h1;omega
    ·rw [if_neg e4] at h1
     by_cases e2:y < z
     ·rw [if_pos (by omega)]
     ·rw [if_neg e2] at h2
      by_cases e3:z < y
      ·rw [if_pos e3] at h2;omega
      ·rw [if_neg e3] at h2
       rw [if_neg (by omega),if_neg (by omega)]
       exact hh h1 h2
structure OutsOk (n:Nat) (l:List (List Int)):Prop where
 len:∀ o∈l,o.length=n
 pw:l.Pairwise fun a b=>lexO a b = -1
theorem outs_unique {n:Nat}:∀ {xs ys:List (List Int)},OutsOk n xs→OutsOk n ys→(∀ o,o∈xs↔o∈ys)→xs=ys:=by
 have irr:∀ a:List Int,lexO a a≠-1:=fun a h=>by have:=(lexO_eq (a:=a) rfl).2 rfl;omega
 intro xs
 induction xs with
 | nil=>intro ys _ _ h;cases ys with
  | nil=>rfl
  | cons y ys=>have:=(h y).2 (by simp);simp at this
 | cons x xs ih =>
  intro ys hx hy h
  cases ys with
  | nil=>have:=(h x).1 (by simp);simp at this
  | cons y ys =>
   obtain ⟨px,pxs⟩:=List.pairwise_cons.1 hx.pw
   obtain ⟨py,pys⟩:=List.pairwise_cons.1 hy.pw
   have e:x=y:=by
    rcases List.mem_cons.1 ((h x).1 (by simp)) with e | e
    ·exact e
    ·rcases List.mem_cons.1 ((h y).2 (by simp)) with e2 | e2
     ·exact e2.symm
     ·have h1:=py x e
      have h2:=px y e2
      have:=lexO_swap x y
      omega
   subst e
   congr 1
   refine ih ⟨fun o ho=>hx.len o (by simp [ho]),pxs⟩ ⟨fun o ho=>hy.len o (by simp [ho]),pys⟩ fun o => ?_
   constructor
   ·intro ho
    rcases List.mem_cons.1 ((h o).1 (by simp [ho])) with e | e
    ·subst e;exact absurd (px o ho) (irr o)
    ·exact e
   ·intro ho
    rcases List.mem_cons.1 ((h o).2 (by simp [ho])) with e | e
    ·subst e;exact absurd (py o ho) (irr o)
    ·exact e
def putO (o:List Int):List (List Int)→List (List Int)
 | []=>[o]
 | x :: xs=>if lexO x o = -1 then x :: putO o xs else if lexO x o=0 then x :: xs else o :: x :: xs
theorem putO_mem {n:Nat} {o:List Int} (ho:o.length=n):∀ {l:List (List Int)},(∀ x∈l,x.length=n)→∀ y,y∈putO o l↔y=o∨y∈l:=by
 intro l
 induction l with
 | nil=>intro _ y;simp [putO]
 | cons x xs ih =>
  intro hl y
  have h1:=ih (fun z hz=>hl z (by simp [hz])) y
  unfold putO
  split
  ·rw [List.mem_cons,h1,List.mem_cons]
   constructor
   ·rintro (h | h | h)
    ·exact .inr (.inl h)
    ·exact .inl h
    ·exact .inr (.inr h)
   ·rintro (h | h | h)
    ·exact .inr (.inl h)
    ·exact .inl h
    ·exact .inr (.inr h)
  ·split
   ·rename_i h
    have e:x=o:=(lexO_eq (by rw [hl x (by simp),ho])).1 h
    subst e
    simp
   ·simp [List.mem_cons]
theorem putO_ok {n:Nat} {o:List Int} (ho:o.length=n):∀ {l:List (List Int)},OutsOk n l→OutsOk n (putO o l):=by
 intro l
 induction l with
 | nil=>intro _;exact ⟨fun x hx=>by simp [putO] at hx;subst hx;exact ho,by simp [putO]⟩
 | cons x xs ih =>
  intro hl
  obtain ⟨px,pxs⟩:=List.pairwise_cons.1 hl.pw
  have hxs:OutsOk n xs:=⟨fun z hz=>hl.len z (by simp [hz]),pxs⟩
  have hx:=hl.len x (by simp)
  refine ⟨fun y hy => ?_, ?_⟩
  ·rcases (putO_mem ho hl.len y).1 hy with e | e
   ·rw [e];exact ho
   ·exact hl.len y e
  ·unfold putO
   split
   ·rename_i h
    refine List.pairwise_cons.2 ⟨fun y hy => ?_,(ih hxs).pw⟩
    rcases (putO_mem ho hxs.len y).1 hy with e | e
    ·rw [e];exact h
    ·exact px y e
   ·rename_i h1
    split
    ·exact hl.pw
    ·rename_i h2
     have h3:=lexO_three x o
     have h4:=lexO_swap x o
     have h5:lexO o x = -1:=by omega
     refine List.pairwise_cons.2 ⟨fun y hy => ?_,hl.pw⟩
     rcases List.mem_cons.1 hy with e | e
     ·rw [e];exact h5
     ·exact lexO_trans ho hx (hxs.len y e) h5 (px y e)
end Go.Proofs.YtlddmagfbcomgaaGreat
namespace Go.Proofs.YtlddmagfbcomgaaGreat
section
variable {S : Type} (mv : S → List Nat) (af : S → Nat → S)
def nxM (s:S) (j:Nat):Option S:=((mv s)[j]?).map (af s)
theorem nxM_some {s t:S} {j:Nat}:nxM mv af s j=some t↔∃ m,(mv s)[j]? = some m∧af s m=t:=by
 unfold nxM
 cases (mv s)[j]? with
 | none=>simp
 | some m=>simp
variable (done : S → Bool) (out : S → List Int) (C R : Nat) (rank : S → Nat) (start : S)
structure PI (work taken:List S) (outs:List (List Int)):Prop where
 nd:(taken++work).Nodup
 rc:∀ s∈taken++work,ReachM start (nxM mv af) s
 st:start∈taken++work
 cl:∀ s∈taken,∀ j t,nxM mv af s j=some t→t∈taken++work
 om:∀ o,o∈outs↔∃ s∈taken,done s=true∧out s=o
 ol:outs.length=(taken.filter done).length
 sk:∀ i s,work[i]? = some s→i+1≤C * (R+1 - rank s)
 rk:∀ s∈work,rank s≤R
structure PMw (s:S) (j:Nat) (init new taken:List S) (outs:List (List Int)):Prop where
 nd:((s :: taken)++(init++new)).Nodup
 rc:∀ u∈(s :: taken)++(init++new),ReachM start (nxM mv af) u
 st:start∈(s :: taken)++(init++new)
 cl:∀ u∈taken,∀ i t,nxM mv af u i=some t→t∈(s :: taken)++(init++new)
 nx:∀ i t,i < j→nxM mv af s i=some t→t∈(s :: taken)++(init++new)
 om:∀ o,o∈outs↔∃ u∈s :: taken,done u=true∧out u=o
 ol:outs.length=((s :: taken).filter done).length
 sk:∀ i u,(init++new)[i]? = some u→i+1≤C * (R+1 - rank u)
 rk:∀ u∈init++new,rank u≤R
 rs:rank s≤R
 si:init.length+1≤C * (R+1 - rank s)
 nl:new.length≤j
 nr:∀ t∈new,rank t < rank s
variable {mv af done out C R rank start}
theorem PI.init (hC:1≤C) (hR:rank start≤R):PI mv af done out C R rank start [start] [] []:=by
 refine ⟨by simp,fun s hs => ?_,by simp,fun s hs=>by simp at hs,fun o=>by simp,rfl,fun i s hi => ?_,fun s hs => ?_⟩
 ·simp at hs;subst hs;exact .start
 ·cases i with
  | zero =>
   simp at hi;subst hi
   have:1≤R+1 - rank start:=by omega
   exact Nat.mul_le_mul hC this
  | succ i=>simp at hi
 ·simp at hs;subst hs;exact hR
theorem mem_pop {s u:S} {init taken:List S}:u∈taken++(init++[s])↔u∈(s :: taken)++(init++[]):=by
 simp only [List.mem_append,List.mem_cons,List.append_nil,List.not_mem_nil,or_false]
 constructor
 ·rintro (h | h | h)
  ·exact .inl (.inr h)
  ·exact .inr h
  ·exact .inl (.inl h)
 ·rintro ((h | h) | h)
  ·exact .inr (.inr h)
  ·exact .inl h
  ·exact .inr (.inl h)
theorem PI.pop_core {init taken:List S} {s:S} {outs outs':List (List Int)} (h:PI mv af done out C R rank start (init++[s]) taken outs)
 (hm:∀ o,o∈outs'↔∃ u∈s :: taken,done u=true∧out u=o) (hl:outs'.length=((s :: taken).filter done).length):PMw mv af done out C R rank start s 0 init [] taken outs':=by
 refine ⟨?_,fun u hu=>h.rc u (mem_pop.2 hu),mem_pop.1 h.st,fun u hu i t ht=>mem_pop.1 (h.cl u hu i t ht),fun i t hi=>absurd hi (Nat.not_lt_zero i),hm,hl,fun i u hi => ?_,fun u hu => ?_,h.rk s (by simp), ?_,by simp,fun t ht=>by simp at ht⟩
 ·have hp:(taken++(init++[s])).Perm ((s :: taken)++(init++[])):=by
   rw [List.append_nil]
   have h1:(init++[s]).Perm (s :: init):=List.perm_append_comm
   have h2:(taken++(s :: init)).Perm (s :: (taken++init)):=List.perm_middle
   exact (h1.append_left taken).trans h2
  exact hp.nodup_iff.1 h.nd
 ·rw [List.append_nil] at hi
  have hlt:=(List.getElem?_eq_some_iff.1 hi).1
  exact h.sk i u (by rw [List.getElem?_append_left hlt];exact hi)
 ·exact h.rk u (by simp at hu ⊢;exact .inl hu)
 ·exact h.sk init.length s (by simp)
theorem PI.pop_yes {init taken:List S} {s:S} {outs:List (List Int)} (h:PI mv af done out C R rank start (init++[s]) taken outs) (hd:done s=true):PMw mv af done out C R rank start s 0 init [] taken (outs++[out s]):=by
 refine h.pop_core (fun o => ?_) ?_
 ·rw [List.mem_append,h.om]
  constructor
  ·rintro (⟨u,h1,h2,h3⟩ | e)
   ·exact ⟨u,by simp [h1],h2,h3⟩
   ·exact ⟨s,by simp,hd,(List.mem_singleton.1 e).symm⟩
  ·rintro ⟨u,h1,h2,h3⟩
   rcases List.mem_cons.1 h1 with e | e
   ·exact .inr (by simp [← h3,e])
   ·exact .inl ⟨u,e,h2,h3⟩
 ·rw [List.length_append,h.ol,List.filter_cons,if_pos hd];simp
theorem PI.pop_no {init taken:List S} {s:S} {outs:List (List Int)} (h:PI mv af done out C R rank start (init++[s]) taken outs) (hd:done s=false):PMw mv af done out C R rank start s 0 init [] taken outs:=by
 refine h.pop_core (fun o => ?_) ?_
 ·rw [h.om]
  constructor
  ·rintro ⟨u,h1,h2,h3⟩
   exact ⟨u,by simp [h1],h2,h3⟩
  ·rintro ⟨u,h1,h2,h3⟩
   rcases List.mem_cons.1 h1 with e | e
   ·subst e;rw [hd] at h2;cases h2
   ·exact ⟨u,e,h2,h3⟩
 ·rw [h.ol,List.filter_cons,if_neg (by simp [hd])]
theorem PMw.mem_s {s:S} {j:Nat} {init new taken:List S} {outs:List (List Int)} (_:PMw mv af done out C R rank start s j init new taken outs):s∈(s :: taken)++(init++new):=by simp
theorem PMw.old {s t u:S} {j:Nat} {init new taken:List S} {outs:List (List Int)} {K:Type} {key:S→K} (h:PMw mv af done out C R rank start s j init new taken outs) (ht:nxM mv af s j=some t)
 (hu:u∈(s :: taken)++(init++new)) (he:key u=key t) (hk:∀ a b,ReachM start (nxM mv af) a→ReachM start (nxM mv af) b→key a=key b→a=b):PMw mv af done out C R rank start s (j+1) init new taken outs:=by
 have hr:ReachM start (nxM mv af) t:=.step (h.rc s h.mem_s) ht
 have e:u=t:=hk u t (h.rc u hu) hr he
 subst e
 refine ⟨h.nd,h.rc,h.st,h.cl,fun i x hi hx => ?_,h.om,h.ol,h.sk,h.rk,h.rs,h.si,by have:=h.nl;omega,h.nr⟩
 rcases Nat.lt_or_ge i j with hij | hij
 ·exact h.nx i x hij hx
 ·obtain rfl:i=j:=by omega
  rw [ht] at hx
  simp only [Option.some.injEq] at hx
  exact hx ▸ hu
theorem PMw.new {s t:S} {j:Nat} {init new taken:List S} {outs:List (List Int)} (h:PMw mv af done out C R rank start s j init new taken outs) (ht:nxM mv af s j=some t)
 (hn:t∉(s :: taken)++(init++new)) (hj:j < C) (hr:rank t < rank s):PMw mv af done out C R rank start s (j+1) init (new++[t]) taken outs:=by
 have hreach:ReachM start (nxM mv af) t:=.step (h.rc s h.mem_s) ht
 have up:∀ u,u∈(s :: taken)++(init++new)→u∈(s :: taken)++(init++(new++[t])):=fun u hu=>by
  simp only [List.mem_append,List.mem_cons] at hu ⊢
  rcases hu with hu | hu | hu
  ·exact .inl hu
  ·exact .inr (.inl hu)
  ·exact .inr (.inr (.inl hu))
 have hasc:(s :: taken)++(init++(new++[t]))=((s :: taken)++(init++new))++[t]:=by simp [List.append_assoc]
 have hnl:=h.nl
 have hrs:=h.rs
 refine ⟨?_,fun u hu => ?_,up _ h.st,fun u hu i x hx=>up x (h.cl u hu i x hx),fun i x hi hx => ?_,h.om,h.ol,fun i u hi => ?_,fun u hu => ?_,h.rs,h.si,by simp;omega,fun u hu => ?_⟩
 ·rw [hasc]
  exact List.nodup_append.2 ⟨h.nd,by simp,fun a ha b hb=>by simp at hb;subst hb;exact fun e=>hn (e ▸ ha)⟩
 ·rw [hasc] at hu
  rcases List.mem_append.1 hu with e | e
  ·exact h.rc u e
  ·simp at e;subst e;exact hreach
 ·rcases Nat.lt_or_ge i j with hij | hij
  ·exact up x (h.nx i x hij hx)
  ·obtain rfl:i=j:=by omega
   rw [ht] at hx
   simp only [Option.some.injEq] at hx
   subst hx
   simp
 ·rw [← List.append_assoc] at hi
  by_cases hlt:i < (init++new).length
  ·rw [List.getElem?_append_left hlt] at hi
   exact h.sk i u hi
  ·rw [List.getElem?_append_right (by omega)] at hi
   have h0:i - (init++new).length=0:=by
    have:=(List.getElem?_eq_some_iff.1 hi).1
    simp only [List.length_singleton] at this
    omega
   rw [h0] at hi
   simp at hi
   subst hi
   have hi2:i=init.length+new.length:=by simp only [List.length_append] at hlt h0;omega
   have h1:=h.si
   have h2:R+1 - rank s+1≤R+1 - rank t:=by omega
   have h3:=Nat.mul_le_mul_left C h2
   rw [Nat.mul_add,Nat.mul_one] at h3
   omega
 ·rw [← List.append_assoc] at hu
  rcases List.mem_append.1 hu with e | e
  ·exact h.rk u e
  ·simp at e;subst e;omega
 ·rcases List.mem_append.1 hu with e | e
  ·exact h.nr u e
  ·simp at e;subst e;exact hr
theorem PMw.leave {s:S} {j:Nat} {init new taken:List S} {outs:List (List Int)} (h:PMw mv af done out C R rank start s j init new taken outs) (hj:(mv s).length≤j):PI mv af done out C R rank start (init++new) (s :: taken) outs:=
 ⟨h.nd,h.rc,h.st,fun u hu i t ht=>by
  rcases List.mem_cons.1 hu with e | e
  ·subst e
   obtain ⟨m,hm, -⟩:=(nxM_some mv af).1 ht
   exact h.nx i t (by have:=(List.getElem?_eq_some_iff.1 hm).1;omega) ht
  ·exact h.cl u e i t ht,h.om,h.ol,h.sk,h.rk⟩
theorem PMw.falls {s:S} {j:Nat} {init new taken:List S} {outs:List (List Int)} (h:PMw mv af done out C R rank start s j init new taken outs) (hj:j≤C):wMs (C+1) rank (init++new) < wMs (C+1) rank (init++[s]):=by
 have h1:=wMs_next (B:=C+1) (rank:=rank) (s:=s) (new:=new) (by have:=h.nl;omega) h.nr
 rw [wMs_append,wMs_append]
 have:wMs (C+1) rank [s]=(C+1) ^ rank s:=by simp [wMs]
 omega
theorem stack_short {work:List S} (h:∀ i s,work[i]? = some s→i+1≤C * (R+1 - rank s)):work.length≤C * (R+1):=by
 rcases Nat.eq_zero_or_pos work.length with e | e
 ·rw [e];exact Nat.zero_le _
 ·have h1:=h (work.length - 1) (work[work.length - 1]'(by omega)) (List.getElem?_eq_getElem (by omega))
  have h2:C * (R+1 - rank (work[work.length - 1]'(by omega)))≤C * (R+1):=Nat.mul_le_mul_left C (by omega)
  omega
theorem PI.short {work taken:List S} {outs:List (List Int)} (h:PI mv af done out C R rank start work taken outs):work.length≤C * (R+1):=stack_short h.sk
theorem PMw.short {s:S} {j:Nat} {init new taken:List S} {outs:List (List Int)} (h:PMw mv af done out C R rank start s j init new taken outs):(init++new).length≤C * (R+1):=stack_short h.sk
theorem PI.fin {taken:List S} {outs:List (List Int)} (h:PI mv af done out C R rank start [] taken outs) (o:List Int):o∈outs↔∃ s,ReachM start (nxM mv af) s∧done s=true∧out s=o:=by
 have hall:∀ s,ReachM start (nxM mv af) s→s∈taken:=fun s hr=>by
  induction hr with
  | start=>simpa using h.st
  | step _ ht ih=>simpa using h.cl _ ih _ _ ht
 rw [h.om]
 constructor
 ·rintro ⟨s,h1,h2,h3⟩;exact ⟨s,h.rc s (by simp [h1]),h2,h3⟩
 ·rintro ⟨s,h1,h2,h3⟩;exact ⟨s,hall s h1,h2,h3⟩
theorem PI.few {work taken:List S} {outs:List (List Int)} (h:PI mv af done out C R rank start work taken outs) {N:Nat} (hN:∀ l:List S,l.Nodup→(∀ s∈l,ReachM start (nxM mv af) s∧done s=true)→l.length≤N):outs.length≤N:=by
 rw [h.ol]
 refine hN _ ((List.nodup_append.1 h.nd).1.filter _) fun s hs => ?_
 rw [List.mem_filter] at hs
 exact ⟨h.rc s (by simp [hs.1]),hs.2⟩
theorem reach_mv {next:S→Nat→Option S} {ok:S→Prop} (h0:ok start) (h1:∀ s i t,ok s→next s i=some t→ok t) (hm:∀ s,ok s→∀ i,i∈mv s↔(next s i).isSome) (ha:∀ s,ok s→∀ i t,next s i=some t→af s i=t) (s:S) :
 ReachM start (nxM mv af) s↔ReachM start next s:=by
 have e:∀ s,ok s→∀ t,(∃ j,nxM mv af s j=some t)↔∃ i,next s i=some t:=fun s hs t=>by
  constructor
  ·rintro ⟨j,hj⟩
   obtain ⟨m,h2,h3⟩:=(nxM_some mv af).1 hj
   have h4:=(hm s hs m).1 (List.mem_of_getElem? h2)
   obtain ⟨t',ht'⟩:=Option.isSome_iff_exists.1 h4
   exact ⟨m,by rw [ht',← ha s hs m t' ht',h3]⟩
  ·rintro ⟨i,hi⟩
   obtain ⟨j,hj,e⟩:=List.mem_iff_getElem.1 ((hm s hs i).2 (by simp [hi]))
   exact ⟨j,(nxM_some mv af).2 ⟨i,by rw [List.getElem?_eq_getElem hj,e],ha s hs i t hi⟩⟩
 constructor
 ·intro h
  have:ReachM start next s∧ok s:=by
   induction h with
   | start=>exact ⟨.start,h0⟩
   | step _ ht ih =>
    obtain ⟨i,hi⟩:=(e _ ih.2 _).1 ⟨_,ht⟩
    exact ⟨.step ih.1 hi,h1 _ _ _ ih.2 hi⟩
  exact this.1
 ·intro h
  have:ReachM start (nxM mv af) s∧ok s:=by
   induction h with
   | start=>exact ⟨.start,h0⟩
   | step _ ht ih =>
    obtain ⟨j,hj⟩:=(e _ ih.2 _).2 ⟨_,ht⟩
    exact ⟨.step ih.1 hj,h1 _ _ _ ih.2 ht⟩
  exact this.1
end
end Go.Proofs.YtlddmagfbcomgaaGreat
namespace Go.Proofs.YtlddmagfbcomgaaGreat
open Go.RowKit
theorem zeroCells_eq {α:Type} (E:El α) (z:α) (zv:Value) (hz:zv.cells.toList=E.c z) (n:Nat):(Builtin.zeroCells zv.cells n).toList=(List.replicate n z).flatMap E.c:=by
 have h:=made_eq (E:=E) z zv hz n
 have hsz:zv.cells.size=E.sz:=by rw [← Array.length_toList,hz,E.len]
 rw [← h]
 simp [Builtin.zeroCells,madeCells,hsz]
theorem El.take {α:Type} (E:El α) (xs:List α) (i:Nat):(xs.flatMap E.c).take (i * E.sz)=(xs.take i).flatMap E.c:=by
 induction xs generalizing i with
 | nil=>simp
 | cons x xs ih =>
  cases i with
  | zero=>simp
  | succ i =>
   rw [List.flatMap_cons,List.take_succ_cons,List.flatMap_cons,List.take_append,E.len,List.take_of_length_le (by rw [E.len,Nat.add_mul];omega),
    show (i+1) * E.sz - E.sz=i * E.sz by rw [Nat.add_mul];omega,ih]
section
variable {α : Type} {E : El α} {T : TypeId}
theorem Own.cut {w:World} {base g n cap:Nat} {xs:List α} (h:Own E T w base (.slice (some ⟨g,0,none⟩) n cap) xs) {i:Nat} (hi:i≤n):Own E T w base (.slice (some ⟨g,0,none⟩) i cap) (xs.take i):=by
 have hn:=h.len
 subst hn
 unfold Own at *
 have hl:(xs.take i).length=i:=by rw [List.length_take];omega
 rcases h.2 with ⟨h1,_⟩ | ⟨g',cap',cur,h1,h2,h3,h4,h5,h6,h7⟩
 ·simp at h1
 ·simp only [Value.slice.injEq,Option.some.injEq,Addr.mk.injEq,and_true,true_and] at h1
  obtain ⟨rfl,rfl⟩:=h1
  rw [hl]
  refine ⟨by rw [E.length,hl], .inr ⟨g,cap,cur,rfl,h2,h3,by omega,h5,h6, ?_⟩⟩
  rw [← E.take,← h7,List.take_take,Nat.min_eq_left (Nat.mul_le_mul_right _ hi)]
theorem run_clear {P:Program} {w:World} {base g n cap i c':Nat} {xs:List α} (z:α) {zv:Value} {bytes:Nat} (hinfo:(P.info? T).map (fun i=>(i.zero,i.size,i.bytes))=some (some zv,E.sz,bytes)) (hz:zv.cells.toList=E.c z)
 {t ty:TypeId} (h1:P.underlying t=some (.slice T)) (hown:Own E T w base (.slice (some ⟨g,0,none⟩) n cap) xs) (hi:i < n) :
 ∃ w',(Builtin.clear_ #[t] ty #[.slice (some ⟨g,i * E.sz,none⟩) (n - i) c']).run P w = .ok (.tuple #[]) w'∧Own E T w' base (.slice (some ⟨g,0,none⟩) n cap) (xs.take i++List.replicate (n - i) z)∧w.grownBy w' (some g):=by
 have hn:=hown.len
 subst hn
 obtain ⟨it,hi1,hz0,hz1,hz2⟩:=info_parts hinfo
 rcases hown.2 with ⟨h2,_⟩ | ⟨g',cap',cur,h2,hb,hg,hnc,hcm,hcs,htake⟩
 ·simp at h2
 ·simp only [Value.slice.injEq,Option.some.injEq,Addr.mk.injEq,and_true,true_and] at h2
  obtain ⟨rfl,rfl⟩:=h2
  have hzl:(Builtin.zeroCells zv.cells (xs.length - i)).toList=(List.replicate (xs.length - i) z).flatMap E.c:=zeroCells_eq E z zv hz _
  have hlen:((List.replicate (xs.length - i) z).flatMap E.c).length=(xs.length - i) * E.sz:=by rw [E.length];simp
  have hmul:i * E.sz+(xs.length - i) * E.sz=xs.length * E.sz:=by rw [← Nat.add_mul];congr 1;omega
  have hmul2:xs.length * E.sz≤cap * E.sz:=Nat.mul_le_mul_right _ hnc
  have hst:=run_storeCells_at P g (i * E.sz) T ((List.replicate (xs.length - i) z).flatMap E.c) 0 cur w hg (by rw [hlen,hcs];omega) (fun v hv=>by
   rw [List.mem_flatMap] at hv
   obtain ⟨x,_,hx⟩:=hv
   exact E.one x v hx)
  simp only [Nat.add_zero] at hst
  refine ⟨w.setRow g (cur.toList.take (i * E.sz)++(List.replicate (xs.length - i) z).flatMap E.c++cur.toList.drop (i * E.sz+((List.replicate (xs.length - i) z).flatMap E.c).length)).toArray, ?_, ?_,⟨rfl,rfl,rfl,by simp,fun k _ hk=>setRow_other w g k _ (fun e=>hk (by simp [e]))⟩⟩
  ·have hne:xs.length - i≠0:=by omega
   obtain ⟨m,hm⟩:=Nat.exists_eq_succ_of_ne_zero hne
   rw [hm] at hst hzl ⊢
   simp only [Nat.succ_eq_add_one] at hst hzl ⊢
   simp [Builtin.clear_,run_underlying h1,zeroValue,typeInfo,hi1,hz0,hzl,hst]
  ·have hl2:(xs.take i++List.replicate (xs.length - i) z).length=xs.length:=by simp;omega
   unfold Own
   rw [hl2]
   refine ⟨by rw [E.length,hl2], .inr ⟨g,cap,_,rfl,hb,setRow_heap w g cur _ T _ hg,hnc,hcm, ?_, ?_⟩⟩
   ·simp only [List.size_toArray,List.length_append,List.length_take,List.length_drop,Array.length_toList,hlen,hcs]
    omega
   ·rw [List.flatMap_append,← E.take,← htake,List.take_take,Nat.min_eq_left (by omega)]
    rw [show xs.length * E.sz=(cur.toList.take (i * E.sz)++(List.replicate (xs.length - i) z).flatMap E.c).length by
     have hcl:cur.toList.length=cap * E.sz:=by rw [Array.length_toList,hcs]
     rw [List.length_append,hlen,List.length_take,hcl];omega]
    exact List.take_left
end
structure DelInv {α:Type} (f:α→Bool) (xs L:List α) (i j:Nat):Prop where
 take:L.take i=(xs.take j).filter fun x => !f x
 drop:L.drop j=xs.drop j
theorem filter_all {α:Type} {f:α→Bool} {xs:List α} (h:∀ x∈xs,f x=true):xs.filter f=xs:=List.filter_eq_self.2 h
theorem del_start {α:Type} {f:α→Bool} {xs:List α} {t:Nat} {x:α} (hx:xs[t]? = some x) (hf:f x=true) (hno:∀ y∈xs.take t,f y=false):DelInv f xs xs t (t+1):=by
 refine ⟨?_,rfl⟩
 rw [List.take_add_one,hx,List.filter_append,filter_all (fun y hy=>by rw [hno y hy];rfl)]
 simp [hf]
section
variable {α : Type} {f : α → Bool} {xs L : List α} {i j : Nat}
theorem DelInv.get (h:DelInv f xs L i j) {x:α} (hx:xs[j]? = some x):L[j]? = some x:=by
 have h1:(L.drop j)[0]? = (xs.drop j)[0]?:=by rw [h.drop]
 rw [List.getElem?_drop,List.getElem?_drop,Nat.add_zero] at h1
 rw [h1,hx]
theorem DelInv.keep (h:DelInv f xs L i j) (hij:i < j) {x:α} (hx:xs[j]? = some x) (hf:f x=false):DelInv f xs (L.set i x) (i+1) (j+1):=by
 have hL:=h.get hx
 have hjl:=(List.getElem?_eq_some_iff.1 hL).1
 refine ⟨?_, ?_⟩
 ·rw [List.take_add_one,List.take_add_one,hx,List.filter_append,← h.take,List.getElem?_set,if_pos rfl,if_pos (by omega)]
  rw [List.take_set_of_le (Nat.le_refl _)]
  simp [hf]
 ·rw [List.drop_set_of_lt (by omega)]
  have h1:(L.drop j).drop 1=(xs.drop j).drop 1:=by rw [h.drop]
  simpa [List.drop_drop] using h1
theorem DelInv.skip (h:DelInv f xs L i j) {x:α} (hx:xs[j]? = some x) (hf:f x=true):DelInv f xs L i (j+1):=by
 refine ⟨?_, ?_⟩
 ·rw [List.take_add_one,hx,List.filter_append,h.take];simp [hf]
 ·have h1:(L.drop j).drop 1=(xs.drop j).drop 1:=by rw [h.drop]
  simpa [List.drop_drop] using h1
theorem DelInv.done (h:DelInv f xs L i j) (hj:xs.length≤j):L.take i=xs.filter fun x => !f x:=by
 rw [h.take,List.take_of_length_le hj]
end
theorem grown_of_below {w w':World} (h:Below w.heap.size w w') (row:Option Nat):w.grownBy w' row:=⟨h.os,h.tape,h.output,h.size,fun k hk _=>h.block k hk⟩
theorem grown_trans {w w' w'':World} {row:Option Nat} (h:w.grownBy w' row) (k:w'.grownBy w'' row):w.grownBy w'' row:=
 ⟨k.os.trans h.os,k.tape.trans h.tape,k.output.trans h.output,Nat.le_trans h.size k.size,fun q hq hne=>(k.block q (Nat.lt_of_lt_of_le hq h.size) hne).trans (h.block q hq hne)⟩
def DelPost {α:Type} (E:El α) (T:TypeId) (w:World) (base:Nat) (v:Value) (ys:List α) (e:Ending) (w':World):Prop:=∃ v',e = .returned v'∧Own E T w' base v' ys∧w.grownBy w' v.ownBlock∧v'.ownBlock=v.ownBlock
theorem wpList_clear {α:Type} (E:El α) {P:Program} {w:World} {ops:Array Oper} {rest:List Oper} {o:Oper} {a:Act} {Q:Exit→Act→World→Prop}
 (T:TypeId) (z:α) {zv:Value} {bytes:Nat} (hinfo:(P.info? T).map (fun i=>(i.zero,i.size,i.bytes))=some (some zv,E.sz,bytes)) (hz:zv.cells.toList=E.c z) {t:TypeId} (h1:P.underlying t=some (.slice T))
 (base g n cap i c':Nat) (xs:List α) (hown:Own E T w base (.slice (some ⟨g,0,none⟩) n cap) xs) (hi:i < n) (hg:o.guard=none) (y:Operand)
 (hop:o.op = .call { callee:=.builtin .clear,args:=#[y],argTypes:=#[t] }) (hy:a.eval y = .slice (some ⟨g,i * E.sz,none⟩) (n - i) c')
 (hK:∀ w',Own E T w' base (.slice (some ⟨g,0,none⟩) n cap) (xs.take i++List.replicate (n - i) z)→w.grownBy w' (some g)→wpList P ops Q rest (a.put o.dst (.tuple #[])) w') :
 wpList P ops Q (o :: rest) a w:=by
 refine wpList_plain hg fun K hK' => ?_
 obtain ⟨w',hrun,r1,r2⟩:=run_clear (ty:=o.type) (c':=c') z hinfo hz h1 hown hi
 unfold Oper.wp
 simp [execOp,hop,resolve,invoke,builtin,hy,hrun,Result.andThen]
 exact hK' _ _ (hK w' r1 r2)
theorem Own2U.rowput {α:Type} {E:El α} {T1 T2:TypeId} {us:List Slc} {w w':World} {base g n cap:Nat} {p:List (List α)} (h:Own2U E T1 T2 us w base (.slice (some ⟨g,0,none⟩) n cap) p) {k:Nat} {s s':Slc} (hs:us[k]? = some s) {r':List α}
 (ho:Own E T2 w' base s'.v r') (hg:w.grownBy w' s.v.ownBlock) (hb:s'.v.ownBlock=s.v.ownBlock):Own2U E T1 T2 (us.set k s') (w'.setCell ⟨g,k,none⟩ s'.v) base (.slice (some ⟨g,0,none⟩) n cap) (p.set k r'):=by
 obtain ⟨h1,h2,h3,h4,h5⟩:=h
 have hk:=(List.getElem?_eq_some_iff.1 hs).1
 have h2':=h2.grown hg (.inr (fun e=>h5 k s hs g (by rw [← e];rfl) rfl))
 have h2s:=h2'.set (i:=k) (j:=0) s' (u:=s'.v) (by decide) hs rfl
 simp only [SlcE,Nat.mul_one,Nat.add_zero] at h2s
 have hgs:w'.grownBy (w'.setCell ⟨g,k,none⟩ s'.v) (some g):=grown_set (World.grownBy.refl _ _) _ _
 have split:∀ (i:Nat) (u:Slc),(us.set k s')[i]? = some u→(i=k∧u=s')∨(i≠k∧us[i]? = some u):=fun i u hi=>by
  rw [List.getElem?_set] at hi
  by_cases e:k=i
  ·subst e;rw [if_pos rfl,if_pos hk] at hi;simp at hi;exact .inl ⟨rfl,hi.symm⟩
  ·rw [if_neg e] at hi;exact .inr ⟨fun h=>e h.symm,hi⟩
 have blk:∀ (i:Nat) (u:Slc),(us.set k s')[i]? = some u→∃ u0:Slc,us[i]? = some u0∧u.v.ownBlock=u0.v.ownBlock:=fun i u hi=>by
  rcases split i u hi with ⟨e1,e2⟩ | ⟨_,hi'⟩
  ·exact ⟨s,by rw [e1];exact hs,by rw [e2];exact hb⟩
  ·exact ⟨u,hi',rfl⟩
 refine ⟨by simp [h1],h2s, ?_, ?_, ?_⟩
 ·intro i u r hi hr
  rcases split i u hi with ⟨e1,e2⟩ | ⟨hne,hi'⟩
  ·rw [e1,List.getElem?_set,if_pos rfl,if_pos (by omega)] at hr
   simp at hr;subst hr
   rw [e2]
   refine ho.grown hgs ?_
   rcases hq:s'.v.ownBlock with _ | q
   ·exact .inl rfl
   ·refine .inr (fun e => ?_)
    rw [hb] at hq
    exact h5 k s hs q hq (by rw [e];rfl)
  ·rw [List.getElem?_set,if_neg (fun e=>hne e.symm)] at hr
   refine ((h3 i u r hi' hr).grown hg ?_).grown hgs ?_
   ·rcases hq:u.v.ownBlock with _ | q
    ·exact .inl rfl
    ·exact .inr (fun e=>h4 i k u s hi' hs hne q hq e.symm)
   ·rcases hq:u.v.ownBlock with _ | q
    ·exact .inl rfl
    ·exact .inr (fun e=>h5 i u hi' q hq (by rw [e];rfl))
 ·intro i j u u' hi hj hij q hq hq'
  obtain ⟨u0,hu0,e0⟩:=blk i u hi
  obtain ⟨u1,hu1,e1⟩:=blk j u' hj
  exact h4 i j u0 u1 hu0 hu1 hij q (by rw [← e0];exact hq) (by rw [← e1];exact hq')
 ·intro i u hi q hq
  obtain ⟨u0,hu0,e0⟩:=blk i u hi
  exact h5 i u0 hu0 q (by rw [← e0];exact hq)
end Go.Proofs.YtlddmagfbcomgaaGreat
namespace Go.Proofs.YtlddmagfbcomgaaGreat
structure Sq where
 pc:List Int
 rg:List Int
 mm:List Int
def sqStart (p:List (List Ins)):Sq:=⟨List.replicate p.length 0,List.replicate (p.length * 3) 0,List.replicate 3 0⟩
def sqVal (s:Sq) (t:Nat) (x:Ins):Int:=if x.op=3 then s.rg.getD (t * 3+x.reg.toNat) 0 else x.val
def sqDo (s:Sq) (t:Nat) (k:Int) (x:Ins):Sq:=
 ⟨s.pc.set t (k+1),if isRop x.op=true then s.rg.set (t * 3+x.reg.toNat) (s.mm.getD x.loc.toNat 0) else s.rg,if isWop x.op=true then s.mm.set x.loc.toNat (sqVal s t x) else s.mm⟩
def sqNext (p:List (List Ins)) (s:Sq) (t:Nat):Option Sq:=
 match p[t]?,s.pc[t]? with
 | some r,some k=>match r[k.toNat]? with
  | some x=>some (sqDo s t k x)
  | none=>none
 | _,_=>none
def sqOut (s:Sq):List Int:=s.rg++s.mm
structure SqOk (p:List (List Ins)) (s:Sq):Prop where
 lp:s.pc.length=p.length
 lr:s.rg.length=p.length * 3
 lm:s.mm.length=3
 pc:∀ (t:Nat) (k:Int) (r:List Ins),s.pc[t]? = some k→p[t]? = some r→0≤k∧k≤r.length
 rg:∀ x∈s.rg,0≤x∧x≤3
 mm:∀ x∈s.mm,0≤x∧x≤3
theorem SqOk.start (p:List (List Ins)):SqOk p (sqStart p):=
 ⟨by simp [sqStart],by simp [sqStart],by simp [sqStart],fun t k r h _=>by
  simp only [sqStart,List.getElem?_replicate] at h
  split at h
  ·simp at h;subst h;omega
  ·simp at h,fun x hx=>by simp [sqStart] at hx;omega,fun x hx=>by simp [sqStart] at hx;omega⟩
theorem getD_range {l:List Int} (h:∀ x∈l,0≤x∧x≤3) (k:Nat):0≤l.getD k 0∧l.getD k 0≤3:=by
 rw [List.getD_eq_getElem?_getD]
 cases hk:l[k]? with
 | none=>simp
 | some x=>simpa using h x (List.mem_of_getElem? hk)
theorem set_range {l:List Int} (h:∀ x∈l,0≤x∧x≤3) {v:Int} (hv:0≤v∧v≤3) (k:Nat):∀ x∈l.set k v,0≤x∧x≤3:=fun x hx=>by
 rcases List.mem_or_eq_of_mem_set hx with e | e
 ·exact h x e
 ·rw [e];exact hv
theorem val_range {s:Sq} {t:Nat} {x:Ins} (h:∀ y∈s.rg,0≤y∧y≤3) (hx:insValid x=true) (hw:isWop x.op=true):0≤sqVal s t x∧sqVal s t x≤3:=by
 unfold sqVal
 split
 ·exact getD_range h _
 ·rename_i h3
  unfold isWop at hw
  unfold insValid inB at hx
  simp only [Bool.or_eq_true,beq_iff_eq] at hw
  rcases hw with (hw | hw) | hw
  ·simp [hw] at hx;omega
  ·exact absurd hw h3
  ·simp [hw] at hx;omega
theorem sqNext_parts {p:List (List Ins)} {s s':Sq} {t:Nat} (h:sqNext p s t=some s'):∃ r k x,p[t]? = some r∧s.pc[t]? = some k∧r[k.toNat]? = some x∧s'=sqDo s t k x:=by
 unfold sqNext at h
 split at h
 ·rename_i r k hr hk
  split at h
  ·rename_i x hx
   simp only [Option.some.injEq] at h
   exact ⟨r,k,x,hr,hk,hx,h.symm⟩
  ·cases h
 ·cases h
theorem SqOk.next {p:List (List Ins)} {s s':Sq} {t:Nat} (h:SqOk p s) (hp:∀ r∈p,∀ x∈r,insValid x=true) (hn:sqNext p s t=some s'):SqOk p s':=by
 obtain ⟨r,k,x,hr,hk,hx,rfl⟩:=sqNext_parts hn
 have hv:=hp r (List.mem_of_getElem? hr) x (List.mem_of_getElem? hx)
 have hk0:=h.pc t k r hk hr
 have hlt:=(List.getElem?_eq_some_iff.1 hx).1
 refine ⟨by simp [sqDo,h.lp], ?_, ?_, ?_, ?_, ?_⟩
 ·unfold sqDo;simp only;split
  ·rw [List.length_set];exact h.lr
  ·exact h.lr
 ·unfold sqDo;simp only;split
  ·rw [List.length_set];exact h.lm
  ·exact h.lm
 ·intro t' k' r' h1 h2
  simp only [sqDo] at h1
  rw [List.getElem?_set] at h1
  by_cases e:t=t'
  ·subst e
   rw [if_pos rfl] at h1
   split at h1
   ·simp only [Option.some.injEq] at h1
    rw [hr] at h2
    simp only [Option.some.injEq] at h2
    subst h2;omega
   ·cases h1
  ·rw [if_neg e] at h1;exact h.pc t' k' r' h1 h2
 ·unfold sqDo;simp only;split
  ·exact set_range h.rg (getD_range h.mm _) _
  ·exact h.rg
 ·unfold sqDo;simp only;split
  ·rename_i hw;exact set_range h.mm (val_range h.rg hv hw) _
  ·exact h.mm
def sqLeft (p:List (List Ins)) (s:Sq):Nat:=((List.range p.length).map fun t=>(p.getD t []).length - (s.pc.getD t 0).toNat).sum
theorem sum_lt {f g:Nat→Nat} {t:Nat}:∀ {n:Nat},t < n→(∀ i,i≠t→f i=g i)→f t < g t→((List.range n).map f).sum < ((List.range n).map g).sum:=by
 intro n
 induction n with
 | zero=>intro h;omega
 | succ n ih =>
  intro ht he hlt
  rw [List.range_succ,List.map_append,List.map_append,List.sum_append,List.sum_append]
  simp only [List.map_cons,List.map_nil,List.sum_cons,List.sum_nil]
  by_cases e:t=n
  ·subst e
   have:((List.range t).map f)=((List.range t).map g):=List.map_congr_left fun i hi=>he i (by have:=List.mem_range.1 hi;omega)
   rw [this];omega
  ·have h1:=ih (by omega) he hlt
   have h2:=he n (fun q=>e q.symm)
   omega
theorem sqLeft_next {p:List (List Ins)} {s s':Sq} {t:Nat} (h:SqOk p s) (hn:sqNext p s t=some s'):sqLeft p s' < sqLeft p s:=by
 obtain ⟨r,k,x,hr,hk,hx,rfl⟩:=sqNext_parts hn
 have ht:=(List.getElem?_eq_some_iff.1 hr).1
 have ht2:=(List.getElem?_eq_some_iff.1 hk).1
 have hlt:=(List.getElem?_eq_some_iff.1 hx).1
 have hk0:=h.pc t k r hk hr
 unfold sqLeft
 refine sum_lt (t:=t) ht (fun i hi => ?_) ?_
 ·simp only [sqDo,List.getD_eq_getElem?_getD]
  rw [List.getElem?_set,if_neg (fun e=>hi e.symm)]
 ·simp only [sqDo,List.getD_eq_getElem?_getD,hr,hk,Option.getD_some]
  rw [List.getElem?_set,if_pos rfl,if_pos ht2]
  simp only [Option.getD_some]
  omega
def sqKey (s:Sq):List Int:=s.pc++s.rg++s.mm
theorem sqKey_inj {p:List (List Ins)} {s s':Sq} (h:SqOk p s) (h':SqOk p s') (e:sqKey s=sqKey s'):s=s':=by
 unfold sqKey at e
 have e1:=List.append_inj e (by simp [h.lp,h.lr,h'.lp,h'.lr])
 have e2:=List.append_inj e1.1 (by rw [h.lp,h'.lp])
 cases s;cases s'
 simp only at e1 e2
 rw [e2.1,e2.2,e1.2]
theorem SqOk.reach {p:List (List Ins)} (hp:∀ r∈p,∀ x∈r,insValid x=true) {s:Sq} (h:ReachM (sqStart p) (sqNext p) s):SqOk p s:=by
 induction h with
 | start=>exact SqOk.start p
 | step _ ht ih=>exact ih.next hp ht
theorem sqKey_reach {p:List (List Ins)} (hp:∀ r∈p,∀ x∈r,insValid x=true) (a b:Sq) (ha:ReachM (sqStart p) (sqNext p) a) (hb:ReachM (sqStart p) (sqNext p) b) (e:sqKey a=sqKey b):a=b:=sqKey_inj (SqOk.reach hp ha) (SqOk.reach hp hb) e
end Go.Proofs.YtlddmagfbcomgaaGreat
namespace Go.Proofs.YtlddmagfbcomgaaGreat
section
variable {S : Type} {start : S} {next : S → Nat → Option S} (done : S → Bool) (out : S → List Int) (n : Nat)
structure OInv (taken:List S) (outs:List (List Int)):Prop where
 ok:OutsOk n outs
 mem:∀ o,o∈outs↔∃ s∈taken,done s=true∧out s=o
structure SAll (start:S) (next:S→Nat→Option S) (work seen taken:List S) (outs:List (List Int)):Prop where
 inv:SInv start next work seen
 o:OInv done out n taken outs
 t1:∀ s∈seen,s∈work∨s∈taken
 t2:∀ s∈taken,s∈seen
variable {done out n}
theorem OInv.nil:OInv done out n [] []:=⟨⟨fun o h=>by simp at h, .nil⟩,fun o=>by simp⟩
theorem OInv.yes {taken:List S} {outs:List (List Int)} (h:OInv done out n taken outs) {s:S} (hd:done s=true) (hl:(out s).length=n):OInv done out n (s :: taken) (putO (out s) outs):=by
 refine ⟨putO_ok hl h.ok,fun o => ?_⟩
 rw [putO_mem hl h.ok.len,h.mem]
 constructor
 ·rintro (e | ⟨u,hu,h1,h2⟩)
  ·exact ⟨s,by simp,hd,e.symm⟩
  ·exact ⟨u,by simp [hu],h1,h2⟩
 ·rintro ⟨u,hu,h1,h2⟩
  rcases List.mem_cons.1 hu with e | e
  ·exact .inl (by rw [← h2,e])
  ·exact .inr ⟨u,e,h1,h2⟩
theorem OInv.no {taken:List S} {outs:List (List Int)} (h:OInv done out n taken outs) {s:S} (hd:done s=false):OInv done out n (s :: taken) outs:=by
 refine ⟨h.ok,fun o => ?_⟩
 rw [h.mem]
 constructor
 ·rintro ⟨u,hu,h1,h2⟩
  exact ⟨u,by simp [hu],h1,h2⟩
 ·rintro ⟨u,hu,h1,h2⟩
  rcases List.mem_cons.1 hu with e | e
  ·rw [e,hd] at h1;cases h1
  ·exact ⟨u,e,h1,h2⟩
theorem SAll.fin {seen taken:List S} {outs:List (List Int)} (h:SAll done out n start next [] seen taken outs) (o:List Int):o∈outs↔∃ s,ReachM start next s∧done s=true∧out s=o:=by
 rw [h.o.mem]
 constructor
 ·rintro ⟨s,hs,h1,h2⟩
  exact ⟨s,h.inv.rc s (h.t2 s hs),h1,h2⟩
 ·rintro ⟨s,hs,h1,h2⟩
  rcases h.t1 s ((h.inv.all s).2 hs) with e | e
  ·simp at e
  ·exact ⟨s,e,h1,h2⟩
end
def sqDone (p:List (List Ins)) (s:Sq):Bool:=(List.range p.length).all fun t=>decide (¬ s.pc.getD t 0 < ((p.getD t []).length:Int))
theorem sq_more {p:List (List Ins)} {s:Sq} (h:SqOk p s) (hd:sqDone p s=false):∃ t s',sqNext p s t=some s':=by
 unfold sqDone at hd
 rw [List.all_eq_false] at hd
 obtain ⟨t,ht,hn⟩:=hd
 have htp:=List.mem_range.1 ht
 obtain ⟨r,hr⟩:=get_of_lt (xs:=p) htp
 obtain ⟨k,hk⟩:=get_of_lt (xs:=s.pc) (k:=t) (by rw [h.lp];exact htp)
 have hk0:=h.pc t k r hk hr
 simp only [List.getD_eq_getElem?_getD,hr,hk,Option.getD_some,decide_eq_true_eq,Int.not_lt,Int.not_le] at hn
 obtain ⟨x,hx⟩:=get_of_lt (xs:=r) (k:=k.toNat) (by omega)
 exact ⟨t,sqDo s t k x,by unfold sqNext;simp [hr,hk,hx]⟩
theorem sq_final {p:List (List Ins)} (hp:∀ r∈p,∀ x∈r,insValid x=true):∃ s,ReachM (sqStart p) (sqNext p) s∧sqDone p s=true:=by
 have key:∀ (m:Nat) (s:Sq),ReachM (sqStart p) (sqNext p) s→sqLeft p s≤m→∃ s,ReachM (sqStart p) (sqNext p) s∧sqDone p s=true:=by
  intro m
  induction m with
  | zero =>
   intro s hs hm
   cases hd:sqDone p s with
   | true=>exact ⟨s,hs,hd⟩
   | false =>
    obtain ⟨t,s',h1⟩:=sq_more (SqOk.reach hp hs) hd
    have:=sqLeft_next (SqOk.reach hp hs) h1
    omega
  | succ m ih =>
   intro s hs hm
   cases hd:sqDone p s with
   | true=>exact ⟨s,hs,hd⟩
   | false =>
    obtain ⟨t,s',h1⟩:=sq_more (SqOk.reach hp hs) hd
    have:=sqLeft_next (SqOk.reach hp hs) h1
    exact ih s' (.step hs h1) (by omega)
 exact key _ _ .start (Nat.le_refl _)
theorem sqOut_length {p:List (List Ins)} {s:Sq} (h:SqOk p s):(sqOut s).length=p.length * 3+3:=by
 unfold sqOut;rw [List.length_append,h.lr,h.lm]
theorem sqOut_range {p:List (List Ins)} {s:Sq} (h:SqOk p s):∀ x∈sqOut s,0≤x∧x≤3:=fun x hx=>by
 unfold sqOut at hx
 rcases List.mem_append.1 hx with e | e
 ·exact h.rg x e
 ·exact h.mm x e
end Go.Proofs.YtlddmagfbcomgaaGreat
namespace Go.Proofs.YtlddmagfbcomgaaGreat
theorem sum_le_mul {f:Nat→Nat} {b:Nat} (h:∀ i,f i≤b):∀ n,((List.range n).map f).sum≤n * b:=by
 intro n
 induction n with
 | zero=>simp
 | succ n ih =>
  rw [List.range_succ,List.map_append,List.sum_append,Nat.add_mul]
  have:=h n
  simp only [List.map_cons,List.map_nil,List.sum_cons,List.sum_nil]
  omega
theorem sqLeft_le {p:List (List Ins)} (h:progValid p=true) (s:Sq):sqLeft p s≤21:=by
 obtain ⟨h1, -,h2, -⟩:=valid_le h
 unfold sqLeft
 have h3:=sum_le_mul (f:=fun t=>(p.getD t []).length - (s.pc.getD t 0).toNat) (b:=7) (fun t=>by
  show (p.getD t []).length - (s.pc.getD t 0).toNat≤7
  have h4:(p.getD t []).length≤7:=by
   rw [List.getD_eq_getElem?_getD]
   cases hr:p[t]? with
   | none=>simp
   | some r=>exact (h2 r (List.mem_of_getElem? hr)).1
  omega) p.length
 have:p.length * 7≤3 * 7:=Nat.mul_le_mul_right _ h1
 omega
theorem valid_ins {p:List (List Ins)} (h:progValid p=true):∀ r∈p,∀ x∈r,insValid x=true:=fun r hr x hx=>((valid_le h).2.2.1 r hr).2 x hx
end Go.Proofs.YtlddmagfbcomgaaGreat
namespace Go.Proofs.YtlddmagfbcomgaaGreat
def encR:List Int→Nat
 | []=>0
 | x :: xs=>x.toNat * 4 ^ xs.length+encR xs
theorem encR_lt {l:List Int} (h:∀ x∈l,0≤x∧x≤3):encR l < 4 ^ l.length:=by
 induction l with
 | nil=>simp [encR]
 | cons x l ih =>
  have h1:=ih fun y hy=>h y (by simp [hy])
  have h2:=h x (by simp)
  have h3:x.toNat * 4 ^ l.length≤3 * 4 ^ l.length:=Nat.mul_le_mul_right _ (by omega)
  simp only [encR,List.length_cons,Nat.pow_succ]
  omega
theorem encR_lex {a b:List Int} (hl:a.length=b.length) (ha:∀ x∈a,0≤x∧x≤3) (hb:∀ x∈b,0≤x∧x≤3) (h:lexO a b = -1):encR a < encR b:=by
 induction a generalizing b with
 | nil=>simp [lexO] at h
 | cons x a ih =>
  cases b with
  | nil=>simp at hl
  | cons y b =>
   have hl':a.length=b.length:=by simpa using hl
   have e1:=encR_lt (l:=a) fun z hz=>ha z (by simp [hz])
   have hx:=ha x (by simp)
   have hy:=hb y (by simp)
   simp only [lexO] at h
   simp only [encR]
   by_cases h1:x < y
   ·have h2:(x.toNat+1) * 4 ^ a.length≤y.toNat * 4 ^ a.length:=Nat.mul_le_mul_right _ (by omega)
    rw [Nat.add_mul,Nat.one_mul] at h2
    rw [← hl']
    omega
   ·rw [if_neg h1] at h
    by_cases h2:y < x
    ·rw [if_pos h2] at h;omega
    ·rw [if_neg h2] at h
     have e:x=y:=by omega
     subst e
     have:=ih hl' (fun z hz=>ha z (by simp [hz])) (fun z hz=>hb z (by simp [hz])) h
     rw [← hl']
     omega
theorem incr_le {l:List Nat}:∀ {lo N:Nat},l.Pairwise (· < ·)→(∀ x∈l,lo≤x∧x < N)→l.length≤N - lo:=by
 induction l with
 | nil=>intro lo N _ _;simp
 | cons x l ih =>
  intro lo N hp hx
  obtain ⟨h1,h2⟩:=List.pairwise_cons.1 hp
  have h3:=hx x (by simp)
  have:=ih (lo:=x+1) (N:=N) h2 fun y hy=>⟨h1 y hy,(hx y (by simp [hy])).2⟩
  simp only [List.length_cons]
  omega
theorem outs_few {n:Nat} {l:List (List Int)} (h:OutsOk n l) (hr:∀ o∈l,∀ x∈o,0≤x∧x≤3):l.length≤4 ^ n:=by
 have h1:(l.map encR).Pairwise (· < ·):=by
  rw [List.pairwise_map]
  have h2:=h.pw
  refine List.Pairwise.imp_of_mem ?_ h2
  intro a b ha hb hab
  exact encR_lex (by rw [h.len a ha,h.len b hb]) (hr a ha) (hr b hb) hab
 have h2:=incr_le (lo:=0) (N:=4 ^ n) h1 fun x hx=>by
  obtain ⟨o,ho,rfl⟩:=List.mem_map.1 hx
  have:=encR_lt (hr o ho)
  rw [h.len o ho] at this
  exact ⟨Nat.zero_le _,this⟩
 simpa using h2
theorem sq_outs {p:List (List Ins)} (hp:∀ r∈p,∀ x∈r,insValid x=true) (hl:p.length≤3) {seen taken:List Sq} {outs:List (List Int)} (h:SAll (sqDone p) sqOut (p.length * 3+3) (sqStart p) (sqNext p) [] seen taken outs) :
 outs≠[]∧outs.length≤16777216∧∀ o∈outs,o.length=p.length * 3+3∧∀ x∈o,0≤x∧x≤3:=by
 have hr:∀ o∈outs,o.length=p.length * 3+3∧∀ x∈o,0≤x∧x≤3:=fun o ho=>by
  obtain ⟨s,h1, -,rfl⟩:=(h.fin o).1 ho
  have hk:=SqOk.reach hp h1
  exact ⟨sqOut_length hk,sqOut_range hk⟩
 refine ⟨fun e => ?_, ?_,hr⟩
 ·obtain ⟨s,h1,h2⟩:=sq_final hp
  have:=(h.fin (sqOut s)).2 ⟨s,h1,h2,rfl⟩
  rw [e] at this
  simp at this
 ·have h1:=outs_few h.o.ok fun o ho=>(hr o ho).2
  have h2:4 ^ (p.length * 3+3)≤4 ^ 12:=Nat.pow_le_pow_right (by decide) (by omega)
  exact Nat.le_trans h1 h2
end Go.Proofs.YtlddmagfbcomgaaGreat
namespace Go.Proofs.YtlddmagfbcomgaaGreat
structure Bf where
 q:Sq
 bf:List (List (Int × Int))
def bfN (split:Bool):Nat:=if split then 3 else 1
def bfStart (p:List (List Ins)) (split:Bool):Bf:=⟨sqStart p,List.replicate (p.length * bfN split) []⟩
def bfPlace (t:Nat) (loc:Int) (split:Bool):Nat:=if split then t * 3+loc.toNat else t
def bfEmpty (s:Bf) (t:Nat) (split:Bool):Bool:=(List.range (bfN split)).all fun i=>(s.bf.getD (t * bfN split+i) []).isEmpty
def bfSeen (s:Bf) (t:Nat) (loc:Int) (split:Bool):Int:=
 match (s.bf.getD (bfPlace t loc split) []).reverse.find? (fun e=>e.1==loc) with
 | some e=>e.2
 | none=>s.q.mm.getD loc.toNat 0
def bfDo (s:Bf) (split:Bool) (t:Nat) (k:Int) (x:Ins):Option Bf:=
 if x.op=4∨x.op=5 then if bfEmpty s t split=true then some ⟨sqDo s.q t k x,s.bf⟩ else none
 else if x.op=1 then some ⟨⟨s.q.pc.set t (k+1),s.q.rg.set (t * 3+x.reg.toNat) (bfSeen s t x.loc split),s.q.mm⟩,s.bf⟩
 else some ⟨⟨s.q.pc.set t (k+1),s.q.rg,s.q.mm⟩,s.bf.set (bfPlace t x.loc split) (s.bf.getD (bfPlace t x.loc split) []++[(x.loc,sqVal s.q t x)])⟩
def bfNext (p:List (List Ins)) (split:Bool) (s:Bf) (m:Nat):Option Bf:=
 if m < p.length then
  match p[m]?,s.q.pc[m]? with
  | some r,some k=>match r[k.toNat]? with
   | some x=>bfDo s split m k x
   | none=>none
  | _,_=>none
 else match s.bf[m - p.length]? with
  | some ((l,v) :: rest)=>some ⟨⟨s.q.pc,s.q.rg,s.q.mm.set l.toNat v⟩,s.bf.set (m - p.length) rest⟩
  | _=>none
def entOk (e:Int × Int):Prop:=(0≤e.1∧e.1≤2)∧0≤e.2∧e.2≤3
structure BfOk (p:List (List Ins)) (split:Bool) (s:Bf):Prop where
 q:SqOk p s.q
 lb:s.bf.length=p.length * bfN split
 en:∀ l∈s.bf,∀ e∈l,entOk e
theorem BfOk.start (p:List (List Ins)) (split:Bool):BfOk p split (bfStart p split):=
 ⟨SqOk.start p,by simp [bfStart],fun l hl=>by simp [bfStart] at hl;intro e he;rw [hl.2] at he;simp at he⟩
theorem pc_next {p:List (List Ins)} {s:Sq} {t:Nat} {k:Int} {r:List Ins} {x:Ins} (h:SqOk p s) (hr:p[t]? = some r) (hk:s.pc[t]? = some k) (hx:r[k.toNat]? = some x) {rg mm:List Int} (h1:rg.length=p.length * 3) (h2:mm.length=3) (h3:∀ x∈rg,0≤x∧x≤3) (h4:∀ x∈mm,0≤x∧x≤3):SqOk p ⟨s.pc.set t (k+1),rg,mm⟩:=by
 have hk0:=h.pc t k r hk hr
 have hlt:=(List.getElem?_eq_some_iff.1 hx).1
 refine ⟨by simp [h.lp],h1,h2,fun t' k' r' g1 g2 => ?_,h3,h4⟩
 simp only at g1
 rw [List.getElem?_set] at g1
 by_cases e:t=t'
 ·subst e
  rw [if_pos rfl] at g1
  split at g1
  ·simp only [Option.some.injEq] at g1
   rw [hr] at g2
   simp only [Option.some.injEq] at g2
   subst g2;omega
  ·cases g1
 ·rw [if_neg e] at g1;exact h.pc t' k' r' g1 g2
theorem getD_mem {l:List (List (Int × Int))} (h:∀ x∈l,∀ e∈x,entOk e) (k:Nat):∀ e∈l.getD k [],entOk e:=by
 rw [List.getD_eq_getElem?_getD]
 cases hk:l[k]? with
 | none=>simp
 | some x=>simpa using h x (List.mem_of_getElem? hk)
theorem seen_range {p:List (List Ins)} {split:Bool} {s:Bf} (h:BfOk p split s) (t:Nat) (loc:Int):0≤bfSeen s t loc split∧bfSeen s t loc split≤3:=by
 unfold bfSeen
 split
 ·rename_i e he
  exact (getD_mem h.en _ e (List.mem_reverse.1 (List.mem_of_find?_eq_some he))).2
 ·exact getD_range h.q.mm _
theorem bfNext_thread {p:List (List Ins)} {split:Bool} {s s':Bf} {m:Nat} (h:bfNext p split s m=some s') (hm:m < p.length):∃ r k x,p[m]? = some r∧s.q.pc[m]? = some k∧r[k.toNat]? = some x∧bfDo s split m k x=some s':=by
 unfold bfNext at h
 rw [if_pos hm] at h
 split at h
 ·rename_i r k hr hk
  split at h
  ·rename_i x hx
   exact ⟨r,k,x,hr,hk,hx,h⟩
  ·cases h
 ·cases h
theorem bfNext_flush {p:List (List Ins)} {split:Bool} {s s':Bf} {m:Nat} (h:bfNext p split s m=some s') (hm:¬ m < p.length):∃ l v rest,s.bf[m - p.length]? = some ((l,v) :: rest)∧s'=⟨⟨s.q.pc,s.q.rg,s.q.mm.set l.toNat v⟩,s.bf.set (m - p.length) rest⟩:=by
 unfold bfNext at h
 rw [if_neg hm] at h
 split at h
 ·rename_i l v rest hb
  simp only [Option.some.injEq] at h
  exact ⟨l,v,rest,hb,h.symm⟩
 ·cases h
theorem BfOk.next {p:List (List Ins)} {split:Bool} {s s':Bf} {m:Nat} (h:BfOk p split s) (hp:∀ r∈p,∀ x∈r,insValid x=true) (hn:bfNext p split s m=some s'):BfOk p split s':=by
 by_cases hm:m < p.length
 ·obtain ⟨r,k,x,hr,hk,hx,hd⟩:=bfNext_thread hn hm
  have hv:=hp r (List.mem_of_getElem? hr) x (List.mem_of_getElem? hx)
  unfold bfDo at hd
  split at hd
  ·split at hd
   ·simp only [Option.some.injEq] at hd
    subst hd
    exact ⟨h.q.next (t:=m) hp (by unfold sqNext;simp [hr,hk,hx]),h.lb,h.en⟩
   ·cases hd
  ·rename_i h45
   split at hd
   ·simp only [Option.some.injEq] at hd
    subst hd
    exact ⟨pc_next h.q hr hk hx (by rw [List.length_set];exact h.q.lr) h.q.lm (set_range h.q.rg (seen_range h _ _) _) h.q.mm,h.lb,h.en⟩
   ·rename_i h1
    simp only [Option.some.injEq] at hd
    subst hd
    refine ⟨pc_next h.q hr hk hx h.q.lr h.q.lm h.q.rg h.q.mm,by rw [List.length_set];exact h.lb,fun l hl e he => ?_⟩
    rcases List.mem_or_eq_of_mem_set hl with g | g
    ·exact h.en l g e he
    ·rw [g] at he
     rcases List.mem_append.1 he with g2 | g2
     ·exact getD_mem h.en _ e g2
     ·simp only [List.mem_singleton] at g2
      subst g2
      have h23:x.op=2∨x.op=3:=by
       unfold insValid at hv
       split at hv
       ·omega
       ·split at hv
        ·omega
        ·split at hv
         ·omega
         ·split at hv
          ·omega
          ·cases hv
      have hloc:0≤x.loc∧x.loc≤2:=by
       unfold insValid inB at hv
       rcases h23 with e2 | e2 <;> (simp [e2] at hv;omega)
      exact ⟨hloc,val_range h.q.rg hv (by unfold isWop;rcases h23 with e2 | e2 <;> simp [e2])⟩
 ·obtain ⟨l,v,rest,hb,rfl⟩:=bfNext_flush hn hm
  have he:=h.en _ (List.mem_of_getElem? hb) (l,v) (by simp)
  refine ⟨⟨h.q.lp,h.q.lr,by rw [List.length_set];exact h.q.lm,h.q.pc,h.q.rg,set_range h.q.mm he.2 _⟩,by rw [List.length_set];exact h.lb,fun l' hl e he => ?_⟩
  rcases List.mem_or_eq_of_mem_set hl with g | g
  ·exact h.en l' g e he
  ·rw [g] at he
   exact h.en _ (List.mem_of_getElem? hb) e (by simp [he])
def bfLeft (p:List (List Ins)) (s:Bf):Nat:=2 * sqLeft p s.q+(s.bf.map List.length).sum
theorem sum_set {l:List (List (Int × Int))} {k:Nat} {x:List (Int × Int)} (h:l[k]? = some x) (y:List (Int × Int)):((l.set k y).map List.length).sum+x.length=(l.map List.length).sum+y.length:=by
 induction l generalizing k with
 | nil=>simp at h
 | cons z l ih =>
  cases k with
  | zero=>simp at h;subst h;simp;omega
  | succ k =>
   simp only [List.getElem?_cons_succ] at h
   have:=ih h
   simp only [List.set_cons_succ,List.map_cons,List.sum_cons]
   omega
theorem place_lt {p:List (List Ins)} {split:Bool} {t:Nat} {loc:Int} (ht:t < p.length) (h0:0≤loc) (h2:loc≤2):bfPlace t loc split < p.length * bfN split:=by
 unfold bfPlace bfN
 cases split
 ·simp;exact ht
 ·simp;omega
theorem sqLeft_pc {p:List (List Ins)} {s:Sq} {t:Nat} {k:Int} {r:List Ins} {x:Ins} (h:SqOk p s) (hr:p[t]? = some r) (hk:s.pc[t]? = some k) (hx:r[k.toNat]? = some x) (rg mm:List Int):sqLeft p ⟨s.pc.set t (k+1),rg,mm⟩ < sqLeft p s:=by
 have h1:=sqLeft_next h (show sqNext p s t=some (sqDo s t k x) by unfold sqNext;simp [hr,hk,hx])
 exact h1
theorem bfLeft_next {p:List (List Ins)} {split:Bool} {s s':Bf} {m:Nat} (h:BfOk p split s) (hn:bfNext p split s m=some s'):bfLeft p s' < bfLeft p s:=by
 unfold bfLeft
 by_cases hm:m < p.length
 ·obtain ⟨r,k,x,hr,hk,hx,hd⟩:=bfNext_thread hn hm
  unfold bfDo at hd
  split at hd
  ·split at hd
   ·simp only [Option.some.injEq] at hd
    subst hd
    have:=sqLeft_next h.q (show sqNext p s.q m=some (sqDo s.q m k x) by unfold sqNext;simp [hr,hk,hx])
    simp only
    omega
   ·cases hd
  ·split at hd
   ·simp only [Option.some.injEq] at hd
    subst hd
    have:=sqLeft_pc h.q hr hk hx (s.q.rg.set (m * 3+x.reg.toNat) (bfSeen s m x.loc split)) s.q.mm
    simp only
    omega
   ·simp only [Option.some.injEq] at hd
    subst hd
    have h1:=sqLeft_pc h.q hr hk hx s.q.rg s.q.mm
    simp only
    cases hb:s.bf[bfPlace m x.loc split]? with
    | none =>
     have e:s.bf.set (bfPlace m x.loc split) (s.bf.getD (bfPlace m x.loc split) []++[(x.loc,sqVal s.q m x)])=s.bf:=List.set_eq_of_length_le (by simpa using hb)
     rw [e]
     omega
    | some b =>
     have h2:=sum_set hb (s.bf.getD (bfPlace m x.loc split) []++[(x.loc,sqVal s.q m x)])
     simp only [List.getD_eq_getElem?_getD,hb,Option.getD_some,List.length_append,List.length_singleton] at h2 ⊢
     omega
 ·obtain ⟨l,v,rest,hb,rfl⟩:=bfNext_flush hn hm
  have h2:=sum_set hb rest
  simp only [List.length_cons] at h2
  simp only [show sqLeft p ⟨s.q.pc,s.q.rg,s.q.mm.set l.toNat v⟩=sqLeft p s.q from rfl]
  omega
def bfDone (p:List (List Ins)) (s:Bf):Bool:=s.bf.all List.isEmpty&&sqDone p s.q
def bfOut (s:Bf):List Int:=sqOut s.q
end Go.Proofs.YtlddmagfbcomgaaGreat
namespace Go.Proofs.YtlddmagfbcomgaaGreat
def At (p:List (List Ins)) (t i:Nat) (x:Ins):Prop:=∃ r,p[t]? = some r∧r[i]? = some x
theorem At.uniq {p:List (List Ins)} {t i:Nat} {x y:Ins} (h:At p t i x) (k:At p t i y):x=y:=by
 obtain ⟨r,h1,h2⟩:=h
 obtain ⟨r',k1,k2⟩:=k
 rw [h1] at k1;cases k1;rw [h2] at k2;cases k2;rfl
theorem At.row {p:List (List Ins)} {t i:Nat} {x:Ins} (h:At p t i x):(p.getD t [])[i]? = some x:=by
 obtain ⟨r,h1,h2⟩:=h
 rw [List.getD_eq_getElem?_getD,h1];exact h2
theorem At.lt {p:List (List Ins)} {t i:Nat} {x:Ins} (h:At p t i x):t < p.length:=by
 obtain ⟨r,h1,h2⟩:=h
 exact (List.getElem?_eq_some_iff.1 h1).1
theorem At.ilt {p:List (List Ins)} {t i:Nat} {x:Ins} (h:At p t i x):i < (p.getD t []).length:=(List.getElem?_eq_some_iff.1 h.row).1
theorem At.of {p:List (List Ins)} {t i:Nat} (ht:t < p.length) (hi:i < (p.getD t []).length):∃ x,At p t i x:=by
 obtain ⟨r,hr⟩:∃ r,p[t]? = some r:=⟨_,List.getElem?_eq_getElem ht⟩
 rw [List.getD_eq_getElem?_getD,hr] at hi
 exact ⟨_,r,hr,List.getElem?_eq_getElem hi⟩
theorem At.valid {p:List (List Ins)} (hp:∀ r∈p,∀ x∈r,insValid x=true) {t i:Nat} {x:Ins} (h:At p t i x):insValid x=true:=by
 obtain ⟨r,h1,h2⟩:=h
 exact hp r (List.mem_of_getElem? h1) x (List.mem_of_getElem? h2)
def Evt (p:List (List Ins)) (t i:Nat) (x:Ins):Prop:=At p t i x∧x.op≠4
def confl (x y:Ins):Prop:=x.loc=y.loc∧(isW x=true∨isW y=true)
def Cf (p:List (List Ins)) (a b:Nat × Nat):Prop:=a.1≠b.1∧∃ x y,Evt p a.1 a.2 x∧Evt p b.1 b.2 y∧confl x y
def Po (p:List (List Ins)) (a b:Nat × Nat):Prop:=a.1=b.1∧a.2 < b.2∧(∃ x,Evt p a.1 a.2 x)∧∃ y,Evt p b.1 b.2 y
inductive WPth (p:List (List Ins)):Nat × Nat→Nat × Nat→Prop
 | refl (a:Nat × Nat):WPth p a a
 | cf {a b c:Nat × Nat} (h:Cf p a b) (k:WPth p b c):WPth p a c
 | po {a b c:Nat × Nat} (h:Po p a b) (k:WPth p b c):WPth p a c
theorem WPth.trans {p:List (List Ins)} {a b c:Nat × Nat} (h:WPth p a b) (k:WPth p b c):WPth p a c:=by
 induction h with
 | refl a=>exact k
 | cf h _ ih=>exact .cf h (ih k)
 | po h _ ih=>exact .po h (ih k)
def Way (p:List (List Ins)) (a b:Nat × Nat):Prop:=∃ x y,Cf p a x∧WPth p x y∧Cf p y b
def Sep (p:List (List Ins)) (t i k:Nat):Prop:=∃ m x,i≤m∧m≤k∧At p t m x∧(x.op=4∨x.op=5)
def Delayed (p:List (List Ins)) (t i k:Nat):Prop:=i < k∧(∃ x,Evt p t i x)∧(∃ y,Evt p t k y)∧Way p (t,k) (t,i)
theorem ins_facts {x:Ins} (h:insValid x=true):(x.op=1∨x.op=2∨x.op=3∨x.op=4∨x.op=5)∧(x.op≠4→0≤x.loc∧x.loc≤2)∧0≤x.reg∧x.reg≤2:=by
 unfold insValid inB at h
 split at h
 ·simp at h;omega
 ·split at h
  ·simp at h;omega
  ·split at h
   ·simp at h;omega
   ·split at h
    ·simp at h;omega
    ·cases h
def rr (r:List Ins) (f:Nat→Int):Nat→Nat→Int
 | 0,_=>0
 | k+1,g=>match r[k]? with
  | some x=>if isRop x.op=true∧x.reg.toNat=g then f k else rr r f k g
  | none=>rr r f k g
theorem rr_congr {r:List Ins} {f f':Nat→Int} {k:Nat} (h:∀ i,i < k→f i=f' i) (g:Nat):rr r f k g=rr r f' k g:=by
 induction k with
 | zero=>rfl
 | succ k ih =>
  have:=ih fun i hi=>h i (by omega)
  unfold rr
  rw [this,h k (by omega)]
theorem rr_read {r:List Ins} {f:Nat→Int} {k g:Nat} {x:Ins} (hx:r[k]? = some x) (h1:isRop x.op=true) (h2:x.reg.toNat=g):rr r f (k+1) g=f k:=by
 rw [rr,hx];simp only;rw [if_pos ⟨h1,h2⟩]
theorem rr_skip {r:List Ins} {f:Nat→Int} {k g:Nat} {x:Ins} (hx:r[k]? = some x) (h:¬ (isRop x.op=true∧x.reg.toNat=g)):rr r f (k+1) g=rr r f k g:=by
 rw [rr,hx];simp only;rw [if_neg h]
def wv (p:List (List Ins)) (rv:Nat→Nat→Int) (t i:Nat):Int:=match (p.getD t [])[i]? with
 | some x=>if x.op=3 then rr (p.getD t []) (rv t) i x.reg.toNat else x.val
 | none=>0
theorem wv_at {p:List (List Ins)} (rv:Nat→Nat→Int) {t i:Nat} {x:Ins} (h:At p t i x):wv p rv t i=if x.op=3 then rr (p.getD t []) (rv t) i x.reg.toNat else x.val:=by
 unfold wv;rw [h.row]
theorem wv_congr {p:List (List Ins)} {rv rv':Nat→Nat→Int} {t i:Nat} (h:∀ k,k < i→rv t k=rv' t k):wv p rv t i=wv p rv' t i:=by
 unfold wv
 split
 ·rw [rr_congr h]
 ·rfl
def Lst (p:List (List Ins)) (rv:Nat→Nat→Int) (key:Nat→Nat→Nat) (P:Nat→Nat→Ins→Prop) (v:Int):Prop:=
 (∃ u j y,Evt p u j y∧isW y=true∧P u j y∧v=wv p rv u j∧∀ u' j' y',Evt p u' j' y'→isW y'=true→P u' j' y'→key u' j'≤key u j) ∨
 (v=0∧∀ u j y,Evt p u j y→isW y=true→P u j y→False)
theorem Lst.congr {p:List (List Ins)} {rv:Nat→Nat→Int} {key:Nat→Nat→Nat} {P Q:Nat→Nat→Ins→Prop} {v:Int} (h:Lst p rv key P v) (e:∀ u j y,Evt p u j y→isW y=true→(P u j y↔Q u j y)):Lst p rv key Q v:=by
 rcases h with ⟨u,j,y,h1,h2,h3,h4,h5⟩ | ⟨h1,h2⟩
 ·exact .inl ⟨u,j,y,h1,h2,(e u j y h1 h2).1 h3,h4,fun u' j' y' g1 g2 g3=>h5 u' j' y' g1 g2 ((e u' j' y' g1 g2).2 g3)⟩
 ·exact .inr ⟨h1,fun u j y g1 g2 g3=>h2 u j y g1 g2 ((e u j y g1 g2).2 g3)⟩
theorem Lst.congr2 {p:List (List Ins)} {rv rv':Nat→Nat→Int} {key key':Nat→Nat→Nat} {P Q:Nat→Nat→Ins→Prop} {v:Int} (h:Lst p rv key P v) (e:∀ u j y,Evt p u j y→isW y=true→(P u j y↔Q u j y)) (hk:∀ u j y,Evt p u j y→isW y=true→P u j y→key' u j=key u j∧wv p rv' u j=wv p rv u j):Lst p rv' key' Q v:=by
 rcases h with ⟨u,j,y,h1,h2,h3,h4,h5⟩ | ⟨h1,h2⟩
 ·refine .inl ⟨u,j,y,h1,h2,(e u j y h1 h2).1 h3,by rw [(hk u j y h1 h2 h3).2];exact h4,fun u' j' y' g1 g2 g3 => ?_⟩
  have g4:=(e u' j' y' g1 g2).2 g3
  rw [(hk u j y h1 h2 h3).1,(hk u' j' y' g1 g2 g4).1]
  exact h5 u' j' y' g1 g2 g4
 ·exact .inr ⟨h1,fun u j y g1 g2 g3=>h2 u j y g1 g2 ((e u j y g1 g2).2 g3)⟩
theorem Lst.uniq {p:List (List Ins)} {rv:Nat→Nat→Int} {key:Nat→Nat→Nat} {P:Nat→Nat→Ins→Prop} {v v':Int}
 (hi:∀ t i x u j y,Evt p t i x→P t i x→Evt p u j y→P u j y→key t i=key u j→t=u∧i=j) (h:Lst p rv key P v) (k:Lst p rv key P v'):v=v':=by
 rcases h with ⟨u,j,y,h1,h2,h3,h4,h5⟩ | ⟨h1,h2⟩ <;> rcases k with ⟨u',j',y',k1,k2,k3,k4,k5⟩ | ⟨k1,k2⟩
 ·have e1:=h5 u' j' y' k1 k2 k3
  have e2:=k5 u j y h1 h2 h3
  obtain ⟨rfl,rfl⟩:=hi u j y u' j' y' h1 h3 k1 k3 (by omega)
  rw [h4,k4]
 ·exact absurd h3 (fun g=>k2 u j y h1 h2 g)
 ·exact absurd k3 (fun g=>h2 u' j' y' k1 k2 g)
 ·rw [h1,k1]
theorem Lst.top {p:List (List Ins)} {rv:Nat→Nat→Int} {key:Nat→Nat→Nat} {Q:Nat→Nat→Ins→Prop} {t k:Nat} {x:Ins} (hx:Evt p t k x) (hw:isW x=true) (hq:Q t k x)
 (h:∀ u j y,Evt p u j y→isW y=true→Q u j y→key u j≤key t k):Lst p rv key Q (wv p rv t k):=
 .inl ⟨t,k,x,hx,hw,hq,rfl,h⟩
structure Ord (p:List (List Ins)) (rv:Nat→Nat→Int) (key:Nat→Nat→Nat):Prop where
 inj:∀ t i x u j y,Evt p t i x→Evt p u j y→key t i=key u j→t=u∧i=j
 loc:∀ t i x k y,Evt p t i x→Evt p t k y→i < k→x.loc=y.loc→key t i < key t k
 sep:∀ t i x k y,Evt p t i x→Evt p t k y→i < k→Sep p t i k→key t i < key t k
 rd:∀ t i x,Evt p t i x→isR x=true→Lst p rv key (fun u j y=>y.loc=x.loc∧key u j < key t i) (rv t i)
def pcN (s:Sq) (t:Nat):Nat:=(s.pc.getD t 0).toNat
theorem sq_step {p:List (List Ins)} {s:Sq} (ho:SqOk p s) {t:Nat} {x:Ins} (hx:At p t (pcN s t) x):sqNext p s t=some (sqDo s t (s.pc.getD t 0) x)∧∀ u,pcN (sqDo s t (s.pc.getD t 0) x) u=if u=t then pcN s t+1 else pcN s u:=by
 obtain ⟨r,hr,hx⟩:=hx
 have ht:=(List.getElem?_eq_some_iff.1 hr).1
 obtain ⟨k,hk⟩:∃ k,s.pc[t]? = some k:=⟨_,List.getElem?_eq_getElem (by rw [ho.lp];exact ht)⟩
 have hg:s.pc.getD t 0=k:=by rw [List.getD_eq_getElem?_getD,hk];rfl
 have h0:=(ho.pc t k r hk hr).1
 unfold pcN at *
 rw [hg] at hx ⊢
 refine ⟨by unfold sqNext;simp [hr,hk,hx],fun u => ?_⟩
 simp only [sqDo,List.getD_eq_getElem?_getD]
 rw [List.getElem?_set]
 by_cases e:t=u
 ·subst e
  rw [if_pos rfl,if_pos (by rw [ho.lp];exact ht),if_pos rfl]
  simp only [Option.getD_some]
  omega
 ·rw [if_neg e,if_neg (fun q=>e q.symm)]
structure CInv (p:List (List Ins)) (rv:Nat→Nat→Int) (key:Nat→Nat→Nat) (s:Sq):Prop where
 rc:ReachM (sqStart p) (sqNext p) s
 rg:∀ t g,t < p.length→g < 3→s.rg.getD (t * 3+g) 0=rr (p.getD t []) (rv t) (pcN s t) g
 mm:∀ l:Int,0≤l→l≤2→Lst p rv key (fun u j y=>j < pcN s u∧y.loc=l) (s.mm.getD l.toNat 0)
 dn:∀ t i u j,Cf p (t,i) (u,j)→key t i < key u j→j < pcN s u→i < pcN s t
theorem getD_set_same {l:List Int} {k:Nat} (h:k < l.length) (v d:Int):(l.set k v).getD k d=v:=by
 rw [List.getD_eq_getElem?_getD,List.getElem?_set,if_pos rfl,if_pos h];rfl
theorem getD_set_other {l:List Int} {k j:Nat} (h:k≠j) (v d:Int):(l.set k v).getD j d=l.getD j d:=by
 rw [List.getD_eq_getElem?_getD,List.getElem?_set,if_neg h,List.getD_eq_getElem?_getD]
theorem CInv.start (p:List (List Ins)) (rv:Nat→Nat→Int) (key:Nat→Nat→Nat):CInv p rv key (sqStart p):=by
 have hz:∀ t,pcN (sqStart p) t=0:=fun t=>by
  unfold pcN sqStart
  rw [List.getD_eq_getElem?_getD,List.getElem?_replicate]
  split <;> rfl
 have hg:∀ n k,(List.replicate n (0:Int)).getD k 0=0:=fun n k=>by
  rw [List.getD_eq_getElem?_getD,List.getElem?_replicate]
  split <;> rfl
 refine ⟨.start,fun t g _ _ => ?_,fun l _ _ => .inr ⟨hg _ _,fun u j y _ _ h=>by have h1:=h.1;rw [hz] at h1;omega⟩,fun t i u j _ _ h=>by rw [hz] at h;omega⟩
 rw [hz,rr]
 exact hg _ _
theorem CInv.fence {p:List (List Ins)} {rv:Nat→Nat→Int} {key:Nat→Nat→Nat} {s:Sq} (hp:∀ r∈p,∀ x∈r,insValid x=true) (h:CInv p rv key s) {t:Nat} {x:Ins} (hx:At p t (pcN s t) x) (h4:x.op=4) :
 ∃ s',sqNext p s t=some s'∧CInv p rv key s':=by
 have ho:=SqOk.reach hp h.rc
 obtain ⟨hn,hpc⟩:=sq_step ho hx
 have ev:∀ u j y,Evt p u j y→(j < pcN (sqDo s t (s.pc.getD t 0) x) u↔j < pcN s u):=fun u j y hy=>by
  rw [hpc]
  split
  ·rename_i e
   subst e
   constructor
   ·intro hj
    rcases Nat.lt_or_ge j (pcN s u) with q | q
    ·exact q
    ·obtain rfl:j=pcN s u:=by omega
     exact absurd (hx.uniq hy.1 ▸ h4) hy.2
   ·intro;omega
  ·exact Iff.rfl
 have hr0:isRop x.op=false:=by rw [h4];rfl
 have hw0:isWop x.op=false:=by rw [h4];rfl
 have eR:(sqDo s t (s.pc.getD t 0) x).rg=s.rg:=by simp only [sqDo,hr0,Bool.false_eq_true,if_false]
 have eM:(sqDo s t (s.pc.getD t 0) x).mm=s.mm:=by simp only [sqDo,hw0,Bool.false_eq_true,if_false]
 generalize sqDo s t (s.pc.getD t 0) x=s' at *
 refine ⟨s',hn, .step h.rc hn,fun u g hu hg => ?_,fun l h0 h2 => ?_,fun a i u j hc hk hj => ?_⟩
 ·rw [hpc,eR,h.rg u g hu hg]
  split
  ·rename_i e
   subst e
   rw [rr_skip hx.row (by rw [hr0];simp)]
  ·rfl
 ·rw [eM]
  refine (h.mm l h0 h2).congr fun u j y hy _ => ?_
  rw [ev u j y hy]
 ·have hc0:=hc
  obtain ⟨hne,y,z,hy,hz, -⟩:=hc
  rw [ev u j z hz] at hj
  rw [ev a i y hy]
  exact h.dn a i u j hc0 hk hj
theorem CInv.exec {p:List (List Ins)} {rv:Nat→Nat→Int} {key:Nat→Nat→Nat} {s:Sq} (hp:∀ r∈p,∀ x∈r,insValid x=true) (od:Ord p rv key) (h:CInv p rv key s) {t:Nat} {x:Ins} (hx:Evt p t (pcN s t) x)
 (hs:∀ u j,Cf p (u,j) (t,pcN s t)→key u j < key t (pcN s t)→j < pcN s u) :
 ∃ s',sqNext p s t=some s'∧CInv p rv key s':=by
 have ho:=SqOk.reach hp h.rc
 obtain ⟨hn,hpc⟩:=sq_step ho hx.1
 obtain ⟨hops,hloc,hreg⟩:=ins_facts (hx.1.valid hp)
 have hloc:=hloc hx.2
 have htl:=hx.1.lt
 generalize hk:pcN s t=k at *
 -- writes of this place: done before iff earlier in the order
 have F:∀ u j y,Evt p u j y→(isW x=true∨isW y=true)→y.loc=x.loc→(j < pcN s u↔key u j < key t k):=fun u j y hy hw hl=>by
  by_cases e:u=t
  ·subst e
   rw [hk]
   constructor
   ·intro hj;exact od.loc u j y k x hy hx hj hl
   ·intro hj
    rcases Nat.lt_trichotomy j k with q | q | q
    ·exact q
    ·subst q;omega
    ·have:=od.loc u k x j y hx hy q hl.symm;omega
  ·have c1:Cf p (u,j) (t,k):=⟨e,y,x,hy,hx,hl,hw.symm⟩
   have c2:Cf p (t,k) (u,j):=⟨fun q=>e q.symm,x,y,hx,hy,hl.symm,hw⟩
   constructor
   ·intro hj
    rcases Nat.lt_trichotomy (key u j) (key t k) with q | q | q
    ·exact q
    ·exact absurd (od.inj u j y t k x hy hx q).1 e
    ·have:=h.dn t k u j c2 q hj
     omega
   ·intro hj;exact hs u j c1 hj
 have hrd:isR x=true→s.mm.getD x.loc.toNat 0=rv t k:=fun hr=>by
  have h1:=(h.mm x.loc hloc.1 hloc.2).congr (Q:=fun u j y=>y.loc=x.loc∧key u j < key t k) fun u j y hy hw=>by
   constructor
   ·rintro ⟨a,b⟩;exact ⟨b,(F u j y hy (.inr hw) b).1 a⟩
   ·rintro ⟨a,b⟩;exact ⟨(F u j y hy (.inr hw) a).2 b,a⟩
  exact Lst.uniq (fun t i x u j y g1 _ g2 _ g3=>od.inj t i x u j y g1 g2 g3) h1 (od.rd t k x hx hr)
 have eR:(sqDo s t (s.pc.getD t 0) x).rg=if isRop x.op=true then s.rg.set (t * 3+x.reg.toNat) (s.mm.getD x.loc.toNat 0) else s.rg:=rfl
 have eM:(sqDo s t (s.pc.getD t 0) x).mm=if isWop x.op=true then s.mm.set x.loc.toNat (sqVal s t x) else s.mm:=rfl
 generalize sqDo s t (s.pc.getD t 0) x=s' at *
 refine ⟨s',hn, .step h.rc hn,fun u g hu hg => ?_,fun l h0 h2 => ?_,fun a i u j hc hkk hj => ?_⟩
 ·rw [hpc,eR]
  by_cases e:u=t
  ·subst e
   rw [if_pos rfl]
   by_cases hr:isRop x.op=true
   ·rw [if_pos hr]
    by_cases eg:x.reg.toNat=g
    ·rw [eg,getD_set_same (by rw [ho.lr];omega),rr_read hx.1.row hr eg]
     exact hrd hr
    ·rw [getD_set_other (by omega),h.rg u g hu hg,hk,rr_skip hx.1.row (fun q=>eg q.2)]
   ·rw [if_neg hr,h.rg u g hu hg,hk,rr_skip hx.1.row (fun q=>hr q.1)]
  ·rw [if_neg e]
   split
   ·rw [getD_set_other (by omega)];exact h.rg u g hu hg
   ·exact h.rg u g hu hg
 ·by_cases hw:isWop x.op=true
  ·have hv:sqVal s t x=wv p rv t k:=by
    rw [wv_at rv hx.1]
    unfold sqVal
    split
    ·rw [h.rg t x.reg.toNat htl (by omega),hk]
    ·rfl
   rw [eM,if_pos hw]
   by_cases el:x.loc=l
   ·subst el
    rw [getD_set_same (by rw [ho.lm];omega),hv]
    refine Lst.top hx hw ⟨by rw [hpc,if_pos rfl];omega,rfl⟩ fun u j y hy hwy hq => ?_
    obtain ⟨q1,q2⟩:=hq
    rw [hpc] at q1
    by_cases e:u=t
    ·subst e
     rw [if_pos rfl] at q1
     rcases Nat.lt_or_ge j k with q | q
     ·exact Nat.le_of_lt ((F u j y hy (.inl hw) q2).1 (by rw [hk];exact q))
     ·obtain rfl:j=k:=by omega
      exact Nat.le_refl _
    ·rw [if_neg e] at q1
     exact Nat.le_of_lt ((F u j y hy (.inl hw) q2).1 q1)
   ·rw [getD_set_other (by omega)]
    refine (h.mm l h0 h2).congr fun u j y hy hwy => ?_
    rw [hpc]
    by_cases e:u=t
    ·subst e
     rw [if_pos rfl,hk]
     constructor
     ·rintro ⟨q1,q2⟩;exact ⟨by omega,q2⟩
     ·rintro ⟨q1,q2⟩
      refine ⟨?_,q2⟩
      rcases Nat.lt_or_ge j k with q | q
      ·exact q
      ·obtain rfl:j=k:=by omega
       exact absurd (hx.1.uniq hy.1 ▸ q2) el
    ·rw [if_neg e]
  ·rw [eM,if_neg hw]
   refine (h.mm l h0 h2).congr fun u j y hy hwy => ?_
   rw [hpc]
   by_cases e:u=t
   ·subst e
    rw [if_pos rfl,hk]
    constructor
    ·rintro ⟨q1,q2⟩;exact ⟨by omega,q2⟩
    ·rintro ⟨q1,q2⟩
     refine ⟨?_,q2⟩
     rcases Nat.lt_or_ge j k with q | q
     ·exact q
     ·obtain rfl:j=k:=by omega
      exact absurd (hx.1.uniq hy.1 ▸ hwy) hw
   ·rw [if_neg e]
 ·rw [hpc] at hj ⊢
  have old:i < pcN s a→i < if a=t then k+1 else pcN s a:=fun q=>by
   split
   ·rename_i e;rw [e,hk] at q;omega
   ·exact q
  by_cases e:u=t
  ·subst e
   rw [if_pos rfl] at hj
   rcases Nat.lt_or_ge j k with q | q
   ·exact old (h.dn a i u j hc hkk (by rw [hk];exact q))
   ·obtain rfl:j=k:=by omega
    exact old (hs a i hc hkk)
  ·rw [if_neg e] at hj
   exact old (h.dn a i u j hc hkk hj)
theorem max_of {α:Type} (R:α→α→Prop) (tr:∀ a b c,R a b→R b c→R a c) (ir:∀ a,¬ R a a):∀ l:List α,l≠[]→∃ m∈l,∀ x∈l,¬ R m x:=by
 intro l
 induction l with
 | nil=>intro h;exact absurd rfl h
 | cons a l ih =>
  intro _
  cases l with
  | nil=>exact ⟨a,by simp,fun x hx=>by simp at hx;subst hx;exact ir x⟩
  | cons b l =>
   obtain ⟨m,hm,hx⟩:=ih (by simp)
   by_cases e:R m a
   ·refine ⟨a,by simp,fun x hx' => ?_⟩
    rcases List.mem_cons.1 hx' with q | q
    ·subst q;exact ir x
    ·intro g;exact hx x q (tr m a x e g)
   ·refine ⟨m,List.mem_cons_of_mem _ hm,fun x hx' => ?_⟩
    rcases List.mem_cons.1 hx' with q | q
    ·subst q;exact e
    ·exact hx x q
theorem min_of {α:Type} (P:α→Prop) (f:α→Nat) (h:∃ a,P a):∃ a,P a∧∀ b,P b→f a≤f b:=by
 have key:∀ n a,P a→f a≤n→∃ a,P a∧∀ b,P b→f a≤f b:=by
  intro n
  induction n with
  | zero=>intro a ha hn;exact ⟨a,ha,fun b _=>by omega⟩
  | succ n ih =>
   intro a ha hn
   by_cases q:∃ b,P b∧f b < f a
   ·obtain ⟨b,hb,hlt⟩:=q
    exact ih b hb (by omega)
   ·exact ⟨a,ha,fun b hb=>by
     rcases Nat.lt_or_ge (f b) (f a) with g | g
     ·exact absurd ⟨b,hb,g⟩ q
     ·exact g⟩
 obtain ⟨a,ha⟩:=h
 exact key (f a) a ha (Nat.le_refl _)
section
variable (p : List (List Ins)) (key : Nat → Nat → Nat) (s : Sq)
def Back (t u:Nat):Prop:=∃ j,pcN s u≤j∧Cf p (u,j) (t,pcN s t)∧key u j < key t (pcN s t)
inductive BackT:Nat→Nat→Prop
 | one {t u:Nat} (h:Back p key s t u):BackT t u
 | cons {t u v:Nat} (h:Back p key s t u) (k:BackT u v):BackT t v
end
theorem BackT.trans {p:List (List Ins)} {key:Nat→Nat→Nat} {s:Sq} {t u v:Nat} (h:BackT p key s t u) (k:BackT p key s u v):BackT p key s t v:=by
 induction h with
 | one h=>exact .cons h k
 | cons h _ ih=>exact .cons h (ih k)
theorem BackT.way {p:List (List Ins)} {key:Nat→Nat→Nat} {s:Sq} (hh:∀ t x,At p t (pcN s t) x→x.op≠4) {t u:Nat} (h:BackT p key s t u):∃ y,WPth p (u,pcN s u) y∧Cf p y (t,pcN s t):=by
 have first:∀ t u,Back p key s t u→∃ y,WPth p (u,pcN s u) y∧Cf p y (t,pcN s t):=fun t u h=>by
  obtain ⟨j,hj,hc,hk⟩:=h
  refine ⟨(u,j), ?_,hc⟩
  rcases Nat.lt_or_ge (pcN s u) j with q | q
  ·obtain ⟨-,y, -,hy, -, -⟩:=hc
   obtain ⟨z,hz⟩:=At.of (p:=p) (t:=u) (i:=pcN s u) hy.1.lt (by have h1:=hy.1.ilt;simp only at h1;omega)
   exact .po (b:=(u,j)) ⟨rfl,q,⟨z,hz,hh u z hz⟩,y,hy⟩ (.refl _)
  ·obtain rfl:j=pcN s u:=by omega
   exact .refl _
 induction h with
 | one h=>exact first _ _ h
 | cons h _ ih =>
  obtain ⟨y,h1,h2⟩:=ih
  obtain ⟨z,h3,h4⟩:=first _ _ h
  exact ⟨z,h1.trans (.cf h2 h3),h4⟩
theorem source {p:List (List Ins)} {rv:Nat→Nat→Int} {key:Nat→Nat→Nat} {s:Sq} (od:Ord p rv key) (hd:∀ t i k,Delayed p t i k→Sep p t i k)
 (hh:∀ t x,At p t (pcN s t) x→x.op≠4) (hne:∃ t x,At p t (pcN s t) x):∃ t x,At p t (pcN s t) x∧∀ u,¬ Back p key s t u:=by
 apply Classical.byContradiction
 intro hno
 have hb:∀ t x,At p t (pcN s t) x→∃ u,Back p key s t u:=fun t x hx=>Classical.byContradiction fun q=>hno ⟨t,x,hx,fun u g=>q ⟨u,g⟩⟩
 have hat:∀ t u,Back p key s t u→∃ x,At p u (pcN s u) x:=fun t u h=>by
  obtain ⟨j,hj,⟨-,y, -,hy, -, -⟩, -⟩:=h
  exact At.of hy.1.lt (by have h1:=hy.1.ilt;simp only at h1;omega)
 have hcyc:∃ t,BackT p key s t t:=by
  apply Classical.byContradiction
  intro hn
  obtain ⟨t0,x0,h0⟩:=hne
  obtain ⟨m,hm,hmax⟩:=max_of (BackT p key s) (fun a b c=>BackT.trans) (fun a h=>hn ⟨a,h⟩) ((List.range p.length).filter fun t=>decide (pcN s t < (p.getD t []).length)) (by
   intro e
   have:t0∈(List.range p.length).filter fun t=>decide (pcN s t < (p.getD t []).length):=by
    rw [List.mem_filter];exact ⟨List.mem_range.2 h0.lt,decide_eq_true h0.ilt⟩
   rw [e] at this;simp at this)
  rw [List.mem_filter] at hm
  obtain ⟨x,hx⟩:=At.of (List.mem_range.1 hm.1) (of_decide_eq_true hm.2)
  obtain ⟨u,hu⟩:=hb m x hx
  obtain ⟨y,hy⟩:=hat m u hu
  exact hmax u (by rw [List.mem_filter];exact ⟨List.mem_range.2 hy.lt,decide_eq_true hy.ilt⟩) (.one hu)
 obtain ⟨t,ht,hmin⟩:=min_of (fun t=>BackT p key s t t) (fun t=>key t (pcN s t)) hcyc
 have hfin:∀ u,Back p key s t u→BackT p key s u t→False:=fun u h1 h2=>by
  have hu:=hmin u (h2.trans (.one h1))
  have h0:=h1
  obtain ⟨j,hj,hc,hk⟩:=h1
  obtain ⟨z,hz⟩:=hat t u h0
  obtain ⟨y,g1,g2⟩:=BackT.way hh (.one h0:BackT p key s t u)
  obtain ⟨w,k1,k2⟩:=BackT.way hh h2
  have hway:Way p (u,j) (u,pcN s u):=⟨(t,pcN s t),w,hc,k1,k2⟩
  obtain ⟨-,e, -,he, -, -⟩:=hc
  simp only at he
  rcases Nat.lt_or_ge (pcN s u) j with q | q
  ·have hsep:=hd u (pcN s u) j ⟨q,⟨z,hz,hh u z hz⟩,⟨e,he⟩,hway⟩
   have:=od.sep u (pcN s u) z j e ⟨hz,hh u z hz⟩ he q hsep
   omega
  ·obtain rfl:j=pcN s u:=by omega
   omega
 cases ht with
 | one h =>
  obtain ⟨j,hj,hc,hk⟩:=h
  exact hc.1 rfl
 | cons h k=>exact hfin _ h k
theorem pcN_of {p:List (List Ins)} {s:Sq} (ho:SqOk p s) (hd:sqDone p s=false):∃ t x,At p t (pcN s t) x:=by
 unfold sqDone at hd
 obtain ⟨t,ht,h1⟩:=List.all_eq_false.1 hd
 simp only [Bool.not_eq_true,decide_eq_false_iff_not,Classical.not_not] at h1
 obtain ⟨x,hx⟩:=At.of (p:=p) (t:=t) (i:=pcN s t) (List.mem_range.1 ht) (by
  have hl:=List.mem_range.1 ht
  obtain ⟨k,hk⟩:∃ k,s.pc[t]? = some k:=⟨_,List.getElem?_eq_getElem (by rw [ho.lp];exact hl)⟩
  have h0:=(ho.pc t k p[t] hk (List.getElem?_eq_getElem hl)).1
  rw [List.getD_eq_getElem?_getD,hk,Option.getD_some] at h1
  unfold pcN
  have e:s.pc.getD t 0=k:=by rw [List.getD_eq_getElem?_getD,hk,Option.getD_some]
  rw [e]
  omega)
 exact ⟨t,x,hx⟩
theorem ord_run {p:List (List Ins)} {rv:Nat→Nat→Int} {key:Nat→Nat→Nat} (hp:∀ r∈p,∀ x∈r,insValid x=true) (od:Ord p rv key) (hd:∀ t i k,Delayed p t i k→Sep p t i k):∃ s,CInv p rv key s∧sqDone p s=true:=by
 have go:∀ n s,CInv p rv key s→sqLeft p s≤n→∃ s,CInv p rv key s∧sqDone p s=true:=by
  intro n
  induction n with
  | zero =>
   intro s hs hn
   cases hdn:sqDone p s with
   | true=>exact ⟨s,hs,hdn⟩
   | false =>
    obtain ⟨t,s',h'⟩:=sq_more (SqOk.reach hp hs.rc) hdn
    have:=sqLeft_next (SqOk.reach hp hs.rc) h'
    omega
  | succ n ih =>
   intro s hs hn
   cases hdn:sqDone p s with
   | true=>exact ⟨s,hs,hdn⟩
   | false =>
    by_cases hf:∃ t x,At p t (pcN s t) x∧x.op=4
    ·obtain ⟨t,x,hx,h4⟩:=hf
     obtain ⟨s',h1,h2⟩:=hs.fence hp hx h4
     have:=sqLeft_next (SqOk.reach hp hs.rc) h1
     exact ih s' h2 (by omega)
    ·have hh:∀ t x,At p t (pcN s t) x→x.op≠4:=fun t x hx h4=>hf ⟨t,x,hx,h4⟩
     obtain ⟨t,x,hx,hb⟩:=source od hd hh (pcN_of (SqOk.reach hp hs.rc) hdn)
     obtain ⟨s',h1,h2⟩:=hs.exec hp od ⟨hx,hh t x hx⟩ (fun u j hc hk=>by
      rcases Nat.lt_or_ge j (pcN s u) with q | q
      ·exact q
      ·exact absurd ⟨j,q,hc,hk⟩ (hb u))
     have:=sqLeft_next (SqOk.reach hp hs.rc) h1
     exact ih s' h2 (by omega)
 exact go _ _ (.start p rv key) (Nat.le_refl _)
end Go.Proofs.YtlddmagfbcomgaaGreat
namespace Go.Proofs.YtlddmagfbcomgaaGreat
theorem BfOk.reach {p:List (List Ins)} {split:Bool} (hp:∀ r∈p,∀ x∈r,insValid x=true) {s:Bf} (h:ReachM (bfStart p split) (bfNext p split) s):BfOk p split s:=by
 induction h with
 | start=>exact BfOk.start p split
 | step _ ht ih=>exact ih.next hp ht
end Go.Proofs.YtlddmagfbcomgaaGreat
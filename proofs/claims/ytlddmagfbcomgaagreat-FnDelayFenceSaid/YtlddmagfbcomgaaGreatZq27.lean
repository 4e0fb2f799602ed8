/-
  Store buffers: what a run has done at its end; a program whose delays are all fenced has the outcomes of one memory only (plain law). Condition: valid instructions, at most eight of them in a thread.
-/
import Derived.Test.YtlddmagfbcomgaaGreatZq11
set_option maxHeartbeats 6400000
set_option maxRecDepth 100000
namespace Go.Proofs.YtlddmagfbcomgaaGreat
def rvU (G:Gst) (t k:Nat) (v:Int):Nat→Nat→Int:=fun u i=>if u=t∧i=k then v else G.rv u i
theorem rvU_same (G:Gst) (t k:Nat) (v:Int):rvU G t k v t k=v:=if_pos ⟨rfl,rfl⟩
theorem rvU_other {G:Gst} {t k u i:Nat} {v:Int} (h:¬ (u=t∧i=k)):rvU G t k v u i=G.rv u i:=if_neg h
theorem wvU {p:List (List Ins)} {G:Gst} {t k u i:Nat} {v:Int} (h:u=t→i≤k):wv p (rvU G t k v) u i=wv p G.rv u i:=wv_congr fun m hm=>rvU_other fun q=>by have:=h q.1;omega
theorem rrU {p:List (List Ins)} {G:Gst} {t k u i g:Nat} {v:Int} (h:u=t→i≤k):rr (p.getD u []) (rvU G t k v u) i g=rr (p.getD u []) (G.rv u) i g:=rr_congr (fun m hm=>rvU_other fun q=>by have:=h q.1;omega) g
theorem rrI {r:List Ins} {f:Nat→Int} {k g:Nat} {x:Ins} (hx:r[k]? = some x):rr r f (k+1) g=if isRop x.op=true∧x.reg.toNat=g then f k else rr r f k g:=by
 split
 ·rename_i h;exact rr_read hx h.1 h.2
 ·rename_i h;exact rr_skip hx h
theorem GInv.start (p:List (List Ins)) (split:Bool):GInv p split (bfStart p split) ⟨fun _ _=>0,fun _ _=>0,fun _ _=>none,fun _=>[],0⟩:=by
 have hz:∀ t,pcN (bfStart p split).q t=0:=fun t=>by
  unfold pcN bfStart sqStart
  simp only
  rw [List.getD_eq_getElem?_getD,List.getElem?_replicate]
  split <;> rfl
 have hg:∀ n k,(List.replicate n (0:Int)).getD k 0=0:=fun n k=>by
  rw [List.getD_eq_getElem?_getD,List.getElem?_replicate]
  split <;> rfl
 refine ⟨fun b hb => ?_,fun b => .nil,fun b j h=>by simp at h,fun t i j h=>by simp at h,fun t g _ _ => ?_,⟨fun l h0 h2 => .inr ⟨hg _ _,fun u j y _ _ h => ?_⟩,fun t i x _ _ h => ?_,fun t i x k y _ _ _ _ h => ?_,fun t i x _ h => ?_,fun t i x u j y _ _ h _ _ => ?_⟩,fun t i x k y _ _ _ h _ => ?_,fun t j x i y h => ?_,fun t j m x h => ?_⟩
 ·show (List.replicate _ _).getD b []=_
  rw [List.getD_eq_getElem?_getD,List.getElem?_replicate]
  split <;> rfl
 ·rw [hz];exact hg _ _
 ·have h1:=h.1.1;rw [hz] at h1;omega
 ·have h1:=h.1;rw [hz] at h1;omega
 ·have h1:=h.1;rw [hz] at h1;omega
 ·have h1:=h.1;rw [hz] at h1;omega
 ·have h1:=h.1;rw [hz] at h1;omega
 ·rw [hz] at h;omega
 ·obtain ⟨b, -,hj⟩:=h;simp at hj
 ·obtain ⟨b, -,hj⟩:=h;simp at hj
section
variable {p : List (List Ins)} {split : Bool} {s s' : Bf} {G : Gst} {t : Nat} {x : Ins}
theorem pc_mono (hpc:∀ u,pcN s'.q u=if u=t then pcN s.q t+1 else pcN s.q u) (u:Nat):pcN s.q u≤pcN s'.q u:=by
 rw [hpc];split
 ·rename_i e;subst e;omega
 ·exact Nat.le_refl _
theorem pc_new (hpc:∀ u,pcN s'.q u=if u=t then pcN s.q t+1 else pcN s.q u) {u i:Nat} (h:i < pcN s'.q u):i < pcN s.q u∨(u=t∧i=pcN s.q t):=by
 rw [hpc] at h;split at h
 ·rename_i e;subst e;omega
 ·exact .inl h
theorem GInv.fence (h:GInv p split s G) (hx:At p t (pcN s.q t) x) (h4:x.op=4) (he:bfEmpty s t split=true) (hpc:∀ u,pcN s'.q u=if u=t then pcN s.q t+1 else pcN s.q u) (hr:s'.q.rg=s.q.rg) (hm:s'.q.mm=s.q.mm) (hb:s'.bf=s.bf):GInv p split s' G:=by
 have hno:=h.noPd hx.lt he
 have hC:∀ u i y,Evt p u i y→(Com split s' G u i↔Com split s G u i):=fun u i y hy=>by
  constructor
  ·rintro ⟨a,b⟩
   rcases pc_new hpc a with q | ⟨rfl,rfl⟩
   ·exact ⟨q,b⟩
   ·exact absurd (hx.uniq hy.1 ▸ h4) hy.2
  ·rintro ⟨a,b⟩;exact ⟨Nat.lt_of_lt_of_le a (pc_mono hpc u),b⟩
 refine ⟨fun b hbl=>by rw [hb];exact h.bf b hbl,h.gs,fun b j hj => ?_,fun u i j hj => ?_,fun u g hu hg => ?_, ?_,fun u i y k z hy hz hik hk hs => ?_,fun u j y i z hpd hy hz h1 hji hi hl hn => ?_,fun u j m y hpd hjm hm' hy => ?_⟩
 ·have:=h.ge b j hj
  exact ⟨Nat.lt_of_lt_of_le this.1 (pc_mono hpc _),this.2⟩
 ·have:=h.sr u i j hj
  exact ⟨Nat.lt_of_lt_of_le this.1 (pc_mono hpc _),this.2⟩
 ·rw [hr,h.rg u g hu hg,hpc]
  split
  ·rename_i e;subst e
   rw [rr_skip hx.row (fun q=>by rw [h4] at q;exact absurd q.1 (by decide))]
  ·rfl
 ·rw [hm]
  exact h.co.same hC fun u i _=>⟨rfl,rfl⟩
 ·rcases pc_new hpc hk with q | ⟨rfl,rfl⟩
  ·have:=h.se u i y k z hy hz hik q hs
   exact ⟨(hC u i y hy).2 this.1,fun g=>this.2 ((hC u k z hz).1 g)⟩
  ·exact absurd (hx.uniq hz.1 ▸ h4) hz.2
 ·rcases pc_new hpc hi with q | ⟨rfl,rfl⟩
  ·exact h.fw u j y i z hpd hy hz h1 hji q hl hn
  ·obtain rfl:=hx.uniq hz;omega
 ·rcases pc_new hpc hm' with q | ⟨rfl,rfl⟩
  ·exact h.nf u j m y hpd hjm q hy
  ·exact absurd hpd (hno j)
theorem GInv.now (hp:∀ r∈p,∀ x∈r,insValid x=true) (h8:∀ r∈p,r.length≤8) (h:GInv p split s G) (ho:SqOk p s.q) (hx:At p t (pcN s.q t) x) (h15:x.op=1∨x.op=5) (he:x.op=5→bfEmpty s t split=true) (hnl:∀ j y,Pd split G t j→At p t j y→y.loc≠x.loc)
 (hpc:∀ u,pcN s'.q u=if u=t then pcN s.q t+1 else pcN s.q u) (hr:s'.q.rg=s.q.rg.set (t * 3+x.reg.toNat) (s.q.mm.getD x.loc.toNat 0)) (hm:s'.q.mm=if x.op=5 then s.q.mm.set x.loc.toNat x.val else s.q.mm) (hb:s'.bf=s.bf) :
 GInv p split s' ⟨rvU G t (pcN s.q t) (s.q.mm.getD x.loc.toNat 0),fun u i=>if u=t∧i=pcN s.q t then G.n else G.ts u i,G.src,G.gb,G.n+1⟩:=by
 have hxv:=ins_facts (hx.valid hp)
 have hevt:Evt p t (pcN s.q t) x:=⟨hx,by omega⟩
 have hxl:=hxv.2.1 hevt.2
 generalize hkk:pcN s.q t=k at *
 generalize hvv:s.q.mm.getD x.loc.toNat 0=v at *
 have hno:x.op=5→∀ j,¬ Pd split G t j:=fun q=>h.noPd hx.lt (he q)
 have hPd:∀ u j,Pd split ⟨rvU G t k v,fun u i=>if u=t∧i=k then G.n else G.ts u i,G.src,G.gb,G.n+1⟩ u j↔Pd split G u j:=fun u j=>Iff.rfl
 have hUk:¬ Unc split G t k:=by
  rintro (q | ⟨j,q, -⟩)
  ·have:=(h.pdAt q).1;omega
  ·have:=(h.sr t k j q).1;omega
 have hC:∀ u i,Com split s' ⟨rvU G t k v,fun u i=>if u=t∧i=k then G.n else G.ts u i,G.src,G.gb,G.n+1⟩ u i↔Com split s G u i∨(u=t∧i=k):=fun u i=>by
  constructor
  ·rintro ⟨a,b⟩
   rcases pc_new (by rw [hkk];exact hpc) a with q | q
   ·exact .inl ⟨q,b⟩
   ·exact .inr (by rw [← hkk];exact q)
  ·rintro (⟨a,b⟩ | ⟨rfl,rfl⟩)
   ·exact ⟨Nat.lt_of_lt_of_le a (pc_mono (by rw [hkk];exact hpc) u),b⟩
   ·exact ⟨by rw [hpc,if_pos rfl];omega,hUk⟩
 have hCk:∀ u i,Com split s G u i→¬ (u=t∧i=k):=fun u i hc q=>by obtain ⟨rfl,rfl⟩:=q;have:=hc.1;omega
 have hlt:∀ u i,i < pcN s.q u→u=t→i≤k:=fun u i hi e=>by subst e;omega
 have comLoc:∀ i y,Evt p t i y→i < k→y.loc=x.loc→Com split s G t i:=fun i y hy hi hl=>by
  refine ⟨by omega, ?_⟩
  rintro (q | ⟨j,q,hpd⟩)
  ·exact hnl i y q hy.1 hl
  ·obtain ⟨-, -,a,b,ha,hb, -, -,hab, -⟩:=h.sr t i j q
   obtain rfl:=hb.uniq hy.1
   exact hnl j a hpd ha (by rw [hab];exact hl)
 refine ⟨fun b hbl => ?_,h.gs,fun b j hj => ?_,fun u i j hj => ?_,fun u g hu hg => ?_, ?_,fun u i y m z hy hz hik hk hs => ?_,fun u j y i z hpd hy hz h1 hji hi hl hn => ?_,fun u j m y hpd hjm hm' hy => ?_⟩
 ·rw [hb,h.bf b hbl]
  refine List.map_congr_left fun j hj => ?_
  have:=(h.ge b j hj).1
  unfold ent
  rw [wvU (hlt _ _ this)]
 ·have:=h.ge b j hj
  exact ⟨Nat.lt_of_lt_of_le this.1 (pc_mono (by rw [hkk];exact hpc) _),this.2⟩
 ·obtain ⟨g1,g2,a,b,g3,g4,g5,g6,g7,g8,g9⟩:=h.sr u i j hj
  refine ⟨Nat.lt_of_lt_of_le g1 (pc_mono (by rw [hkk];exact hpc) _),g2,a,b,g3,g4,g5,g6,g7, ?_,g9⟩
  simp only
  rw [rvU_other (fun q=>by obtain ⟨rfl,rfl⟩:=q;omega),wvU (hlt _ _ (by omega))]
  exact g8
 ·simp only
  rw [hr,hpc]
  have hro:isRop x.op=true:=by rcases h15 with q | q <;> rw [q] <;> rfl
  by_cases e:u=t
  ·subst e
   rw [if_pos rfl,rrI hx.row]
   by_cases eg:x.reg.toNat=g
   ·subst eg
    rw [if_pos ⟨hro,rfl⟩,getD_set_same (by rw [ho.lr];have:=hx.lt;omega),rvU_same]
   ·rw [if_neg (fun q=>eg q.2),getD_set_other (by omega),h.rg u g hu hg,hkk,rrU (fun _=>Nat.le_refl _)]
  ·rw [if_neg e,getD_set_other (by omega),h.rg u g hu hg,rrU (fun q=>absurd q e)]
 ·refine GCore.add (t:=t) (N:=fun i=>i=k) hp h8 h.co ho.lm (fun u i y _=>hC u i) (fun u i hc=>if_neg (hCk u i hc)) (fun i hi=>by subst hi;exact if_pos ⟨rfl,rfl⟩) (fun u i hc=>⟨rvU_other (hCk u i hc),wvU (hlt u i hc.1)⟩)
   (fun i y m z hy hz him hl hm => ?_) (fun i y m z hi hm _ _ _ _=>by rw [hi,hm]) ?_ (fun i y hi hy hry => ?_)
  ·subst hm
   obtain rfl:=hx.uniq hz.1
   exact .inl (comLoc i y hy him hl)
  ·rcases h15 with q | q
   ·refine .inl ⟨fun i y hi hy hw => ?_,by rw [hm,if_neg (by omega)]⟩
    subst hi
    obtain rfl:=hx.uniq hy.1
    unfold isW isWop at hw
    rw [q] at hw
    simp at hw
   ·refine .inr ⟨k,x,rfl,hevt,by unfold isW;rw [q];rfl, ?_⟩
    rw [hm,if_pos q,wv_at _ hx,if_neg (by omega)]
  ·subst hi
   obtain rfl:=hx.uniq hy.1
   exact .inl ⟨by simp only;rw [rvU_same,hvv],fun m z hm _ _=>by rw [hm];exact Nat.le_refl _⟩
 ·simp only
  rcases pc_new (by rw [hkk];exact hpc) hk with q | ⟨rfl,q⟩
  ·have:=h.se u i y m z hy hz hik q hs
   refine ⟨(hC u i).2 (.inl this.1),fun g => ?_⟩
   rcases (hC u m).1 g with g | g
   ·rw [if_neg (hCk u i this.1),if_neg (hCk u m g)]
    exact this.2 g
   ·obtain ⟨rfl,rfl⟩:=g;omega
  ·rw [hkk] at q
   subst q
   have hci:Com split s G u i:=by
    obtain ⟨n,w,h1,h2,h3,h4⟩:=hs
    rcases Nat.lt_or_ge n m with g | g
    ·exact h.sepCom hy h1 (by omega) h3 h4
    ·obtain rfl:n=m:=by omega
     obtain rfl:=hx.uniq h3
     refine ⟨by omega, ?_⟩
     have h5:=hno (by rcases h4 with h4 | h4;exact absurd h4 hevt.2;exact h4)
     rintro (f | ⟨j, -,f⟩)
     ·exact h5 i f
     ·exact h5 j f
   refine ⟨(hC u i).2 (.inl hci),fun _ => ?_⟩
   rw [if_neg (hCk u i hci),if_pos ⟨rfl,rfl⟩]
   exact h.co.tb u i y hy hci
 ·rcases pc_new (by rw [hkk];exact hpc) hi with q | ⟨rfl,q⟩
  ·exact h.fw u j y i z hpd hy hz h1 hji q hl hn
  ·rw [hkk] at q
   subst q
   obtain rfl:=hx.uniq hz
   exact absurd hl (hnl j y hpd hy)
 ·rcases pc_new (by rw [hkk];exact hpc) hm' with q | ⟨rfl,q⟩
  ·exact h.nf u j m y hpd hjm q hy
  ·rw [hkk] at q
   subst q
   obtain rfl:=hx.uniq hy
   refine ⟨by omega,fun q=>hno q j hpd⟩
theorem GInv.fwd (h:GInv p split s G) (ho:SqOk p s.q) (hx:At p t (pcN s.q t) x) (h1:x.op=1) (hreg:0≤x.reg∧x.reg≤2) {jj:Nat} {y':Ins} (hpdj:Pd split G t jj) (hyj:At p t jj y') (hlj:y'.loc=x.loc) (hnew:∀ i z,Pd split G t i→At p t i z→z.loc=x.loc→i≤jj)
 (hpc:∀ u,pcN s'.q u=if u=t then pcN s.q t+1 else pcN s.q u) (hr:s'.q.rg=s.q.rg.set (t * 3+x.reg.toNat) (wv p G.rv t jj)) (hm:s'.q.mm=s.q.mm) (hb:s'.bf=s.bf) :
 GInv p split s' ⟨rvU G t (pcN s.q t) (wv p G.rv t jj),G.ts,fun u i=>if u=t∧i=pcN s.q t then some jj else G.src u i,G.gb,G.n⟩:=by
 obtain ⟨hjk,y'',hy',hyo, -⟩:=h.pdAt hpdj
 obtain rfl:=hy'.uniq hyj
 generalize hkk:pcN s.q t=k at *
 generalize hvv:wv p G.rv t jj=v at *
 have hUk:Unc split ⟨rvU G t k v,G.ts,fun u i=>if u=t∧i=k then some jj else G.src u i,G.gb,G.n⟩ t k:=.inr ⟨jj,if_pos ⟨rfl,rfl⟩,hpdj⟩
 have hU:∀ u i,¬ (u=t∧i=k)→(Unc split ⟨rvU G t k v,G.ts,fun u i=>if u=t∧i=k then some jj else G.src u i,G.gb,G.n⟩ u i↔Unc split G u i):=fun u i hne=>by
  unfold Unc
  simp only [if_neg hne]
  exact Iff.rfl
 have hC:∀ u i,Com split s' ⟨rvU G t k v,G.ts,fun u i=>if u=t∧i=k then some jj else G.src u i,G.gb,G.n⟩ u i↔Com split s G u i:=fun u i=>by
  constructor
  ·rintro ⟨a,b⟩
   rcases pc_new (by rw [hkk];exact hpc) a with q | q
   ·exact ⟨q,fun g=>b ((hU u i (fun f=>by obtain ⟨rfl,rfl⟩:=f;omega)).2 g)⟩
   ·rw [hkk] at q
    obtain ⟨rfl,rfl⟩:=q
    exact absurd hUk b
  ·rintro ⟨a,b⟩
   exact ⟨Nat.lt_of_lt_of_le a (pc_mono (by rw [hkk];exact hpc) u),fun g=>b ((hU u i (fun f=>by obtain ⟨rfl,rfl⟩:=f;omega)).1 g)⟩
 have hlt:∀ u i,i < pcN s.q u→u=t→i≤k:=fun u i hi e=>by subst e;omega
 refine ⟨fun b hbl => ?_,h.gs,fun b j hj => ?_,fun u i m hj => ?_,fun u g hu hg => ?_, ?_,fun u i y m z hy hz hik hk hs => ?_,fun u m y i z hpd hy hz h1 hji hi hl hn => ?_,fun u j m y hpd hjm hm' hy => ?_⟩
 ·rw [hb,h.bf b hbl]
  refine List.map_congr_left fun j hj => ?_
  have:=(h.ge b j hj).1
  unfold ent
  rw [wvU (hlt _ _ this)]
 ·have:=h.ge b j hj
  exact ⟨Nat.lt_of_lt_of_le this.1 (pc_mono (by rw [hkk];exact hpc) _),this.2⟩
 ·simp only at hj ⊢
  by_cases e:u=t∧i=k
  ·obtain ⟨rfl,rfl⟩:=e
   rw [if_pos ⟨rfl,rfl⟩] at hj
   simp only [Option.some.injEq] at hj
   subst hj
   refine ⟨by rw [hpc,if_pos rfl];omega,hjk,y'',x,hy',hx,hyo,h1,hlj, ?_,fun m z hjm hmi hz hw hzl => ?_⟩
   ·rw [rvU_same,wvU (fun _=>Nat.le_of_lt hjk)];exact hvv.symm
   ·-- a write in between would be held too
    have hz0:z.op≠4∧z.op≠5:=h.nf u jj m z hpdj hjm (by omega) hz
    have hpz:Pd split G u m:=by
     apply Classical.byContradiction
     intro hnp
     have hnu:Com split s G u m:=⟨by omega,fun f=>f.elim hnp fun ⟨j',f1,f2⟩=>by
      obtain ⟨-, -,a,b,ha,hb, -,hb1, -⟩:=h.sr u m j' f1
      obtain rfl:=hb.uniq hz
      unfold isW isWop at hw
      rw [hb1] at hw
      simp at hw⟩
     have:=(h.co.lo u jj y'' m z ⟨hy',by omega⟩ ⟨hz,hz0.1⟩ hjm hzl.symm hnu).1
     exact this.2 (.inl hpdj)
    have:=hnew m z hpz hz (by rw [hzl];exact hlj)
    omega
  ·rw [if_neg e] at hj
   obtain ⟨g1,g2,a,b,g3,g4,g5,g6,g7,g8,g9⟩:=h.sr u i m hj
   refine ⟨Nat.lt_of_lt_of_le g1 (pc_mono (by rw [hkk];exact hpc) _),g2,a,b,g3,g4,g5,g6,g7, ?_,g9⟩
   rw [rvU_other e,wvU (hlt _ _ (by omega))]
   exact g8
 ·simp only
  rw [hr,hpc]
  have hro:isRop x.op=true:=by rw [h1];rfl
  by_cases e:u=t
  ·subst e
   rw [if_pos rfl,rrI hx.row]
   by_cases eg:x.reg.toNat=g
   ·subst eg
    rw [if_pos ⟨hro,rfl⟩,getD_set_same (by rw [ho.lr];have:=hx.lt;omega),rvU_same]
   ·rw [if_neg (fun q=>eg q.2),getD_set_other (by omega),h.rg u g hu hg,hkk,rrU (fun _=>Nat.le_refl _)]
  ·rw [if_neg e,getD_set_other (by omega),h.rg u g hu hg,rrU (fun q=>absurd q e)]
 ·rw [hm]
  exact h.co.same (fun u i _ _=>hC u i) fun u i hc=>⟨rvU_other (fun q=>by obtain ⟨rfl,rfl⟩:=q;have:=hc.1;omega),wvU (hlt u i hc.1)⟩
 ·rcases pc_new (by rw [hkk];exact hpc) hk with q | ⟨rfl,q⟩
  ·have:=h.se u i y m z hy hz hik q hs
   exact ⟨(hC u i).2 this.1,fun g=>this.2 ((hC u m).1 g)⟩
  ·rw [hkk] at q
   subst q
   obtain ⟨n,w,g1,g2,g3,g4⟩:=hs
   have hnm:n < m:=by
    rcases Nat.lt_or_ge n m with g | g
    ·exact g
    ·obtain rfl:n=m:=by omega
     obtain rfl:=hx.uniq g3;omega
   exact ⟨(hC u i).2 (h.sepCom hy g1 (by omega) g3 g4),fun g=>absurd hUk g.2⟩
 ·simp only
  by_cases e:u=t∧i=k
  ·obtain ⟨rfl,rfl⟩:=e
   rw [if_pos ⟨rfl,rfl⟩]
   obtain rfl:=hx.uniq hz
   have h5:=hnew m y hpd hy hl
   rcases Nat.lt_or_ge m jj with q | q
   ·exact absurd (by omega:y''.loc=y.loc) (hn jj y'' q (by omega) hy' (by unfold isW isWop;rcases hyo with f | f <;> rw [f] <;> rfl))
   ·rw [show m=jj by omega]
  ·rw [if_neg e]
   rcases pc_new (by rw [hkk];exact hpc) hi with q | q
   ·exact h.fw u m y i z hpd hy hz h1 hji q hl hn
   ·rw [hkk] at q;exact absurd q e
 ·rcases pc_new (by rw [hkk];exact hpc) hm' with q | ⟨rfl,q⟩
  ·exact h.nf u j m y hpd hjm q hy
  ·rw [hkk] at q
   subst q
   obtain rfl:=hx.uniq hy
   omega
end
end Go.Proofs.YtlddmagfbcomgaaGreat
namespace Go.Proofs.YtlddmagfbcomgaaGreat
section
variable {p : List (List Ins)} {split : Bool} {s s' : Bf} {G : Gst} {t : Nat} {x : Ins}
theorem getD_setL_same {α:Type} {l:List α} {k:Nat} (h:k < l.length) (v d:α):(l.set k v).getD k d=v:=by
 rw [List.getD_eq_getElem?_getD,List.getElem?_set,if_pos rfl,if_pos h];rfl
theorem getD_setL_other {α:Type} {l:List α} {k j:Nat} (h:k≠j) (v d:α):(l.set k v).getD j d=l.getD j d:=by
 rw [List.getD_eq_getElem?_getD,List.getElem?_set,if_neg h,List.getD_eq_getElem?_getD]
theorem ent_at {i:Nat} (hx:At p t i x) (rv:Nat→Nat→Int):ent p rv t i=(x.loc,wv p rv t i):=by
 unfold ent;rw [hx.row];rfl
theorem GInv.put (hp:∀ r∈p,∀ x∈r,insValid x=true) (h:GInv p split s G) (ho:BfOk p split s) (hx:At p t (pcN s.q t) x) (h23:x.op=2∨x.op=3)
 (hpc:∀ u,pcN s'.q u=if u=t then pcN s.q t+1 else pcN s.q u) (hr:s'.q.rg=s.q.rg) (hm:s'.q.mm=s.q.mm) (hb:s'.bf=s.bf.set (bfPlace t x.loc split) (s.bf.getD (bfPlace t x.loc split) []++[(x.loc,sqVal s.q t x)])) :
 GInv p split s' ⟨G.rv,G.ts,G.src,fun c=>if c=bfPlace t x.loc split then G.gb c++[pcN s.q t] else G.gb c,G.n⟩:=by
 have hxv:=ins_facts (hx.valid hp)
 have hxl:=hxv.2.1 (by omega)
 have htl:=hx.lt
 have hdv:bfPlace t x.loc split / bfN split=t:=place_div hxl.1 hxl.2
 have hbl:bfPlace t x.loc split < p.length * bfN split:=place_lt htl hxl.1 hxl.2
 have hval:sqVal s.q t x=wv p G.rv t (pcN s.q t):=by
  rw [wv_at G.rv hx]
  unfold sqVal
  split
  ·rw [h.rg t x.reg.toNat htl (by omega)]
  ·rfl
 generalize hbb:bfPlace t x.loc split=b at *
 generalize hkk:pcN s.q t=k at *
 have hPd:∀ u j,Pd split ⟨G.rv,G.ts,G.src,fun c=>if c=b then G.gb c++[k] else G.gb c,G.n⟩ u j↔Pd split G u j∨(u=t∧j=k):=fun u j=>by
  constructor
  ·rintro ⟨c,hc,hj⟩
   simp only at hj
   by_cases e:c=b
   ·subst e
    rw [if_pos rfl,List.mem_append] at hj
    rcases hj with q | q
    ·exact .inl ⟨c,hc,q⟩
    ·simp only [List.mem_singleton] at q
     exact .inr ⟨by rw [← hc,hdv],q⟩
   ·rw [if_neg e] at hj
    exact .inl ⟨c,hc,hj⟩
  ·rintro (⟨c,hc,hj⟩ | ⟨rfl,rfl⟩)
   ·refine ⟨c,hc, ?_⟩
    simp only
    split
    ·exact List.mem_append.2 (.inl hj)
    ·exact hj
   ·exact ⟨b,hdv,by simp⟩
 have hUk:Unc split ⟨G.rv,G.ts,G.src,fun c=>if c=b then G.gb c++[k] else G.gb c,G.n⟩ t k:=.inl ((hPd t k).2 (.inr ⟨rfl,rfl⟩))
 have hU:∀ u i,¬ (u=t∧i=k)→(Unc split ⟨G.rv,G.ts,G.src,fun c=>if c=b then G.gb c++[k] else G.gb c,G.n⟩ u i↔Unc split G u i):=fun u i hne=>by
  unfold Unc
  rw [hPd]
  constructor
  ·rintro ((a | a) | ⟨j,a,c⟩)
   ·exact .inl a
   ·exact absurd a hne
   ·rcases (hPd u j).1 c with c | ⟨rfl,rfl⟩
    ·exact .inr ⟨j,a,c⟩
    ·have:=h.sr u i j a
     omega
  ·rintro (a | ⟨j,a,c⟩)
   ·exact .inl (.inl a)
   ·exact .inr ⟨j,a,(hPd u j).2 (.inl c)⟩
 have hC:∀ u i,Com split s' ⟨G.rv,G.ts,G.src,fun c=>if c=b then G.gb c++[k] else G.gb c,G.n⟩ u i↔Com split s G u i:=fun u i=>by
  constructor
  ·rintro ⟨a,c⟩
   rcases pc_new (by rw [hkk];exact hpc) a with q | q
   ·exact ⟨q,fun g=>c ((hU u i (fun f=>by obtain ⟨rfl,rfl⟩:=f;omega)).2 g)⟩
   ·rw [hkk] at q
    obtain ⟨rfl,rfl⟩:=q
    exact absurd hUk c
  ·rintro ⟨a,c⟩
   exact ⟨Nat.lt_of_lt_of_le a (pc_mono (by rw [hkk];exact hpc) u),fun g=>c ((hU u i (fun f=>by obtain ⟨rfl,rfl⟩:=f;omega)).1 g)⟩
 refine ⟨fun c hcl => ?_,fun c => ?_,fun c j hj => ?_,fun u i m hj => ?_,fun u g hu hg => ?_, ?_,fun u i y m z hy hz hik hk hs => ?_,fun u m y i z hpd hy hz h1 hji hi hl hn => ?_,fun u j m y hpd hjm hm' hy => ?_⟩
 ·rw [hb]
  simp only
  by_cases e:c=b
  ·subst e
   rw [getD_setL_same (by rw [ho.lb];exact hbl),h.bf c hcl,if_pos rfl,List.map_append,hdv,List.map_singleton,ent_at hx,hval]
  ·rw [getD_setL_other (fun q=>e q.symm),h.bf c hcl,if_neg e]
 ·simp only
  split
  ·rename_i e
   subst e
   rw [List.pairwise_append]
   refine ⟨h.gs c,by simp,fun a ha d hd => ?_⟩
   simp only [List.mem_singleton] at hd
   subst hd
   have:=(h.ge c a ha).1
   rw [hdv] at this;omega
  ·exact h.gs c
 ·simp only at hj
  by_cases e:c=b
  ·subst e
   rw [if_pos rfl,List.mem_append] at hj
   rcases hj with q | q
   ·have:=h.ge c j q
    exact ⟨Nat.lt_of_lt_of_le this.1 (pc_mono (by rw [hkk];exact hpc) _),this.2⟩
   ·simp only [List.mem_singleton] at q
    subst q
    rw [hdv]
    exact ⟨by rw [hpc,if_pos rfl];omega,x,hx,h23,hbb⟩
  ·rw [if_neg e] at hj
   have:=h.ge c j hj
   exact ⟨Nat.lt_of_lt_of_le this.1 (pc_mono (by rw [hkk];exact hpc) _),this.2⟩
 ·have:=h.sr u i m hj
  exact ⟨Nat.lt_of_lt_of_le this.1 (pc_mono (by rw [hkk];exact hpc) _),this.2⟩
 ·rw [hr,h.rg u g hu hg,hpc]
  split
  ·rename_i e;subst e
   rw [hkk,rr_skip hx.row (fun q=>by rcases h23 with f | f <;> (rw [f] at q;exact absurd q.1 (by decide)))]
  ·rfl
 ·rw [hm]
  exact h.co.same (fun u i _ _=>hC u i) fun u i _=>⟨rfl,rfl⟩
 ·rcases pc_new (by rw [hkk];exact hpc) hk with q | ⟨rfl,q⟩
  ·have:=h.se u i y m z hy hz hik q hs
   exact ⟨(hC u i).2 this.1,fun g=>this.2 ((hC u m).1 g)⟩
  ·rw [hkk] at q
   subst q
   obtain ⟨n,w,g1,g2,g3,g4⟩:=hs
   have hnm:n < m:=by
    rcases Nat.lt_or_ge n m with g | g
    ·exact g
    ·obtain rfl:n=m:=by omega
     obtain rfl:=hx.uniq g3;omega
   exact ⟨(hC u i).2 (h.sepCom hy g1 (by omega) g3 g4),fun g=>absurd hUk g.2⟩
 ·rcases (hPd u m).1 hpd with hpd | ⟨rfl,rfl⟩
  ·rcases pc_new (by rw [hkk];exact hpc) hi with q | ⟨rfl,q⟩
   ·exact h.fw u m y i z hpd hy hz h1 hji q hl hn
   ·rw [hkk] at q
    subst q
    obtain rfl:=hx.uniq hz;omega
  ·rcases pc_new (by rw [hkk];exact hpc) hi with q | ⟨-,q⟩ <;> omega
 ·rcases pc_new (by rw [hkk];exact hpc) hm' with q | ⟨rfl,q⟩
  ·rcases (hPd u j).1 hpd with hpd | ⟨rfl,rfl⟩
   ·exact h.nf u j m y hpd hjm q hy
   ·omega
  ·rw [hkk] at q
   subst q
   obtain rfl:=hx.uniq hy
   omega
theorem GInv.flush (hp:∀ r∈p,∀ x∈r,insValid x=true) (h8:∀ r∈p,r.length≤8) (h:GInv p split s G) (ho:BfOk p split s) {b j:Nat} {rest:List Nat} (hg:G.gb b=j :: rest) (hbl:b < p.length * bfN split) (ht:b / bfN split=t) (hx:At p t j x)
 (hpc:∀ u,pcN s'.q u=pcN s.q u) (hr:s'.q.rg=s.q.rg) (hm:s'.q.mm=s.q.mm.set x.loc.toNat (wv p G.rv t j)) (hb:s'.bf=s.bf.set b (rest.map (ent p G.rv t))) :
 GInv p split s' ⟨G.rv,fun u i=>if u=t∧(i=j∨G.src t i=some j) then G.n else G.ts u i,G.src,fun c=>if c=b then rest else G.gb c,G.n+1⟩:=by
 have hjb:j∈G.gb b:=by rw [hg];simp
 have hpj:Pd split G t j:=⟨b,ht,hjb⟩
 obtain ⟨hjp,x',hx',hxo,hpl⟩:=h.ge b j hjb
 rw [ht] at hx' hpl hjp
 obtain rfl:=hx'.uniq hx
 have hxl:=(ins_facts (hx.valid hp)).2.1 (by omega)
 have hxw:isW x'=true:=by unfold isW isWop;rcases hxo with f | f <;> rw [f] <;> rfl
 have hsort:=h.gs b
 rw [hg,List.pairwise_cons] at hsort
 -- what is held for this place comes not before j
 have first:∀ i y,Pd split G t i→At p t i y→y.loc=x'.loc→j≤i:=fun i y hpd hy hl=>by
  obtain ⟨-,z,hz, -,hi⟩:=h.pdAt hpd
  obtain rfl:=hz.uniq hy
  rw [hl,hpl,hg] at hi
  rcases List.mem_cons.1 hi with q | q
  ·omega
  ·have:=hsort.1 i q;omega
 have comL:∀ i y,Evt p t i y→i < j→y.loc=x'.loc→Com split s G t i:=fun i y hy hi hl=>by
  refine ⟨by omega, ?_⟩
  rintro (q | ⟨m,q,hpd⟩)
  ·have:=first i y q hy.1 hl;omega
  ·obtain ⟨-,hmi,a,c,ha,hc, -, -,hac, -⟩:=h.sr t i m q
   obtain rfl:=hc.uniq hy.1
   have:=first m a hpd ha (by rw [hac];exact hl)
   omega
 have hPd:∀ u i,Pd split ⟨G.rv,fun u i=>if u=t∧(i=j∨G.src t i=some j) then G.n else G.ts u i,G.src,fun c=>if c=b then rest else G.gb c,G.n+1⟩ u i↔Pd split G u i∧¬ (u=t∧i=j):=fun u i=>by
  constructor
  ·rintro ⟨c,hc,hi⟩
   simp only at hi
   by_cases e:c=b
   ·subst e
    rw [if_pos rfl] at hi
    exact ⟨⟨c,hc,by rw [hg];exact List.mem_cons_of_mem _ hi⟩,fun q=>by have:=hsort.1 i hi;omega⟩
   ·rw [if_neg e] at hi
    refine ⟨⟨c,hc,hi⟩,fun q => ?_⟩
    obtain ⟨rfl,rfl⟩:=q
    obtain ⟨-,z,hz, -,hcc⟩:=h.ge c i hi
    rw [hc] at hz hcc
    obtain rfl:=hz.uniq hx
    exact e (by rw [← hcc,hpl])
  ·rintro ⟨⟨c,hc,hi⟩,hne⟩
   refine ⟨c,hc, ?_⟩
   simp only
   by_cases e:c=b
   ·subst e
    rw [if_pos rfl]
    rw [hg] at hi
    rcases List.mem_cons.1 hi with q | q
    ·exact absurd ⟨by rw [← hc,ht],q⟩ hne
    ·exact q
   ·rw [if_neg e];exact hi
 have noSt:∀ i m,G.src t i=some m→¬ Pd split G t i:=fun i m hi hpd=>by
  obtain ⟨-,z,hz,hzo, -⟩:=h.pdAt hpd
  obtain ⟨-, -,a,c, -,hc, -,hc1, -⟩:=h.sr t i m hi
  obtain rfl:=hz.uniq hc
  omega
 have hU:∀ u i,Unc split ⟨G.rv,fun u i=>if u=t∧(i=j∨G.src t i=some j) then G.n else G.ts u i,G.src,fun c=>if c=b then rest else G.gb c,G.n+1⟩ u i↔Unc split G u i∧¬ (u=t∧(i=j∨G.src t i=some j)):=fun u i=>by
  constructor
  ·rintro (a | ⟨m,a,c⟩)
   ·obtain ⟨a',c⟩:=(hPd u i).1 a
    refine ⟨.inl a',fun q => ?_⟩
    obtain ⟨rfl,q | q⟩:=q
    ·exact c ⟨rfl,q⟩
    ·exact noSt i j q a'
   ·obtain ⟨c,d⟩:=(hPd u m).1 c
    refine ⟨.inr ⟨m,a,c⟩,fun q => ?_⟩
    obtain ⟨rfl,q | q⟩:=q
    ·subst q;exact noSt i m a hpj
    ·simp only at a
     rw [a] at q
     simp only [Option.some.injEq] at q
     exact d ⟨rfl,q⟩
  ·rintro ⟨a | ⟨m,a,c⟩,d⟩
   ·exact .inl ((hPd u i).2 ⟨a,fun q=>d ⟨q.1, .inl q.2⟩⟩)
   ·exact .inr ⟨m,a,(hPd u m).2 ⟨c,fun q=>by obtain ⟨rfl,rfl⟩:=q;exact d ⟨rfl, .inr a⟩⟩⟩
 have hNU:∀ i,(i=j∨G.src t i=some j)→i < pcN s.q t∧Unc split G t i:=fun i hi=>by
  rcases hi with rfl | hi
  ·exact ⟨hjp, .inl hpj⟩
  ·exact ⟨(h.sr t i j hi).1, .inr ⟨j,hi,hpj⟩⟩
 have hC:∀ u i,Com split s' ⟨G.rv,fun u i=>if u=t∧(i=j∨G.src t i=some j) then G.n else G.ts u i,G.src,fun c=>if c=b then rest else G.gb c,G.n+1⟩ u i↔Com split s G u i∨(u=t∧(i=j∨G.src t i=some j)):=fun u i=>by
  unfold Com
  rw [hU,hpc]
  constructor
  ·rintro ⟨a,c⟩
   by_cases e:u=t∧(i=j∨G.src t i=some j)
   ·exact .inr e
   ·exact .inl ⟨a,fun g=>c ⟨g,e⟩⟩
  ·rintro (⟨a,c⟩ | e)
   ·exact ⟨a,fun g=>c g.1⟩
   ·obtain ⟨rfl,q⟩:=e
    exact ⟨(hNU i q).1,fun g=>g.2 ⟨rfl,q⟩⟩
 have hCN:∀ u i,Com split s G u i→¬ (u=t∧(i=j∨G.src t i=some j)):=fun u i hc q=>by
  obtain ⟨rfl,q⟩:=q
  exact hc.2 (hNU i q).2
 have hNread:∀ i y,(i=j∨G.src t i=some j)→Evt p t i y→isW y=true→i=j:=fun i y hi hy hw=>by
  rcases hi with q | q
  ·exact q
  ·obtain ⟨-, -,a,c, -,hc, -,hc1, -⟩:=h.sr t i j q
   obtain rfl:=hc.uniq hy.1
   unfold isW isWop at hw
   rw [hc1] at hw
   simp at hw
 refine ⟨fun c hcl => ?_,fun c => ?_,fun c i hi => ?_,fun u i m hj=>by rw [hpc];exact h.sr u i m hj,fun u g hu hg=>by rw [hr,hpc];exact h.rg u g hu hg, ?_,fun u i y m z hy hz hik hk hs => ?_,fun u m y i z hpd hy hz h1 hji hi hl hn => ?_,fun u i m y hpd hjm hm' hy => ?_⟩
 ·rw [hb]
  simp only
  by_cases e:c=b
  ·subst e
   rw [getD_setL_same (by rw [ho.lb];exact hbl),if_pos rfl,ht]
  ·rw [getD_setL_other (fun q=>e q.symm),h.bf c hcl,if_neg e]
 ·simp only
  split
  ·exact hsort.2
  ·exact h.gs c
 ·simp only at hi
  rw [hpc]
  by_cases e:c=b
  ·subst e
   rw [if_pos rfl] at hi
   exact h.ge c i (by rw [hg];exact List.mem_cons_of_mem _ hi)
  ·rw [if_neg e] at hi
   exact h.ge c i hi
 ·refine GCore.add (t:=t) (N:=fun i=>i=j∨G.src t i=some j) hp h8 h.co ho.q.lm (fun u i y _=>hC u i) (fun u i hc=>if_neg (hCN u i hc)) (fun i hi=>if_pos ⟨rfl,hi⟩) (fun u i _=>⟨rfl,rfl⟩)
   (fun i y m z hy hz him hl hmN => ?_) (fun i y m z hi hm hy hz hwy hwz => ?_) (.inr ⟨j,x', .inl rfl,⟨hx,by omega⟩,hxw,hm⟩) (fun i y hi hy hry => ?_)
  ·rcases hmN with rfl | hmN
   ·obtain rfl:=hz.1.uniq hx
    exact .inl (comL i y hy him hl)
   ·obtain ⟨-,hjm,a,c,ha,hc, -, -,hac, -,hnw⟩:=h.sr t m j hmN
    obtain rfl:=ha.uniq hx
    obtain rfl:=hc.uniq hz.1
    rcases Nat.lt_trichotomy i j with q | q | q
    ·exact .inl (comL i y hy q (by omega))
    ·exact .inr (.inl q)
    ·have hyw:¬ isW y=true:=fun hw=>hnw i y q him hy.1 hw (by omega)
     have hyo:=(ins_facts (hy.1.valid hp)).1
     have hy1:y.op=1:=by
      unfold isW isWop at hyw
      have:=hy.2
      rcases hyo with f | f | f | f | f
      ·exact f
      ·rw [f] at hyw;simp at hyw
      ·rw [f] at hyw;simp at hyw
      ·exact absurd f this
      ·rw [f] at hyw;simp at hyw
     exact .inr (.inr (h.fw t j a i y hpj hx hy.1 hy1 q (by have:=(h.sr t m j hmN).1;omega) (by omega) (fun m' z' g1 g2 g3 g4=>hnw m' z' g1 (by omega) g3 g4)))
  ·rw [hNread i y hi hy hwy,hNread m z hm hz hwz]
  ·rcases hi with rfl | hi
   ·obtain rfl:=hx.uniq hy.1
    unfold isR isRop at hry
    rcases hxo with f | f <;> (rw [f] at hry;simp at hry)
   ·obtain ⟨-,hji,a,c,ha,hc, -, -,hac,hv, -⟩:=h.sr t i j hi
    obtain rfl:=ha.uniq hx
    obtain rfl:=hc.uniq hy.1
    exact .inr ⟨j,a, .inl rfl,⟨hx,by omega⟩,hxw,hac,hji,hv⟩
 ·rw [hpc] at hk
  have:=h.se u i y m z hy hz hik hk hs
  refine ⟨(hC u i).2 (.inl this.1),fun g => ?_⟩
  simp only
  rw [if_neg (hCN u i this.1)]
  rcases (hC u m).1 g with g | g
  ·rw [if_neg (hCN u m g)]
   exact this.2 g
  ·rw [if_pos g]
   exact h.co.tb u i y hy this.1
 ·rw [hpc] at hi
  exact h.fw u m y i z ((hPd u m).1 hpd).1 hy hz h1 hji hi hl hn
 ·rw [hpc] at hm'
  exact h.nf u i m y ((hPd u i).1 hpd).1 hjm hm' hy
end
theorem seen_some {l:List Nat} (hs:l.Pairwise (· < ·)) {f:Nat→Int × Int} {loc:Int} {e:Int × Int} (h:(l.map f).reverse.find? (fun e=>e.1==loc)=some e):∃ j∈l,f j=e∧(f j).1=loc∧∀ i∈l,(f i).1=loc→i≤j:=by
 rw [← List.map_reverse,List.find?_map,Option.map_eq_some_iff] at h
 obtain ⟨j,hj,hje⟩:=h
 rw [List.find?_eq_some_iff_append] at hj
 obtain ⟨h1,qs,bs,h2,h3⟩:=hj
 have hl:l=bs.reverse++j :: qs.reverse:=by
  have:=congrArg List.reverse h2
  rw [List.reverse_reverse] at this
  rw [this];simp
 simp only [Function.comp,beq_iff_eq] at h1
 refine ⟨j,by rw [hl];simp,hje,h1,fun i hi hloc => ?_⟩
 rw [hl] at hi hs
 rcases List.mem_append.1 hi with q | q
 ·exact Nat.le_of_lt ((List.pairwise_append.1 hs).2.2 i q j (by simp))
 ·rcases List.mem_cons.1 q with q | q
  ·omega
  ·have:=h3 i (List.mem_reverse.1 q)
   simp only [Function.comp,Bool.not_eq_true',beq_eq_false_iff_ne] at this
   exact absurd hloc this
theorem seen_none {l:List Nat} {f:Nat→Int × Int} {loc:Int} (h:(l.map f).reverse.find? (fun e=>e.1==loc)=none):∀ i∈l,(f i).1≠loc:=fun i hi=>by
 rw [List.find?_eq_none] at h
 have:=h (f i) (List.mem_reverse.2 (List.mem_map.2 ⟨i,hi,rfl⟩))
 simpa using this
theorem GInv.step {p:List (List Ins)} {split:Bool} {s s':Bf} {G:Gst} {m:Nat} (hp:∀ r∈p,∀ x∈r,insValid x=true) (h8:∀ r∈p,r.length≤8) (ho:BfOk p split s) (h:GInv p split s G) (hn:bfNext p split s m=some s'):∃ G',GInv p split s' G':=by
 by_cases hm:m < p.length
 ·obtain ⟨r,k,x,hr,hk,hx,hd⟩:=bfNext_thread hn hm
  have hgk:s.q.pc.getD m 0=k:=by rw [List.getD_eq_getElem?_getD,hk];rfl
  have hat:At p m (pcN s.q m) x:=⟨r,hr,by unfold pcN;rw [hgk];exact hx⟩
  have hpc:=(sq_step ho.q hat).2
  rw [hgk] at hpc
  have hv:=ins_facts (hat.valid hp)
  unfold bfDo at hd
  split at hd
  ·rename_i h45
   split at hd
   ·rename_i he
    simp only [Option.some.injEq] at hd
    subst hd
    rcases h45 with h4 | h5
    ·exact ⟨G,h.fence hat h4 he hpc (by simp [sqDo,h4,isRop]) (by simp [sqDo,h4,isWop]) rfl⟩
    ·exact ⟨_,h.now hp h8 ho.q hat (.inr h5) (fun _=>he) (fun j y hpd _=>absurd hpd (h.noPd hm he j)) hpc (by simp [sqDo,h5,isRop]) (by simp [sqDo,h5,isWop,sqVal]) rfl⟩
   ·cases hd
  ·rename_i h45
   split at hd
   ·rename_i h1
    simp only [Option.some.injEq] at hd
    have hl:=hv.2.1 (by omega)
    have hbf:=h.bf _ (place_lt (split:=split) hm hl.1 hl.2)
    have hdv:bfPlace m x.loc split / bfN split=m:=place_div hl.1 hl.2
    rw [hdv] at hbf
    have hloc:∀ j y,At p m j y→(ent p G.rv m j).1=y.loc:=fun j y hy=>by rw [ent_at hy]
    cases hf:(s.bf.getD (bfPlace m x.loc split) []).reverse.find? (fun e=>e.1==x.loc) with
    | none =>
     have e1:bfSeen s m x.loc split=s.q.mm.getD x.loc.toNat 0:=by unfold bfSeen;rw [hf]
     rw [e1] at hd
     rw [hbf] at hf
     subst hd
     refine ⟨_,h.now hp h8 ho.q hat (.inl h1) (fun q=>by omega) (fun j y hpd hy hyl => ?_) hpc rfl (by rw [if_neg (by omega)]) rfl⟩
     obtain ⟨-,z,hz, -,hi⟩:=h.pdAt hpd
     obtain rfl:=hz.uniq hy
     rw [hyl] at hi
     exact seen_none hf j hi (by rw [hloc j z hz];exact hyl)
    | some e =>
     have e1:bfSeen s m x.loc split=e.2:=by unfold bfSeen;rw [hf]
     rw [e1] at hd
     rw [hbf] at hf
     obtain ⟨j,hj,hje,hjl,hjm⟩:=seen_some (h.gs _) hf
     obtain ⟨-,y,hy,hyo, -⟩:=h.ge _ j hj
     rw [hdv] at hy
     rw [ent_at hy] at hje hjl
     subst hje
     subst hd
     exact ⟨_,h.fwd ho.q hat h1 hv.2.2 ⟨_,hdv,hj⟩ hy hjl (fun i z hpd hz hzl=>by
      obtain ⟨-,w,hw, -,hi⟩:=h.pdAt hpd
      obtain rfl:=hw.uniq hz
      rw [hzl] at hi
      exact hjm i hi (by rw [hloc i w hw];exact hzl)) hpc rfl rfl rfl⟩
   ·rename_i h1
    simp only [Option.some.injEq] at hd
    subst hd
    exact ⟨_,h.put hp ho hat (by omega) hpc rfl rfl rfl⟩
 ·obtain ⟨l,v,rest,hb,rfl⟩:=bfNext_flush hn hm
  generalize m - p.length=b at *
  have hbl:b < p.length * bfN split:=by rw [← ho.lb];exact (List.getElem?_eq_some_iff.1 hb).1
  have hbf:=h.bf b hbl
  rw [List.getD_eq_getElem?_getD,hb,Option.getD_some] at hbf
  cases hg:G.gb b with
  | nil=>rw [hg] at hbf;simp at hbf
  | cons j js =>
   rw [hg,List.map_cons,List.cons.injEq] at hbf
   obtain ⟨-,x,hx, -, -⟩:=h.ge b j (by rw [hg];simp)
   rw [ent_at hx,Prod.mk.injEq] at hbf
   obtain ⟨⟨rfl,rfl⟩,rfl⟩:=hbf
   exact ⟨_,h.flush hp h8 ho hg hbl rfl hx (fun u=>rfl) rfl rfl rfl⟩
theorem GInv.reach {p:List (List Ins)} {split:Bool} {s:Bf} (hp:∀ r∈p,∀ x∈r,insValid x=true) (h8:∀ r∈p,r.length≤8) (h:ReachM (bfStart p split) (bfNext p split) s):∃ G,GInv p split s G:=by
 induction h with
 | start=>exact ⟨_, .start p split⟩
 | step hs ht ih =>
  obtain ⟨G,hG⟩:=ih
  exact hG.step hp h8 (BfOk.reach hp hs) ht
theorem pc_done {p:List (List Ins)} {s:Sq} (ho:SqOk p s) (hd:sqDone p s=true) {t:Nat} (ht:t < p.length):pcN s t=(p.getD t []).length:=by
 unfold sqDone at hd
 have h1:=List.all_eq_true.1 hd t (List.mem_range.2 ht)
 simp only [decide_eq_true_eq] at h1
 obtain ⟨k,hk⟩:∃ k,s.pc[t]? = some k:=⟨_,List.getElem?_eq_getElem (by rw [ho.lp];exact ht)⟩
 obtain ⟨r,hr⟩:∃ r,p[t]? = some r:=⟨_,List.getElem?_eq_getElem ht⟩
 have h0:=ho.pc t k r hk hr
 have e:s.pc.getD t 0=k:=by rw [List.getD_eq_getElem?_getD,hk,Option.getD_some]
 have e2:p.getD t []=r:=by rw [List.getD_eq_getElem?_getD,hr,Option.getD_some]
 unfold pcN
 rw [e] at h1 ⊢
 rw [e2] at h1 ⊢
 omega
theorem ext_getDI {a b:List Int} (hl:a.length=b.length) (h:∀ k,k < a.length→a.getD k 0=b.getD k 0):a=b:=by
 apply List.ext_getElem?
 intro i
 rcases Nat.lt_or_ge i a.length with hi | hi
 ·have:=h i hi
  rw [List.getD_eq_getElem?_getD,List.getD_eq_getElem?_getD,List.getElem?_eq_getElem hi,List.getElem?_eq_getElem (by omega)] at this
  rw [List.getElem?_eq_getElem hi,List.getElem?_eq_getElem (by omega)]
  simpa using this
 ·rw [List.getElem?_eq_none hi,List.getElem?_eq_none (by omega)]
theorem robust {p:List (List Ins)} {split:Bool} {s:Bf} (hp:∀ r∈p,∀ x∈r,insValid x=true) (h8:∀ r∈p,r.length≤8) (hd:∀ t i k,Delayed p t i k→Sep p t i k)
 (h:ReachM (bfStart p split) (bfNext p split) s) (hdn:bfDone p s=true):∃ s',ReachM (sqStart p) (sqNext p) s'∧sqDone p s'=true∧sqOut s'=bfOut s:=by
 obtain ⟨G,hG⟩:=GInv.reach hp h8 h
 have ho:=BfOk.reach hp h
 unfold bfDone at hdn
 rw [Bool.and_eq_true] at hdn
 have hno:∀ u j,¬ Pd split G u j:=by
  rintro u j ⟨b,rfl,hj⟩
  obtain ⟨-,x,hx, -, -⟩:=hG.ge b j hj
  have hb:b < p.length * bfN split:=by
   have h2:b / bfN split+1≤p.length:=hx.lt
   have h3:=Nat.mul_le_mul_right (bfN split) h2
   have h4:=Nat.mod_lt b (bfN_pos split)
   have h5:b / bfN split * bfN split+b % bfN split=b:=by rw [Nat.mul_comm];exact Nat.div_add_mod b _
   rw [Nat.add_mul] at h3
   omega
  have h1:=hG.bf b hb
  have h2:s.bf.getD b []=[]:=by
   rw [List.getD_eq_getElem?_getD]
   cases hc:s.bf[b]? with
   | none=>rfl
   | some l =>
    have:=List.all_eq_true.1 hdn.1 l (List.mem_of_getElem? hc)
    rw [Option.getD_some]
    exact List.isEmpty_iff.1 this
  rw [h2] at h1
  cases hg:G.gb b with
  | nil=>rw [hg] at hj;simp at hj
  | cons a l=>rw [hg] at h1;simp at h1
 have hcom:∀ t i x,Evt p t i x→Com split s G t i:=fun t i x hx=>⟨by rw [pc_done ho.q hdn.2 hx.1.lt];exact hx.1.ilt,fun q=>q.elim (hno t i) fun ⟨j,_,q⟩=>hno t j q⟩
 have hi8:∀ u i x,Evt p u i x→i < 8:=fun u i x hx=>by
  obtain ⟨r,h1,h2⟩:=hx.1
  have g1:=h8 r (List.mem_of_getElem? h1)
  have g2:=(List.getElem?_eq_some_iff.1 h2).1
  omega
 have inj:∀ t i x u j y,Evt p t i x→Evt p u j y→keyT G.ts t i=keyT G.ts u j→t=u∧i=j:=fun t i x u j y hx hy he=>by
  have a:=hi8 t i x hx
  have b:=hi8 u j y hy
  unfold keyT at he
  exact ⟨hG.co.tt t i x u j y hx hy (hcom t i x hx) (hcom u j y hy) (by omega),by omega⟩
 have od:Ord p G.rv (keyT G.ts):=by
  refine ⟨inj,fun t i x k y hx hy hik hl=>(hG.co.lo t i x k y hx hy hik hl (hcom t k y hy)).2,fun t i x k y hx hy hik hs => ?_,fun t i x hx hr => ?_⟩
  ·have:=(hG.se t i x k y hx hy hik (hcom t k y hy).1 hs).2 (hcom t k y hy)
   have a:=hi8 t i x hx
   unfold keyT;omega
  ·exact (hG.co.rd t i x hx hr (hcom t i x hx)).congr fun u j y hy _=>⟨fun q=>q.2,fun q=>⟨hcom u j y hy,q⟩⟩
 obtain ⟨s',hs',hd'⟩:=ord_run hp od hd
 have ho':=SqOk.reach hp hs'.rc
 refine ⟨s',hs'.rc,hd', ?_⟩
 unfold bfOut sqOut
 congr 1
 ·refine ext_getDI (by rw [ho'.lr,ho.q.lr]) fun k hk => ?_
  rw [ho'.lr] at hk
  have e:k=k / 3 * 3+k % 3:=by omega
  have ht:k / 3 < p.length:=by omega
  rw [e,hs'.rg _ _ ht (by omega),hG.rg _ _ ht (by omega),pc_done ho' hd' ht,pc_done ho.q hdn.2 ht]
 ·refine ext_getDI (by rw [ho'.lm,ho.q.lm]) fun k hk => ?_
  rw [ho'.lm] at hk
  have h1:=hs'.mm (k:Int) (by omega) (by omega)
  have h2:=hG.co.mm (k:Int) (by omega) (by omega)
  rw [Int.toNat_natCast] at h1 h2
  refine Lst.uniq (P:=fun u j y=>y.loc=(k:Int)) (fun t i x u j y g1 _ g2 _ g3=>inj t i x u j y g1 g2 g3) (h1.congr fun u j y hy _=>⟨fun q=>q.2,fun q=>⟨?_,q⟩⟩) (h2.congr fun u j y hy _=>⟨fun q=>q.2,fun q=>⟨hcom u j y hy,q⟩⟩)
  rw [pc_done ho' hd' hy.1.lt]
  exact hy.1.ilt
end Go.Proofs.YtlddmagfbcomgaaGreat
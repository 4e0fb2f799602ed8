/-
  Store buffers: what a run has done, told by times of effect (plain law). Condition: valid instructions, at most eight of them in a thread.
-/
import Derived.Test.YtlddmagfbcomgaaGreatZq05
set_option maxHeartbeats 6400000
set_option maxRecDepth 100000
namespace Go.Proofs.YtlddmagfbcomgaaGreat
def keyT (ts:Nat→Nat→Nat) (t i:Nat):Nat:=ts t i * 8+i
structure GCore (p:List (List Ins)) (rv:Nat→Nat→Int) (ts:Nat→Nat→Nat) (n:Nat) (C:Nat→Nat→Prop) (mm:List Int):Prop where
 mm:∀ l:Int,0≤l→l≤2→Lst p rv (keyT ts) (fun u j y=>C u j∧y.loc=l) (mm.getD l.toNat 0)
 rd:∀ t i x,Evt p t i x→isR x=true→C t i→Lst p rv (keyT ts) (fun u j y=>C u j∧y.loc=x.loc∧keyT ts u j < keyT ts t i) (rv t i)
 lo:∀ t i x k y,Evt p t i x→Evt p t k y→i < k→x.loc=y.loc→C t k→C t i∧keyT ts t i < keyT ts t k
 tb:∀ t i x,Evt p t i x→C t i→ts t i < n
 tt:∀ t i x u j y,Evt p t i x→Evt p u j y→C t i→C u j→ts t i=ts u j→t=u
theorem GCore.same {p:List (List Ins)} {rv rv':Nat→Nat→Int} {ts:Nat→Nat→Nat} {n:Nat} {C C':Nat→Nat→Prop} {mm:List Int} (h:GCore p rv ts n C mm) (hC:∀ t i x,Evt p t i x→(C' t i↔C t i))
 (hr:∀ t i,C t i→rv' t i=rv t i∧wv p rv' t i=wv p rv t i):GCore p rv' ts n C' mm:=by
 refine ⟨fun l h0 h2 => ?_,fun t i x hx hr1 hc => ?_,fun t i x k y hx hy hik hl hc => ?_,fun t i x hx hc=>h.tb t i x hx ((hC t i x hx).1 hc),fun t i x u j y hx hy h1 h2=>h.tt t i x u j y hx hy ((hC t i x hx).1 h1) ((hC u j y hy).1 h2)⟩
 ·exact (h.mm l h0 h2).congr2 (fun u j y hy _=>by rw [hC u j y hy]) (fun u j y hy _ hq=>⟨rfl,(hr u j hq.1).2⟩)
 ·have hc':=(hC t i x hx).1 hc
  rw [(hr t i hc').1]
  exact (h.rd t i x hx hr1 hc').congr2 (fun u j y hy _=>by rw [hC u j y hy]) (fun u j y hy _ hq=>⟨rfl,(hr u j hq.1).2⟩)
 ·have:=h.lo t i x k y hx hy hik hl ((hC t k y hy).1 hc)
  exact ⟨(hC t i x hx).2 this.1,this.2⟩
theorem GCore.add {p:List (List Ins)} {rv rv':Nat→Nat→Int} {ts ts':Nat→Nat→Nat} {n:Nat} {C C':Nat→Nat→Prop} {mm mm':List Int} {t:Nat} {N:Nat→Prop} (hp:∀ r∈p,∀ x∈r,insValid x=true) (h8:∀ r∈p,r.length≤8) (h:GCore p rv ts n C mm)
 (hml:mm.length=3)
 (hC:∀ u i x,Evt p u i x→(C' u i↔C u i∨(u=t∧N i)))
 (hts:∀ u i,C u i→ts' u i=ts u i) (htn:∀ i,N i→ts' t i=n)
 (hr:∀ u i,C u i→rv' u i=rv u i∧wv p rv' u i=wv p rv u i)
 (hlo:∀ i x k y,Evt p t i x→Evt p t k y→i < k→x.loc=y.loc→N k→C t i∨N i)
 (hw1:∀ i y k z,N i→N k→Evt p t i y→Evt p t k z→isW y=true→isW z=true→i=k)
 (hm:((∀ i y,N i→Evt p t i y→isW y=true→False)∧mm'=mm)∨∃ k z,N k∧Evt p t k z∧isW z=true∧mm'=mm.set z.loc.toNat (wv p rv' t k))
 (hrd:∀ i x,N i→Evt p t i x→isR x=true→(rv' t i=mm.getD x.loc.toNat 0∧∀ k z,N k→Evt p t k z→isW z=true→i≤k)∨∃ k z,N k∧Evt p t k z∧isW z=true∧z.loc=x.loc∧k < i∧rv' t i=wv p rv' t k) :
 GCore p rv' ts' (n+1) C' mm':=by
 have hi8:∀ u i x,Evt p u i x→i < 8:=fun u i x hx=>by
  obtain ⟨r,h1,h2⟩:=hx.1
  have g1:=h8 r (List.mem_of_getElem? h1)
  have g2:=(List.getElem?_eq_some_iff.1 h2).1
  omega
 have kC:∀ u i,C u i→keyT ts' u i=keyT ts u i:=fun u i hc=>by unfold keyT;rw [hts u i hc]
 have kN:∀ i,N i→keyT ts' t i=n * 8+i:=fun i hc=>by unfold keyT;rw [htn i hc]
 have kb:∀ u i x,Evt p u i x→C u i→keyT ts' u i < n * 8:=fun u i x hx hc=>by
  rw [kC u i hc]
  have h1:=h.tb u i x hx hc
  have h2:=hi8 u i x hx
  unfold keyT;omega
 refine ⟨fun l h0 h2 => ?_,fun u i x hx hrx hc => ?_,fun u i x k y hx hy hik hl hc => ?_,fun u i x hx hc => ?_,fun u i x v j y hx hy h1 h2 he => ?_⟩
 ·rcases hm with ⟨hno,rfl⟩ | ⟨k,z,hk,hz,hwz,rfl⟩
  ·refine (h.mm l h0 h2).congr2 (fun u j y hy hwy => ?_) (fun u j y hy _ hq=>⟨kC u j hq.1,(hr u j hq.1).2⟩)
   rw [hC u j y hy]
   constructor
   ·rintro ⟨a,b⟩;exact ⟨.inl a,b⟩
   ·rintro ⟨a | ⟨rfl,a⟩,b⟩
    ·exact ⟨a,b⟩
    ·exact absurd hwy (fun g=>hno j y a hy g)
  ·have hzl:=(ins_facts (hz.1.valid hp)).2.1 hz.2
   by_cases el:z.loc=l
   ·subst el
    rw [getD_set_same (by rw [hml];omega)]
    refine Lst.top hz hwz ⟨(hC t k z hz).2 (.inr ⟨rfl,hk⟩),rfl⟩ fun u j y hy hwy hq => ?_
    rcases (hC u j y hy).1 hq.1 with a | ⟨rfl,a⟩
    ·have:=kb u j y hy a
     rw [kN k hk];omega
    ·obtain rfl:=hw1 j y k z a hk hy hz hwy hwz
     exact Nat.le_refl _
   ·rw [getD_set_other (by omega)]
    refine (h.mm l h0 h2).congr2 (fun u j y hy hwy => ?_) (fun u j y hy _ hq=>⟨kC u j hq.1,(hr u j hq.1).2⟩)
    rw [hC u j y hy]
    constructor
    ·rintro ⟨a,b⟩;exact ⟨.inl a,b⟩
    ·rintro ⟨a | ⟨rfl,a⟩,b⟩
     ·exact ⟨a,b⟩
     ·obtain rfl:=hw1 j y k z a hk hy hz hwy hwz
      exact absurd (hz.1.uniq hy.1 ▸ b) el
 ·rcases (hC u i x hx).1 hc with a | ⟨rfl,a⟩
  ·rw [(hr u i a).1]
   refine (h.rd u i x hx hrx a).congr2 (fun v j y hy hwy => ?_) (fun v j y hy _ hq=>⟨kC v j hq.1,(hr v j hq.1).2⟩)
   rw [hC v j y hy,kC u i a]
   constructor
   ·rintro ⟨b,c,d⟩;exact ⟨.inl b,c,by rw [kC v j b];exact d⟩
   ·rintro ⟨b | ⟨rfl,b⟩,c,d⟩
    ·exact ⟨b,c,by rw [← kC v j b];exact d⟩
    ·rw [kN j b] at d
     have:=kb u i x hx a
     rw [kC u i a] at this
     omega
  ·have hxl:=(ins_facts (hx.1.valid hp)).2.1 hx.2
   rcases hrd i x a hx hrx with ⟨e1,e2⟩ | ⟨k,z,hk,hz,hwz,hzl,hki,e1⟩
   ·rw [e1]
    refine (h.mm x.loc hxl.1 hxl.2).congr2 (fun v j y hy hwy => ?_) (fun v j y hy _ hq=>⟨kC v j hq.1,(hr v j hq.1).2⟩)
    rw [hC v j y hy,kN i a]
    constructor
    ·rintro ⟨b,c⟩
     have:=kb v j y hy b
     exact ⟨.inl b,c,by omega⟩
    ·rintro ⟨b | ⟨rfl,b⟩,c,d⟩
     ·exact ⟨b,c⟩
     ·have:=e2 j y b hy hwy
      rw [kN j b] at d
      omega
   ·rw [e1]
    refine Lst.top hz hwz ⟨(hC u k z hz).2 (.inr ⟨rfl,hk⟩),hzl,by rw [kN k hk,kN i a];omega⟩ fun v j y hy hwy hq => ?_
    rcases (hC v j y hy).1 hq.1 with b | ⟨rfl,b⟩
    ·have:=kb v j y hy b
     rw [kN k hk];omega
    ·obtain rfl:=hw1 j y k z b hk hy hz hwy hwz
     exact Nat.le_refl _
 ·rcases (hC u k y hy).1 hc with a | ⟨rfl,a⟩
  ·have:=h.lo u i x k y hx hy hik hl a
   exact ⟨(hC u i x hx).2 (.inl this.1),by rw [kC u i this.1,kC u k a];exact this.2⟩
  ·rcases hlo i x k y hx hy hik hl a with b | b
   ·have:=kb u i x hx b
    exact ⟨(hC u i x hx).2 (.inl b),by rw [kN k a];omega⟩
   ·exact ⟨(hC u i x hx).2 (.inr ⟨rfl,b⟩),by rw [kN k a,kN i b];omega⟩
 ·rcases (hC u i x hx).1 hc with a | ⟨rfl,a⟩
  ·have:=h.tb u i x hx a
   rw [hts u i a];omega
  ·rw [htn i a];omega
 ·rcases (hC u i x hx).1 h1 with a | ⟨rfl,a⟩ <;> rcases (hC v j y hy).1 h2 with b | ⟨rfl,b⟩
  ·rw [hts u i a,hts v j b] at he
   exact h.tt u i x v j y hx hy a b he
  ·have:=h.tb u i x hx a
   rw [hts u i a,htn j b] at he;omega
  ·have:=h.tb v j y hy b
   rw [hts v j b,htn i a] at he;omega
  ·rfl
structure Gst where
 rv:Nat→Nat→Int
 ts:Nat→Nat→Nat
 src:Nat→Nat→Option Nat
 gb:Nat→List Nat
 n:Nat
def Pd (split:Bool) (G:Gst) (t j:Nat):Prop:=∃ b,b / bfN split=t∧j∈G.gb b
def Unc (split:Bool) (G:Gst) (t i:Nat):Prop:=Pd split G t i∨∃ j,G.src t i=some j∧Pd split G t j
def Com (split:Bool) (s:Bf) (G:Gst) (t i:Nat):Prop:=i < pcN s.q t∧¬ Unc split G t i
def ent (p:List (List Ins)) (rv:Nat→Nat→Int) (t j:Nat):Int × Int:=((((p.getD t [])[j]?).map fun x=>x.loc).getD 0,wv p rv t j)
structure GInv (p:List (List Ins)) (split:Bool) (s:Bf) (G:Gst):Prop where
 bf:∀ b,b < p.length * bfN split→s.bf.getD b []=(G.gb b).map (ent p G.rv (b / bfN split))
 gs:∀ b,(G.gb b).Pairwise (· < ·)
 ge:∀ b j,j∈G.gb b→j < pcN s.q (b / bfN split)∧∃ x,At p (b / bfN split) j x∧(x.op=2∨x.op=3)∧bfPlace (b / bfN split) x.loc split=b
 sr:∀ t i j,G.src t i=some j→i < pcN s.q t∧j < i∧∃ x y,At p t j x∧At p t i y∧(x.op=2∨x.op=3)∧y.op=1∧x.loc=y.loc∧G.rv t i=wv p G.rv t j∧∀ m z,j < m→m < i→At p t m z→isW z=true→z.loc≠x.loc
 rg:∀ t g,t < p.length→g < 3→s.q.rg.getD (t * 3+g) 0=rr (p.getD t []) (G.rv t) (pcN s.q t) g
 co:GCore p G.rv G.ts G.n (Com split s G) s.q.mm
 se:∀ t i x k y,Evt p t i x→Evt p t k y→i < k→k < pcN s.q t→Sep p t i k→Com split s G t i∧(Com split s G t k→G.ts t i < G.ts t k)
 fw:∀ t j x i y,Pd split G t j→At p t j x→At p t i y→y.op=1→j < i→i < pcN s.q t→x.loc=y.loc→(∀ m z,j < m→m < i→At p t m z→isW z=true→z.loc≠x.loc)→G.src t i=some j
 nf:∀ t j m x,Pd split G t j→j < m→m < pcN s.q t→At p t m x→x.op≠4∧x.op≠5
theorem bfN_pos (split:Bool):0 < bfN split:=by cases split <;> decide
theorem place_div {split:Bool} {t:Nat} {loc:Int} (h0:0≤loc) (h2:loc≤2):bfPlace t loc split / bfN split=t:=by
 cases split
 ·simp [bfPlace,bfN]
 ·simp only [bfPlace,bfN,if_true];omega
theorem GInv.pdAt {p:List (List Ins)} {split:Bool} {s:Bf} {G:Gst} (h:GInv p split s G) {t j:Nat} (k:Pd split G t j):j < pcN s.q t∧∃ x,At p t j x∧(x.op=2∨x.op=3)∧j∈G.gb (bfPlace t x.loc split):=by
 obtain ⟨b,rfl,hj⟩:=k
 obtain ⟨h1,x,h2,h3,h4⟩:=h.ge b j hj
 exact ⟨h1,x,h2,h3,by rw [h4];exact hj⟩
theorem GInv.noPd {p:List (List Ins)} {split:Bool} {s:Bf} {G:Gst} (h:GInv p split s G) {t:Nat} (ht:t < p.length) (he:bfEmpty s t split=true) (j:Nat):¬ Pd split G t j:=by
 rintro ⟨b,rfl,hj⟩
 unfold bfEmpty at he
 rw [List.all_eq_true] at he
 have hp:=bfN_pos split
 have h1:=he (b % bfN split) (List.mem_range.2 (Nat.mod_lt _ hp))
 have e:b / bfN split * bfN split+b % bfN split=b:=by rw [Nat.mul_comm];exact Nat.div_add_mod b _
 rw [e] at h1
 have hb:b < p.length * bfN split:=by
  have h2:b / bfN split+1≤p.length:=ht
  have h3:=Nat.mul_le_mul_right (bfN split) h2
  have h4:=Nat.mod_lt b hp
  rw [Nat.add_mul] at h3
  omega
 rw [h.bf b hb] at h1
 cases hg:G.gb b with
 | nil=>rw [hg] at hj;simp at hj
 | cons a l=>rw [hg] at h1;simp at h1
theorem GInv.sepCom {p:List (List Ins)} {split:Bool} {s:Bf} {G:Gst} (h:GInv p split s G) {t i m:Nat} {x z:Ins} (hx:Evt p t i x) (him:i≤m) (hm:m < pcN s.q t) (hz:At p t m z) (ho:z.op=4∨z.op=5):Com split s G t i:=by
 refine ⟨by omega, ?_⟩
 rintro (hpd | ⟨j,hj,hpd⟩)
 ·obtain ⟨-,y,hy,hop, -⟩:=h.pdAt hpd
  obtain rfl:=hx.1.uniq hy
  rcases Nat.lt_or_ge i m with q | q
  ·have:=h.nf t i m z hpd q hm hz
   omega
  ·obtain rfl:i=m:=by omega
   obtain rfl:=hy.uniq hz
   omega
 ·have h1:=h.sr t i j hj
  have:=h.nf t j m z hpd (by omega) hm hz
  omega
end Go.Proofs.YtlddmagfbcomgaaGreat
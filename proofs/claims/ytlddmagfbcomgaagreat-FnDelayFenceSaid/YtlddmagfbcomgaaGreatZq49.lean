/-
  Plain: programs without races have parted delays; fences do not count for delays. No condition.
-/
import Derived.Test.YtlddmagfbcomgaaGreatZq40
import Derived.Test.YtlddmagfbcomgaaGreatZq23
import Derived.Test.YtlddmagfbcomgaaGreatZq26
set_option maxHeartbeats 6400000
set_option maxRecDepth 100000
namespace Go.Proofs.YtlddmagfbcomgaaGreat
theorem insAll_has {p:List (List Ins)} {t i:Nat} {x:Ins} (h:At p t i x):(⟨t,i⟩:Gp)∈insAll p:=by
 obtain ⟨r,hr,hx⟩:=h
 unfold insAll instrsTo
 rw [List.mem_flatMap]
 refine ⟨t,List.mem_range.2 (List.getElem?_eq_some_iff.1 hr).1, ?_⟩
 rw [hr]
 unfold rowIns
 exact List.mem_map.2 ⟨i,List.mem_range.2 (List.getElem?_eq_some_iff.1 hx).1,rfl⟩
theorem race_has {p:List (List Ins)} {t i u k:Nat} {x y:Ins} (hx:At p t i x) (hy:At p u k y) (h:raceB p ⟨t,i⟩ ⟨u,k⟩=true):(⟨⟨t,i⟩,⟨u,k⟩⟩:Rc)∈racesP p:=by
 unfold racesP racesTo
 rw [List.mem_flatMap]
 refine ⟨⟨t,i⟩,insAll_has hx, ?_⟩
 unfold racesOf
 exact List.mem_map.2 ⟨⟨u,k⟩,List.mem_filter.2 ⟨insAll_has hy,h⟩,rfl⟩
theorem free_cf {p:List (List Ins)} (h:racesP p=[]) {t i u k:Nat} (hc:Cf p (t,i) (u,k)):∃ x,At p t i x∧x.op=5:=by
 obtain ⟨hne,x,y,hx,hy,hl,hw⟩:=hc
 simp only at hne hx hy
 have no:∀ {t i u k:Nat} {x y:Ins},Evt p t i x→Evt p u k y→t < u→x.loc=y.loc→(isW x=true∨isW y=true)→x.op=5∧y.op=5:=fun {t i u k x y} hx hy hlt hl hw=>by
  obtain ⟨⟨r,hr,hxr⟩,hx4⟩:=hx
  obtain ⟨⟨s,hs,hys⟩,hy4⟩:=hy
  apply Classical.byContradiction
  intro hn
  have hb:raceB p ⟨t,i⟩ ⟨u,k⟩=true:=by
   rw [raceB_eq hr hxr hs hys]
   have h1:conflictB x y=true:=by
    unfold conflictB conflictR
    unfold isW at hw
    rcases hw with q | q <;> simp [hx4,hy4,hl,q]
   have h2:(plainB x||plainB y)=true:=by
    unfold plainB
    by_cases e:x.op=5
    ·have:¬ y.op=5:=fun q=>hn ⟨e,q⟩
     simp [this]
    ·simp [e]
   rw [h1,h2,decide_eq_true (Int.ofNat_lt.2 hlt)]
   rfl
  have:=race_has ⟨r,hr,hxr⟩ ⟨s,hs,hys⟩ hb
  rw [h] at this
  simp at this
 rcases Nat.lt_trichotomy t u with q | q | q
 ·exact ⟨x,hx.1,(no hx hy q hl hw).1⟩
 ·exact absurd q hne
 ·exact ⟨x,hx.1,(no hy hx q hl.symm hw.symm).2⟩
theorem free_sep {p:List (List Ins)} (h:racesP p=[]) {t i k:Nat} (hd:Delayed p t i k):Sep p t i k:=by
 obtain ⟨hik, -, -,u,v,h1, -, -⟩:=hd
 obtain ⟨x,hx,h5⟩:=free_cf (u:=u.1) (k:=u.2) h h1
 exact ⟨k,x,by omega,Nat.le_refl _,hx, .inr h5⟩
def evK4 (e:Ev):Int × Bool × Bool × Int:=(e.t,e.r,e.w,e.l)
theorem evRow_k4 (t:Nat) (r:List Ins):∀ k,k≤r.length→(evRow t r k).map evK4=(dropI (r.take k)).map fun x=>((t:Int),isRop x.op,isWop x.op,x.loc):=by
 intro k
 induction k with
 | zero=>intro _;simp [evRow,dropI]
 | succ k ih =>
  intro hk
  obtain ⟨x,hx⟩:=get_of_lt (xs:=r) (k:=k) hk
  rw [evRow_succ hx,List.map_append,ih (by omega),List.take_add_one,hx]
  unfold dropI evOf
  rw [List.filter_append,List.map_append]
  congr 1
  by_cases h:x.op=4 <;> simp [isFence,h,evK4]
theorem dropI_idem4 (r:List Ins):dropI (dropI r)=dropI r:=by unfold dropI;rw [List.filter_filter];simp
theorem evTo_k4 (p:List (List Ins)):∀ j,j≤p.length→(evTo (dropP p) j).map evK4=(evTo p j).map evK4:=by
 intro j
 induction j with
 | zero=>intro _;simp [evTo]
 | succ j ih =>
  intro hj
  obtain ⟨r,hr⟩:=get_of_lt (xs:=p) (k:=j) hj
  have hd:(dropP p)[j]? = some (dropI r):=by unfold dropP;rw [List.getElem?_map,hr];rfl
  have h1:=evRow_k4 j r r.length (Nat.le_refl _)
  have h2:=evRow_k4 j (dropI r) (dropI r).length (Nat.le_refl _)
  rw [List.take_length] at h1 h2
  rw [evTo_succ hr,evTo_succ hd,List.map_append,List.map_append,ih (by omega),h1,h2,dropI_idem4]
theorem evAll_k4 (p:List (List Ins)):(evAll (dropP p)).map evK4=(evAll p).map evK4:=by
 unfold evAll
 have e:(dropP p).length=p.length:=by simp [dropP]
 rw [List.map_append,List.map_append,e,evTo_k4 p p.length (Nat.le_refl _)]
theorem evLen_drop (p:List (List Ins)):(evAll (dropP p)).length=(evAll p).length:=by
 have:=congrArg List.length (evAll_k4 p)
 simpa using this
theorem k4_get (p:List (List Ins)) (i:Nat):((evAll (dropP p))[i]? = none∧(evAll p)[i]? = none)∨∃ e f,(evAll (dropP p))[i]? = some e∧(evAll p)[i]? = some f∧e.t=f.t∧e.r=f.r∧e.w=f.w∧e.l=f.l:=by
 have h1:=congrArg (·[i]?) (evAll_k4 p)
 simp only [List.getElem?_map] at h1
 cases h2:(evAll (dropP p))[i]? with
 | none =>
  rw [h2] at h1
  cases h3:(evAll p)[i]? with
  | none=>exact .inl ⟨rfl,rfl⟩
  | some f=>rw [h3] at h1;simp at h1
 | some e =>
  rw [h2] at h1
  cases h3:(evAll p)[i]? with
  | none=>rw [h3] at h1;simp at h1
  | some f =>
   rw [h3] at h1
   simp only [Option.map_some,Option.some.injEq,evK4,Prod.mk.injEq] at h1
   exact .inr ⟨e,f,rfl,rfl,h1⟩
theorem conf_drop (p:List (List Ins)):confB (evAll (dropP p))=confB (evAll p):=by
 funext i k
 unfold confB
 rcases k4_get p i with ⟨h1,h2⟩ | ⟨e,f,h1,h2,h3,h4,h5,h6⟩ <;> rcases k4_get p k with ⟨g1,g2⟩ | ⟨e',f',g1,g2,g3,g4,g5,g6⟩
 ·rw [h1,h2]
 ·rw [h1,h2]
 ·rw [h1,h2,g1,g2]
 ·rw [h1,h2,g1,g2]
  simp only
  rw [h3,h5,h6,g3,g5,g6]
theorem po_place (p:List (List Ins)) {i k:Nat} {a b:Ev} (hi:(evAll p)[i]? = some a) (hk:(evAll p)[k]? = some b):poB (evAll p) i k=(decide (0≤a.t)&&((a.t==b.t)&&decide (i < k))):=by
 rw [poB_eq hi hk]
 by_cases e:a.t=b.t
 ·have:decide (a.i < b.i)=decide (i < k):=by
   rcases Nat.lt_trichotomy i k with q | q | q
   ·have:=ev_lex hi hk q
    unfold lexE at this
    rw [decide_eq_true q,decide_eq_true (by omega)]
   ·subst q
    rw [hi,Option.some.injEq] at hk
    subst hk
    simp
   ·have:=ev_lex hk hi q
    unfold lexE at this
    rw [decide_eq_false (by omega:¬ i < k),decide_eq_false (by omega)]
  rw [this]
 ·have:(a.t==b.t)=false:=by simp [e]
  rw [this];simp
theorem po_drop (p:List (List Ins)):poB (evAll (dropP p))=poB (evAll p):=by
 funext i k
 rcases k4_get p i with ⟨h1,h2⟩ | ⟨e,f,h1,h2,h3,h4,h5,h6⟩ <;> rcases k4_get p k with ⟨g1,g2⟩ | ⟨e',f',g1,g2,g3,g4,g5,g6⟩
 ·unfold poB;rw [h1,h2]
 ·unfold poB;rw [h1,h2]
 ·unfold poB;rw [h1,h2,g1,g2]
 ·rw [po_place _ h1 g1,po_place _ h2 g2,h3,g3]
theorem delF_drop (p:List (List Ins)):delF (evAll (dropP p)).length (confB (evAll (dropP p))) (poB (evAll (dropP p)))=delF (evAll p).length (confB (evAll p)) (poB (evAll p)):=by
 rw [evLen_drop,conf_drop,po_drop]
theorem none_sep {p:List (List Ins)} (h:∀ a b,a < (evAll p).length→b < (evAll p).length→delF (evAll p).length (confB (evAll p)) (poB (evAll p)) a b=false) {t i k:Nat} (hd:Delayed p t i k):Sep p t i k:=by
 obtain ⟨a,b,ha,hb,hf⟩:=hd.told
 rw [h a b ha.lt hb.lt] at hf
 cases hf
end Go.Proofs.YtlddmagfbcomgaaGreat
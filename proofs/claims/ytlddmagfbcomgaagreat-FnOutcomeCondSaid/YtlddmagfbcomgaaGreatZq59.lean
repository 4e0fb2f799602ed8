/-
  Plain: the condition of an outcome of a machine with buffers holds for this outcome only. No condition.
-/
import Derived.Test.YtlddmagfbcomgaaGreatZq11
import Derived.Test.YtlddmagfbcomgaaGreatZq56
import Derived.Test.YtlddmagfbcomgaaGreatZq53
set_option maxHeartbeats 6400000
set_option maxRecDepth 100000
namespace Go.Proofs.YtlddmagfbcomgaaGreat
def leafT (N:Nat) (os:List Int) (u:Cs):Prop:=(if u.op=1 then (if u.th < (N:Int) then os.getD (3 * u.th+u.pl).toNat 0 else 0) else os.getD (3 * (N:Int)+u.pl).toNat 0)=u.val
theorem leaf_holds {d N:Nat} {os:List Int} {u:Cs} (hu:u.op=1∨u.op=2) (hs:shapeF d (leafC u)=true):holdsF d N os (leafC u)=true↔leafT N os u:=by
 cases d with
 | zero=>simp [shapeF] at hs
 | succ d =>
  unfold holdsF leafT
  rw [show (leafC u).op=u.op from rfl,show (leafC u).th=u.th from rfl,show (leafC u).pl=u.pl from rfl,show (leafC u).val=u.val from rfl]
  rcases hu with h | h
  ·rw [if_pos h,if_pos h]
   exact beq_iff_eq
  ·have h1:¬ u.op=1:=by omega
   rw [if_neg h1,if_pos h,if_neg h1]
   exact beq_iff_eq
theorem and_holds {N:Nat} {os:List Int}:∀ (us:List Cs) (d:Nat),us≠[]→(∀ u∈us,u.op=1∨u.op=2)→shapeF d (andL us)=true→(holdsF d N os (andL us)=true↔∀ u∈us,leafT N os u):=by
 intro us
 induction us with
 | nil=>intro d h;exact absurd rfl h
 | cons x us ih =>
  intro d _ hu hs
  cases us with
  | nil =>
   rw [show andL [x]=leafC x from rfl] at hs ⊢
   rw [leaf_holds (hu x (by simp)) hs]
   simp
  | cons y us =>
   rw [andL_two] at hs ⊢
   cases d with
   | zero=>simp [shapeF] at hs
   | succ d =>
    obtain ⟨-,hk⟩:=(shapeF_succ d _).1 hs
    have h1:shapeF d (leafC x)=true:=hk _ (by simp [Cd.kids])
    have h2:shapeF d (andL (y :: us))=true:=hk _ (by simp [Cd.kids])
    have e:holdsF (d+1) N os (.mk 3 0 0 0 [leafC x,andL (y :: us)])=(holdsF d N os (leafC x)&&holdsF d N os (andL (y :: us))):=by
     rw [holdsF]
     rfl
    rw [e,Bool.and_eq_true,leaf_holds (hu x (by simp)) h1,ih d (by simp) (fun u h=>hu u (List.mem_cons_of_mem _ h)) h2]
    simp [List.mem_cons]
theorem said_ops {p:List (List Ins)} {o:List Int}:∀ u∈saidL p o,u.op=1∨u.op=2:=by
 intro u hu
 unfold saidL at hu
 rcases List.mem_append.1 hu with h | h
 ·unfold sayTo at h
  rw [List.mem_flatMap] at h
  obtain ⟨t, -,h⟩:=h
  cases hr:p[t]? with
  | none=>rw [hr] at h;simp at h
  | some r =>
   rw [hr] at h
   simp only [sayR,List.mem_flatMap] at h
   obtain ⟨g, -,h⟩:=h
   split at h
   ·simp at h;rw [h];exact .inl rfl
   ·simp at h
 ·simp only [sayM,List.mem_flatMap] at h
  obtain ⟨g, -,h⟩:=h
  split at h
  ·simp at h;rw [h];exact .inr rfl
  ·simp at h
def SaidEq (p:List (List Ins)) (o o':List Int):Prop:=(∀ (t g:Nat) (r:List Ins),p[t]? = some r→g < 3→readsR r g=true→o'.getD (3 * t+g) 0=o.getD (3 * t+g) 0)∧∀ l:Nat,l < 3→writesP p l=true→o'.getD (3 * p.length+l) 0=o.getD (3 * p.length+l) 0
theorem said_eq (p:List (List Ins)) (o o':List Int):(∀ u∈saidL p o,leafT p.length o' u)↔SaidEq p o o':=by
 have eR:∀ (t g:Nat),t < p.length→(leafT p.length o' (leafR t g ((o[3 * t+g]?).getD 0))↔o'.getD (3 * t+g) 0=o.getD (3 * t+g) 0):=fun t g ht=>by
  unfold leafT leafR
  simp only [if_true]
  rw [if_pos (by omega),show (3 * (t:Int)+(g:Int)).toNat=3 * t+g by omega]
  simp only [List.getD_eq_getElem?_getD]
 have eM:∀ l:Nat,(leafT p.length o' (leafM l ((o[3 * p.length+l]?).getD 0))↔o'.getD (3 * p.length+l) 0=o.getD (3 * p.length+l) 0):=fun l=>by
  unfold leafT leafM
  simp only
  rw [if_neg (by decide),show (3 * (p.length:Int)+(l:Int)).toNat=3 * p.length+l by omega]
  simp only [List.getD_eq_getElem?_getD]
 constructor
 ·intro h
  refine ⟨fun t g r hr hg hrd => ?_,fun l hl hw => ?_⟩
  ·have ht:=(List.getElem?_eq_some_iff.1 hr).1
   refine (eR t g ht).1 (h _ ?_)
   unfold saidL sayTo
   refine List.mem_append.2 (.inl (List.mem_flatMap.2 ⟨t,List.mem_range.2 ht, ?_⟩))
   rw [hr]
   simp only [sayR]
   refine List.mem_flatMap.2 ⟨g,List.mem_range.2 hg, ?_⟩
   rw [if_pos hrd];simp
  ·refine (eM l).1 (h _ ?_)
   unfold saidL sayM
   refine List.mem_append.2 (.inr (List.mem_flatMap.2 ⟨l,List.mem_range.2 hl, ?_⟩))
   rw [if_pos hw];simp
 ·rintro ⟨h1,h2⟩ u hu
  unfold saidL at hu
  rcases List.mem_append.1 hu with h | h
  ·unfold sayTo at h
   rw [List.mem_flatMap] at h
   obtain ⟨t,ht,h⟩:=h
   cases hr:p[t]? with
   | none=>rw [hr] at h;simp at h
   | some r =>
    rw [hr] at h
    simp only [sayR,List.mem_flatMap] at h
    obtain ⟨g,hg,h⟩:=h
    split at h
    ·rename_i hrd
     simp at h
     rw [h]
     have:=(eR t g (List.mem_range.1 ht)).2 (h1 t g r hr (List.mem_range.1 hg) hrd)
     simpa using this
    ·simp at h
  ·simp only [sayM,List.mem_flatMap] at h
   obtain ⟨l,hl,h⟩:=h
   split at h
   ·rename_i hw
    simp at h
    rw [h]
    have:=(eM l).2 (h2 l (List.mem_range.1 hl) hw)
    simpa using this
   ·simp at h
structure Unsaid (p:List (List Ins)) (s:Bf):Prop where
 rg:∀ (t g:Nat) (r:List Ins),p[t]? = some r→g < 3→readsR r g=false→s.q.rg.getD (t * 3+g) 0=0
 mm:∀ l:Nat,writesP p l=false→s.q.mm.getD l 0=0
 bf:∀ b∈s.bf,∀ e∈b,writesP p e.1=true
theorem reads_of {r:List Ins} {k:Nat} {x:Ins} (hx:r[k]? = some x) (h:isRop x.op=true):readsR r x.reg=true:=by
 unfold readsR
 rw [List.any_eq_true]
 exact ⟨x,List.mem_of_getElem? hx,by simp [h]⟩
theorem writes_of {p:List (List Ins)} {t k:Nat} {r:List Ins} {x:Ins} (hr:p[t]? = some r) (hx:r[k]? = some x) (h:isWop x.op=true):writesP p x.loc=true:=by
 unfold writesP
 rw [List.any_eq_true]
 refine ⟨r,List.mem_of_getElem? hr, ?_⟩
 rw [List.any_eq_true]
 exact ⟨x,List.mem_of_getElem? hx,by simp [h]⟩
theorem Unsaid.reach {p:List (List Ins)} {split:Bool} {s:Bf} (hp:∀ r∈p,∀ x∈r,insValid x=true) (h:ReachM (bfStart p split) (bfNext p split) s):Unsaid p s:=by
 have z:∀ n k,(List.replicate n (0:Int)).getD k 0=0:=fun n k=>by
  rw [List.getD_eq_getElem?_getD,List.getElem?_replicate]
  split <;> rfl
 induction h with
 | start =>
  refine ⟨fun t g r _ _ _=>z _ _,fun l _=>z _ _,fun b hb e he => ?_⟩
  simp only [bfStart] at hb
  rw [List.eq_of_mem_replicate hb] at he
  simp at he
 | step hs ht ih =>
  rename_i s s' m
  have ho:=BfOk.reach hp hs
  by_cases hm:m < p.length
  ·obtain ⟨r,k,x,hr,hk,hx,hd⟩:=bfNext_thread ht hm
   have hv:=ins_facts (hp r (List.mem_of_getElem? hr) x (List.mem_of_getElem? hx))
   have rgS:∀ v,isRop x.op=true→∀ (t g:Nat) (r':List Ins),p[t]? = some r'→g < 3→readsR r' g=false→(s.q.rg.set (m * 3+x.reg.toNat) v).getD (t * 3+g) 0=0:=fun v hop t g r' hr' hg hn=>by
    rw [getD_set_other (fun e => ?_)]
    ·exact ih.rg t g r' hr' hg hn
    ·have e1:m=t:=by omega
     subst e1
     rw [hr,Option.some.injEq] at hr'
     subst hr'
     have h1:=reads_of hx hop
     rw [show x.reg=(g:Int) by omega,hn] at h1
     cases h1
   have mmS:∀ v,isWop x.op=true→∀ l:Nat,writesP p l=false→(s.q.mm.set x.loc.toNat v).getD l 0=0:=fun v hop l hn=>by
    rw [getD_set_other (fun e => ?_)]
    ·exact ih.mm l hn
    ·have h1:=writes_of hr hx hop
     have h4:x.op≠4:=fun q=>by rw [q] at hop;cases hop
     have:=hv.2.1 h4
     rw [show x.loc=(l:Int) by omega,hn] at h1
     cases h1
   unfold bfDo at hd
   split at hd
   ·split at hd
    ·simp only [Option.some.injEq] at hd
     subst hd
     refine ⟨fun t g r' hr' hg hn => ?_,fun l hn => ?_,ih.bf⟩
     ·simp only [sqDo]
      split
      ·rename_i hop;exact rgS _ hop t g r' hr' hg hn
      ·exact ih.rg t g r' hr' hg hn
     ·simp only [sqDo]
      split
      ·rename_i hop;exact mmS _ hop l hn
      ·exact ih.mm l hn
    ·cases hd
   ·rename_i h45
    split at hd
    ·rename_i h1
     simp only [Option.some.injEq] at hd
     subst hd
     exact ⟨rgS _ (by rw [h1];rfl),ih.mm,ih.bf⟩
    ·rename_i h1
     simp only [Option.some.injEq] at hd
     subst hd
     refine ⟨ih.rg,ih.mm,fun b hb e he => ?_⟩
     have hop:isWop x.op=true:=by
      have h23:x.op=2∨x.op=3:=by omega
      rcases h23 with q | q <;> (rw [q];rfl)
     rcases List.mem_or_eq_of_mem_set hb with q | q
     ·exact ih.bf b q e he
     ·rw [q] at he
      rcases List.mem_append.1 he with g | g
      ·rw [List.getD_eq_getElem?_getD] at g
       cases hb2:s.bf[bfPlace m x.loc split]? with
       | none=>rw [hb2] at g;simp at g
       | some b2=>rw [hb2] at g;exact ih.bf b2 (List.mem_of_getElem? hb2) e g
      ·simp only [List.mem_singleton] at g
       subst g
       exact writes_of hr hx hop
  ·obtain ⟨l,v,rest,hb,rfl⟩:=bfNext_flush ht hm
   have hw:=ih.bf _ (List.mem_of_getElem? hb) (l,v) (by simp)
   have hl:=ho.en _ (List.mem_of_getElem? hb) (l,v) (by simp)
   unfold entOk at hl
   simp only at hw hl
   refine ⟨ih.rg,fun l' hn => ?_,fun b hb' e he => ?_⟩
   ·simp only
    rw [getD_set_other (fun q => ?_)]
    ·exact ih.mm l' hn
    ·rw [show l=(l':Int) by omega,hn] at hw
     cases hw
   ·rcases List.mem_or_eq_of_mem_set hb' with q | q
    ·exact ih.bf b q e he
    ·rw [q] at he
     exact ih.bf _ (List.mem_of_getElem? hb) e (by simp [he])
theorem out_get {p:List (List Ins)} {split:Bool} {s:Bf} (ho:BfOk p split s):(∀ t g:Nat,t < p.length→g < 3→(bfOut s).getD (3 * t+g) 0=s.q.rg.getD (t * 3+g) 0)∧∀ l:Nat,(bfOut s).getD (3 * p.length+l) 0=s.q.mm.getD l 0:=by
 have hl:=ho.q.lr
 unfold bfOut sqOut
 refine ⟨fun t g ht hg => ?_,fun l => ?_⟩
 ·rw [List.getD_eq_getElem?_getD,List.getElem?_append_left (by omega),List.getD_eq_getElem?_getD,show 3 * t+g=t * 3+g by omega]
 ·rw [List.getD_eq_getElem?_getD,List.getElem?_append_right (by omega),List.getD_eq_getElem?_getD,show 3 * p.length+l - s.q.rg.length=l by omega]
theorem said_same {p:List (List Ins)} {split split':Bool} {s s':Bf} (hp:∀ r∈p,∀ x∈r,insValid x=true) (h:ReachM (bfStart p split) (bfNext p split) s) (h':ReachM (bfStart p split') (bfNext p split') s') (he:SaidEq p (bfOut s) (bfOut s')):bfOut s'=bfOut s:=by
 have ho:=BfOk.reach hp h
 have ho':=BfOk.reach hp h'
 have u:=Unsaid.reach hp h
 have u':=Unsaid.reach hp h'
 obtain ⟨g1,g2⟩:=out_get ho
 obtain ⟨k1,k2⟩:=out_get ho'
 have hlen:∀ {split s},BfOk p split s→(bfOut s).length=3 * p.length+3:=fun h=>by
  unfold bfOut sqOut
  rw [List.length_append,h.q.lr,h.q.lm];omega
 have l1:=hlen ho
 have l2:=hlen ho'
 apply List.ext_getElem?
 intro i
 have key:i < 3 * p.length+3→(bfOut s').getD i 0=(bfOut s).getD i 0:=fun hi=>by
  rcases Nat.lt_or_ge i (3 * p.length) with q | q
  ·have e:i=3 * (i / 3)+i % 3:=by omega
   have ht:i / 3 < p.length:=by omega
   obtain ⟨r,hr⟩:=get_of_lt (xs:=p) (k:=i / 3) ht
   rw [e]
   cases hrd:readsR r ((i % 3:Nat):Int) with
   | true=>exact he.1 _ _ r hr (by omega) hrd
   | false=>rw [g1 _ _ ht (by omega),k1 _ _ ht (by omega),u.rg _ _ r hr (by omega) hrd,u'.rg _ _ r hr (by omega) hrd]
  ·have e:i=3 * p.length+(i - 3 * p.length):=by omega
   rw [e]
   cases hw:writesP p ((i - 3 * p.length:Nat):Int) with
   | true=>exact he.2 _ (by omega) hw
   | false=>rw [g2,k2,u.mm _ hw,u'.mm _ hw]
 rcases Nat.lt_or_ge i (3 * p.length+3) with q | q
 ·have:=key q
  rw [List.getD_eq_getElem?_getD,List.getD_eq_getElem?_getD,List.getElem?_eq_getElem (by omega),List.getElem?_eq_getElem (by omega)] at this
  rw [List.getElem?_eq_getElem (by omega),List.getElem?_eq_getElem (by omega)]
  simpa using this
 ·rw [List.getElem?_eq_none (by omega),List.getElem?_eq_none (by omega)]
theorem outC_iff {p:List (List Ins)} {o o':List Int} (h:(outC p o).2=true) (hv:outValid p o'=true):condHolds p o' (outC p o).1=true↔SaidEq p o o':=by
 unfold outC at h ⊢
 split at h
 ·rename_i hc
  rw [if_pos hc]
  obtain ⟨-,hne,hvc⟩:=hc
  unfold condHolds
  rw [hv,hvc,Bool.true_and,Bool.true_and]
  unfold validC at hvc
  rw [Bool.and_eq_true] at hvc
  rw [and_holds _ 10 hne said_ops hvc.1,said_eq]
 ·cases h
theorem outC_self {p:List (List Ins)} {o:List Int} (h:(outC p o).2=true):condHolds p o (outC p o).1=true∧validC (outC p o).1=true:=by
 have hc:outValid p o=true∧saidL p o≠[]∧validC (andL (saidL p o))=true:=by
  unfold outC at h
  split at h
  ·assumption
  ·cases h
 refine ⟨(outC_iff h hc.1).2 ⟨fun _ _ _ _ _ _=>rfl,fun _ _ _=>rfl⟩, ?_⟩
 unfold outC
 rw [if_pos hc]
 exact hc.2.2
end Go.Proofs.YtlddmagfbcomgaaGreat
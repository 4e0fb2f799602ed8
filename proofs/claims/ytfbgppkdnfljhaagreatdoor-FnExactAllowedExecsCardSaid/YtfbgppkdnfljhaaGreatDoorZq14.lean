/-
  pairsOf: the relation of those pairs for which a function value holds. Condition: few elements.
-/
import Derived.Test.YtfbgppkdnfljhaaGreatDoorZq08
import Derived.Test.YtfbgppkdnfljhaaGreatDoorZq06
set_option maxHeartbeats 6400000
set_option maxRecDepth 100000
namespace Go.Proofs.YtfbgppkdnfljhaaGreatDoor
def chain (d:Nat→Int ⊕ Nat):Nat→Nat→Option Int
 | 0,_=>none
 | k+1,i=>match d i with
  | .inl v=>some v
  | .inr j=>chain d k j
theorem chain_inl {d:Nat→Int ⊕ Nat} {i:Nat} {v:Int} (h:d i = .inl v) (k:Nat):chain d (k+1) i=some v:=by simp [chain,h]
theorem chain_inr {d:Nat→Int ⊕ Nat} {i j:Nat} (h:d i = .inr j) (k:Nat):chain d (k+1) i=chain d k j:=by simp [chain,h]
theorem chain_mono1 {d:Nat→Int ⊕ Nat}:∀ {k i:Nat} {v:Int},chain d k i=some v→chain d (k+1) i=some v:=by
 intro k
 induction k with
 | zero=>intro i v h;simp [chain] at h
 | succ k ih =>
  intro i v h
  rcases hd:d i with a | j
  ·rw [chain_inl hd] at h ⊢;exact h
  ·rw [chain_inr hd] at h ⊢;exact ih h
theorem chain_mono {d:Nat→Int ⊕ Nat} {k k' i:Nat} {v:Int} (h:chain d k i=some v) (hk:k≤k'):chain d k' i=some v:=by
 obtain ⟨m,rfl⟩:=Nat.exists_eq_add_of_le hk
 clear hk
 induction m with
 | zero=>exact h
 | succ m ih=>exact chain_mono1 ih
inductive Reach (d:Nat→Int ⊕ Nat):Nat→Nat→Nat→Prop
 | zero (i:Nat):Reach d 0 i i
 | step {i j m k:Nat} (h:d i = .inr j) (hr:Reach d m j k):Reach d (m+1) i k
theorem Reach.snoc {d:Nat→Int ⊕ Nat} {m i j k:Nat} (h:Reach d m i j) (hd:d j = .inr k):Reach d (m+1) i k:=by
 induction h with
 | zero i=>exact .step hd (.zero k)
 | step h _ ih=>exact .step h (ih hd)
theorem chain_reach {d:Nat→Int ⊕ Nat} {m i j:Nat} (h:Reach d m i j) (k:Nat):chain d (k+m) i=chain d k j:=by
 induction h with
 | zero i=>rfl
 | step h _ ih=>rw [← ih,← Nat.add_assoc,chain_inr h]
theorem chain_none {d : Nat → Int ⊕ Nat} {m i j : Nat} (h : Reach d m i j) : ∀ k, k ≤ m → chain d k i = none := by
  induction h with
  | zero i => intro k hk; obtain rfl : k = 0 := by omega
              rfl
  | step h _ ih =>
    intro k hk
    cases k with
    | zero => rfl
    | succ k => rw [chain_inr h]; exact ih k (by omega)
theorem chain_cyc {d:Nat→Int ⊕ Nat} {m i:Nat} (h:Reach d (m+1) i i):∀ k,chain d k i=none:=by
 intro k
 induction k using Nat.strongRecOn with
 | _ k ih =>
  by_cases hk:k≤m+1
  ·exact chain_none h k hk
  ·have:=chain_reach h (k - (m+1))
   rw [show k - (m+1)+(m+1)=k by omega] at this
   rw [this]
   exact ih _ (by omega)
def nodesV (d:Nat→Int ⊕ Nat):Nat→Nat→List Nat
 | 0,_=>[]
 | k+1,i=>i :: match d i with
  | .inl _=>[]
  | .inr j=>nodesV d k j
theorem mem_nodes {d:Nat→Int ⊕ Nat} {x:Nat}:∀ {k i:Nat},x∈nodesV d k i→∃ m,Reach d m i x:=by
 intro k
 induction k with
 | zero=>intro i h;simp [nodesV] at h
 | succ k ih =>
  intro i h
  rcases hd:d i with a | j
  ·simp [nodesV,hd] at h;subst h;exact ⟨0, .zero _⟩
  ·simp [nodesV,hd] at h
   rcases h with rfl | h
   ·exact ⟨0, .zero _⟩
   ·obtain ⟨m,hm⟩:=ih h;exact ⟨m+1, .step hd hm⟩
theorem nodes_nodup {d:Nat→Int ⊕ Nat}:∀ {k i:Nat} {v:Int},chain d k i=some v→(nodesV d k i).Nodup:=by
 intro k
 induction k with
 | zero=>intro i v h;simp [chain] at h
 | succ k ih =>
  intro i v h
  rcases hd:d i with a | j
  ·simp [nodesV,hd]
  ·have h2:=h
   rw [chain_inr hd] at h2
   simp only [nodesV,hd,List.nodup_cons]
   refine ⟨fun hm => ?_,ih h2⟩
   obtain ⟨m,hm⟩:=mem_nodes hm
   rw [chain_cyc (.step hd hm)] at h;cases h
theorem chain_nodes {d:Nat→Int ⊕ Nat}:∀ {k i:Nat} {v:Int},chain d k i=some v→chain d (nodesV d k i).length i=some v:=by
 intro k
 induction k with
 | zero=>intro i v h;simp [chain] at h
 | succ k ih =>
  intro i v h
  rcases hd:d i with a | j
  ·rw [chain_inl hd] at h
   simp only [nodesV,hd,List.length_cons]
   rw [chain_inl hd];exact h
  ·rw [chain_inr hd] at h
   simp only [nodesV,hd,List.length_cons]
   rw [chain_inr hd];exact ih h
theorem nodes_lt {d:Nat→Int ⊕ Nat} {n:Nat} (hn:∀ i j,i < n→d i = .inr j→j < n):∀ {k i:Nat},i < n→∀ x∈nodesV d k i,x < n:=by
 intro k
 induction k with
 | zero=>intro i _ x h;simp [nodesV] at h
 | succ k ih =>
  intro i hi x h
  rcases hd:d i with a | j
  ·simp [nodesV,hd] at h;omega
  ·simp [nodesV,hd] at h
   rcases h with rfl | h
   ·exact hi
   ·exact ih (hn i j hi hd) x h
theorem nodup_lt:∀ (n:Nat) (xs:List Nat),xs.Nodup→(∀ x∈xs,x < n)→xs.length≤n:=by
 intro n
 induction n with
 | zero=>intro xs _ h;cases xs with
  | nil=>simp
  | cons x xs=>exact absurd (h x (by simp)) (by omega)
 | succ n ih =>
  intro xs hn h
  have h1:=ih (xs.erase n) (hn.erase n) (fun x hx=>by
   have h2:=h x (List.mem_of_mem_erase hx)
   have h3:x≠n:=fun e=>by subst e;exact hn.not_mem_erase hx
   omega)
  have h2:xs.length≤(xs.erase n).length+1:=by
   by_cases hm:n∈xs
   ·rw [List.length_erase_of_mem hm];omega
   ·rw [List.erase_of_not_mem hm];omega
  omega
theorem chain_stable {d:Nat→Int ⊕ Nat} {n:Nat} (hn:∀ i j,i < n→d i = .inr j→j < n) {k i:Nat} {v:Int} (hi:i < n) (h:chain d k i=some v):chain d n i=some v:=
 chain_mono (chain_nodes h) (nodup_lt n _ (nodes_nodup h) (nodes_lt hn hi))
theorem chain_next {d:Nat→Int ⊕ Nat} {n:Nat} (hn:∀ i j,i < n→d i = .inr j→j < n) {i j:Nat} (hi:i < n) (hd:d i = .inr j):chain d n i=chain d n j:=by
 have hj:=hn i j hi hd
 cases h:chain d n j with
 | some v=>exact chain_stable hn hi (k:=n+1) (by rw [chain_inr hd];exact h)
 | none =>
  cases h2:chain d n i with
  | none=>rfl
  | some v =>
   have h3:=chain_mono1 h2
   rw [chain_inr hd,h] at h3;cases h3
theorem chain_end {d:Nat→Int ⊕ Nat} {n i:Nat} {v:Int} (hi:i < n) (hd:d i = .inl v):chain d n i=some v:=by
 obtain ⟨m,rfl⟩:∃ m,n=m+1:=⟨n - 1,by omega⟩
 exact chain_inl hd m
end Go.Proofs.YtfbgppkdnfljhaaGreatDoor
namespace Go.Proofs.YtfbgppkdnfljhaaGreatDoor
def insE (p:List (List Ins)) (e:Ev):Ins:=((p[e.t.toNat]?).bind fun r=>r[e.i.toNat]?).getD ⟨0,0,0,0⟩
def hitR (p:List (List Ins)) (t idx reg:Int) (e:Ev):Bool:=(e.t==t)&&(decide (e.i < idx)&&(e.r&&((insE p e).reg==reg)))
def lastTo (p:List (List Ins)) (es:List Ev) (t idx reg:Int) (k:Nat):Int:=(List.range k).foldl (fun (a:Int) (i:Nat)=>match es[i]? with
 | some e=>if hitR p t idx reg e=true then (i:Int) else a
 | none=>a) (-1)
def lastRd (p:List (List Ins)) (es:List Ev) (t idx reg:Int):Int:=lastTo p es t idx reg es.length
theorem lastTo_succ (p:List (List Ins)) {es:List Ev} (t idx reg:Int) {k:Nat} {e:Ev} (h:es[k]? = some e) :
 lastTo p es t idx reg (k+1)=if hitR p t idx reg e=true then (k:Int) else lastTo p es t idx reg k:=by
 unfold lastTo
 rw [List.range_succ,List.foldl_append]
 simp [h]
theorem lastTo_cases (p:List (List Ins)) (es:List Ev) (t idx reg:Int):∀ k,k≤es.length→lastTo p es t idx reg k = -1∨∃ (i:Nat) (e:Ev),lastTo p es t idx reg k=i∧i < k∧es[i]? = some e∧hitR p t idx reg e=true:=by
 intro k
 induction k with
 | zero=>intro _;exact .inl rfl
 | succ k ih =>
  intro hk
  obtain ⟨e,he⟩:=get_of_lt (xs:=es) (k:=k) hk
  rw [lastTo_succ p t idx reg he]
  by_cases hh:hitR p t idx reg e=true
  ·rw [if_pos hh];exact .inr ⟨k,e,rfl,by omega,he,hh⟩
  ·rw [if_neg hh]
   rcases ih (by omega) with h | ⟨i,e',h1,h2,h3⟩
   ·exact .inl h
   ·exact .inr ⟨i,e',h1,by omega,h3⟩
def depV (p:List (List Ins)) (es:List Ev) (fr:List Int) (i:Nat):Int ⊕ Nat:=
 match es[i]? with
 | none => .inl 0
 | some e=>if e.t < 0 then .inl 0 else if (insE p e).op=3 then (if lastRd p es e.t e.i (insE p e).reg < 0 then .inl 0 else .inr ((fr[(lastRd p es e.t e.i (insE p e).reg).toNat]?).getD 0).toNat) else .inl (insE p e).val
theorem insE_of {p:List (List Ins)} {e:Ev} {t i:Nat} {r:List Ins} {x:Ins} (h1:p[t]? = some r) (h2:r[i]? = some x) (ht:e.t=t) (hi:e.i=i):insE p e=x:=by
 unfold insE
 rw [ht,hi];simp [h1,h2]
theorem ev_cases {p:List (List Ins)} {k:Nat} {e:Ev} (h:(evAll p)[k]? = some e):(e.t = -1)∨∃ (t i:Nat) (r:List Ins),e.t=t∧e.i=i∧p[t]? = some r∧r[i]? = some (insE p e)∧e.r=isRop (insE p e).op∧e.w=isWop (insE p e).op∧e.l=(insE p e).loc:=by
 rcases mem_evAll (List.mem_of_getElem? h) with h | ⟨t,i,r,x,h1,h2,h3, -⟩
 ·exact .inl h
 ·have e1:insE p e=x:=insE_of h1 h2 (by rw [h3]) (by rw [h3])
  exact .inr ⟨t,i,r,by rw [h3],by rw [h3],h1,by rw [e1];exact h2,by rw [e1,h3],by rw [e1,h3],by rw [e1,h3]⟩
theorem insValid_val {x:Ins} (h:insValid x=true):0≤x.val∧x.val≤3:=by
 unfold insValid inB at h
 split at h
 ·simp at h;omega
 ·split at h
  ·simp at h;omega
  ·split at h
   ·simp at h;omega
   ·split at h
    ·simp at h;omega
    ·cases h
theorem dep_val {p:List (List Ins)} {fr:List Int} (hp:progValid p=true) {i:Nat} {v:Int} (h:depV p (evAll p) fr i = .inl v):0≤v∧v≤3:=by
 unfold depV at h
 split at h
 ·simp at h;omega
 ·rename_i e he
  split at h
  ·simp at h;omega
  ·split at h
   ·split at h
    ·simp at h;omega
    ·simp at h
   ·simp at h;subst h
    rename_i h0 _
    rcases ev_cases he with h1 | ⟨t,k,r, -, -,h1,h2, -⟩
    ·omega
    ·exact insValid_val (((valid_le hp).2.2.1 r (List.mem_of_getElem? h1)).2 _ (List.mem_of_getElem? h2))
theorem from_write {es:List Ev} {fr:List Int} {k:Nat} (h:fromsOk es fr es.length=true) {e:Ev} (he:es[k]? = some e) (hr:e.r=true):∃ (j:Nat) (e':Ev),fr[k]? = some (j:Int)∧es[j]? = some e'∧e'.w=true∧e'.l=e.l∧j≠k:=by
 obtain ⟨e2,f,h1,h2,h3⟩:=fromsOk_get h (List.getElem?_eq_some_iff.1 he).1
 rw [he] at h1;simp at h1;subst h1
 unfold fromOk at h3
 rw [if_pos hr] at h3
 simp at h3
 obtain ⟨i,e',h4,h5,h6,h7,h8⟩:=mem_wrL.1 h3.2
 subst h5
 exact ⟨i,e',h2,h6,h7,h8,fun e=>h3.1 (by rw [e])⟩
theorem dep_inr {p:List (List Ins)} {es:List Ev} {fr:List Int} (h:fromsOk es fr es.length=true) {i j:Nat} (hd:depV p es fr i = .inr j):∃ e',es[j]? = some e'∧e'.w=true:=by
 unfold depV at hd
 split at hd
 ·cases hd
 ·rename_i e he
  split at hd
  ·cases hd
  ·split at hd
   ·split at hd
    ·cases hd
    ·rename_i h1 h2 h3
     rcases lastTo_cases p es e.t e.i (insE p e).reg es.length (Nat.le_refl _) with h4 | ⟨r,e2,h4,h5,h6,h7⟩
     ·exfalso;exact h3 (by unfold lastRd;omega)
     ·have h4':lastRd p es e.t e.i (insE p e).reg=r:=h4
      rw [h4'] at hd
      have hrr:e2.r=true:=by unfold hitR at h7;simp at h7;exact h7.2.2.1
      obtain ⟨j2,e',h8,h9,h10, -⟩:=from_write h h6 hrr
      simp [h8] at hd
      subst hd
      exact ⟨e',h9,h10⟩
   ·cases hd
theorem dep_lt {p:List (List Ins)} {es:List Ev} {fr:List Int} (h:fromsOk es fr es.length=true) (i j:Nat) (_:i < es.length) (hd:depV p es fr i = .inr j):j < es.length:=by
 obtain ⟨e',h1, -⟩:=dep_inr h hd
 exact (List.getElem?_eq_some_iff.1 h1).1
theorem chain_val {d:Nat→Int ⊕ Nat} (hd:∀ i v,d i = .inl v→0≤v∧v≤3):∀ {k i:Nat} {v:Int},chain d k i=some v→0≤v∧v≤3:=by
 intro k
 induction k with
 | zero=>intro i v h;simp [chain] at h
 | succ k ih =>
  intro i v h
  rcases he:d i with a | j
  ·rw [chain_inl he] at h;simp at h;subst h;exact hd i _ he
  ·rw [chain_inr he] at h;exact ih h
def val1 (c:Nat→Option Int) (i:Nat) (e:Ev):Int:=if e.w=true then (c i).getD (-1) else -1
def valTo (es:List Ev) (c:Nat→Option Int) (k:Nat):List Int:=(List.range k).flatMap fun i=>match es[i]? with
 | some e=>[val1 c i e]
 | none=>[]
def okTo (es:List Ev) (c:Nat→Option Int) (k:Nat):Bool:=(List.range k).all fun i=>match es[i]? with
 | some e => !e.w||(c i).isSome
 | none=>true
theorem valTo_succ {es:List Ev} (c:Nat→Option Int) {k:Nat} {e:Ev} (h:es[k]? = some e):valTo es c (k+1)=valTo es c k++[val1 c k e]:=by
 unfold valTo
 rw [List.range_succ,List.flatMap_append]
 simp [h]
theorem okTo_succ {es:List Ev} (c:Nat→Option Int) {k:Nat} {e:Ev} (h:es[k]? = some e):okTo es c (k+1)=(okTo es c k&&(!e.w||(c k).isSome)):=by
 unfold okTo
 rw [List.range_succ,List.all_append]
 simp [h]
theorem okTo_no {es:List Ev} (c:Nat→Option Int) {k:Nat} {e:Ev} (h:es[k]? = some e) (hw:e.w=true) (hc:c k=none):okTo es c es.length=false:=by
 unfold okTo
 rw [List.all_eq_false]
 exact ⟨k,List.mem_range.2 (List.getElem?_eq_some_iff.1 h).1,by simp [h,hw,hc]⟩
theorem valTo_length (es:List Ev) (c:Nat→Option Int):∀ k,k≤es.length→(valTo es c k).length=k:=by
 intro k
 induction k with
 | zero=>intro _;rfl
 | succ k ih =>
  intro hk
  obtain ⟨e,he⟩:=get_of_lt (xs:=es) (k:=k) hk
  rw [valTo_succ c he,List.length_append,ih (by omega)];rfl
theorem valTo_get {es:List Ev} (c:Nat→Option Int) {i:Nat} {e:Ev}:∀ {k:Nat},i < k→k≤es.length→es[i]? = some e→(valTo es c k)[i]? = some (val1 c i e):=by
 intro k
 induction k with
 | zero=>intro h;omega
 | succ k ih =>
  intro hi hk he
  obtain ⟨e',he'⟩:=get_of_lt (xs:=es) (k:=k) hk
  rw [valTo_succ c he']
  by_cases e2:i=k
  ·subst e2
   rw [he] at he';simp at he';subst he'
   rw [List.getElem?_append_right (by rw [valTo_length es c i (by omega)];exact Nat.le_refl _),valTo_length es c i (by omega)];simp
  ·rw [List.getElem?_append_left (by rw [valTo_length es c k (by omega)];omega)]
   exact ih (by omega) (by omega) he
def cX (p:List (List Ins)) (fr:List Int):Nat→Option Int:=chain (depV p (evAll p) fr) (evAll p).length
def valsL (p:List (List Ins)) (fr:List Int):List Int:=valTo (evAll p) (cX p fr) (evAll p).length
def valsOk (p:List (List Ins)) (fr:List Int):Bool:=okTo (evAll p) (cX p fr) (evAll p).length
structure KInv (d:Nat→Int ⊕ Nat) (es:List Ev) (r i:Nat) (K:List Int):Prop where
 len:K.length=es.length
 at_:∀ (t:Nat) (e:Ev),es[t]? = some e→∃ v,K[t]? = some v∧(v = -1∨(e.w=true∧chain d es.length t=some v))∧(e.w=true→(chain d (if t < i then r+1 else r) t).isSome=true→v≠-1)
theorem KInv.start (d:Nat→Int ⊕ Nat) (es:List Ev):KInv d es 0 0 (List.replicate es.length (-1)):=by
 refine ⟨by simp,fun t e h=>⟨-1, ?_, .inl rfl,fun _ h2 => ?_⟩⟩
 ·rw [List.getElem?_replicate,if_pos (List.getElem?_eq_some_iff.1 h).1]
 ·simp [chain] at h2
theorem KInv.next {d:Nat→Int ⊕ Nat} {es:List Ev} {r i:Nat} {K:List Int} (h:KInv d es r i K) (hi:i=es.length):KInv d es (r+1) 0 K:=by
 refine ⟨h.len,fun t e he => ?_⟩
 obtain ⟨v,h1,h2,h3⟩:=h.at_ t e he
 refine ⟨v,h1,h2,fun hw hs=>h3 hw ?_⟩
 rw [if_pos (by rw [hi];exact (List.getElem?_eq_some_iff.1 he).1)]
 rw [if_neg (by omega)] at hs
 exact hs
theorem KInv.skip {d:Nat→Int ⊕ Nat} {es:List Ev} {r i:Nat} {K:List Int} (h:KInv d es r i K) {e:Ev} (he:es[i]? = some e) (hw:e.w=false):KInv d es r (i+1) K:=by
 refine ⟨h.len,fun t e2 he2 => ?_⟩
 obtain ⟨v,h1,h2,h3⟩:=h.at_ t e2 he2
 refine ⟨v,h1,h2,fun hw2 hs => ?_⟩
 by_cases ht:t=i
 ·subst ht;rw [he] at he2;simp at he2;subst he2;rw [hw] at hw2;cases hw2
 ·refine h3 hw2 ?_
  by_cases hlt:t < i
  ·rw [if_pos hlt];rw [if_pos (by omega)] at hs;exact hs
  ·rw [if_neg hlt];rw [if_neg (by omega)] at hs;exact hs
def linkV (d:Nat→Int ⊕ Nat) (K:List Int) (i:Nat):Int:=match d i with
 | .inl v=>v
 | .inr j=>(K[j]?).getD (-1)
theorem KInv.step {d:Nat→Int ⊕ Nat} {es:List Ev} {r i:Nat} {K:List Int} (h:KInv d es r i K) {e:Ev} (he:es[i]? = some e) (hw:e.w=true) (hlt:∀ i j,i < es.length→d i = .inr j→j < es.length)
 (hj:∀ j,d i = .inr j→∃ e',es[j]? = some e'∧e'.w=true) (hv:∀ i v,d i = .inl v→0≤v∧v≤3):KInv d es r (i+1) (K.set i (linkV d K i)):=by
 have hil:=(List.getElem?_eq_some_iff.1 he).1
 refine ⟨by simp [h.len],fun t e2 he2 => ?_⟩
 by_cases ht:t=i
 ·subst ht
  rw [he] at he2;simp at he2;subst he2
  refine ⟨linkV d K t,by rw [List.getElem?_set,if_pos rfl,if_pos (by rw [h.len];exact hil)], ?_,fun _ hs => ?_⟩
  ·unfold linkV
   rcases hd:d t with v | j
   ·exact .inr ⟨hw,chain_end hil hd⟩
   ·obtain ⟨e',h1,h2⟩:=hj j hd
    obtain ⟨u,h3,h4, -⟩:=h.at_ j e' h1
    simp only [h3,Option.getD_some]
    rcases h4 with h4 | ⟨-,h4⟩
    ·exact .inl h4
    ·exact .inr ⟨hw,by rw [chain_next hlt hil hd];exact h4⟩
  ·rw [if_pos (by omega)] at hs
   unfold linkV
   rcases hd:d t with v | j
   ·have:=hv t v hd;simp only;omega
   ·obtain ⟨e',h1,h2⟩:=hj j hd
    obtain ⟨u,h3, -,h5⟩:=h.at_ j e' h1
    simp only [h3,Option.getD_some]
    refine h5 h2 ?_
    rw [chain_inr hd] at hs
    obtain ⟨u2,hu⟩:=Option.isSome_iff_exists.1 hs
    rw [chain_mono hu (k':=if j < t then r+1 else r) (by split <;> omega)];rfl
 ·obtain ⟨v,h1,h2,h3⟩:=h.at_ t e2 he2
  refine ⟨v,by rw [List.getElem?_set,if_neg (fun e=>ht e.symm)];exact h1,h2,fun hw2 hs=>h3 hw2 ?_⟩
  by_cases hlt2:t < i
  ·rw [if_pos hlt2];rw [if_pos (by omega)] at hs;exact hs
  ·rw [if_neg hlt2];rw [if_neg (by omega)] at hs;exact hs
theorem KInv.done {d:Nat→Int ⊕ Nat} {es:List Ev} {r:Nat} {K:List Int} (h:KInv d es r 0 K) (hr:r=es.length):K=valTo es (chain d es.length) es.length:=by
 subst hr
 apply List.ext_getElem?
 intro t
 by_cases ht:t < es.length
 ·obtain ⟨e,he⟩:=get_of_lt (xs:=es) (k:=t) ht
  obtain ⟨v,h1,h2,h3⟩:=h.at_ t e he
  rw [valTo_get _ ht (Nat.le_refl _) he,h1]
  congr 1
  unfold val1
  rw [if_neg (by omega)] at h3
  by_cases hw:e.w=true
  ·rw [if_pos hw]
   rcases h2 with rfl | ⟨-,h2⟩
   ·cases hc:chain d es.length t with
    | none=>rfl
    | some u=>exact absurd rfl (h3 hw (by rw [hc];rfl))
   ·rw [h2];rfl
  ·rw [if_neg hw]
   rcases h2 with h2 | ⟨h2, -⟩
   ·exact h2
   ·exact absurd h2 hw
 ·rw [List.getElem?_eq_none (by rw [h.len];omega),List.getElem?_eq_none (by rw [valTo_length _ _ _ (Nat.le_refl _)];omega)]
end Go.Proofs.YtfbgppkdnfljhaaGreatDoor
namespace Go.Proofs.YtfbgppkdnfljhaaGreatDoor
end Go.Proofs.YtfbgppkdnfljhaaGreatDoor
namespace Go.Proofs.YtfbgppkdnfljhaaGreatDoor
open Go.RowKit
theorem rel_get (n t k:Nat) (f:Nat→Nat→Bool) (h:t < n):(((relOf n f).take t++List.replicate (n - t) 0).set t (bitsTo (f t) k))[t]? = some (bitsTo (f t) k):=by
 rw [List.getElem?_set,if_pos rfl,if_pos (by simp [relOf_length];omega)]
theorem rel_start (n t:Nat) (f:Nat→Nat→Bool) (h:t < n):((relOf n f).take t++List.replicate (n - t) 0).set t (bitsTo (f t) 0)=(relOf n f).take t++List.replicate (n - t) 0:=by
 rw [List.set_append_right _ _ (by rw [List.length_take];exact Nat.min_le_left _ _),List.length_take,relOf_length,Nat.min_eq_left (by omega),Nat.sub_self,show n - t=(n - (t+1))+1 by omega,List.replicate_succ,List.set_cons_zero]
 rfl
theorem rel_done (n t:Nat) (f:Nat→Nat→Bool) (h:t < n):((relOf n f).take t++List.replicate (n - t) 0).set t (bitsTo (f t) n)=(relOf n f).take (t+1)++List.replicate (n - (t+1)) 0:=by
 have:=set_pad (relOf n f) 0 (relOf_get (f:=f) h)
 rw [relOf_length] at this
 exact this
end Go.Proofs.YtfbgppkdnfljhaaGreatDoor
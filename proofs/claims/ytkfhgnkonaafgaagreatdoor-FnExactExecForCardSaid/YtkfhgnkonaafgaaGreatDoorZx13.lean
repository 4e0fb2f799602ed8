/-
  Which outcomes are valid, in the program and in the reference. No condition but bounds on lengths.
-/
import Derived.Test.YtkfhgnkonaafgaaGreatDoorZx07
import Derived.Test.YtkfhgnkonaafgaaGreatDoorZx05
set_option maxHeartbeats 6400000
set_option maxRecDepth 100000
namespace Go.Proofs.YtkfhgnkonaafgaaGreatDoor
def chain (d:Nat→Int ⊕ Nat):Nat→Nat→Option Int
 | 0,_=>none
 | k+1,i=>match d i with
  | .inl v=>some v
  | .inr j=>chain d k j
theorem chain_inl {d:Nat→Int ⊕ Nat} {i:Nat} {v:Int} (h:d i = .inl v) (k:Nat):chain d (k+1) i=some v:=by simp [chain,h]
theorem chain_inr {d:Nat→Int ⊕ Nat} {i j:Nat} (h:d i = .inr j) (k:Nat):chain d (k+1) i=chain d k j:=by simp [chain,h]
theorem chain_mono1 {d:Nat→Int ⊕ Nat}:∀ {k i:Nat} {v:Int},chain d k i=some v→chain d (k+1) i=some v:=by
 intro k
 induction k with
 | zero=>intro i v h;simp [chain] at h
 | succ k ih =>
  intro i v h
  rcases hd:d i with a | j
  ·rw [chain_inl hd] at h ⊢;exact h
  ·rw [chain_inr hd] at h ⊢;exact ih h
theorem chain_mono {d:Nat→Int ⊕ Nat} {k k' i:Nat} {v:Int} (h:chain d k i=some v) (hk:k≤k'):chain d k' i=some v:=by
 obtain ⟨m,rfl⟩:=Nat.exists_eq_add_of_le hk
 clear hk
 induction m with
 | zero=>exact h
 | succ m ih=>exact chain_mono1 ih
inductive Reach (d:Nat→Int ⊕ Nat):Nat→Nat→Nat→Prop
 | zero (i:Nat):Reach d 0 i i
 | step {i j m k:Nat} (h:d i = .inr j) (hr:Reach d m j k):Reach d (m+1) i k
theorem Reach.snoc {d:Nat→Int ⊕ Nat} {m i j k:Nat} (h:Reach d m i j) (hd:d j = .inr k):Reach d (m+1) i k:=by
 induction h with
 | zero i=>exact .step hd (.zero k)
 | step h _ ih=>exact .step h (ih hd)
theorem chain_reach {d:Nat→Int ⊕ Nat} {m i j:Nat} (h:Reach d m i j) (k:Nat):chain d (k+m) i=chain d k j:=by
 induction h with
 | zero i=>rfl
 | step h _ ih=>rw [← ih,← Nat.add_assoc,chain_inr h]
theorem chain_none {d : Nat → Int ⊕ Nat} {m i j : Nat} (h : Reach d m i j) : ∀ k, k ≤ m → chain d k i = none := by
  induction h with
  | zero i => intro k hk; obtain rfl : k = 0 := by omega
              rfl
  | step h _ ih =>
    intro k hk
    cases k with
    | zero => rfl
    | succ k => rw [chain_inr h]; exact ih k (by omega)
theorem chain_cyc {d:Nat→Int ⊕ Nat} {m i:Nat} (h:Reach d (m+1) i i):∀ k,chain d k i=none:=by
 intro k
 induction k using Nat.strongRecOn with
 | _ k ih =>
  by_cases hk:k≤m+1
  ·exact chain_none h k hk
  ·have:=chain_reach h (k - (m+1))
   rw [show k - (m+1)+(m+1)=k by omega] at this
   rw [this]
   exact ih _ (by omega)
def nodesV (d:Nat→Int ⊕ Nat):Nat→Nat→List Nat
 | 0,_=>[]
 | k+1,i=>i :: match d i with
  | .inl _=>[]
  | .inr j=>nodesV d k j
theorem mem_nodes {d:Nat→Int ⊕ Nat} {x:Nat}:∀ {k i:Nat},x∈nodesV d k i→∃ m,Reach d m i x:=by
 intro k
 induction k with
 | zero=>intro i h;simp [nodesV] at h
 | succ k ih =>
  intro i h
  rcases hd:d i with a | j
  ·simp [nodesV,hd] at h;subst h;exact ⟨0, .zero _⟩
  ·simp [nodesV,hd] at h
   rcases h with rfl | h
   ·exact ⟨0, .zero _⟩
   ·obtain ⟨m,hm⟩:=ih h;exact ⟨m+1, .step hd hm⟩
theorem nodes_nodup {d:Nat→Int ⊕ Nat}:∀ {k i:Nat} {v:Int},chain d k i=some v→(nodesV d k i).Nodup:=by
 intro k
 induction k with
 | zero=>intro i v h;simp [chain] at h
 | succ k ih =>
  intro i v h
  rcases hd:d i with a | j
  ·simp [nodesV,hd]
  ·have h2:=h
   rw [chain_inr hd] at h2
   simp only [nodesV,hd,List.nodup_cons]
   refine ⟨fun hm => ?_,ih h2⟩
   obtain ⟨m,hm⟩:=mem_nodes hm
   rw [chain_cyc (.step hd hm)] at h;cases h
theorem chain_nodes {d:Nat→Int ⊕ Nat}:∀ {k i:Nat} {v:Int},chain d k i=some v→chain d (nodesV d k i).length i=some v:=by
 intro k
 induction k with
 | zero=>intro i v h;simp [chain] at h
 | succ k ih =>
  intro i v h
  rcases hd:d i with a | j
  ·rw [chain_inl hd] at h
   simp only [nodesV,hd,List.length_cons]
   rw [chain_inl hd];exact h
  ·rw [chain_inr hd] at h
   simp only [nodesV,hd,List.length_cons]
   rw [chain_inr hd];exact ih h
theorem nodes_lt {d:Nat→Int ⊕ Nat} {n:Nat} (hn:∀ i j,i < n→d i = .inr j→j < n):∀ {k i:Nat},i < n→∀ x∈nodesV d k i,x < n:=by
 intro k
 induction k with
 | zero=>intro i _ x h;simp [nodesV] at h
 | succ k ih =>
  intro i hi x h
  rcases hd:d i with a | j
  ·simp [nodesV,hd] at h;omega
  ·simp [nodesV,hd] at h
   rcases h with rfl | h
   ·exact hi
   ·exact ih (hn i j hi hd) x h
theorem nodup_lt:∀ (n:Nat) (xs:List Nat),xs.Nodup→(∀ x∈xs,x < n)→xs.length≤n:=by
 intro n
 induction n with
 | zero=>intro xs _ h;cases xs with
  | nil=>simp
  | cons x xs=>exact absurd (h x (by simp)) (by omega)
 | succ n ih =>
  intro xs hn h
  have h1:=ih (xs.erase n) (hn.erase n) (fun x hx=>by
   have h2:=h x (List.mem_of_mem_erase hx)
   have h3:x≠n:=fun e=>by subst e;exact hn.not_mem_erase hx
   omega)
  have h2:xs.length≤(xs.erase n).length+1:=by
   by_cases hm:n∈xs
   ·rw [List.length_erase_of_mem hm];omega
   ·rw [List.erase_of_not_mem hm];omega
  omega
theorem chain_stable {d:Nat→Int ⊕ Nat} {n:Nat} (hn:∀ i j,i < n→d i = .inr j→j < n) {k i:Nat} {v:Int} (hi:i < n) (h:chain d k i=some v):chain d n i=some v:=
 chain_mono (chain_nodes h) (nodup_lt n _ (nodes_nodup h) (nodes_lt hn hi))
theorem chain_next {d:Nat→Int ⊕ Nat} {n:Nat} (hn:∀ i j,i < n→d i = .inr j→j < n) {i j:Nat} (hi:i < n) (hd:d i = .inr j):chain d n i=chain d n j:=by
 have hj:=hn i j hi hd
 cases h:chain d n j with
 | some v=>exact chain_stable hn hi (k:=n+1) (by rw [chain_inr hd];exact h)
 | none =>
  cases h2:chain d n i with
  | none=>rfl
  | some v =>
   have h3:=chain_mono1 h2
   rw [chain_inr hd,h] at h3;cases h3
theorem chain_end {d:Nat→Int ⊕ Nat} {n i:Nat} {v:Int} (hi:i < n) (hd:d i = .inl v):chain d n i=some v:=by
 obtain ⟨m,rfl⟩:∃ m,n=m+1:=⟨n - 1,by omega⟩
 exact chain_inl hd m
end Go.Proofs.YtkfhgnkonaafgaaGreatDoor
namespace Go.Proofs.YtkfhgnkonaafgaaGreatDoor
def insE (p:List (List Ins)) (e:Ev):Ins:=((p[e.t.toNat]?).bind fun r=>r[e.i.toNat]?).getD ⟨0,0,0,0⟩
def hitR (p:List (List Ins)) (t idx reg:Int) (e:Ev):Bool:=(e.t==t)&&(decide (e.i < idx)&&(e.r&&((insE p e).reg==reg)))
def lastTo (p:List (List Ins)) (es:List Ev) (t idx reg:Int) (k:Nat):Int:=(List.range k).foldl (fun (a:Int) (i:Nat)=>match es[i]? with
 | some e=>if hitR p t idx reg e=true then (i:Int) else a
 | none=>a) (-1)
def lastRd (p:List (List Ins)) (es:List Ev) (t idx reg:Int):Int:=lastTo p es t idx reg es.length
theorem lastTo_succ (p:List (List Ins)) {es:List Ev} (t idx reg:Int) {k:Nat} {e:Ev} (h:es[k]? = some e) :
 lastTo p es t idx reg (k+1)=if hitR p t idx reg e=true then (k:Int) else lastTo p es t idx reg k:=by
 unfold lastTo
 rw [List.range_succ,List.foldl_append]
 simp [h]
theorem lastTo_cases (p:List (List Ins)) (es:List Ev) (t idx reg:Int):∀ k,k≤es.length→lastTo p es t idx reg k = -1∨∃ (i:Nat) (e:Ev),lastTo p es t idx reg k=i∧i < k∧es[i]? = some e∧hitR p t idx reg e=true:=by
 intro k
 induction k with
 | zero=>intro _;exact .inl rfl
 | succ k ih =>
  intro hk
  obtain ⟨e,he⟩:=get_of_lt (xs:=es) (k:=k) hk
  rw [lastTo_succ p t idx reg he]
  by_cases hh:hitR p t idx reg e=true
  ·rw [if_pos hh];exact .inr ⟨k,e,rfl,by omega,he,hh⟩
  ·rw [if_neg hh]
   rcases ih (by omega) with h | ⟨i,e',h1,h2,h3⟩
   ·exact .inl h
   ·exact .inr ⟨i,e',h1,by omega,h3⟩
def depV (p:List (List Ins)) (es:List Ev) (fr:List Int) (i:Nat):Int ⊕ Nat:=
 match es[i]? with
 | none => .inl 0
 | some e=>if e.t < 0 then .inl 0 else if (insE p e).op=3 then (if lastRd p es e.t e.i (insE p e).reg < 0 then .inl 0 else .inr ((fr[(lastRd p es e.t e.i (insE p e).reg).toNat]?).getD 0).toNat) else .inl (insE p e).val
theorem insE_of {p:List (List Ins)} {e:Ev} {t i:Nat} {r:List Ins} {x:Ins} (h1:p[t]? = some r) (h2:r[i]? = some x) (ht:e.t=t) (hi:e.i=i):insE p e=x:=by
 unfold insE
 rw [ht,hi];simp [h1,h2]
theorem ev_cases {p:List (List Ins)} {k:Nat} {e:Ev} (h:(evAll p)[k]? = some e):(e.t = -1)∨∃ (t i:Nat) (r:List Ins),e.t=t∧e.i=i∧p[t]? = some r∧r[i]? = some (insE p e)∧e.r=isRop (insE p e).op∧e.w=isWop (insE p e).op∧e.l=(insE p e).loc:=by
 rcases mem_evAll (List.mem_of_getElem? h) with h | ⟨t,i,r,x,h1,h2,h3, -⟩
 ·exact .inl h
 ·have e1:insE p e=x:=insE_of h1 h2 (by rw [h3]) (by rw [h3])
  exact .inr ⟨t,i,r,by rw [h3],by rw [h3],h1,by rw [e1];exact h2,by rw [e1,h3],by rw [e1,h3],by rw [e1,h3]⟩
theorem insValid_val {x:Ins} (h:insValid x=true):0≤x.val∧x.val≤3:=by
 unfold insValid inB at h
 split at h
 ·simp at h;omega
 ·split at h
  ·simp at h;omega
  ·split at h
   ·simp at h;omega
   ·split at h
    ·simp at h;omega
    ·cases h
theorem dep_val {p:List (List Ins)} {fr:List Int} (hp:progValid p=true) {i:Nat} {v:Int} (h:depV p (evAll p) fr i = .inl v):0≤v∧v≤3:=by
 unfold depV at h
 split at h
 ·simp at h;omega
 ·rename_i e he
  split at h
  ·simp at h;omega
  ·split at h
   ·split at h
    ·simp at h;omega
    ·simp at h
   ·simp at h;subst h
    rename_i h0 _
    rcases ev_cases he with h1 | ⟨t,k,r, -, -,h1,h2, -⟩
    ·omega
    ·exact insValid_val (((valid_le hp).2.2.1 r (List.mem_of_getElem? h1)).2 _ (List.mem_of_getElem? h2))
theorem from_write {es:List Ev} {fr:List Int} {k:Nat} (h:fromsOk es fr es.length=true) {e:Ev} (he:es[k]? = some e) (hr:e.r=true):∃ (j:Nat) (e':Ev),fr[k]? = some (j:Int)∧es[j]? = some e'∧e'.w=true∧e'.l=e.l∧j≠k:=by
 obtain ⟨e2,f,h1,h2,h3⟩:=fromsOk_get h (List.getElem?_eq_some_iff.1 he).1
 rw [he] at h1;simp at h1;subst h1
 unfold fromOk at h3
 rw [if_pos hr] at h3
 simp at h3
 obtain ⟨i,e',h4,h5,h6,h7,h8⟩:=mem_wrL.1 h3.2
 subst h5
 exact ⟨i,e',h2,h6,h7,h8,fun e=>h3.1 (by rw [e])⟩
theorem dep_inr {p:List (List Ins)} {es:List Ev} {fr:List Int} (h:fromsOk es fr es.length=true) {i j:Nat} (hd:depV p es fr i = .inr j):∃ e',es[j]? = some e'∧e'.w=true:=by
 unfold depV at hd
 split at hd
 ·cases hd
 ·rename_i e he
  split at hd
  ·cases hd
  ·split at hd
   ·split at hd
    ·cases hd
    ·rename_i h1 h2 h3
     rcases lastTo_cases p es e.t e.i (insE p e).reg es.length (Nat.le_refl _) with h4 | ⟨r,e2,h4,h5,h6,h7⟩
     ·exfalso;exact h3 (by unfold lastRd;omega)
     ·have h4':lastRd p es e.t e.i (insE p e).reg=r:=h4
      rw [h4'] at hd
      have hrr:e2.r=true:=by unfold hitR at h7;simp at h7;exact h7.2.2.1
      obtain ⟨j2,e',h8,h9,h10, -⟩:=from_write h h6 hrr
      simp [h8] at hd
      subst hd
      exact ⟨e',h9,h10⟩
   ·cases hd
theorem dep_lt {p:List (List Ins)} {es:List Ev} {fr:List Int} (h:fromsOk es fr es.length=true) (i j:Nat) (_:i < es.length) (hd:depV p es fr i = .inr j):j < es.length:=by
 obtain ⟨e',h1, -⟩:=dep_inr h hd
 exact (List.getElem?_eq_some_iff.1 h1).1
theorem chain_val {d:Nat→Int ⊕ Nat} (hd:∀ i v,d i = .inl v→0≤v∧v≤3):∀ {k i:Nat} {v:Int},chain d k i=some v→0≤v∧v≤3:=by
 intro k
 induction k with
 | zero=>intro i v h;simp [chain] at h
 | succ k ih =>
  intro i v h
  rcases he:d i with a | j
  ·rw [chain_inl he] at h;simp at h;subst h;exact hd i _ he
  ·rw [chain_inr he] at h;exact ih h
def val1 (c:Nat→Option Int) (i:Nat) (e:Ev):Int:=if e.w=true then (c i).getD (-1) else -1
def valTo (es:List Ev) (c:Nat→Option Int) (k:Nat):List Int:=(List.range k).flatMap fun i=>match es[i]? with
 | some e=>[val1 c i e]
 | none=>[]
def okTo (es:List Ev) (c:Nat→Option Int) (k:Nat):Bool:=(List.range k).all fun i=>match es[i]? with
 | some e => !e.w||(c i).isSome
 | none=>true
theorem valTo_succ {es:List Ev} (c:Nat→Option Int) {k:Nat} {e:Ev} (h:es[k]? = some e):valTo es c (k+1)=valTo es c k++[val1 c k e]:=by
 unfold valTo
 rw [List.range_succ,List.flatMap_append]
 simp [h]
theorem okTo_succ {es:List Ev} (c:Nat→Option Int) {k:Nat} {e:Ev} (h:es[k]? = some e):okTo es c (k+1)=(okTo es c k&&(!e.w||(c k).isSome)):=by
 unfold okTo
 rw [List.range_succ,List.all_append]
 simp [h]
theorem okTo_no {es:List Ev} (c:Nat→Option Int) {k:Nat} {e:Ev} (h:es[k]? = some e) (hw:e.w=true) (hc:c k=none):okTo es c es.length=false:=by
 unfold okTo
 rw [List.all_eq_false]
 exact ⟨k,List.mem_range.2 (List.getElem?_eq_some_iff.1 h).1,by simp [h,hw,hc]⟩
theorem valTo_length (es:List Ev) (c:Nat→Option Int):∀ k,k≤es.length→(valTo es c k).length=k:=by
 intro k
 induction k with
 | zero=>intro _;rfl
 | succ k ih =>
  intro hk
  obtain ⟨e,he⟩:=get_of_lt (xs:=es) (k:=k) hk
  rw [valTo_succ c he,List.length_append,ih (by omega)];rfl
theorem valTo_get {es:List Ev} (c:Nat→Option Int) {i:Nat} {e:Ev}:∀ {k:Nat},i < k→k≤es.length→es[i]? = some e→(valTo es c k)[i]? = some (val1 c i e):=by
 intro k
 induction k with
 | zero=>intro h;omega
 | succ k ih =>
  intro hi hk he
  obtain ⟨e',he'⟩:=get_of_lt (xs:=es) (k:=k) hk
  rw [valTo_succ c he']
  by_cases e2:i=k
  ·subst e2
   rw [he] at he';simp at he';subst he'
   rw [List.getElem?_append_right (by rw [valTo_length es c i (by omega)];exact Nat.le_refl _),valTo_length es c i (by omega)];simp
  ·rw [List.getElem?_append_left (by rw [valTo_length es c k (by omega)];omega)]
   exact ih (by omega) (by omega) he
def cX (p:List (List Ins)) (fr:List Int):Nat→Option Int:=chain (depV p (evAll p) fr) (evAll p).length
def valsL (p:List (List Ins)) (fr:List Int):List Int:=valTo (evAll p) (cX p fr) (evAll p).length
def valsOk (p:List (List Ins)) (fr:List Int):Bool:=okTo (evAll p) (cX p fr) (evAll p).length
structure KInv (d:Nat→Int ⊕ Nat) (es:List Ev) (r i:Nat) (K:List Int):Prop where
 len:K.length=es.length
 at_:∀ (t:Nat) (e:Ev),es[t]? = some e→∃ v,K[t]? = some v∧(v = -1∨(e.w=true∧chain d es.length t=some v))∧(e.w=true→(chain d (if t < i then r+1 else r) t).isSome=true→v≠-1)
theorem KInv.start (d:Nat→Int ⊕ Nat) (es:List Ev):KInv d es 0 0 (List.replicate es.length (-1)):=by
 refine ⟨by simp,fun t e h=>⟨-1, ?_, .inl rfl,fun _ h2 => ?_⟩⟩
 ·rw [List.getElem?_replicate,if_pos (List.getElem?_eq_some_iff.1 h).1]
 ·simp [chain] at h2
theorem KInv.next {d:Nat→Int ⊕ Nat} {es:List Ev} {r i:Nat} {K:List Int} (h:KInv d es r i K) (hi:i=es.length):KInv d es (r+1) 0 K:=by
 refine ⟨h.len,fun t e he => ?_⟩
 obtain ⟨v,h1,h2,h3⟩:=h.at_ t e he
 refine ⟨v,h1,h2,fun hw hs=>h3 hw ?_⟩
 rw [if_pos (by rw [hi];exact (List.getElem?_eq_some_iff.1 he).1)]
 rw [if_neg (by omega)] at hs
 exact hs
theorem KInv.skip {d:Nat→Int ⊕ Nat} {es:List Ev} {r i:Nat} {K:List Int} (h:KInv d es r i K) {e:Ev} (he:es[i]? = some e) (hw:e.w=false):KInv d es r (i+1) K:=by
 refine ⟨h.len,fun t e2 he2 => ?_⟩
 obtain ⟨v,h1,h2,h3⟩:=h.at_ t e2 he2
 refine ⟨v,h1,h2,fun hw2 hs => ?_⟩
 by_cases ht:t=i
 ·subst ht;rw [he] at he2;simp at he2;subst he2;rw [hw] at hw2;cases hw2
 ·refine h3 hw2 ?_
  by_cases hlt:t < i
  ·rw [if_pos hlt];rw [if_pos (by omega)] at hs;exact hs
  ·rw [if_neg hlt];rw [if_neg (by omega)] at hs;exact hs
def linkV (d:Nat→Int ⊕ Nat) (K:List Int) (i:Nat):Int:=match d i with
 | .inl v=>v
 | .inr j=>(K[j]?).getD (-1)
theorem KInv.step {d:Nat→Int ⊕ Nat} {es:List Ev} {r i:Nat} {K:List Int} (h:KInv d es r i K) {e:Ev} (he:es[i]? = some e) (hw:e.w=true) (hlt:∀ i j,i < es.length→d i = .inr j→j < es.length)
 (hj:∀ j,d i = .inr j→∃ e',es[j]? = some e'∧e'.w=true) (hv:∀ i v,d i = .inl v→0≤v∧v≤3):KInv d es r (i+1) (K.set i (linkV d K i)):=by
 have hil:=(List.getElem?_eq_some_iff.1 he).1
 refine ⟨by simp [h.len],fun t e2 he2 => ?_⟩
 by_cases ht:t=i
 ·subst ht
  rw [he] at he2;simp at he2;subst he2
  refine ⟨linkV d K t,by rw [List.getElem?_set,if_pos rfl,if_pos (by rw [h.len];exact hil)], ?_,fun _ hs => ?_⟩
  ·unfold linkV
   rcases hd:d t with v | j
   ·exact .inr ⟨hw,chain_end hil hd⟩
   ·obtain ⟨e',h1,h2⟩:=hj j hd
    obtain ⟨u,h3,h4, -⟩:=h.at_ j e' h1
    simp only [h3,Option.getD_some]
    rcases h4 with h4 | ⟨-,h4⟩
    ·exact .inl h4
    ·exact .inr ⟨hw,by rw [chain_next hlt hil hd];exact h4⟩
  ·rw [if_pos (by omega)] at hs
   unfold linkV
   rcases hd:d t with v | j
   ·have:=hv t v hd;simp only;omega
   ·obtain ⟨e',h1,h2⟩:=hj j hd
    obtain ⟨u,h3, -,h5⟩:=h.at_ j e' h1
    simp only [h3,Option.getD_some]
    refine h5 h2 ?_
    rw [chain_inr hd] at hs
    obtain ⟨u2,hu⟩:=Option.isSome_iff_exists.1 hs
    rw [chain_mono hu (k':=if j < t then r+1 else r) (by split <;> omega)];rfl
 ·obtain ⟨v,h1,h2,h3⟩:=h.at_ t e2 he2
  refine ⟨v,by rw [List.getElem?_set,if_neg (fun e=>ht e.symm)];exact h1,h2,fun hw2 hs=>h3 hw2 ?_⟩
  by_cases hlt2:t < i
  ·rw [if_pos hlt2];rw [if_pos (by omega)] at hs;exact hs
  ·rw [if_neg hlt2];rw [if_neg (by omega)] at hs;exact hs
theorem KInv.done {d:Nat→Int ⊕ Nat} {es:List Ev} {r:Nat} {K:List Int} (h:KInv d es r 0 K) (hr:r=es.length):K=valTo es (chain d es.length) es.length:=by
 subst hr
 apply List.ext_getElem?
 intro t
 by_cases ht:t < es.length
 ·obtain ⟨e,he⟩:=get_of_lt (xs:=es) (k:=t) ht
  obtain ⟨v,h1,h2,h3⟩:=h.at_ t e he
  rw [valTo_get _ ht (Nat.le_refl _) he,h1]
  congr 1
  unfold val1
  rw [if_neg (by omega)] at h3
  by_cases hw:e.w=true
  ·rw [if_pos hw]
   rcases h2 with rfl | ⟨-,h2⟩
   ·cases hc:chain d es.length t with
    | none=>rfl
    | some u=>exact absurd rfl (h3 hw (by rw [hc];rfl))
   ·rw [h2];rfl
  ·rw [if_neg hw]
   rcases h2 with h2 | ⟨h2, -⟩
   ·exact h2
   ·exact absurd h2 hw
 ·rw [List.getElem?_eq_none (by rw [h.len];omega),List.getElem?_eq_none (by rw [valTo_length _ _ _ (Nat.le_refl _)];omega)]
end Go.Proofs.YtkfhgnkonaafgaaGreatDoor
namespace Go.Proofs.YtkfhgnkonaafgaaGreatDoor
def valAt (vals:List Int) (j:Int):Int:=(vals[j.toNat]?).getD 0
def frAt (fr:List Int) (r:Int):Int:=(fr[r.toNat]?).getD 0
def regOf (fr vals:List Int) (r:Int):Int:=if r < 0 then 0 else valAt vals (frAt fr r)
def regV (p:List (List Ins)) (es:List Ev) (fr vals:List Int) (t idx g:Int):Int:=regOf fr vals (lastRd p es t idx g)
def lastO (od:List (List Int)) (l:Nat):Int:=(((od[l]?).getD []).getLast?).getD 0
def memV (od:List (List Int)) (vals:List Int) (l:Nat):Int:=valAt vals (lastO od l)
def outRow (p:List (List Ins)) (es:List Ev) (fr vals:List Int) (t n:Nat) (k:Nat):List Int:=(List.range k).map fun (g:Nat)=>regV p es fr vals (t:Int) (n:Int) (g:Int)
def outTo (p:List (List Ins)) (es:List Ev) (fr vals:List Int) (j:Nat):List Int:=(List.range j).flatMap fun t=>match p[t]? with
 | some r=>outRow p es fr vals t r.length 3
 | none=>[]
def outMem (od:List (List Int)) (vals:List Int) (k:Nat):List Int:=(List.range k).map (memV od vals)
def outL (p:List (List Ins)) (es:List Ev) (x:Xc) (vals:List Int):List Int:=outTo p es x.fr vals p.length++outMem x.od vals 3
theorem outRow_succ (p:List (List Ins)) (es:List Ev) (fr vals:List Int) (t n k:Nat):outRow p es fr vals t n (k+1)=outRow p es fr vals t n k++[regV p es fr vals (t:Int) (n:Int) (k:Int)]:=by
 simp [outRow,List.range_succ]
theorem outMem_succ (od:List (List Int)) (vals:List Int) (k:Nat):outMem od vals (k+1)=outMem od vals k++[memV od vals k]:=by
 simp [outMem,List.range_succ]
theorem outTo_succ {p:List (List Ins)} (es:List Ev) (fr vals:List Int) {j:Nat} {r:List Ins} (h:p[j]? = some r):outTo p es fr vals (j+1)=outTo p es fr vals j++outRow p es fr vals j r.length 3:=by
 unfold outTo
 rw [List.range_succ,List.flatMap_append]
 simp [h]
theorem outRow_length (p:List (List Ins)) (es:List Ev) (fr vals:List Int) (t n k:Nat):(outRow p es fr vals t n k).length=k:=by simp [outRow]
theorem outMem_length (od:List (List Int)) (vals:List Int) (k:Nat):(outMem od vals k).length=k:=by simp [outMem]
theorem outTo_length (p:List (List Ins)) (es:List Ev) (fr vals:List Int):∀ j,j≤p.length→(outTo p es fr vals j).length=3 * j:=by
 intro j
 induction j with
 | zero=>intro _;rfl
 | succ j ih =>
  intro hj
  obtain ⟨r,hr⟩:=get_of_lt (xs:=p) (k:=j) hj
  rw [outTo_succ es fr vals hr,List.length_append,ih (by omega),outRow_length];omega
theorem outL_length (p:List (List Ins)) (es:List Ev) (x:Xc) (vals:List Int):(outL p es x vals).length=3 * p.length+3:=by
 unfold outL
 rw [List.length_append,outTo_length p es x.fr vals p.length (Nat.le_refl _),outMem_length]
end Go.Proofs.YtkfhgnkonaafgaaGreatDoor
namespace Go.Proofs.YtkfhgnkonaafgaaGreatDoor
open Go.RowKit
theorem rel_get (n t k:Nat) (f:Nat→Nat→Bool) (h:t < n):(((relOf n f).take t++List.replicate (n - t) 0).set t (bitsTo (f t) k))[t]? = some (bitsTo (f t) k):=by
 rw [List.getElem?_set,if_pos rfl,if_pos (by simp [relOf_length];omega)]
theorem rel_start (n t:Nat) (f:Nat→Nat→Bool) (h:t < n):((relOf n f).take t++List.replicate (n - t) 0).set t (bitsTo (f t) 0)=(relOf n f).take t++List.replicate (n - t) 0:=by
 rw [List.set_append_right _ _ (by rw [List.length_take];exact Nat.min_le_left _ _),List.length_take,relOf_length,Nat.min_eq_left (by omega),Nat.sub_self,show n - t=(n - (t+1))+1 by omega,List.replicate_succ,List.set_cons_zero]
 rfl
theorem rel_done (n t:Nat) (f:Nat→Nat→Bool) (h:t < n):((relOf n f).take t++List.replicate (n - t) 0).set t (bitsTo (f t) n)=(relOf n f).take (t+1)++List.replicate (n - (t+1)) 0:=by
 have:=set_pad (relOf n f) 0 (relOf_get (f:=f) h)
 rw [relOf_length] at this
 exact this
end Go.Proofs.YtkfhgnkonaafgaaGreatDoor
namespace Go.Proofs.YtkfhgnkonaafgaaGreatDoor
open Go.RowKit
def rowB (xs:List Int) (t:Nat) (k:Nat):List Int:=(List.range k).map fun g=>(xs[3+3 * t+g]?).getD 0
def regsB (xs:List Int) (n:Nat):List Int:=(List.range n).flatMap fun t=>rowB xs t 3
def memB (xs:List Int) (k:Nat):List Int:=(List.range k).map fun l=>(xs[12+l]?).getD 0
def outB (xs:List Int) (n:Nat):List Int:=regsB xs n++memB xs 3
theorem rowB_succ (xs:List Int) (t k:Nat) {x:Int} (h:xs[3+3 * t+k]? = some x):rowB xs t (k+1)=rowB xs t k++[x]:=by simp [rowB,List.range_succ,h]
theorem memB_succ (xs:List Int) (k:Nat) {x:Int} (h:xs[12+k]? = some x):memB xs (k+1)=memB xs k++[x]:=by simp [memB,List.range_succ,h]
theorem regsB_succ (xs:List Int) (n:Nat):regsB xs (n+1)=regsB xs n++rowB xs n 3:=by simp [regsB,List.range_succ]
theorem rowB_length (xs:List Int) (t k:Nat):(rowB xs t k).length=k:=by simp [rowB]
theorem memB_length (xs:List Int) (k:Nat):(memB xs k).length=k:=by simp [memB]
theorem regsB_length (xs:List Int) (n:Nat):(regsB xs n).length=3 * n:=by
 induction n with
 | zero=>rfl
 | succ n ih=>rw [regsB_succ,List.length_append,ih,rowB_length];omega
structure VB (w:World) (vb:Nat) (ps:Slc) (xs:List Int):Prop where
 p0:w.cell? ⟨vb,0,none⟩=some (.slice ps.a ps.n ps.cap)
 cs:∀ (i:Nat) (x:Int),xs[i]? = some x→w.cell? ⟨vb,1+i,none⟩=some (.int .u8 x)
theorem Tryz.index3_0 (x0 x1 x2:Int) (w:World):(Instr.index 112 (.agg #[.int .u8 x0, .int .u8 x1, .int .u8 x2]) (.int .i64 0)).run Tryz.prog w = .ok (.int .u8 x0) w:=by kernel_rfl
theorem Tryz.index3_1 (x0 x1 x2:Int) (w:World):(Instr.index 112 (.agg #[.int .u8 x0, .int .u8 x1, .int .u8 x2]) (.int .i64 1)).run Tryz.prog w = .ok (.int .u8 x1) w:=by kernel_rfl
theorem Tryz.index3_2 (x0 x1 x2:Int) (w:World):(Instr.index 112 (.agg #[.int .u8 x0, .int .u8 x1, .int .u8 x2]) (.int .i64 2)).run Tryz.prog w = .ok (.int .u8 x2) w:=by kernel_rfl
theorem outcome_any (vb:Nat) (ps:Slc) (xs:List Int) (w:World) (hv:VB w vb ps xs) (hl:xs.length=15) (hb:∀ x∈xs,0≤x∧x≤255) (hn:ps.n≤3) :
 Calls Tryz.prog 81 #[.pointer (some ⟨vb,0,none⟩)] w (RetOwn IntE 3 w (outB xs ps.n)):=by
 obtain ⟨pa,n,pc⟩:=ps
 simp only at hn
 have HV:=hide hv
 have HRS:=hide (fun t k x h=>rowB_succ xs t k (x:=x) h)
 have HMS:=hide (fun k x h=>memB_succ xs k (x:=x) h)
 have HRG:=hide (regsB_succ xs)
 have HRL:=hide (rowB_length xs);have HML:=hide (memB_length xs);have HGL:=hide (regsB_length xs)
 have HO:Hid (outB xs n=regsB xs n++memB xs 3):=hide rfl
 have hget:∀ i,i < 15→∃ x:Int,xs[i]? = some x∧0≤x∧x≤255:=fun i h=>by
  obtain ⟨x,hx⟩:=get_of_lt (xs:=xs) (k:=i) (by omega)
  exact ⟨x,hx,hb x (List.mem_of_getElem? hx)⟩
 have HGET:=hide hget
 clear hget
 have p0:=hv.p0
 have pl:=lt_of_cell p0
 have hn3:(n:Int)≤3:=by omega
 clear hb hl hv
 go_enter Tryz.func81,Tryz.ntmps81
 go_wp2_with fail
 clear p0
 go_loopw [3,14] (fun s i wr => ∃ t:Nat,t≤n∧i = .int .i64 t∧OwnN wr w.heap.size s (regsB xs t)∧Below w.heap.size w wr) (fun _ i _=>n - (intOf i).toNat)
 case atStart=>exact ⟨0,Nat.zero_le _,rfl,Own.nil _ _ _,Below.refl _ _⟩
 case round =>
  obtain ⟨t,ht,rfl,hown,hbr⟩:=hrel
  by_cases hlt:t < n
  ·obtain ⟨x0,h0,b0,b0'⟩:=HGET.out (3+3 * t+0) (by omega)
   obtain ⟨x1,h1,b1,b1'⟩:=HGET.out (3+3 * t+1) (by omega)
   obtain ⟨x2,h2,b2,b2'⟩:=HGET.out (3+3 * t+2) (by omega)
   have hlt':=nat_of_lt hlt
   have hlt3:(t:Int) < 3:=by omega
   have e0:=(hbr.cell (p:=⟨vb,1+(3+3 * t+0),none⟩) pl).trans (HV.out.cs _ _ h0)
   have e1:=(hbr.cell (p:=⟨vb,1+(3+3 * t+1),none⟩) pl).trans (HV.out.cs _ _ h1)
   have e2:=(hbr.cell (p:=⟨vb,1+(3+3 * t+2),none⟩) pl).trans (HV.out.cs _ _ h2)
   rw [show 1+(3+3 * t+0)=4+t * 3 by omega] at e0
   rw [show 1+(3+3 * t+1)=4+t * 3+1 by omega] at e1
   rw [show 1+(3+3 * t+2)=4+t * 3+2 by omega] at e2
   have pl':vb < wr.heap.size:=Nat.lt_of_lt_of_le pl hbr.size
   have S0:=hide (HRS.out t 0 x0 h0);have S1:=hide (HRS.out t 1 x1 h1);have S2:=hide (HRS.out t 2 x2 h2)
   have R0:Hid (rowB xs t 0=[]):=hide rfl
   have GS:=hide (HRG.out t)
   have gl:=HGL.out t
   generalize hG:regsB xs t=G at *
   clear hG h0 h1 h2
   have HOW:=hide hown;have HBR:=hide hbr
   clear hown hbr
   go_wp2_with fail
   go_loopw [3,23] (fun s i wr => ∃ g:Nat,g≤3∧i = .int .i64 g∧OwnN wr w.heap.size s (G++rowB xs t g)∧Below w.heap.size w wr) (fun _ i _=>3 - (intOf i).toNat)
   case atStart=>exact ⟨0,by omega,rfl,by rw [R0.out,List.append_nil];exact HOW.out,HBR.out⟩
   case round =>
    obtain ⟨g,hg,rfl,hown,hb2⟩:=hrel
    have hlen:(G++rowB xs t g).length≤68719476736:=by rw [List.length_append,HRL.out];omega
    clear e0 e1 e2
    have hcs:g=0∨g=1∨g=2∨g=3:=by omega
    rcases hcs with rfl | rfl | rfl | rfl
    ·have hix:=Tryz.index3_0 x0 x1 x2
     generalize hrw:rowB xs t 0=RW at *
     have S2':Hid (G++rowB xs t (0+1)=(G++RW)++[x0]):=hide (by rw [S0.out,List.append_assoc])
     clear hrw
     go_wp2_with (at_builtin;refine wpList_app IntE 3 Tryz.infoInt rfl Tryz.underlying24 w.heap.size _ (G++RW) x0 (hown.alloc _) (by decide) hlen (by simp;have:=hb2.size;omega) rfl _ _ rfl rfl _ 0 1 rfl (news_allocV (by simp)) ?_;intro v' w3 hown3 hgr3)
     have hb3:=below_app hb2 hown hgr3
     go_roundw
     case rel=>exact ⟨0+1,by omega,by go_num,by rw [S2'.out];exact hown3,hb3⟩
     case measure=>first | (simp [intOf];done) | (simp [intOf];omega)
    ·have hix:=Tryz.index3_1 x0 x1 x2
     generalize hrw:rowB xs t 1=RW at *
     have S2':Hid (G++rowB xs t (1+1)=(G++RW)++[x1]):=hide (by rw [S1.out,List.append_assoc])
     clear hrw
     go_wp2_with (at_builtin;refine wpList_app IntE 3 Tryz.infoInt rfl Tryz.underlying24 w.heap.size _ (G++RW) x1 (hown.alloc _) (by decide) hlen (by simp;have:=hb2.size;omega) rfl _ _ rfl rfl _ 0 1 rfl (news_allocV (by simp)) ?_;intro v' w3 hown3 hgr3)
     have hb3:=below_app hb2 hown hgr3
     go_roundw
     case rel=>exact ⟨1+1,by omega,by go_num,by rw [S2'.out];exact hown3,hb3⟩
     case measure=>first | (simp [intOf];done) | (simp [intOf];omega)
    ·have hix:=Tryz.index3_2 x0 x1 x2
     generalize hrw:rowB xs t 2=RW at *
     have S2':Hid (G++rowB xs t (2+1)=(G++RW)++[x2]):=hide (by rw [S2.out,List.append_assoc])
     clear hrw
     go_wp2_with (at_builtin;refine wpList_app IntE 3 Tryz.infoInt rfl Tryz.underlying24 w.heap.size _ (G++RW) x2 (hown.alloc _) (by decide) hlen (by simp;have:=hb2.size;omega) rfl _ _ rfl rfl _ 0 1 rfl (news_allocV (by simp)) ?_;intro v' w3 hown3 hgr3)
     have hb3:=below_app hb2 hown hgr3
     go_roundw
     case rel=>exact ⟨2+1,by omega,by go_num,by rw [S2'.out];exact hown3,hb3⟩
     case measure=>first | (simp [intOf];done) | (simp [intOf];omega)
    ·have GS2:=GS
     go_wp2_with fail
     go_roundw
     case rel=>exact ⟨t+1,by omega,by go_num,by rw [GS2.out];exact hown,hb2⟩
     case measure=>first | (simp [intOf];done) | (simp [intOf];omega)
  ·obtain rfl:t=n:=by omega
   have gl:=HGL.out t
   generalize hG:regsB xs t=G at *
   clear hG
   obtain ⟨x0,h0,b0,b0'⟩:=HGET.out (12+0) (by omega)
   obtain ⟨x1,h1,b1,b1'⟩:=HGET.out (12+1) (by omega)
   obtain ⟨x2,h2,b2,b2'⟩:=HGET.out (12+2) (by omega)
   have e0:=(hbr.cell (p:=⟨vb,1+(12+0),none⟩) pl).trans (HV.out.cs _ _ h0)
   have e1:=(hbr.cell (p:=⟨vb,1+(12+1),none⟩) pl).trans (HV.out.cs _ _ h1)
   have e2:=(hbr.cell (p:=⟨vb,1+(12+2),none⟩) pl).trans (HV.out.cs _ _ h2)
   simp only [Nat.reduceAdd] at e0 e1 e2
   have pl':vb < wr.heap.size:=Nat.lt_of_lt_of_le pl hbr.size
   have S0:=hide (HMS.out 0 x0 h0);have S1:=hide (HMS.out 1 x1 h1);have S2:=hide (HMS.out 2 x2 h2)
   have R0:Hid (memB xs 0=[]):=hide rfl
   clear h0 h1 h2
   have HOW:=hide hown;have HBR:=hide hbr
   clear hown hbr
   go_wp2_with fail
   go_loopw [3,37] (fun s i wr => ∃ g:Nat,g≤3∧i = .int .i64 g∧OwnN wr w.heap.size s (G++memB xs g)∧Below w.heap.size w wr) (fun _ i _=>3 - (intOf i).toNat)
   case atStart=>exact ⟨0,by omega,rfl,by rw [R0.out,List.append_nil];exact HOW.out,HBR.out⟩
   case round =>
    obtain ⟨g,hg,rfl,hown,hb2⟩:=hrel
    have hlen:(G++memB xs g).length≤68719476736:=by rw [List.length_append,HML.out];omega
    clear e0 e1 e2
    have hcs:g=0∨g=1∨g=2∨g=3:=by omega
    rcases hcs with rfl | rfl | rfl | rfl
    ·have hix:=Tryz.index3_0 x0 x1 x2
     generalize hrw:memB xs 0=RW at *
     have S2':Hid (G++memB xs (0+1)=(G++RW)++[x0]):=hide (by rw [S0.out,List.append_assoc])
     clear hrw
     go_wp2_with (at_builtin;refine wpList_app IntE 3 Tryz.infoInt rfl Tryz.underlying24 w.heap.size _ (G++RW) x0 (hown.alloc _) (by decide) hlen (by simp;have:=hb2.size;omega) rfl _ _ rfl rfl _ 0 1 rfl (news_allocV (by simp)) ?_;intro v' w3 hown3 hgr3)
     have hb3:=below_app hb2 hown hgr3
     go_roundw
     case rel=>exact ⟨0+1,by omega,by go_num,by rw [S2'.out];exact hown3,hb3⟩
     case measure=>first | (simp [intOf];done) | (simp [intOf];omega)
    ·have hix:=Tryz.index3_1 x0 x1 x2
     generalize hrw:memB xs 1=RW at *
     have S2':Hid (G++memB xs (1+1)=(G++RW)++[x1]):=hide (by rw [S1.out,List.append_assoc])
     clear hrw
     go_wp2_with (at_builtin;refine wpList_app IntE 3 Tryz.infoInt rfl Tryz.underlying24 w.heap.size _ (G++RW) x1 (hown.alloc _) (by decide) hlen (by simp;have:=hb2.size;omega) rfl _ _ rfl rfl _ 0 1 rfl (news_allocV (by simp)) ?_;intro v' w3 hown3 hgr3)
     have hb3:=below_app hb2 hown hgr3
     go_roundw
     case rel=>exact ⟨1+1,by omega,by go_num,by rw [S2'.out];exact hown3,hb3⟩
     case measure=>first | (simp [intOf];done) | (simp [intOf];omega)
    ·have hix:=Tryz.index3_2 x0 x1 x2
     generalize hrw:memB xs 2=RW at *
     have S2':Hid (G++memB xs (2+1)=(G++RW)++[x2]):=hide (by rw [S2.out,List.append_assoc])
     clear hrw
     go_wp2_with (at_builtin;refine wpList_app IntE 3 Tryz.infoInt rfl Tryz.underlying24 w.heap.size _ (G++RW) x2 (hown.alloc _) (by decide) hlen (by simp;have:=hb2.size;omega) rfl _ _ rfl rfl _ 0 1 rfl (news_allocV (by simp)) ?_;intro v' w3 hown3 hgr3)
     have hb3:=below_app hb2 hown hgr3
     go_roundw
     case rel=>exact ⟨2+1,by omega,by go_num,by rw [S2'.out];exact hown3,hb3⟩
     case measure=>first | (simp [intOf];done) | (simp [intOf];omega)
    ·go_wp2_with fail
     go_ret
     rw [HO.out]
     exact ⟨_,rfl,hown,hb2⟩
end Go.Proofs.YtkfhgnkonaafgaaGreatDoor
namespace Go.Proofs.YtkfhgnkonaafgaaGreatDoor
def hitA (p:List (List Ins)) (t g:Nat) (e:Ev):Bool:=(e.t==(t:Int))&&(e.r&&((insE p e).reg==(g:Int)))
def lastA (p:List (List Ins)) (es:List Ev) (t g:Nat) (k:Nat):Int:=(List.range k).foldl (fun (a:Int) (i:Nat)=>match es[i]? with
 | some e=>if hitA p t g e=true then (i:Int) else a
 | none=>a) (-1)
theorem lastA_succ (p:List (List Ins)) {es:List Ev} (t g:Nat) {k:Nat} {e:Ev} (h:es[k]? = some e):lastA p es t g (k+1)=if hitA p t g e=true then (k:Int) else lastA p es t g k:=by
 unfold lastA
 rw [List.range_succ,List.foldl_append]
 simp [h]
def regsK (p:List (List Ins)) (es:List Ev) (fr vals:List Int) (k:Nat) (i:Nat):Int:=if 3≤i∧i < 12 then regOf fr vals (lastA p es ((i - 3) / 3) ((i - 3) % 3) k) else 0
def bytesK (p:List (List Ins)) (es:List Ev) (fr vals:List Int) (k:Nat):List Int:=(List.range 15).map (regsK p es fr vals k)
theorem bytesK_length (p:List (List Ins)) (es:List Ev) (fr vals:List Int) (k:Nat):(bytesK p es fr vals k).length=15:=by simp [bytesK]
theorem bytesK_zero (p:List (List Ins)) (es:List Ev) (fr vals:List Int):bytesK p es fr vals 0=List.replicate 15 0:=by
 have h:∀ i,regsK p es fr vals 0 i=0:=fun i=>by
  unfold regsK
  split
  ·simp [lastA,regOf]
  ·rfl
 apply List.ext_getElem?
 intro i
 by_cases hi:i < 15
 ·rw [List.getElem?_replicate,if_pos hi]
  simp [bytesK,hi,h]
 ·rw [List.getElem?_eq_none (by rw [bytesK_length];omega),List.getElem?_eq_none (by simp;omega)]
theorem bytesK_skip {p:List (List Ins)} {es:List Ev} (fr vals:List Int) {k:Nat} {e:Ev} (h:es[k]? = some e) (hr:e.r=false):bytesK p es fr vals (k+1)=bytesK p es fr vals k:=by
 unfold bytesK
 apply List.map_congr_left
 intro i _
 unfold regsK
 by_cases hc:3≤i∧i < 12
 ·rw [if_pos hc,if_pos hc,lastA_succ p _ _ h,if_neg (by simp [hitA,hr])]
 ·rw [if_neg hc,if_neg hc]
theorem bytesK_read {p:List (List Ins)} {es:List Ev} (fr vals:List Int) {k t g:Nat} {e:Ev} (h:es[k]? = some e) (hr:e.r=true) (ht:e.t=t) (hg:(insE p e).reg=g) (ht3:t < 3) (hg3:g < 3) :
 bytesK p es fr vals (k+1)=(bytesK p es fr vals k).set (3+3 * t+g) (valAt vals (frAt fr k)):=by
 apply List.ext_getElem?
 intro i
 rw [List.getElem?_set]
 by_cases hi:i < 15
 ·have e1:∀ q,(bytesK p es fr vals q)[i]? = some (regsK p es fr vals q i):=fun q=>by simp [bytesK,hi]
  rw [e1,e1]
  unfold regsK
  by_cases hc:3≤i∧i < 12
  ·rw [if_pos hc,if_pos hc,lastA_succ p _ _ h]
   by_cases he:3+3 * t+g=i
   ·have h1:(i - 3) / 3=t:=by omega
    have h2:(i - 3) % 3=g:=by omega
    have h3:hitA p ((i - 3) / 3) ((i - 3) % 3) e=true:=by rw [h1,h2];simp [hitA,hr,ht,hg]
    have h4:3+3 * t+g < (bytesK p es fr vals k).length:=by rw [bytesK_length];omega
    rw [if_pos he,if_pos h3,if_pos h4]
    unfold regOf
    rw [if_neg (by omega)]
   ·rw [if_neg he,if_neg (by
     simp only [hitA,hr,ht,hg,Bool.true_and,Bool.and_eq_true,beq_iff_eq]
     rintro ⟨h1,h2⟩
     omega)]
  ·rw [if_neg hc,if_neg hc,if_neg (by omega)]
 ·rw [List.getElem?_eq_none (by rw [bytesK_length];omega)]
  split
  ·rw [if_neg (by rw [bytesK_length];omega)]
  ·rw [List.getElem?_eq_none (by rw [bytesK_length];omega)]
theorem hit_eq {p:List (List Ins)} {t:Nat} {r:List Ins} (hr:p[t]? = some r) {k:Nat} {e:Ev} (h:(evAll p)[k]? = some e) (g:Nat):hitR p t r.length g e=hitA p t g e:=by
 unfold hitR hitA
 by_cases ht:e.t=(t:Int)
 ·have hi:e.i < (r.length:Int):=by
   rcases ev_cases h with h1 | ⟨t',i',r',h1,h2,h3,h4, -⟩
   ·omega
   ·have e1:t'=t:=by omega
    subst e1
    rw [hr] at h3;simp at h3;subst h3
    have:=(List.getElem?_eq_some_iff.1 h4).1
    omega
  simp [hi]
 ·have:(e.t==(t:Int))=false:=by simp [ht]
  rw [this];rfl
theorem last_eq {p:List (List Ins)} {t:Nat} {r:List Ins} (hr:p[t]? = some r) (g:Nat):∀ k,k≤(evAll p).length→lastTo p (evAll p) t r.length g k=lastA p (evAll p) t g k:=by
 intro k
 induction k with
 | zero=>intro _;rfl
 | succ k ih =>
  intro hk
  obtain ⟨e,he⟩:=get_of_lt (xs:=evAll p) (k:=k) hk
  rw [lastTo_succ p _ _ _ he,lastA_succ p _ _ he,hit_eq hr he,ih (by omega)]
def bytesM (p:List (List Ins)) (es:List Ev) (x:Xc) (vals:List Int) (k i:Nat):Int:=if 12≤i∧i < 12+k then memV x.od vals (i - 12) else regsK p es x.fr vals es.length i
def finB (p:List (List Ins)) (es:List Ev) (x:Xc) (vals:List Int) (k:Nat):List Int:=(List.range 15).map (bytesM p es x vals k)
theorem finB_length (p:List (List Ins)) (es:List Ev) (x:Xc) (vals:List Int) (k:Nat):(finB p es x vals k).length=15:=by simp [finB]
theorem finB_get (p:List (List Ins)) (es:List Ev) (x:Xc) (vals:List Int) (k:Nat) {i:Nat} (hi:i < 15):(finB p es x vals k)[i]? = some (bytesM p es x vals k i):=by simp [finB,hi]
theorem finB_zero (p:List (List Ins)) (es:List Ev) (x:Xc) (vals:List Int):finB p es x vals 0=bytesK p es x.fr vals es.length:=by
 unfold finB bytesK
 apply List.map_congr_left
 intro i _
 unfold bytesM
 rw [if_neg (by omega)]
theorem finB_succ (p:List (List Ins)) (es:List Ev) (x:Xc) (vals:List Int) {k:Nat} (hk:k < 3):finB p es x vals (k+1)=(finB p es x vals k).set (12+k) (memV x.od vals k):=by
 apply List.ext_getElem?
 intro i
 rw [List.getElem?_set]
 by_cases hi:i < 15
 ·rw [finB_get _ _ _ _ _ hi,finB_get _ _ _ _ _ hi]
  unfold bytesM
  by_cases he:12+k=i
  ·have h4:12+k < (finB p es x vals k).length:=by rw [finB_length];omega
   rw [if_pos he,if_pos h4,if_pos (by omega)]
   congr 2;omega
  ·rw [if_neg he]
   by_cases hc:12≤i∧i < 12+k
   ·rw [if_pos hc,if_pos (by omega)]
   ·rw [if_neg hc,if_neg (by omega)]
 ·rw [List.getElem?_eq_none (by rw [finB_length];omega)]
  split
  ·rw [if_neg (by rw [finB_length];omega)]
  ·rw [List.getElem?_eq_none (by rw [finB_length];omega)]
theorem wrL_pos0 {p:List (List Ins)} {l:Nat} (hl:l < 3):0 < (wrL (evAll p) l).length:=by
 have:=head_wrL (p:=p) hl
 cases h:wrL (evAll p) l with
 | nil=>rw [h] at this;cases this
 | cons x xs=>simp
theorem okTo_get {es:List Ev} {c:Nat→Option Int} {j:Nat} {e:Ev} (h:okTo es c es.length=true) (hj:es[j]? = some e) (hw:e.w=true):∃ v,c j=some v:=by
 cases hc:c j with
 | some v=>exact ⟨v,rfl⟩
 | none=>rw [okTo_no c hj hw hc] at h;cases h
theorem val_write {p:List (List Ins)} {x:Xc} (hok:execOk p x=true) (hv:valsOk p x.fr=true) {j:Nat} {e:Ev} (hj:(evAll p)[j]? = some e) (hw:e.w=true):∃ v,(valsL p x.fr)[j]? = some v∧0≤v∧v≤3:=by
 obtain ⟨v,hc⟩:=okTo_get hv hj hw
 unfold execOk at hok
 simp only [Bool.and_eq_true] at hok
 refine ⟨v, ?_,chain_val (fun i v h=>dep_val hok.1 h) hc⟩
 unfold valsL
 rw [valTo_get _ (List.getElem?_eq_some_iff.1 hj).1 (Nat.le_refl _) hj,val1,if_pos hw,hc];rfl
theorem val_read {p:List (List Ins)} {x:Xc} (hok:execOk p x=true) (hv:valsOk p x.fr=true) {k:Nat} {e:Ev} (hk:(evAll p)[k]? = some e) (hr:e.r=true):∃ (j:Nat) (v:Int),x.fr[k]? = some (j:Int)∧(valsL p x.fr)[j]? = some v∧0≤v∧v≤3:=by
 have hok2:=hok
 unfold execOk at hok2
 simp only [Bool.and_eq_true] at hok2
 obtain ⟨j,e',h1,h2,h3, -⟩:=from_write hok2.2.2.2.1 hk hr
 obtain ⟨v,h4,h5⟩:=val_write hok hv h2 h3
 exact ⟨j,v,h1,h4,h5⟩
theorem val_order {p:List (List Ins)} {x:Xc} (hok:execOk p x=true) (hv:valsOk p x.fr=true) {l:Nat} (hl:l < 3):∃ (o:List Int) (j:Nat) (v:Int),x.od[l]? = some o∧0 < o.length∧o[o.length - 1]? = some (j:Int)∧(valsL p x.fr)[j]? = some v∧0≤v∧v≤3:=by
 have hok2:=hok
 unfold execOk at hok2
 simp only [Bool.and_eq_true] at hok2
 obtain ⟨o,h1,h2⟩:=ordersOk_get hok2.2.2.2.2 hl
 unfold orderOk at h2
 simp only [Bool.and_eq_true,decide_eq_true_eq] at h2
 have h0:0 < o.length:=by rw [h2.1.length_eq];exact wrL_pos0 hl
 obtain ⟨y,hy⟩:=get_of_lt (xs:=o) (k:=o.length - 1) (by omega)
 obtain ⟨j,e', -,rfl,h5,h6, -⟩:=mem_wrL.1 (h2.1.mem_iff.1 (List.mem_of_getElem? hy))
 obtain ⟨v,h7,h8⟩:=val_write hok hv h5 h6
 exact ⟨o,j,v,h1,h0,hy,h7,h8⟩
theorem lastA_cases (p:List (List Ins)) (es:List Ev) (t g:Nat):∀ k,k≤es.length→lastA p es t g k = -1∨∃ (i:Nat) (e:Ev),lastA p es t g k=i∧es[i]? = some e∧e.r=true:=by
 intro k
 induction k with
 | zero=>intro _;exact .inl rfl
 | succ k ih =>
  intro hk
  obtain ⟨e,he⟩:=get_of_lt (xs:=es) (k:=k) hk
  rw [lastA_succ p t g he]
  by_cases hh:hitA p t g e=true
  ·rw [if_pos hh]
   refine .inr ⟨k,e,rfl,he, ?_⟩
   unfold hitA at hh
   simp only [Bool.and_eq_true] at hh
   exact hh.2.1
  ·rw [if_neg hh];exact ih (by omega)
theorem memV_eq {od:List (List Int)} {vals:List Int} {l:Nat} {o:List Int} {j:Nat} {v:Int} (h1:od[l]? = some o) (h2:o[o.length - 1]? = some (j:Int)) (h3:vals[j]? = some v):memV od vals l=v:=by
 unfold memV lastO valAt
 rw [h1,Option.getD_some,List.getLast?_eq_getElem?,h2]
 simp [h3]
theorem valAt_eq {fr vals:List Int} {k j:Nat} {v:Int} (h1:fr[k]? = some (j:Int)) (h2:vals[j]? = some v):valAt vals (frAt fr (k:Int))=v:=by
 unfold valAt frAt
 simp [h1,h2]
theorem regs_bound {p:List (List Ins)} {x:Xc} (hok:execOk p x=true) (hv:valsOk p x.fr=true) (i:Nat) {k:Nat} (hk:k≤(evAll p).length):0≤regsK p (evAll p) x.fr (valsL p x.fr) k i∧regsK p (evAll p) x.fr (valsL p x.fr) k i≤3:=by
 unfold regsK
 split
 ·rcases lastA_cases p (evAll p) ((i - 3) / 3) ((i - 3) % 3) k hk with h | ⟨r,e,h1,h2,h3⟩
  ·rw [h];simp [regOf]
  ·obtain ⟨j,v,h4,h5,h6⟩:=val_read hok hv h2 h3
   unfold regOf
   rw [h1,if_neg (by omega),valAt_eq h4 h5];exact h6
 ·omega
theorem finB_bound {p:List (List Ins)} {x:Xc} (hok:execOk p x=true) (hv:valsOk p x.fr=true) {k:Nat} (hk:k≤3):∀ y∈finB p (evAll p) x (valsL p x.fr) k,0≤y∧y≤3:=by
 intro y hy
 unfold finB at hy
 rw [List.mem_map] at hy
 obtain ⟨i, -,rfl⟩:=hy
 unfold bytesM
 split
 ·rename_i h
  obtain ⟨o,j,v,h1, -,h2,h3,h4⟩:=val_order hok hv (l:=i - 12) (by omega)
  rw [memV_eq h1 h2 h3];exact h4
 ·exact regs_bound hok hv i (Nat.le_refl _)
theorem outB_eq {p:List (List Ins)} (x:Xc) (vals:List Int) (hp:p.length≤3):outB (finB p (evAll p) x vals 3) p.length=outL p (evAll p) x vals:=by
 have hrow:∀ (t:Nat) (r:List Ins),p[t]? = some r→rowB (finB p (evAll p) x vals 3) t 3=outRow p (evAll p) x.fr vals t r.length 3:=by
  intro t r hr
  have ht:t < 3:=by have:=(List.getElem?_eq_some_iff.1 hr).1;omega
  unfold rowB outRow
  apply List.map_congr_left
  intro g hg
  have hg3:g < 3:=List.mem_range.1 hg
  rw [finB_get _ _ _ _ _ (by omega),Option.getD_some]
  unfold bytesM
  rw [if_neg (by omega)]
  unfold regsK
  rw [if_pos (by omega),show (3+3 * t+g - 3) / 3=t by omega,show (3+3 * t+g - 3) % 3=g by omega]
  unfold regV lastRd
  rw [last_eq hr g _ (Nat.le_refl _)]
 have hregs:∀ n,n≤p.length→regsB (finB p (evAll p) x vals 3) n=outTo p (evAll p) x.fr vals n:=by
  intro n
  induction n with
  | zero=>intro _;rfl
  | succ n ih =>
   intro hn
   obtain ⟨r,hr⟩:=get_of_lt (xs:=p) (k:=n) hn
   rw [regsB_succ,outTo_succ _ _ _ hr,ih (by omega),hrow n r hr]
 have hmem:memB (finB p (evAll p) x vals 3) 3=outMem x.od vals 3:=by
  unfold memB outMem
  apply List.map_congr_left
  intro l hl
  have hl3:l < 3:=List.mem_range.1 hl
  rw [finB_get _ _ _ _ _ (by omega),Option.getD_some]
  unfold bytesM
  rw [if_pos (by omega),show 12+l - 12=l by omega]
 unfold outB outL
 rw [hregs _ (Nat.le_refl _),hmem]
end Go.Proofs.YtkfhgnkonaafgaaGreatDoor
namespace Go.Proofs.YtkfhgnkonaafgaaGreatDoor
open Go.RowKit
def TestsN_i_OutcomeValid_1 (f:Int→Bool):Prop:=∀ (x:Int) (w:World),Calls Tryz.prog 74 #[.int .i64 x] w fun e w'=>e = .returned (.bool (f x))∧Below w.heap.size w w'
theorem IndexFuncN_i_OutcomeValid_1 (v:Value) (xs:List Int) (f:Int→Bool) (w:World) (hx:Rep IntE w v xs) (hf:TestsN_i_OutcomeValid_1 f) :
 Calls Tryz.prog 118 #[v, .func (.func 74) #[] #[]] w fun e w'=>(∃ q:Int,e = .returned (.int .i64 q)∧IdxOf f xs q)∧Below w.heap.size w w':=by
 obtain ⟨a,c,rfl,hc1,hc2,hc3,hx⟩:=hx.open
 have HX:=hide hx;clear hx
 have HF:=hide hf;clear hf
 generalize hn:xs.length=n at *
 have H:=hide hn;clear hn
 go_enter Tryz.func118,Tryz.ntmps118
 go_wp2_with fail
 go_loopw [8] (fun i wr => ∃ t:Nat,t≤n∧i = .int .i64 t∧Hid (∀ x∈xs.take t,f x=false)∧Below w.heap.size w wr) (fun i _=>n - (intOf i).toNat)
 case atStart=>exact ⟨0,Nat.zero_le _,rfl,hide (by simp),Below.refl _ _⟩
 case round =>
  obtain ⟨t,ht,rfl,hno,hb⟩:=hrel
  by_cases hlt:t < n
  ·obtain ⟨x,hxk⟩:=get_of_lt (xs:=xs) (k:=t) (by rw [H.out];exact hlt)
   obtain ⟨b,o,rfl,hbl,i0⟩:=(HX.out.below hb).int hxk
   have hlt':=nat_of_lt hlt
   have X:=hide hxk;clear hxk
   generalize hfx:f x=fx
   have FX:=hide hfx;clear hfx
   have hcall:=HF.out x
   rw [FX.out] at hcall
   have HC:=hide hcall;clear hcall
   cases fx
   ·have NO:Hid (∀ x∈xs.take (t+1),f x=false):=hide (none_succ hno.out X.out FX.out)
    go_wp2_with fail
    (with_reducible refine (HC.out _).mono ?_);rintro e w2 ⟨rfl,hb2⟩
    go_wp2_with fail
    go_roundw
    case rel=>exact ⟨t+1,by omega,by go_num,NO,hb.trans (hb2.mono hb.size)⟩
    case measure=>simp [intOf];omega
   ·go_wp2_with fail
    (with_reducible refine (HC.out _).mono ?_);rintro e w2 ⟨rfl,hb2⟩
    go_wp2_with fail
    go_ret
    exact ⟨⟨_,rfl, .inr ⟨t,x,rfl,X.out,FX.out,hno.out⟩⟩,hb.trans (hb2.mono hb.size)⟩
  ·go_wp2_with fail
   go_ret
   refine ⟨⟨_,rfl, .inl ⟨rfl, ?_⟩⟩,hb⟩
   have h:=hno.out
   rwa [List.take_of_length_le (by rw [H.out];omega)] at h
theorem ContainsFuncN_i_OutcomeValid_1 (v:Value) (xs:List Int) (f:Int→Bool) (w:World) (hx:Rep IntE w v xs) (hf:TestsN_i_OutcomeValid_1 f) :
 Calls Tryz.prog 73 #[v, .func (.func 74) #[] #[]] w fun e w'=>e = .returned (.bool (xs.any f))∧Below w.heap.size w w':=by
 have HI:=hide (IndexFuncN_i_OutcomeValid_1 v xs f w hx hf)
 obtain ⟨a,c,rfl, -⟩:=hx.open
 clear hx hf
 go_enter Tryz.func73,Tryz.ntmps73
 go_wp2_with fail
 (with_reducible refine HI.out.mono ?_);rintro e w1 ⟨⟨q,rfl,hq⟩,hb1⟩
 have E:Hid (decide (0≤q)=xs.any f):=hide hq.any
 clear hq
 go_wp2_with fail
 go_ret
 exact ⟨by rw [← E.out];rfl,hb1⟩
theorem OutcomeValid_1:TestsN_i_OutcomeValid_1 (fun x => !inB x 0 3):=by
 intro x w
 have HC:=hide (fun w'=>within_any x 0 3 w')
 show Calls _ _ _ _ fun e w'=>e = .returned (.bool (!inB x 0 3))∧_
 generalize inB x 0 3=R at *
 go_enter Tryz.func74,Tryz.ntmps74
 go_wp2_with (go_at_call 75;(with_reducible refine (HC.out _).mono ?_);rintro e w1 ⟨rfl,rfl⟩)
 go_ret
 exact ⟨rfl,Below.refl _ _⟩
def outValid (p:List (List Ins)) (o:List Int):Bool:=progValid p&&(decide (o.length=3 * p.length+3)&&o.all fun x=>inB x 0 3)
theorem OutcomeValid_any (v v':Value) (p:List (List Ins)) (o:List Int) (w:World) (hp:RepP w v p) (ho:Rep IntE w v' o) (hl:p.flatten.length≤1048576) (hpl:p.length≤1048576) :
 Calls Tryz.prog 41 #[v,v'] w fun e w'=>e = .returned (.bool (outValid p o))∧Below w.heap.size w w':=by
 have HP:=hide hp;have HO:=hide ho
 have HV:=hide (ProgramValid_any v p w hp hl)
 have HC:=hide (fun w' h=>ContainsFuncN_i_OutcomeValid_1 v' o _ w' h OutcomeValid_1)
 obtain ⟨a,c,rfl,hc1,hc2,hc3, -⟩:=hp.open
 obtain ⟨a',c',rfl,hc1',hc2',hc3', -⟩:=ho.open
 have E:Hid (outValid p o=(progValid p&&(decide (o.length=3 * p.length+3)&&o.all fun x=>inB x 0 3))):=hide rfl
 have EA:Hid ((o.any fun x => !inB x 0 3) = !(o.all fun x=>inB x 0 3)):=hide (by rw [List.not_all_eq_any_not])
 clear hp ho
 generalize outValid p o=R at *
 generalize progValid p=b at *
 generalize (o.any fun x => !inB x 0 3)=A at *
 generalize (o.all fun x=>inB x 0 3)=D at *
 generalize p.length=n at *
 generalize o.length=m at *
 cases b
 ·obtain rfl:R=false:=by rw [E.out];rfl
  go_enter Tryz.func41,Tryz.ntmps41
  go_wp2_with fail
  (with_reducible refine HV.out.mono ?_);rintro e w1 ⟨rfl,hb1⟩
  go_wp2_with fail
  go_ret
  exact ⟨rfl,hb1⟩
 ·by_cases hm:m=3 * n+3
  ·have E2:Hid (R = !A):=hide (by rw [E.out,EA.out,hm];simp)
   have hm':((m:Int)==3 * (n:Int)+2+1)=true:=by simp;omega
   clear hm
   go_enter Tryz.func41,Tryz.ntmps41
   go_wp2_with fail
   (with_reducible refine HV.out.mono ?_);rintro e w1 ⟨rfl,hb1⟩
   go_wp2_with fail
   (with_reducible refine (HC.out _ (HO.out.below hb1)).mono ?_);rintro e w2 ⟨rfl,hb2⟩
   go_wp2_with fail
   go_ret
   exact ⟨by rw [E2.out];rfl,hb1.trans (hb2.mono hb1.size)⟩
  ·obtain rfl:R=false:=by rw [E.out];simp [hm]
   have hm':((m:Int)==3 * (n:Int)+2+1)=false:=by simp;omega
   clear hm
   go_enter Tryz.func41,Tryz.ntmps41
   go_wp2_with fail
   (with_reducible refine HV.out.mono ?_);rintro e w1 ⟨rfl,hb1⟩
   go_wp2_with fail
   go_ret
   exact ⟨rfl,hb1⟩
theorem l3Size_any (a:Option Addr) (n c:Nat) (w:World) (hn:n≤1048576):Calls Tryz.prog 63 #[.slice a n c] w fun e w'=>e = .returned (.int .i64 (3 * n+3))∧w=w':=by
 go_enter Tryz.func63,Tryz.ntmps63
 go_wp2_with fail
 go_ret
 refine ⟨congrArg Ending.returned (congrArg (Value.int .i64) ?_),rfl⟩
 omega
theorem sOutcomeValid_any (v v':Value) (p:List (List Ins)) (o:List Int) (w:World) (hp:RepP w v p) (ho:Rep IntE w v' o) (hl:p.flatten.length≤1048576) (hpl:p.length≤1048576) :
 Calls Tryz.prog 33 #[v,v'] w fun e w'=>e = .returned (.bool (outValid p o))∧Below w.heap.size w w':=by
 have HP:=hide hp;have HO:=hide ho
 have HV:=hide (sProgramValid_any v p w hp hl hpl)
 obtain ⟨a,c,rfl,hc1,hc2,hc3, -⟩:=hp.open
 obtain ⟨a',c',rfl,hc1',hc2',hc3', -⟩:=ho.open
 have E:Hid (outValid p o=(progValid p&&(decide (o.length=3 * p.length+3)&&o.all fun x=>inB x 0 3))):=hide rfl
 have HZ:=hide (fun w'=>l3Size_any a p.length c w' hpl)
 clear hp ho
 generalize outValid p o=R at *
 generalize progValid p=b at *
 generalize p.length=n at *
 generalize hm:o.length=m at *
 have H:=hide hm;clear hm
 cases b
 ·obtain rfl:R=false:=by rw [E.out];rfl
  go_enter Tryz.func33,Tryz.ntmps33
  go_wp2_with fail
  (with_reducible refine HV.out.mono ?_);rintro e w1 ⟨rfl,hb1⟩
  go_wp2_with fail
  go_ret
  exact ⟨rfl,hb1⟩
 ·by_cases hm:m=3 * n+3
  ·have E2:Hid (R=o.all fun x=>inB x 0 3):=hide (by rw [E.out,hm];simp)
   have hm':((m:Int) != 3 * (n:Int)+3)=false:=by simp;omega
   clear hm
   go_enter Tryz.func33,Tryz.ntmps33
   go_wp2_with fail
   (with_reducible refine HV.out.mono ?_);rintro e w1 ⟨rfl,hb1⟩
   go_wp2_with fail
   (with_reducible refine (HZ.out _).mono ?_);rintro e w2 ⟨rfl,rfl⟩
   go_wp2_with fail
   clear hm'
   go_loopw [5] (fun i wr => ∃ t:Nat,t≤m∧i = .int .i64 t∧Hid (∀ x∈o.take t,inB x 0 3=true)∧Below w.heap.size w wr) (fun i _=>m - (intOf i).toNat)
   case atStart=>exact ⟨0,Nat.zero_le _,rfl,hide (by simp),hb1⟩
   case round =>
    obtain ⟨t,ht,rfl,hno,hb⟩:=hrel
    by_cases hlt:t < m
    ·obtain ⟨x,hxk⟩:=get_of_lt (xs:=o) (k:=t) (by rw [H.out];exact hlt)
     obtain ⟨b,o1,rfl,hbl,i0⟩:=(HO.out.below hb).int hxk
     have hlt':=nat_of_lt hlt
     have X:=hide hxk;clear hxk
     have HC:=hide (fun w'=>l1In_any x 3 w')
     generalize hfx:inB x 0 3=fx at *
     have FX:=hide hfx;clear hfx
     cases fx
     ·obtain rfl:R=false:=by
       rw [E2.out,List.all_eq_false]
       exact ⟨x,List.mem_of_getElem? X.out,by rw [FX.out];simp⟩
      go_wp2_with fail
      (with_reducible refine (HC.out _).mono ?_);rintro e w2 ⟨rfl,rfl⟩
      go_wp2_with fail
      go_ret
      exact ⟨rfl,hb⟩
     ·have NO:Hid (∀ x∈o.take (t+1),inB x 0 3=true):=hide (by
       intro y hy
       rw [List.take_add_one,X.out] at hy
       simp at hy
       rcases hy with hy | rfl
       ·exact hno.out y hy
       ·exact FX.out)
      go_wp2_with fail
      (with_reducible refine (HC.out _).mono ?_);rintro e w2 ⟨rfl,rfl⟩
      go_wp2_with fail
      go_roundw
      case rel=>exact ⟨t+1,by omega,by go_num,NO,hb⟩
      case measure=>simp [intOf];omega
    ·obtain rfl:R=true:=by
      rw [E2.out,List.all_eq_true]
      have h:=hno.out
      rwa [List.take_of_length_le (by rw [H.out];omega)] at h
     go_wp2_with fail
     go_ret
     exact ⟨rfl,hb⟩
  ·obtain rfl:R=false:=by rw [E.out];simp [hm]
   have hm':((m:Int) != 3 * (n:Int)+3)=true:=by simp;omega
   clear hm
   go_enter Tryz.func33,Tryz.ntmps33
   go_wp2_with fail
   (with_reducible refine HV.out.mono ?_);rintro e w1 ⟨rfl,hb1⟩
   go_wp2_with fail
   (with_reducible refine (HZ.out _).mono ?_);rintro e w2 ⟨rfl,rfl⟩
   go_wp2_with fail
   go_ret
   exact ⟨rfl,hb1⟩
end Go.Proofs.YtkfhgnkonaafgaaGreatDoor
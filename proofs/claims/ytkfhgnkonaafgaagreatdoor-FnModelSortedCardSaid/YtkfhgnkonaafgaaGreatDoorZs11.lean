/-
  Plain: fences that are put into places of a program.
-/
import Derived.Test.YtkfhgnkonaafgaaGreatDoorZs05
import Derived.Test.YtkfhgnkonaafgaaGreatDoorZs04
import Derived.Test.YtkfhgnkonaafgaaGreatDoorZs07
import Derived.Deep.RegionHeld3
set_option maxHeartbeats 6400000
set_option maxRecDepth 100000
namespace Go.Proofs.YtkfhgnkonaafgaaGreatDoor
open Go.RowKit
theorem eql_slice_nil (P:Program) (w:World) (t e:TypeId) (a:Option Addr) (n c n' c':Nat) (h:P.underlying t=some (.slice e)):(binOp .eql t (.slice a n c) (.slice none n' c')).run P w = .ok (.bool a.isNone) w:=Lib.run_eql_slice_nil w t e a n c n' c' h
theorem l1Copy_any (v:Value) (xs:List (List Ins)) (w:World) (hx:RepP w v xs) (hl:xs.length≤1048576) (hl2:∀ r∈xs,r.length≤1048576) :
 Calls Tryz.prog 128 #[v] w (RetOwn2 InsE 71 103 w xs):=by
 obtain ⟨a,c,rfl,hc1,hc2,hc3,hx⟩:=hx.open
 have HX:=hide hx;clear hx
 have HL2:=hide hl2;clear hl2
 generalize hn:xs.length=n at *
 have H:=hide hn;clear hn
 go_enter Tryz.func128,Tryz.ntmps128
 go_wp2_with fail
 go_loopw [3,4] (fun s i wr => ∃ k:Nat,k≤n∧i = .int .i64 k∧OwnP wr w.heap.size s (xs.take k)∧Below w.heap.size w wr) (fun _ i _=>n - (intOf i).toNat)
 case atStart=>exact ⟨0,Nat.zero_le _,rfl,by simpa using Own2.empty _ _ w (Nat.le_refl _),(Below.refl _ _).alloc (Nat.le_refl _) _⟩
 case round =>
  obtain ⟨k,hk,rfl,ho,hb⟩:=hrel
  by_cases hlt:k < n
  ·obtain ⟨x,hxk⟩:=get_of_lt (xs:=xs) (k:=k) (by rw [H.out];exact hlt)
   obtain ⟨b,o,ra,rc,rfl,hbl,i0,i1⟩:=(HX.out.below hb).row hxk
   have hlt':=nat_of_lt hlt
   have hxl:x.length≤1048576:=HL2.out x (List.mem_of_getElem? hxk)
   have htk:(xs.take k).length≤1048576:=by simp;omega
   have TS:Hid (xs.take (k+1)=xs.take k++[x]):=hide (by rw [List.take_add_one,hxk];rfl)
   have X:=hide hxk;clear hxk
   have I1:=hide i1;clear i1
   generalize hT:xs.take k=T at *
   clear hT
   have hlen:([]:List Ins).length+x.length≤68719476736:=by simp;omega
   have hbx:=(Below.refl wr.heap.size wr).alloc (Nat.le_refl _) (.cells #[] 103)
   have HBX:=hide hbx;clear hbx
   obtain ⟨us,hU, -⟩:=ho.told
   have HU:=hide hU;clear hU
   have hub:us.length≤68719476736:=by have:=HU.out.1;omega
   go_wp2_with (first | (at_builtin;refine wpList_appS InsE 103 Tryz.infoIns rfl Tryz.underlying71 wr.heap.size _ [] x _ (Own.empty _ wr (Nat.le_refl _)) (I1.out.below HBX.out) (by decide) hlen (by simp) rfl (.tmp 13) (.tmp 17) rfl rfl rfl ?_;intro u w2 hown1 hgr1;obtain ⟨s,rfl, -⟩:=Own.toSlc hown1;have hb2:=HBX.out.grown hgr1 (by simp) (fun k hk=>by simp [Value.ownBlock] at hk;omega)) | (at_builtin;refine wpList_app SlcE 71 Tryz.infoInsS rfl Tryz.underlying32 w.heap.size _ us s ((HU.out.2.1.below hb2).alloc _) (by decide) hub (by simp;have:=hb.size;have:=hb2.size;omega) rfl (.tmp 12) (.tmp 19) rfl rfl w2.heap.size 0 1 rfl news_alloc ?_;intro v' w3 hown3 hgr3))
   have hown1':OwnI w2 wr.heap.size s.v x:=by simpa using hown1
   have ho2:=(HU.out).app (by decide) (hb2.trans ((Below.refl _ _).alloc hb2.size _)) hb.size (hown1'.alloc _) hown3 hgr3
   rw [← TS.out] at ho2
   have hb3:=below_app (hb.trans (hb2.mono hb.size)) (HU.out.2.1.below hb2) hgr3
   go_roundw
   case rel=>exact ⟨k+1,by omega,by go_num,ho2,hb3⟩
   case measure=>simp [intOf];omega
  ·go_wp2_with fail
   go_ret
   rw [List.take_of_length_le (by rw [H.out];omega)] at ho
   exact ⟨_,rfl,ho,hb⟩
end Go.Proofs.YtkfhgnkonaafgaaGreatDoor
namespace Go.Proofs.YtkfhgnkonaafgaaGreatDoor
open Go.RowKit
def bitsTo (f:Nat→Bool):Nat→Int
 | 0=>0
 | k+1=>if f k=true then bits .or .i64 (bitsTo f k) (wrap64 ((2:Int) ^ k)) else bitsTo f k
def relOf (n:Nat) (f:Nat→Nat→Bool):List Int:=(List.range n).map fun i=>bitsTo (f i) n
theorem relOf_length (n:Nat) (f:Nat→Nat→Bool):(relOf n f).length=n:=by simp [relOf]
theorem relOf_get {n:Nat} {f:Nat→Nat→Bool} {i:Nat} (h:i < n):(relOf n f)[i]? = some (bitsTo (f i) n):=by
 simp [relOf,h]
def confB (L:List Ev) (i k:Nat):Bool:=match L[i]?,L[k]? with
 | some a,some b=>decide (0≤a.t)&&(decide (0≤b.t)&&((a.t != b.t)&&((a.l==b.l)&&(a.w||b.w))))
 | _,_=>false
def conflicts (p:List (List Ins)):List Int:=relOf (evAll p).length (confB (evAll p))
theorem mem_evOf {t i:Nat} {x:Ins} {e:Ev} (h:e∈evOf t i x):e=⟨t,i,x.loc,isRop x.op,isWop x.op⟩∧x.op≠4:=by
 unfold evOf at h
 split at h
 ·simp at h
 ·simp at h;exact ⟨h,by assumption⟩
theorem mem_evAll {p:List (List Ins)} {e:Ev} (h:e∈evAll p):(e.t = -1)∨∃ (t i:Nat) (r:List Ins) (x:Ins),p[t]? = some r∧r[i]? = some x∧e=⟨t,i,x.loc,isRop x.op,isWop x.op⟩∧x.op≠4:=by
 unfold evAll at h
 rcases List.mem_append.1 h with h | h
 ·left
  simp only [evHead,List.mem_map,List.mem_range] at h
  obtain ⟨l,_,rfl⟩:=h
  rfl
 ·right
  unfold evTo at h
  rw [List.mem_flatMap] at h
  obtain ⟨t,ht,h⟩:=h
  cases hr:p[t]? with
  | none=>rw [hr] at h;simp at h
  | some r =>
   rw [hr] at h
   simp only [evRow,List.mem_flatMap,List.mem_range] at h
   obtain ⟨i,hi,h⟩:=h
   obtain ⟨x,hx⟩:=get_of_lt (xs:=r) (k:=i) hi
   rw [hx] at h
   obtain ⟨rfl,hx4⟩:=mem_evOf h
   exact ⟨t,i,r,x,hr,hx,rfl,hx4⟩
end Go.Proofs.YtkfhgnkonaafgaaGreatDoor
namespace Go.Proofs.YtkfhgnkonaafgaaGreatDoor
def chain (d:Nat→Int ⊕ Nat):Nat→Nat→Option Int
 | 0,_=>none
 | k+1,i=>match d i with
  | .inl v=>some v
  | .inr j=>chain d k j
theorem chain_inl {d:Nat→Int ⊕ Nat} {i:Nat} {v:Int} (h:d i = .inl v) (k:Nat):chain d (k+1) i=some v:=by simp [chain,h]
theorem chain_inr {d:Nat→Int ⊕ Nat} {i j:Nat} (h:d i = .inr j) (k:Nat):chain d (k+1) i=chain d k j:=by simp [chain,h]
theorem chain_mono1 {d:Nat→Int ⊕ Nat}:∀ {k i:Nat} {v:Int},chain d k i=some v→chain d (k+1) i=some v:=by
 intro k
 induction k with
 | zero=>intro i v h;simp [chain] at h
 | succ k ih =>
  intro i v h
  rcases hd:d i with a | j
  ·rw [chain_inl hd] at h ⊢;exact h
  ·rw [chain_inr hd] at h ⊢;exact ih h
theorem chain_mono {d:Nat→Int ⊕ Nat} {k k' i:Nat} {v:Int} (h:chain d k i=some v) (hk:k≤k'):chain d k' i=some v:=by
 obtain ⟨m,rfl⟩:=Nat.exists_eq_add_of_le hk
 clear hk
 induction m with
 | zero=>exact h
 | succ m ih=>exact chain_mono1 ih
inductive Reach (d:Nat→Int ⊕ Nat):Nat→Nat→Nat→Prop
 | zero (i:Nat):Reach d 0 i i
 | step {i j m k:Nat} (h:d i = .inr j) (hr:Reach d m j k):Reach d (m+1) i k
theorem Reach.snoc {d:Nat→Int ⊕ Nat} {m i j k:Nat} (h:Reach d m i j) (hd:d j = .inr k):Reach d (m+1) i k:=by
 induction h with
 | zero i=>exact .step hd (.zero k)
 | step h _ ih=>exact .step h (ih hd)
theorem chain_reach {d:Nat→Int ⊕ Nat} {m i j:Nat} (h:Reach d m i j) (k:Nat):chain d (k+m) i=chain d k j:=by
 induction h with
 | zero i=>rfl
 | step h _ ih=>rw [← ih,← Nat.add_assoc,chain_inr h]
theorem chain_none {d : Nat → Int ⊕ Nat} {m i j : Nat} (h : Reach d m i j) : ∀ k, k ≤ m → chain d k i = none := by
  induction h with
  | zero i => intro k hk; obtain rfl : k = 0 := by omega
              rfl
  | step h _ ih =>
    intro k hk
    cases k with
    | zero => rfl
    | succ k => rw [chain_inr h]; exact ih k (by omega)
theorem chain_cyc {d:Nat→Int ⊕ Nat} {m i:Nat} (h:Reach d (m+1) i i):∀ k,chain d k i=none:=by
 intro k
 induction k using Nat.strongRecOn with
 | _ k ih =>
  by_cases hk:k≤m+1
  ·exact chain_none h k hk
  ·have:=chain_reach h (k - (m+1))
   rw [show k - (m+1)+(m+1)=k by omega] at this
   rw [this]
   exact ih _ (by omega)
def nodesV (d:Nat→Int ⊕ Nat):Nat→Nat→List Nat
 | 0,_=>[]
 | k+1,i=>i :: match d i with
  | .inl _=>[]
  | .inr j=>nodesV d k j
theorem mem_nodes {d:Nat→Int ⊕ Nat} {x:Nat}:∀ {k i:Nat},x∈nodesV d k i→∃ m,Reach d m i x:=by
 intro k
 induction k with
 | zero=>intro i h;simp [nodesV] at h
 | succ k ih =>
  intro i h
  rcases hd:d i with a | j
  ·simp [nodesV,hd] at h;subst h;exact ⟨0, .zero _⟩
  ·simp [nodesV,hd] at h
   rcases h with rfl | h
   ·exact ⟨0, .zero _⟩
   ·obtain ⟨m,hm⟩:=ih h;exact ⟨m+1, .step hd hm⟩
theorem nodes_nodup {d:Nat→Int ⊕ Nat}:∀ {k i:Nat} {v:Int},chain d k i=some v→(nodesV d k i).Nodup:=by
 intro k
 induction k with
 | zero=>intro i v h;simp [chain] at h
 | succ k ih =>
  intro i v h
  rcases hd:d i with a | j
  ·simp [nodesV,hd]
  ·have h2:=h
   rw [chain_inr hd] at h2
   simp only [nodesV,hd,List.nodup_cons]
   refine ⟨fun hm => ?_,ih h2⟩
   obtain ⟨m,hm⟩:=mem_nodes hm
   rw [chain_cyc (.step hd hm)] at h;cases h
theorem chain_nodes {d:Nat→Int ⊕ Nat}:∀ {k i:Nat} {v:Int},chain d k i=some v→chain d (nodesV d k i).length i=some v:=by
 intro k
 induction k with
 | zero=>intro i v h;simp [chain] at h
 | succ k ih =>
  intro i v h
  rcases hd:d i with a | j
  ·rw [chain_inl hd] at h
   simp only [nodesV,hd,List.length_cons]
   rw [chain_inl hd];exact h
  ·rw [chain_inr hd] at h
   simp only [nodesV,hd,List.length_cons]
   rw [chain_inr hd];exact ih h
theorem nodes_lt {d:Nat→Int ⊕ Nat} {n:Nat} (hn:∀ i j,i < n→d i = .inr j→j < n):∀ {k i:Nat},i < n→∀ x∈nodesV d k i,x < n:=by
 intro k
 induction k with
 | zero=>intro i _ x h;simp [nodesV] at h
 | succ k ih =>
  intro i hi x h
  rcases hd:d i with a | j
  ·simp [nodesV,hd] at h;omega
  ·simp [nodesV,hd] at h
   rcases h with rfl | h
   ·exact hi
   ·exact ih (hn i j hi hd) x h
theorem nodup_lt:∀ (n:Nat) (xs:List Nat),xs.Nodup→(∀ x∈xs,x < n)→xs.length≤n:=by
 intro n
 induction n with
 | zero=>intro xs _ h;cases xs with
  | nil=>simp
  | cons x xs=>exact absurd (h x (by simp)) (by omega)
 | succ n ih =>
  intro xs hn h
  have h1:=ih (xs.erase n) (hn.erase n) (fun x hx=>by
   have h2:=h x (List.mem_of_mem_erase hx)
   have h3:x≠n:=fun e=>by subst e;exact hn.not_mem_erase hx
   omega)
  have h2:xs.length≤(xs.erase n).length+1:=by
   by_cases hm:n∈xs
   ·rw [List.length_erase_of_mem hm];omega
   ·rw [List.erase_of_not_mem hm];omega
  omega
theorem chain_stable {d:Nat→Int ⊕ Nat} {n:Nat} (hn:∀ i j,i < n→d i = .inr j→j < n) {k i:Nat} {v:Int} (hi:i < n) (h:chain d k i=some v):chain d n i=some v:=
 chain_mono (chain_nodes h) (nodup_lt n _ (nodes_nodup h) (nodes_lt hn hi))
theorem chain_next {d:Nat→Int ⊕ Nat} {n:Nat} (hn:∀ i j,i < n→d i = .inr j→j < n) {i j:Nat} (hi:i < n) (hd:d i = .inr j):chain d n i=chain d n j:=by
 have hj:=hn i j hi hd
 cases h:chain d n j with
 | some v=>exact chain_stable hn hi (k:=n+1) (by rw [chain_inr hd];exact h)
 | none =>
  cases h2:chain d n i with
  | none=>rfl
  | some v =>
   have h3:=chain_mono1 h2
   rw [chain_inr hd,h] at h3;cases h3
theorem chain_end {d:Nat→Int ⊕ Nat} {n i:Nat} {v:Int} (hi:i < n) (hd:d i = .inl v):chain d n i=some v:=by
 obtain ⟨m,rfl⟩:∃ m,n=m+1:=⟨n - 1,by omega⟩
 exact chain_inl hd m
end Go.Proofs.YtkfhgnkonaafgaaGreatDoor
namespace Go.Proofs.YtkfhgnkonaafgaaGreatDoor
def insE (p:List (List Ins)) (e:Ev):Ins:=((p[e.t.toNat]?).bind fun r=>r[e.i.toNat]?).getD ⟨0,0,0,0⟩
def hitR (p:List (List Ins)) (t idx reg:Int) (e:Ev):Bool:=(e.t==t)&&(decide (e.i < idx)&&(e.r&&((insE p e).reg==reg)))
def lastTo (p:List (List Ins)) (es:List Ev) (t idx reg:Int) (k:Nat):Int:=(List.range k).foldl (fun (a:Int) (i:Nat)=>match es[i]? with
 | some e=>if hitR p t idx reg e=true then (i:Int) else a
 | none=>a) (-1)
def lastRd (p:List (List Ins)) (es:List Ev) (t idx reg:Int):Int:=lastTo p es t idx reg es.length
theorem lastTo_succ (p:List (List Ins)) {es:List Ev} (t idx reg:Int) {k:Nat} {e:Ev} (h:es[k]? = some e) :
 lastTo p es t idx reg (k+1)=if hitR p t idx reg e=true then (k:Int) else lastTo p es t idx reg k:=by
 unfold lastTo
 rw [List.range_succ,List.foldl_append]
 simp [h]
theorem lastTo_cases (p:List (List Ins)) (es:List Ev) (t idx reg:Int):∀ k,k≤es.length→lastTo p es t idx reg k = -1∨∃ (i:Nat) (e:Ev),lastTo p es t idx reg k=i∧i < k∧es[i]? = some e∧hitR p t idx reg e=true:=by
 intro k
 induction k with
 | zero=>intro _;exact .inl rfl
 | succ k ih =>
  intro hk
  obtain ⟨e,he⟩:=get_of_lt (xs:=es) (k:=k) hk
  rw [lastTo_succ p t idx reg he]
  by_cases hh:hitR p t idx reg e=true
  ·rw [if_pos hh];exact .inr ⟨k,e,rfl,by omega,he,hh⟩
  ·rw [if_neg hh]
   rcases ih (by omega) with h | ⟨i,e',h1,h2,h3⟩
   ·exact .inl h
   ·exact .inr ⟨i,e',h1,by omega,h3⟩
def depV (p:List (List Ins)) (es:List Ev) (fr:List Int) (i:Nat):Int ⊕ Nat:=
 match es[i]? with
 | none => .inl 0
 | some e=>if e.t < 0 then .inl 0 else if (insE p e).op=3 then (if lastRd p es e.t e.i (insE p e).reg < 0 then .inl 0 else .inr ((fr[(lastRd p es e.t e.i (insE p e).reg).toNat]?).getD 0).toNat) else .inl (insE p e).val
theorem insE_of {p:List (List Ins)} {e:Ev} {t i:Nat} {r:List Ins} {x:Ins} (h1:p[t]? = some r) (h2:r[i]? = some x) (ht:e.t=t) (hi:e.i=i):insE p e=x:=by
 unfold insE
 rw [ht,hi];simp [h1,h2]
theorem ev_cases {p:List (List Ins)} {k:Nat} {e:Ev} (h:(evAll p)[k]? = some e):(e.t = -1)∨∃ (t i:Nat) (r:List Ins),e.t=t∧e.i=i∧p[t]? = some r∧r[i]? = some (insE p e)∧e.r=isRop (insE p e).op∧e.w=isWop (insE p e).op∧e.l=(insE p e).loc:=by
 rcases mem_evAll (List.mem_of_getElem? h) with h | ⟨t,i,r,x,h1,h2,h3, -⟩
 ·exact .inl h
 ·have e1:insE p e=x:=insE_of h1 h2 (by rw [h3]) (by rw [h3])
  exact .inr ⟨t,i,r,by rw [h3],by rw [h3],h1,by rw [e1];exact h2,by rw [e1,h3],by rw [e1,h3],by rw [e1,h3]⟩
theorem insValid_val {x:Ins} (h:insValid x=true):0≤x.val∧x.val≤3:=by
 unfold insValid inB at h
 split at h
 ·simp at h;omega
 ·split at h
  ·simp at h;omega
  ·split at h
   ·simp at h;omega
   ·split at h
    ·simp at h;omega
    ·cases h
theorem dep_val {p:List (List Ins)} {fr:List Int} (hp:progValid p=true) {i:Nat} {v:Int} (h:depV p (evAll p) fr i = .inl v):0≤v∧v≤3:=by
 unfold depV at h
 split at h
 ·simp at h;omega
 ·rename_i e he
  split at h
  ·simp at h;omega
  ·split at h
   ·split at h
    ·simp at h;omega
    ·simp at h
   ·simp at h;subst h
    rename_i h0 _
    rcases ev_cases he with h1 | ⟨t,k,r, -, -,h1,h2, -⟩
    ·omega
    ·exact insValid_val (((valid_le hp).2.2.1 r (List.mem_of_getElem? h1)).2 _ (List.mem_of_getElem? h2))
theorem from_write {es:List Ev} {fr:List Int} {k:Nat} (h:fromsOk es fr es.length=true) {e:Ev} (he:es[k]? = some e) (hr:e.r=true):∃ (j:Nat) (e':Ev),fr[k]? = some (j:Int)∧es[j]? = some e'∧e'.w=true∧e'.l=e.l∧j≠k:=by
 obtain ⟨e2,f,h1,h2,h3⟩:=fromsOk_get h (List.getElem?_eq_some_iff.1 he).1
 rw [he] at h1;simp at h1;subst h1
 unfold fromOk at h3
 rw [if_pos hr] at h3
 simp at h3
 obtain ⟨i,e',h4,h5,h6,h7,h8⟩:=mem_wrL.1 h3.2
 subst h5
 exact ⟨i,e',h2,h6,h7,h8,fun e=>h3.1 (by rw [e])⟩
theorem dep_inr {p:List (List Ins)} {es:List Ev} {fr:List Int} (h:fromsOk es fr es.length=true) {i j:Nat} (hd:depV p es fr i = .inr j):∃ e',es[j]? = some e'∧e'.w=true:=by
 unfold depV at hd
 split at hd
 ·cases hd
 ·rename_i e he
  split at hd
  ·cases hd
  ·split at hd
   ·split at hd
    ·cases hd
    ·rename_i h1 h2 h3
     rcases lastTo_cases p es e.t e.i (insE p e).reg es.length (Nat.le_refl _) with h4 | ⟨r,e2,h4,h5,h6,h7⟩
     ·exfalso;exact h3 (by unfold lastRd;omega)
     ·have h4':lastRd p es e.t e.i (insE p e).reg=r:=h4
      rw [h4'] at hd
      have hrr:e2.r=true:=by unfold hitR at h7;simp at h7;exact h7.2.2.1
      obtain ⟨j2,e',h8,h9,h10, -⟩:=from_write h h6 hrr
      simp [h8] at hd
      subst hd
      exact ⟨e',h9,h10⟩
   ·cases hd
theorem dep_lt {p:List (List Ins)} {es:List Ev} {fr:List Int} (h:fromsOk es fr es.length=true) (i j:Nat) (_:i < es.length) (hd:depV p es fr i = .inr j):j < es.length:=by
 obtain ⟨e',h1, -⟩:=dep_inr h hd
 exact (List.getElem?_eq_some_iff.1 h1).1
theorem chain_val {d:Nat→Int ⊕ Nat} (hd:∀ i v,d i = .inl v→0≤v∧v≤3):∀ {k i:Nat} {v:Int},chain d k i=some v→0≤v∧v≤3:=by
 intro k
 induction k with
 | zero=>intro i v h;simp [chain] at h
 | succ k ih =>
  intro i v h
  rcases he:d i with a | j
  ·rw [chain_inl he] at h;simp at h;subst h;exact hd i _ he
  ·rw [chain_inr he] at h;exact ih h
def val1 (c:Nat→Option Int) (i:Nat) (e:Ev):Int:=if e.w=true then (c i).getD (-1) else -1
def valTo (es:List Ev) (c:Nat→Option Int) (k:Nat):List Int:=(List.range k).flatMap fun i=>match es[i]? with
 | some e=>[val1 c i e]
 | none=>[]
def okTo (es:List Ev) (c:Nat→Option Int) (k:Nat):Bool:=(List.range k).all fun i=>match es[i]? with
 | some e => !e.w||(c i).isSome
 | none=>true
theorem valTo_succ {es:List Ev} (c:Nat→Option Int) {k:Nat} {e:Ev} (h:es[k]? = some e):valTo es c (k+1)=valTo es c k++[val1 c k e]:=by
 unfold valTo
 rw [List.range_succ,List.flatMap_append]
 simp [h]
theorem okTo_succ {es:List Ev} (c:Nat→Option Int) {k:Nat} {e:Ev} (h:es[k]? = some e):okTo es c (k+1)=(okTo es c k&&(!e.w||(c k).isSome)):=by
 unfold okTo
 rw [List.range_succ,List.all_append]
 simp [h]
theorem okTo_no {es:List Ev} (c:Nat→Option Int) {k:Nat} {e:Ev} (h:es[k]? = some e) (hw:e.w=true) (hc:c k=none):okTo es c es.length=false:=by
 unfold okTo
 rw [List.all_eq_false]
 exact ⟨k,List.mem_range.2 (List.getElem?_eq_some_iff.1 h).1,by simp [h,hw,hc]⟩
theorem valTo_length (es:List Ev) (c:Nat→Option Int):∀ k,k≤es.length→(valTo es c k).length=k:=by
 intro k
 induction k with
 | zero=>intro _;rfl
 | succ k ih =>
  intro hk
  obtain ⟨e,he⟩:=get_of_lt (xs:=es) (k:=k) hk
  rw [valTo_succ c he,List.length_append,ih (by omega)];rfl
theorem valTo_get {es:List Ev} (c:Nat→Option Int) {i:Nat} {e:Ev}:∀ {k:Nat},i < k→k≤es.length→es[i]? = some e→(valTo es c k)[i]? = some (val1 c i e):=by
 intro k
 induction k with
 | zero=>intro h;omega
 | succ k ih =>
  intro hi hk he
  obtain ⟨e',he'⟩:=get_of_lt (xs:=es) (k:=k) hk
  rw [valTo_succ c he']
  by_cases e2:i=k
  ·subst e2
   rw [he] at he';simp at he';subst he'
   rw [List.getElem?_append_right (by rw [valTo_length es c i (by omega)];exact Nat.le_refl _),valTo_length es c i (by omega)];simp
  ·rw [List.getElem?_append_left (by rw [valTo_length es c k (by omega)];omega)]
   exact ih (by omega) (by omega) he
def cX (p:List (List Ins)) (fr:List Int):Nat→Option Int:=chain (depV p (evAll p) fr) (evAll p).length
def valsL (p:List (List Ins)) (fr:List Int):List Int:=valTo (evAll p) (cX p fr) (evAll p).length
def valsOk (p:List (List Ins)) (fr:List Int):Bool:=okTo (evAll p) (cX p fr) (evAll p).length
structure KInv (d:Nat→Int ⊕ Nat) (es:List Ev) (r i:Nat) (K:List Int):Prop where
 len:K.length=es.length
 at_:∀ (t:Nat) (e:Ev),es[t]? = some e→∃ v,K[t]? = some v∧(v = -1∨(e.w=true∧chain d es.length t=some v))∧(e.w=true→(chain d (if t < i then r+1 else r) t).isSome=true→v≠-1)
theorem KInv.start (d:Nat→Int ⊕ Nat) (es:List Ev):KInv d es 0 0 (List.replicate es.length (-1)):=by
 refine ⟨by simp,fun t e h=>⟨-1, ?_, .inl rfl,fun _ h2 => ?_⟩⟩
 ·rw [List.getElem?_replicate,if_pos (List.getElem?_eq_some_iff.1 h).1]
 ·simp [chain] at h2
theorem KInv.next {d:Nat→Int ⊕ Nat} {es:List Ev} {r i:Nat} {K:List Int} (h:KInv d es r i K) (hi:i=es.length):KInv d es (r+1) 0 K:=by
 refine ⟨h.len,fun t e he => ?_⟩
 obtain ⟨v,h1,h2,h3⟩:=h.at_ t e he
 refine ⟨v,h1,h2,fun hw hs=>h3 hw ?_⟩
 rw [if_pos (by rw [hi];exact (List.getElem?_eq_some_iff.1 he).1)]
 rw [if_neg (by omega)] at hs
 exact hs
theorem KInv.skip {d:Nat→Int ⊕ Nat} {es:List Ev} {r i:Nat} {K:List Int} (h:KInv d es r i K) {e:Ev} (he:es[i]? = some e) (hw:e.w=false):KInv d es r (i+1) K:=by
 refine ⟨h.len,fun t e2 he2 => ?_⟩
 obtain ⟨v,h1,h2,h3⟩:=h.at_ t e2 he2
 refine ⟨v,h1,h2,fun hw2 hs => ?_⟩
 by_cases ht:t=i
 ·subst ht;rw [he] at he2;simp at he2;subst he2;rw [hw] at hw2;cases hw2
 ·refine h3 hw2 ?_
  by_cases hlt:t < i
  ·rw [if_pos hlt];rw [if_pos (by omega)] at hs;exact hs
  ·rw [if_neg hlt];rw [if_neg (by omega)] at hs;exact hs
def linkV (d:Nat→Int ⊕ Nat) (K:List Int) (i:Nat):Int:=match d i with
 | .inl v=>v
 | .inr j=>(K[j]?).getD (-1)
theorem KInv.step {d:Nat→Int ⊕ Nat} {es:List Ev} {r i:Nat} {K:List Int} (h:KInv d es r i K) {e:Ev} (he:es[i]? = some e) (hw:e.w=true) (hlt:∀ i j,i < es.length→d i = .inr j→j < es.length)
 (hj:∀ j,d i = .inr j→∃ e',es[j]? = some e'∧e'.w=true) (hv:∀ i v,d i = .inl v→0≤v∧v≤3):KInv d es r (i+1) (K.set i (linkV d K i)):=by
 have hil:=(List.getElem?_eq_some_iff.1 he).1
 refine ⟨by simp [h.len],fun t e2 he2 => ?_⟩
 by_cases ht:t=i
 ·subst ht
  rw [he] at he2;simp at he2;subst he2
  refine ⟨linkV d K t,by rw [List.getElem?_set,if_pos rfl,if_pos (by rw [h.len];exact hil)], ?_,fun _ hs => ?_⟩
  ·unfold linkV
   rcases hd:d t with v | j
   ·exact .inr ⟨hw,chain_end hil hd⟩
   ·obtain ⟨e',h1,h2⟩:=hj j hd
    obtain ⟨u,h3,h4, -⟩:=h.at_ j e' h1
    simp only [h3,Option.getD_some]
    rcases h4 with h4 | ⟨-,h4⟩
    ·exact .inl h4
    ·exact .inr ⟨hw,by rw [chain_next hlt hil hd];exact h4⟩
  ·rw [if_pos (by omega)] at hs
   unfold linkV
   rcases hd:d t with v | j
   ·have:=hv t v hd;simp only;omega
   ·obtain ⟨e',h1,h2⟩:=hj j hd
    obtain ⟨u,h3, -,h5⟩:=h.at_ j e' h1
    simp only [h3,Option.getD_some]
    refine h5 h2 ?_
    rw [chain_inr hd] at hs
    obtain ⟨u2,hu⟩:=Option.isSome_iff_exists.1 hs
    rw [chain_mono hu (k':=if j < t then r+1 else r) (by split <;> omega)];rfl
 ·obtain ⟨v,h1,h2,h3⟩:=h.at_ t e2 he2
  refine ⟨v,by rw [List.getElem?_set,if_neg (fun e=>ht e.symm)];exact h1,h2,fun hw2 hs=>h3 hw2 ?_⟩
  by_cases hlt2:t < i
  ·rw [if_pos hlt2];rw [if_pos (by omega)] at hs;exact hs
  ·rw [if_neg hlt2];rw [if_neg (by omega)] at hs;exact hs
theorem KInv.done {d:Nat→Int ⊕ Nat} {es:List Ev} {r:Nat} {K:List Int} (h:KInv d es r 0 K) (hr:r=es.length):K=valTo es (chain d es.length) es.length:=by
 subst hr
 apply List.ext_getElem?
 intro t
 by_cases ht:t < es.length
 ·obtain ⟨e,he⟩:=get_of_lt (xs:=es) (k:=t) ht
  obtain ⟨v,h1,h2,h3⟩:=h.at_ t e he
  rw [valTo_get _ ht (Nat.le_refl _) he,h1]
  congr 1
  unfold val1
  rw [if_neg (by omega)] at h3
  by_cases hw:e.w=true
  ·rw [if_pos hw]
   rcases h2 with rfl | ⟨-,h2⟩
   ·cases hc:chain d es.length t with
    | none=>rfl
    | some u=>exact absurd rfl (h3 hw (by rw [hc];rfl))
   ·rw [h2];rfl
  ·rw [if_neg hw]
   rcases h2 with h2 | ⟨h2, -⟩
   ·exact h2
   ·exact absurd h2 hw
 ·rw [List.getElem?_eq_none (by rw [h.len];omega),List.getElem?_eq_none (by rw [valTo_length _ _ _ (Nat.le_refl _)];omega)]
end Go.Proofs.YtkfhgnkonaafgaaGreatDoor
namespace Go.Proofs.YtkfhgnkonaafgaaGreatDoor
def valAt (vals:List Int) (j:Int):Int:=(vals[j.toNat]?).getD 0
def frAt (fr:List Int) (r:Int):Int:=(fr[r.toNat]?).getD 0
def regOf (fr vals:List Int) (r:Int):Int:=if r < 0 then 0 else valAt vals (frAt fr r)
def regV (p:List (List Ins)) (es:List Ev) (fr vals:List Int) (t idx g:Int):Int:=regOf fr vals (lastRd p es t idx g)
def lastO (od:List (List Int)) (l:Nat):Int:=(((od[l]?).getD []).getLast?).getD 0
def memV (od:List (List Int)) (vals:List Int) (l:Nat):Int:=valAt vals (lastO od l)
def outRow (p:List (List Ins)) (es:List Ev) (fr vals:List Int) (t n:Nat) (k:Nat):List Int:=(List.range k).map fun (g:Nat)=>regV p es fr vals (t:Int) (n:Int) (g:Int)
def outTo (p:List (List Ins)) (es:List Ev) (fr vals:List Int) (j:Nat):List Int:=(List.range j).flatMap fun t=>match p[t]? with
 | some r=>outRow p es fr vals t r.length 3
 | none=>[]
def outMem (od:List (List Int)) (vals:List Int) (k:Nat):List Int:=(List.range k).map (memV od vals)
def outL (p:List (List Ins)) (es:List Ev) (x:Xc) (vals:List Int):List Int:=outTo p es x.fr vals p.length++outMem x.od vals 3
theorem outRow_succ (p:List (List Ins)) (es:List Ev) (fr vals:List Int) (t n k:Nat):outRow p es fr vals t n (k+1)=outRow p es fr vals t n k++[regV p es fr vals (t:Int) (n:Int) (k:Int)]:=by
 simp [outRow,List.range_succ]
theorem outMem_succ (od:List (List Int)) (vals:List Int) (k:Nat):outMem od vals (k+1)=outMem od vals k++[memV od vals k]:=by
 simp [outMem,List.range_succ]
theorem outTo_succ {p:List (List Ins)} (es:List Ev) (fr vals:List Int) {j:Nat} {r:List Ins} (h:p[j]? = some r):outTo p es fr vals (j+1)=outTo p es fr vals j++outRow p es fr vals j r.length 3:=by
 unfold outTo
 rw [List.range_succ,List.flatMap_append]
 simp [h]
theorem outRow_length (p:List (List Ins)) (es:List Ev) (fr vals:List Int) (t n k:Nat):(outRow p es fr vals t n k).length=k:=by simp [outRow]
theorem outMem_length (od:List (List Int)) (vals:List Int) (k:Nat):(outMem od vals k).length=k:=by simp [outMem]
theorem outTo_length (p:List (List Ins)) (es:List Ev) (fr vals:List Int):∀ j,j≤p.length→(outTo p es fr vals j).length=3 * j:=by
 intro j
 induction j with
 | zero=>intro _;rfl
 | succ j ih =>
  intro hj
  obtain ⟨r,hr⟩:=get_of_lt (xs:=p) (k:=j) hj
  rw [outTo_succ es fr vals hr,List.length_append,ih (by omega),outRow_length];omega
theorem outL_length (p:List (List Ins)) (es:List Ev) (x:Xc) (vals:List Int):(outL p es x vals).length=3 * p.length+3:=by
 unfold outL
 rw [List.length_append,outTo_length p es x.fr vals p.length (Nat.le_refl _),outMem_length]
end Go.Proofs.YtkfhgnkonaafgaaGreatDoor
namespace Go.Proofs.YtkfhgnkonaafgaaGreatDoor
open Go.RowKit
def maskTo (f:Nat→Bool):Nat→Nat
 | 0=>0
 | k+1=>if f k=true then maskTo f k ||| 2 ^ k else maskTo f k
theorem maskTo_testBit (f:Nat→Bool):∀ n k,(maskTo f n).testBit k=(decide (k < n)&&f k):=by
 intro n
 induction n with
 | zero=>intro k;simp [maskTo]
 | succ n ih =>
  intro k
  unfold maskTo
  by_cases h:f n=true
  ·rw [if_pos h,Nat.testBit_or,ih,Nat.testBit_two_pow]
   by_cases e:n=k
   ·subst e;simp [h]
   ·have:decide (n=k)=false:=by simp [e]
    rw [this,Bool.or_false]
    by_cases hk:k < n
    ·simp [hk,show k < n+1 by omega]
    ·simp [hk,show ¬ k < n+1 by omega]
  ·rw [if_neg h,ih]
   by_cases e:n=k
   ·subst e;simp [h]
   ·by_cases hk:k < n
    ·simp [hk,show k < n+1 by omega]
    ·simp [hk,show ¬ k < n+1 by omega]
theorem maskTo_lt (f:Nat→Bool) (n:Nat):maskTo f n < 2 ^ n:=by
 apply Nat.lt_pow_two_of_testBit
 intro i hi
 rw [maskTo_testBit]
 simp;omega
theorem maskTo_congr {f g:Nat→Bool} {n:Nat} (h:∀ k,k < n→f k=g k):maskTo f n=maskTo g n:=by
 apply Nat.eq_of_testBit_eq
 intro k
 rw [maskTo_testBit,maskTo_testBit]
 by_cases hk:k < n
 ·rw [h k hk]
 ·simp [hk]
theorem pow_le60 {n:Nat} (h:n≤60):2 ^ n≤1152921504606846976:=by
 have:=Nat.pow_le_pow_right (n:=2) (by decide) h
 exact this
theorem bits_nat (op:Nat→Nat→Nat) (bop:BinOp) (a b:Nat) (hop:op a b < 9223372036854775808)
 (h:bits bop .i64 (a:Int) (b:Int)=IntKind.i64.wrap ((op a b:Nat):Int)):bits bop .i64 (a:Int) (b:Int)=((op a b:Nat):Int):=by
 rw [h,IntKind.wrap_i64]
 omega
theorem toNat64 {a:Nat} (ha:a < 9223372036854775808):(BitVec.ofInt 64 (a:Int)).toNat=a:=by
 rw [BitVec.ofInt_natCast,BitVec.toNat_ofNat];exact Nat.mod_eq_of_lt (by omega)
theorem bits_or_nat (a b:Nat) (ha:a < 9223372036854775808) (hb:b < 9223372036854775808):bits .or .i64 (a:Int) (b:Int)=((a ||| b:Nat):Int):=by
 have hx:a ||| b < 2 ^ 63:=Nat.or_lt_two_pow (by omega) (by omega)
 refine bits_nat (· ||| ·) .or a b (by omega) ?_
 show IntKind.i64.wrap ((BitVec.ofInt 64 (a:Int) ||| BitVec.ofInt 64 (b:Int)).toNat:Int)=_
 rw [BitVec.toNat_or,toNat64 ha,toNat64 hb]
theorem bits_and_nat (a b:Nat) (ha:a < 9223372036854775808) (hb:b < 9223372036854775808):bits .and .i64 (a:Int) (b:Int)=((a &&& b:Nat):Int):=by
 have hx:a &&& b < 2 ^ 63:=Nat.and_lt_two_pow _ (by omega)
 refine bits_nat (· &&& ·) .and a b (by omega) ?_
 show IntKind.i64.wrap ((BitVec.ofInt 64 (a:Int) &&& BitVec.ofInt 64 (b:Int)).toNat:Int)=_
 rw [BitVec.toNat_and,toNat64 ha,toNat64 hb]
theorem wrap_pow {k:Nat} (h:k < 60):wrap64 ((2:Int) ^ k)=((2 ^ k:Nat):Int):=by
 have h1:=pow_le60 (n:=k) (by omega)
 have h2:((2:Int) ^ k)=((2 ^ k:Nat):Int):=by simp
 rw [h2]
 generalize (2 ^ k:Nat)=z at *
 exact IntWalk.wrap64_in _ ⟨by omega,by omega⟩
theorem bitsTo_mask (f:Nat→Bool):∀ n,n≤60→bitsTo f n=(maskTo f n:Int):=by
 intro n
 induction n with
 | zero=>intro _;rfl
 | succ n ih =>
  intro h
  unfold bitsTo maskTo
  rw [ih (by omega)]
  split
  ·have h1:=maskTo_lt f n
   have h2:=pow_le60 (n:=n) (by omega)
   rw [wrap_pow (by omega),bits_or_nat _ _ (by omega) (by omega)]
  ·rfl
theorem bitsTo_lt (f:Nat→Bool) (n:Nat) (h:n≤60):0≤bitsTo f n∧bitsTo f n < (2:Int) ^ n:=by
 rw [bitsTo_mask f n h]
 have h1:=maskTo_lt f n
 have h2:((2:Int) ^ n)=((2 ^ n:Nat):Int):=by simp
 rw [h2]
 omega
theorem bitsTo_congr {f g:Nat→Bool} {n:Nat} (hn:n≤60) (h:∀ k,k < n→f k=g k):bitsTo f n=bitsTo g n:=by
 rw [bitsTo_mask f n hn,bitsTo_mask g n hn,maskTo_congr h]
theorem bitsTo_or (f g:Nat→Bool) {n:Nat} (hn:n≤60):bits .or .i64 (bitsTo f n) (bitsTo g n)=bitsTo (fun k=>f k||g k) n:=by
 have h1:=maskTo_lt f n;have h2:=maskTo_lt g n;have h3:=pow_le60 hn
 rw [bitsTo_mask f n hn,bitsTo_mask g n hn,bitsTo_mask _ n hn,bits_or_nat _ _ (by omega) (by omega)]
 congr 1
 apply Nat.eq_of_testBit_eq
 intro k
 rw [Nat.testBit_or,maskTo_testBit,maskTo_testBit,maskTo_testBit,Bool.and_or_distrib_left]
theorem bitsTo_and (f g:Nat→Bool) {n:Nat} (hn:n≤60):bits .and .i64 (bitsTo f n) (bitsTo g n)=bitsTo (fun k=>f k&&g k) n:=by
 have h1:=maskTo_lt f n;have h2:=maskTo_lt g n;have h3:=pow_le60 hn
 rw [bitsTo_mask f n hn,bitsTo_mask g n hn,bitsTo_mask _ n hn,bits_and_nat _ _ (by omega) (by omega)]
 congr 1
 apply Nat.eq_of_testBit_eq
 intro k
 rw [Nat.testBit_and,maskTo_testBit,maskTo_testBit,maskTo_testBit]
 cases decide (k < n) <;> simp
theorem bitsTo_bit (f:Nat→Bool) {n k:Nat} (hn:n≤60) (hk:k < n):bits .and .i64 (bitsTo f n / (2:Int) ^ k) 1=if f k=true then 1 else 0:=by
 have h1:=maskTo_lt f n;have h3:=pow_le60 hn
 rw [bitsTo_mask f n hn]
 have h2:((2:Int) ^ k)=((2 ^ k:Nat):Int):=by simp
 have h4:maskTo f n / 2 ^ k≤maskTo f n:=Nat.div_le_self _ _
 rw [h2,← Int.natCast_ediv]
 have:=bits_and_nat (maskTo f n / 2 ^ k) 1 (by omega) (by omega)
 rw [show ((1:Nat):Int)=1 from rfl] at this
 rw [this,Nat.and_one_is_mod]
 have ht:=maskTo_testBit f n k
 rw [Nat.testBit_eq_decide_div_mod_eq] at ht
 simp only [hk,decide_true,Bool.true_and] at ht
 cases hf:f k with
 | true =>
  rw [hf] at ht
  have:=of_decide_eq_true ht
  rw [this];rfl
 | false =>
  rw [hf] at ht
  have:=of_decide_eq_false ht
  have h5:maskTo f n / 2 ^ k % 2=0:=by omega
  rw [h5];rfl
theorem bitsTo_zero (n:Nat):bitsTo (fun _=>false) n=0:=by
 induction n with
 | zero=>rfl
 | succ n ih=>unfold bitsTo;simpa using ih
/-! Relations. -/
theorem relOf_mem {n:Nat} {f:Nat→Nat→Bool} {x:Int} (h:x∈relOf n f):∃ i,i < n∧x=bitsTo (f i) n:=by
 unfold relOf at h
 rw [List.mem_map] at h
 obtain ⟨i,hi,rfl⟩:=h
 exact ⟨i,by simpa using hi,rfl⟩
def fOr (f g:Nat→Nat→Bool):Nat→Nat→Bool:=fun i k=>f i k||g i k
def fAnd (f g:Nat→Nat→Bool):Nat→Nat→Bool:=fun i k=>f i k&&g i k
def fInv (f:Nat→Nat→Bool):Nat→Nat→Bool:=fun i k=>f k i
def fComp (m:Nat) (f g:Nat→Nat→Bool):Nat→Nat→Bool:=fun i k=>(List.range m).any fun j=>f i j&&g j k
theorem fComp_succ (m:Nat) (f g:Nat→Nat→Bool) (i:Nat):(fun k=>fComp (m+1) f g i k)=fun k=>fComp m f g i k||(f i m&&g m k):=by
 funext k
 unfold fComp
 rw [List.range_succ,List.any_append];simp
def wStep (f:Nat→Nat→Bool) (m i:Nat):Nat→Nat→Bool:=fun a k=>if a=i∧f i m=true then f i k||f m k else f a k
def wIn (f:Nat→Nat→Bool) (m:Nat):Nat→Nat→Nat→Bool
 | 0=>f
 | i+1=>wStep (wIn f m i) m i
def wOut (n:Nat) (f:Nat→Nat→Bool):Nat→Nat→Nat→Bool
 | 0=>f
 | m+1=>wIn (wOut n f m) m n
def fClo (n:Nat) (f:Nat→Nat→Bool):Nat→Nat→Bool:=wOut n f n
theorem wStep_no {f:Nat→Nat→Bool} {m i:Nat} (h:f i m=false):wStep f m i=f:=by
 funext a k
 unfold wStep
 rw [if_neg (by rw [h];simp)]
theorem wStep_yes {n:Nat} {f:Nat→Nat→Bool} {m i:Nat} (hn:n≤60) (hi:i < n) (h:f i m=true) :
 relOf n (wStep f m i)=(relOf n f).set i (bits .or .i64 (bitsTo (f i) n) (bitsTo (f m) n)):=by
 rw [bitsTo_or _ _ hn]
 apply List.ext_getElem?
 intro a
 rw [List.getElem?_set,relOf_length]
 by_cases e:i=a
 ·subst e
  rw [if_pos rfl,if_pos hi,relOf_get hi]
  congr 1
  apply bitsTo_congr hn
  intro k _
  unfold wStep
  rw [if_pos ⟨rfl,h⟩]
 ·rw [if_neg e]
  by_cases ha:a < n
  ·rw [relOf_get ha,relOf_get ha]
   congr 1
   apply bitsTo_congr hn
   intro k _
   unfold wStep
   rw [if_neg (fun h=>e h.1.symm)]
  ·rw [List.getElem?_eq_none (by rw [relOf_length];omega),List.getElem?_eq_none (by rw [relOf_length];omega)]
end Go.Proofs.YtkfhgnkonaafgaaGreatDoor
namespace Go.Proofs.YtkfhgnkonaafgaaGreatDoor
def acyB (n:Nat) (f:Nat→Nat→Bool):Bool:=(List.range n).all fun i => !fClo n f i i
def irrB (n:Nat) (f:Nat→Nat→Bool):Bool:=(List.range n).all fun i => !f i i
def empB (n:Nat) (f:Nat→Nat→Bool):Bool:=(List.range n).all fun i=>(List.range n).all fun k => !f i k
end Go.Proofs.YtkfhgnkonaafgaaGreatDoor
namespace Go.Proofs.YtkfhgnkonaafgaaGreatDoor
open Go.RowKit
theorem rel_get (n t k:Nat) (f:Nat→Nat→Bool) (h:t < n):(((relOf n f).take t++List.replicate (n - t) 0).set t (bitsTo (f t) k))[t]? = some (bitsTo (f t) k):=by
 rw [List.getElem?_set,if_pos rfl,if_pos (by simp [relOf_length];omega)]
theorem rel_start (n t:Nat) (f:Nat→Nat→Bool) (h:t < n):((relOf n f).take t++List.replicate (n - t) 0).set t (bitsTo (f t) 0)=(relOf n f).take t++List.replicate (n - t) 0:=by
 rw [List.set_append_right _ _ (by rw [List.length_take];exact Nat.min_le_left _ _),List.length_take,relOf_length,Nat.min_eq_left (by omega),Nat.sub_self,show n - t=(n - (t+1))+1 by omega,List.replicate_succ,List.set_cons_zero]
 rfl
theorem rel_done (n t:Nat) (f:Nat→Nat→Bool) (h:t < n):((relOf n f).take t++List.replicate (n - t) 0).set t (bitsTo (f t) n)=(relOf n f).take (t+1)++List.replicate (n - (t+1)) 0:=by
 have:=set_pad (relOf n f) 0 (relOf_get (f:=f) h)
 rw [relOf_length] at this
 exact this
end Go.Proofs.YtkfhgnkonaafgaaGreatDoor
namespace Go.Proofs.YtkfhgnkonaafgaaGreatDoor
open Go.RowKit
section
variable {α : Type} {f : α → α} {k : Nat} {xs : List α}
end
end Go.Proofs.YtkfhgnkonaafgaaGreatDoor
namespace Go.Proofs.YtkfhgnkonaafgaaGreatDoor
open Go.RowKit
end Go.Proofs.YtkfhgnkonaafgaaGreatDoor
namespace Go.Proofs.YtkfhgnkonaafgaaGreatDoor
open Go.RowKit
theorem belowAlloc0 (w:World) (o:Obj):Below w.heap.size w (w.alloc o):=(Below.refl _ _).alloc (Nat.le_refl _) o
theorem if_bit (b:Bool):((if b=true then (1:Int) else 0)==1)=b:=by cases b <;> rfl
theorem related_any (v:Value) (n i k:Nat) (f:Nat→Nat→Bool) (w:World) (hx:Rep IntE w v (relOf n f)) (hn:n≤60) (hi:i < n) (hk:k < n) :
 Calls Tryz.prog 211 #[v, .int .i64 i, .int .i64 k] w fun e w'=>e = .returned (.bool (f i k))∧w=w':=by
 obtain ⟨a,c,rfl, -, -, -,hx⟩:=hx.open
 simp only [relOf_length] at *
 obtain ⟨b,o,rfl,hbl,i0⟩:=hx.int (relOf_get hi)
 have hB:=bitsTo_bit (f i) hn hk
 have hlt:=bitsTo_lt (f i) n hn
 have hIB:=if_bit (f i k)
 have hi':=nat_of_lt hi
 clear hx
 generalize bitsTo (f i) n=row at *
 have HB:=hide hB;have HI:=hide hIB
 have h0:=hlt.1
 clear hB hIB hlt
 go_enter Tryz.func211,Tryz.ntmps211
 go_wp2_with fail
 go_ret
 exact ⟨by rw [HB.out,HI.out];rfl,rfl⟩
theorem l2Has_any (v:Value) (n i k:Nat) (f:Nat→Nat→Bool) (w:World) (hx:Rep IntE w v (relOf n f)) (hn:n≤60) (hi:i < n) (hk:k < n) :
 Calls Tryz.prog 193 #[v, .int .i64 i, .int .i64 k] w fun e w'=>e = .returned (.bool (f i k))∧w=w':=by
 obtain ⟨a,c,rfl, -, -, -,hx⟩:=hx.open
 simp only [relOf_length] at *
 obtain ⟨b,o,rfl,hbl,i0⟩:=hx.int (relOf_get hi)
 have hB:=bitsTo_bit (f i) hn hk
 have hlt:=bitsTo_lt (f i) n hn
 have hIB:=if_bit (f i k)
 have hi':=nat_of_lt hi
 clear hx
 generalize bitsTo (f i) n=row at *
 have HB:=hide hB;have HI:=hide hIB
 have h0:=hlt.1
 clear hB hIB hlt
 go_enter Tryz.func193,Tryz.ntmps193
 go_wp2_with fail
 go_ret
 exact ⟨by rw [HB.out,HI.out];rfl,rfl⟩
theorem div_pow_zero {x:Int} {n:Nat} (h0:0≤x) (h1:x < (2:Int) ^ n):x / (2:Int) ^ n=0:=Int.ediv_eq_zero_of_lt h0 h1
theorem relValid_1 (B n c:Nat) (a:Option Addr) (x:Int) (w:World) (hc:w.cell? ⟨B,0,none⟩=some (.slice a n c)) (hn:n≤16) (h0:0≤x) (h1:x < (2:Int) ^ n) :
 Calls Tryz.prog 233 #[.int .i64 x, .pointer (some ⟨B,0,none⟩)] w fun e w'=>e = .returned (.bool false)∧w=w':=by
 have hz:=div_pow_zero h0 h1
 have hx0:decide (x < 0)=false:=decide_eq_false (by omega)
 clear h1
 go_enter Tryz.func233,Tryz.ntmps233
 go_wp2_with fail
 go_ret
 exact ⟨rfl,rfl⟩
theorem indexValid (B n c:Nat) (a:Option Addr) (v:Value) (xs:List Int) (w:World) (hx:Rep IntE w v xs) (hc:w.cell? ⟨B,0,none⟩=some (.slice a n c)) (hn:n≤16) (hr:∀ x∈xs,0≤x∧x < (2:Int) ^ n) :
 Calls Tryz.prog 118 #[v, .func (.func 233) #[] #[.pointer (some ⟨B,0,none⟩)]] w fun e w'=>e = .returned (.int .i64 (-1))∧w=w':=by
 obtain ⟨a1,c1,rfl,hc1,hc2,hc3,hx⟩:=hx.open
 have HX:=hide hx;clear hx
 have HR:=hide (fun x hx=>relValid_1 B n c a x w hc hn (hr x hx).1 (hr x hx).2)
 clear hr hc
 generalize hm:xs.length=m at *
 have H:=hide hm;clear hm
 go_enter Tryz.func118,Tryz.ntmps118
 go_wp2_with fail
 go_loop [8] (fun i => ∃ t:Nat,t≤m∧i = .int .i64 t) (fun i=>m - (intOf i).toNat)
 case atStart=>exact ⟨0,Nat.zero_le _,rfl⟩
 case round =>
  obtain ⟨t,ht,rfl⟩:=hrel
  by_cases hlt:t < m
  ·obtain ⟨x,hxk⟩:=get_of_lt (xs:=xs) (k:=t) (by rw [H.out];exact hlt)
   obtain ⟨b,o,rfl,hbl,i0⟩:=HX.out.int hxk
   have hlt':=nat_of_lt hlt
   have HC:=hide (HR.out x (List.mem_of_getElem? hxk));clear hxk
   go_wp2_with fail
   (with_reducible refine HC.out.mono ?_);rintro e w2 ⟨rfl,rfl⟩
   go_wp2_with fail
   go_round
   case rel=>exact ⟨t+1,by omega,by go_num⟩
   case measure=>simp [intOf];omega
  ·go_wp2_with fail
   go_ret
   exact ⟨rfl,rfl⟩
theorem containsValid (B n c:Nat) (a:Option Addr) (v:Value) (xs:List Int) (w:World) (hx:Rep IntE w v xs) (hc:w.cell? ⟨B,0,none⟩=some (.slice a n c)) (hn:n≤16) (hr:∀ x∈xs,0≤x∧x < (2:Int) ^ n) :
 Calls Tryz.prog 73 #[v, .func (.func 233) #[] #[.pointer (some ⟨B,0,none⟩)]] w fun e w'=>e = .returned (.bool false)∧w=w':=by
 have HI:=hide (indexValid B n c a v xs w hx hc hn hr)
 obtain ⟨a1,c1,rfl, -⟩:=hx.open
 clear hx hr hc
 go_enter Tryz.func73,Tryz.ntmps73
 go_wp2_with fail
 (with_reducible refine HI.out.mono ?_);rintro e w1 ⟨rfl,rfl⟩
 go_wp2_with fail
 go_ret
 exact ⟨rfl,rfl⟩
theorem RelValid_any (v:Value) (n:Nat) (f:Nat→Nat→Bool) (w:World) (hx:Rep IntE w v (relOf n f)) (hn:n≤16) :
 Calls Tryz.prog 209 #[v] w fun e w'=>e = .returned (.bool true)∧Below w.heap.size w w':=by
 obtain ⟨a,c,rfl, -, -, -,hx⟩:=hx.open
 simp only [relOf_length] at *
 have HB:=hide (belowAlloc0 w (.cells #[.slice a n c] 24))
 have HC:=hide (containsValid w.heap.size n c a (.slice a n c) (relOf n f) _ (hx.below HB.out) (by simp [go_sem]) hn (fun x hx=>by
  obtain ⟨i,hi,rfl⟩:=relOf_mem hx
  exact bitsTo_lt (f i) n (by omega)))
 have hn':(n:Int)≤16:=by omega
 clear hx
 go_enter Tryz.func209,Tryz.ntmps209
 go_wp2_with fail
 (with_reducible refine HC.out.mono ?_);rintro e w1 ⟨rfl,rfl⟩
 go_wp2_with fail
 go_ret
 exact ⟨rfl,HB.out⟩
theorem areRels_any (v v':Value) (n:Nat) (f g:Nat→Nat→Bool) (w:World) (hx:Rep IntE w v (relOf n f)) (hy:Rep IntE w v' (relOf n g)) (hn:n≤16) :
 Calls Tryz.prog 216 #[v,v'] w fun e w'=>e = .returned (.bool true)∧Below w.heap.size w w':=by
 obtain ⟨a,c,rfl, -, -, -,hx⟩:=hx.open
 obtain ⟨a',c',rfl, -, -, -,hy⟩:=hy.open
 simp only [relOf_length] at *
 have H1:=hide (RelValid_any _ n f w hx hn)
 have H2:=hide (fun w' h=>RelValid_any (.slice a' n c') n g w' h hn)
 have HY:=hide hy
 clear hx hy
 go_enter Tryz.func216,Tryz.ntmps216
 go_wp2_with fail
 (with_reducible refine H1.out.mono ?_);rintro e w1 ⟨rfl,hb1⟩
 have HB1:=hide hb1;clear hb1
 go_wp2_with fail
 (with_reducible refine (H2.out _ (HY.out.below HB1.out)).mono ?_);rintro e w2 ⟨rfl,hb2⟩
 go_wp2_with fail
 go_ret
 exact ⟨rfl,HB1.out.trans (hb2.mono HB1.out.size)⟩
end Go.Proofs.YtkfhgnkonaafgaaGreatDoor
namespace Go.Proofs.YtkfhgnkonaafgaaGreatDoor
open Go.RowKit
theorem take_rel (n k:Nat) (f:Nat→Nat→Bool) (h:k < n):(relOf n f).take (k+1)=(relOf n f).take k++[bitsTo (f k) n]:=by
 rw [List.take_add_one,relOf_get h];rfl
theorem bitUnion_any (x y:Int) (w:World) :
 Calls Tryz.prog 213 #[.int .i64 x, .int .i64 y] w fun e w'=>e = .returned (.int .i64 (bits .or .i64 x y))∧w=w':=by
 go_enter Tryz.func213,Tryz.ntmps213
 go_wp2_with fail
 go_ret
 exact ⟨rfl,rfl⟩
theorem combinedUnion (v v':Value) (n:Nat) (f g:Nat→Nat→Bool) (w:World) (hx:Rep IntE w v (relOf n f)) (hy:Rep IntE w v' (relOf n g)) (hn:n≤16) :
 Calls Tryz.prog 212 #[v,v', .func (.func 213) #[] #[]] w (RetOwn IntE 3 w (relOf n (fOr f g))):=by
 have HA:=hide (areRels_any v v' n f g w hx hy hn)
 obtain ⟨a,c,rfl, -, -, -,hx⟩:=hx.open
 obtain ⟨a',c',rfl, -, -, -,hy⟩:=hy.open
 simp only [relOf_length] at *
 have HX:=hide hx;have HY:=hide hy
 clear hx hy
 go_enter Tryz.func212,Tryz.ntmps212
 go_wp2_with fail
 (with_reducible refine HA.out.mono ?_);rintro e w0 ⟨rfl,hb0⟩
 have HB0:=hide hb0;clear hb0 HA
 go_wp2_with (at_make;refine wpList_make IntE 3 0 Tryz.infoInt rfl Tryz.underlying24 n (by decide) (by omega) rfl _ _ rfl rfl rfl ?_;intro w1 hown hgr)
 have hb1:=below_of_grown hgr
 go_loopw [18] (fun i wr => ∃ k:Nat,k≤n∧i = .int .i64 k∧Hid (OwnN wr w0.heap.size (.slice (some ⟨w0.heap.size,0,none⟩) n n) ((relOf n (fOr f g)).take k++List.replicate (n - k) 0))∧Hid (Below w0.heap.size w0 wr)) (fun i _=>n - (intOf i).toNat)
 case atStart=>exact ⟨0,Nat.zero_le _,rfl,hide (by simpa using hown),hide hb1⟩
 case round =>
  obtain ⟨k,hk,rfl,HO,HB⟩:=hrel
  by_cases hlt:k < n
  ·have hlt':=nat_of_lt hlt
   have hb:=HB.out
   obtain ⟨b,o,rfl,hbl,i0⟩:=(HX.out.below HB0.out).int (relOf_get hlt)
   obtain ⟨b',o',rfl,hbl',j0⟩:=(HY.out.below HB0.out).int (relOf_get hlt)
   have i0:=(HB.out.cell (p:=⟨b,o+k,none⟩) hbl).trans i0
   have j0:=(HB.out.cell (p:=⟨b',o'+k,none⟩) hbl').trans j0
   have ne1:b≠w0.heap.size:=by omega
   have ne2:b'≠w0.heap.size:=by omega
   have ne3:w0.heap.size≠b:=by omega
   have ne4:w0.heap.size≠b':=by omega
   have hg:((relOf n (fOr f g)).take k++List.replicate (n - k) 0)[k]? = some 0:=by
    have:=get_pad (relOf n (fOr f g)) 0 (k:=k) (by rw [relOf_length];exact hlt)
    rwa [relOf_length] at this
   obtain ⟨hgl,f0,hfr⟩:=HO.out.int hg
   have ho2:=HO.out.setInt hg (bits .or .i64 (bitsTo (f k) n) (bitsTo (g k) n))
   rw [bitsTo_or (f k) (g k) (n:=n) (by omega)] at ho2
   have hset:=set_pad (relOf n (fOr f g)) 0 (relOf_get (f:=fOr f g) hlt)
   rw [relOf_length] at hset
   have e:((relOf n (fOr f g)).take k++List.replicate (n - k) 0).set k (bitsTo (fun j=>f k j||g k j) n)=(relOf n (fOr f g)).take (k+1)++List.replicate (n - (k+1)) 0:=hset
   rw [e] at ho2
   have HO2:=hide ho2
   have EQ:=hide (bitsTo_or (f k) (g k) (n:=n) (by omega))
   have hfz:=hfr k
   clear ho2 e hset hg hb hfr
   generalize bitsTo (f k) n=rf at *
   generalize bitsTo (g k) n=rg at *
   go_wp2_with fail
   go_region_held3 (fun V=>V.cell? ⟨b,o+k,none⟩=some (.int .i64 rf)∧V.cell? ⟨b',o'+k,none⟩=some (.int .i64 rg)) ((simp [go_sem, *]))
    (first
     | (go_at_call 213;(with_reducible refine (bitUnion_any _ _ _).mono ?_);rintro e u1 ⟨rfl,rfl⟩))
   all_goals
    go_wp2_with fail
    go_roundw
    case rel=>exact ⟨k+1,by omega,by go_num,hide (by have h:=HO2.out.below (Below.refl _ _).drew;rw [← EQ.out] at h;exact h),hide ((HB.out.setCell (Nat.le_refl _) _).drew)⟩
    case measure=>simp [intOf];omega
  ·have e:k=n:=by omega
   subst e
   go_wp2_with fail
   go_ret
   have ho:=HO.out
   rw [Nat.sub_self,List.replicate_zero,List.append_nil,List.take_of_length_le (by rw [relOf_length];exact Nat.le_refl _)] at ho
   exact ⟨_,rfl,ho.mono HB0.out.size,HB0.out.trans (HB.out.mono HB0.out.size)⟩
theorem UnionRel_any (v v':Value) (n:Nat) (f g:Nat→Nat→Bool) (w:World) (hx:Rep IntE w v (relOf n f)) (hy:Rep IntE w v' (relOf n g)) (hn:n≤16) :
 Calls Tryz.prog 186 #[v,v'] w (RetOwn IntE 3 w (relOf n (fOr f g))):=by
 have HC:=hide (combinedUnion v v' n f g w hx hy hn)
 clear hx hy
 go_enter Tryz.func186,Tryz.ntmps186
 go_wp2_with fail
 (with_reducible refine HC.out.mono ?_);rintro e w1 ⟨u,rfl,hu,hb1⟩
 go_wp2_with fail
 go_ret
 exact ⟨_,rfl,hu,hb1⟩
theorem bitMeet_any (x y:Int) (w:World) :
 Calls Tryz.prog 214 #[.int .i64 x, .int .i64 y] w fun e w'=>e = .returned (.int .i64 (bits .and .i64 x y))∧w=w':=by
 go_enter Tryz.func214,Tryz.ntmps214
 go_wp2_with fail
 go_ret
 exact ⟨rfl,rfl⟩
theorem combinedMeet (v v':Value) (n:Nat) (f g:Nat→Nat→Bool) (w:World) (hx:Rep IntE w v (relOf n f)) (hy:Rep IntE w v' (relOf n g)) (hn:n≤16) :
 Calls Tryz.prog 212 #[v,v', .func (.func 214) #[] #[]] w (RetOwn IntE 3 w (relOf n (fAnd f g))):=by
 have HA:=hide (areRels_any v v' n f g w hx hy hn)
 obtain ⟨a,c,rfl, -, -, -,hx⟩:=hx.open
 obtain ⟨a',c',rfl, -, -, -,hy⟩:=hy.open
 simp only [relOf_length] at *
 have HX:=hide hx;have HY:=hide hy
 clear hx hy
 go_enter Tryz.func212,Tryz.ntmps212
 go_wp2_with fail
 (with_reducible refine HA.out.mono ?_);rintro e w0 ⟨rfl,hb0⟩
 have HB0:=hide hb0;clear hb0 HA
 go_wp2_with (at_make;refine wpList_make IntE 3 0 Tryz.infoInt rfl Tryz.underlying24 n (by decide) (by omega) rfl _ _ rfl rfl rfl ?_;intro w1 hown hgr)
 have hb1:=below_of_grown hgr
 go_loopw [18] (fun i wr => ∃ k:Nat,k≤n∧i = .int .i64 k∧Hid (OwnN wr w0.heap.size (.slice (some ⟨w0.heap.size,0,none⟩) n n) ((relOf n (fAnd f g)).take k++List.replicate (n - k) 0))∧Hid (Below w0.heap.size w0 wr)) (fun i _=>n - (intOf i).toNat)
 case atStart=>exact ⟨0,Nat.zero_le _,rfl,hide (by simpa using hown),hide hb1⟩
 case round =>
  obtain ⟨k,hk,rfl,HO,HB⟩:=hrel
  by_cases hlt:k < n
  ·have hlt':=nat_of_lt hlt
   have hb:=HB.out
   obtain ⟨b,o,rfl,hbl,i0⟩:=(HX.out.below HB0.out).int (relOf_get hlt)
   obtain ⟨b',o',rfl,hbl',j0⟩:=(HY.out.below HB0.out).int (relOf_get hlt)
   have i0:=(HB.out.cell (p:=⟨b,o+k,none⟩) hbl).trans i0
   have j0:=(HB.out.cell (p:=⟨b',o'+k,none⟩) hbl').trans j0
   have ne1:b≠w0.heap.size:=by omega
   have ne2:b'≠w0.heap.size:=by omega
   have ne3:w0.heap.size≠b:=by omega
   have ne4:w0.heap.size≠b':=by omega
   have hg:((relOf n (fAnd f g)).take k++List.replicate (n - k) 0)[k]? = some 0:=by
    have:=get_pad (relOf n (fAnd f g)) 0 (k:=k) (by rw [relOf_length];exact hlt)
    rwa [relOf_length] at this
   obtain ⟨hgl,f0,hfr⟩:=HO.out.int hg
   have ho2:=HO.out.setInt hg (bits .and .i64 (bitsTo (f k) n) (bitsTo (g k) n))
   rw [bitsTo_and (f k) (g k) (n:=n) (by omega)] at ho2
   have hset:=set_pad (relOf n (fAnd f g)) 0 (relOf_get (f:=fAnd f g) hlt)
   rw [relOf_length] at hset
   have e:((relOf n (fAnd f g)).take k++List.replicate (n - k) 0).set k (bitsTo (fun j=>f k j&&g k j) n)=(relOf n (fAnd f g)).take (k+1)++List.replicate (n - (k+1)) 0:=hset
   rw [e] at ho2
   have HO2:=hide ho2
   have EQ:=hide (bitsTo_and (f k) (g k) (n:=n) (by omega))
   have hfz:=hfr k
   clear ho2 e hset hg hb hfr
   generalize bitsTo (f k) n=rf at *
   generalize bitsTo (g k) n=rg at *
   go_wp2_with fail
   go_region_held3 (fun V=>V.cell? ⟨b,o+k,none⟩=some (.int .i64 rf)∧V.cell? ⟨b',o'+k,none⟩=some (.int .i64 rg)) ((simp [go_sem, *]))
    (first
     | (go_at_call 214;(with_reducible refine (bitMeet_any _ _ _).mono ?_);rintro e u1 ⟨rfl,rfl⟩))
   all_goals
    go_wp2_with fail
    go_roundw
    case rel=>exact ⟨k+1,by omega,by go_num,hide (by have h:=HO2.out.below (Below.refl _ _).drew;rw [← EQ.out] at h;exact h),hide ((HB.out.setCell (Nat.le_refl _) _).drew)⟩
    case measure=>simp [intOf];omega
  ·have e:k=n:=by omega
   subst e
   go_wp2_with fail
   go_ret
   have ho:=HO.out
   rw [Nat.sub_self,List.replicate_zero,List.append_nil,List.take_of_length_le (by rw [relOf_length];exact Nat.le_refl _)] at ho
   exact ⟨_,rfl,ho.mono HB0.out.size,HB0.out.trans (HB.out.mono HB0.out.size)⟩
theorem MeetRel_any (v v':Value) (n:Nat) (f g:Nat→Nat→Bool) (w:World) (hx:Rep IntE w v (relOf n f)) (hy:Rep IntE w v' (relOf n g)) (hn:n≤16) :
 Calls Tryz.prog 187 #[v,v'] w (RetOwn IntE 3 w (relOf n (fAnd f g))):=by
 have HC:=hide (combinedMeet v v' n f g w hx hy hn)
 clear hx hy
 go_enter Tryz.func187,Tryz.ntmps187
 go_wp2_with fail
 (with_reducible refine HC.out.mono ?_);rintro e w1 ⟨u,rfl,hu,hb1⟩
 go_wp2_with fail
 go_ret
 exact ⟨_,rfl,hu,hb1⟩
end Go.Proofs.YtkfhgnkonaafgaaGreatDoor
namespace Go.Proofs.YtkfhgnkonaafgaaGreatDoor
open Go.RowKit
end Go.Proofs.YtkfhgnkonaafgaaGreatDoor
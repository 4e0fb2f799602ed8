/-
  Plain: what the laws of fences say of the outcomes with buffers. Condition: valid programs.
-/
import Derived.Test.YtlddmagfbcomgaaGreatZq28
import Derived.Test.YtlddmagfbcomgaaGreatZq29
import Derived.Deep.RegionHeld3
import Derived.Deep.DeepCutAuto
import Derived.Test.YtlddmagfbcomgaaGreatZq26
import Derived.Test.YtlddmagfbcomgaaGreatZq22
import Derived.Test.YtlddmagfbcomgaaGreatZq27
import Derived.Test.YtlddmagfbcomgaaGreatZq23
set_option maxHeartbeats 6400000
set_option maxRecDepth 100000
namespace Go.Proofs.YtlddmagfbcomgaaGreat
open Go.RowKit
theorem ev_read {p:List (List Ins)} {k:Nat} {e:Ev} (h:(evAll p)[k]? = some e) (hr:e.r=true):∃ (t i:Nat) (r:List Ins),e.t=t∧e.i=i∧p[t]? = some r∧r[i]? = some (insE p e):=by
 rcases ev_cases h with h1 | ⟨t,i,r,h1,h2,h3,h4, -⟩
 ·exfalso
  have h2:=List.mem_of_getElem? h
  unfold evAll at h2
  rcases List.mem_append.1 h2 with h3 | h3
  ·simp [evHead] at h3
   obtain ⟨l, -,rfl⟩:=h3
   cases hr
  ·unfold evTo at h3
   rw [List.mem_flatMap] at h3
   obtain ⟨t,ht,h3⟩:=h3
   cases hp:p[t]? with
   | none=>rw [hp] at h3;simp at h3
   | some r =>
    rw [hp] at h3
    simp only [evRow,List.mem_flatMap,List.mem_range] at h3
    obtain ⟨i,hi,h3⟩:=h3
    obtain ⟨x,hx⟩:=get_of_lt (xs:=r) (k:=i) hi
    rw [hx] at h3
    obtain ⟨rfl, -⟩:=mem_evOf h3
    simp at h1
 ·exact ⟨t,i,r,h1,h2,h3,h4⟩
end Go.Proofs.YtlddmagfbcomgaaGreat
namespace Go.Proofs.YtlddmagfbcomgaaGreat
open Go.RowKit
end Go.Proofs.YtlddmagfbcomgaaGreat
namespace Go.Proofs.YtlddmagfbcomgaaGreat
def fromC (es:List Ev) (i:Nat):List Int:=match es[i]? with
 | some e=>if e.r=true then wrL es e.l else [-1]
 | none=>[]
def pre1 (i:Nat) (rest:List (List Int)) (k:Int):List (List Int):=if k=(i:Int) then [] else rest.map (k :: ·)
def fromsD (es:List Ev):Nat→Nat→List (List Int)
 | 0,_=>[[]]
 | n+1,i=>(fromC es i).flatMap (pre1 i (fromsD es n (i+1)))
def fromsL (es:List Ev) (i:Nat):List (List Int):=fromsD es (es.length - i) i
def permsD:Nat→List Int→List (List Int)
 | 0,_=>[[]]
 | n+1,xs=>(List.range xs.length).flatMap fun i=>(permsD n (xs.eraseIdx i)).map (xs.getD i 0 :: ·)
def permsL (xs:List Int):List (List Int):=permsD xs.length xs
def ordsD (es:List Ev):Nat→Nat→List (List (List Int))
 | 0,_=>[[]]
 | n+1,l=>(permsL (wrL es l).tail).flatMap fun q=>(ordsD es n (l+1)).map (((wrL es l).headD 0 :: q) :: ·)
def ordsL (es:List Ev) (l:Nat):List (List (List Int)):=ordsD es (3 - l) l
theorem fromsL_end (es:List Ev):fromsL es es.length=[[]]:=by unfold fromsL;rw [Nat.sub_self];rfl
theorem fromsL_step {es:List Ev} {i:Nat} (h:i < es.length):fromsL es i=(fromC es i).flatMap (pre1 i (fromsL es (i+1))):=by
 unfold fromsL
 rw [show es.length - i=(es.length - (i+1))+1 by omega]
 rfl
theorem ordsL_step {es:List Ev} {l:Nat} (h:l < 3):ordsL es l=(permsL (wrL es l).tail).flatMap fun q=>(ordsL es (l+1)).map (((wrL es l).headD 0 :: q) :: ·):=by
 unfold ordsL
 rw [show 3 - l=(3 - (l+1))+1 by omega]
 rfl
theorem flatMap_length_le {α β:Type} (f:α→List β) (b:Nat) (xs:List α) (h:∀ x∈xs,(f x).length≤b):(xs.flatMap f).length≤xs.length * b:=by
 induction xs with
 | nil=>simp
 | cons x xs ih =>
  rw [List.flatMap_cons,List.length_append,List.length_cons,Nat.succ_mul]
  have h1:=h x (by simp)
  have h2:=ih (fun y hy=>h y (by simp [hy]))
  omega
theorem permsD_length:∀ (n:Nat) (xs:List Int),xs.length=n→(permsD n xs).length≤fact n:=by
 intro n
 induction n with
 | zero=>intro xs _;simp [permsD,fact]
 | succ n ih =>
  intro xs hx
  unfold permsD
  have h:=flatMap_length_le (fun i=>(permsD n (xs.eraseIdx i)).map (xs.getD i 0 :: ·)) (fact n) (List.range xs.length) (fun i hi=>by
   rw [List.mem_range] at hi
   rw [List.length_map]
   exact ih _ (by rw [List.length_eraseIdx,if_pos hi,hx];rfl))
  rw [List.length_range,hx] at h
  rw [fact,Nat.mul_comm];rw [hx];exact h
theorem permsL_length (xs:List Int):(permsL xs).length≤fact xs.length:=permsD_length _ xs rfl
def facE (es:List Ev) (e:Ev):Nat:=if e.r=true then (wrL es e.l).length else 1
def prodL (f:Ev→Nat):List Ev→Nat
 | []=>1
 | e :: es=>f e * prodL f es
theorem fromsL_length {es:List Ev}:∀ (n i:Nat),i+n=es.length→(fromsL es i).length≤prodL (facE es) (es.drop i):=by
 intro n
 induction n with
 | zero =>
  intro i hi
  obtain rfl:i=es.length:=by omega
  rw [fromsL_end,List.drop_length];exact Nat.le_refl _
 | succ n ih =>
  intro i hi
  obtain ⟨e,he⟩:=get_of_lt (xs:=es) (k:=i) (by omega)
  obtain ⟨hlt,hee⟩:=List.getElem?_eq_some_iff.1 he
  rw [fromsL_step hlt,List.drop_eq_getElem_cons hlt,hee,prodL]
  have h1:(fromC es i).length=facE es e:=by
   unfold fromC facE;rw [he];simp only
   split <;> rfl
  have h2:=flatMap_length_le (pre1 i (fromsL es (i+1))) (prodL (facE es) (es.drop (i+1))) (fromC es i) (fun k _=>by
   unfold pre1
   split
   ·simp
   ·rw [List.length_map];exact ih (i+1) (by omega))
  rw [h1] at h2;exact h2
theorem facE_pos {es:List Ev} (h:∀ e∈es,e.r=true→1≤(wrL es e.l).length):∀ e∈es,1≤facE es e:=by
 intro e he
 unfold facE
 split
 ·exact h e he (by assumption)
 ·exact Nat.le_refl _
theorem prodL_pos {f:Ev→Nat}:∀ {es:List Ev},(∀ e∈es,1≤f e)→1≤prodL f es:=by
 intro es
 induction es with
 | nil=>intro _;exact Nat.le_refl _
 | cons e es ih=>intro h;exact Nat.mul_pos (h e (by simp)) (ih (fun x hx=>h x (by simp [hx])))
theorem prodL_drop {f:Ev→Nat}:∀ {es:List Ev},(∀ e∈es,1≤f e)→∀ i,prodL f (es.drop i)≤prodL f es:=by
 intro es
 induction es with
 | nil=>intro _ i;simp
 | cons e es ih =>
  intro h i
  cases i with
  | zero=>exact Nat.le_refl _
  | succ i =>
   have h1:=ih (fun x hx=>h x (by simp [hx])) i
   have h2:=h e (by simp)
   simp only [List.drop_succ_cons,prodL]
   exact Nat.le_trans h1 (Nat.le_mul_of_pos_left _ h2)
def rAt (l:Int) (e:Ev):Bool:=e.r&&(e.l==l)
def wAt (l:Int) (e:Ev):Bool:=e.w&&(e.l==l)
theorem prodL_eq (c:Int→Nat):∀ (es:List Ev),(∀ e∈es,e.r=true→e.l=0∨e.l=1∨e.l=2)→prodL (fun e=>if e.r=true then c e.l else 1) es=c 0 ^ es.countP (rAt 0) * c 1 ^ es.countP (rAt 1) * c 2 ^ es.countP (rAt 2):=by
 intro es
 induction es with
 | nil=>intro _;simp [prodL]
 | cons e es ih =>
  intro h
  have h1:=ih (fun x hx=>h x (by simp [hx]))
  rw [prodL,h1]
  cases hr:e.r with
  | false =>
   simp [rAt,hr]
  | true =>
   rcases h e (by simp) hr with hl | hl | hl <;> simp [rAt,hr,hl,Nat.pow_succ] <;> ac_rfl
theorem wrTo_count (es:List Ev) (l:Int):∀ k,k≤es.length→(wrTo es l k).length=(es.take k).countP (wAt l):=by
 intro k
 induction k with
 | zero=>intro _;simp [wrTo]
 | succ k ih =>
  intro hk
  obtain ⟨e,he⟩:=get_of_lt (xs:=es) (k:=k) hk
  rw [wrTo_succ l he,List.length_append,ih (by omega),List.take_add_one,he,List.countP_append]
  unfold wr1 wAt
  cases hw:(e.w&&e.l==l) <;> simp [hw]
theorem wrL_count (es:List Ev) (l:Int):(wrL es l).length=es.countP (wAt l):=by
 unfold wrL
 rw [wrTo_count es l _ (Nat.le_refl _),List.take_length]
theorem evRow_count (G:Ev→Bool) (f:Ins→Bool) (hG:∀ (t i:Nat) (x:Ins),(evOf t i x).countP G=if f x=true then 1 else 0) (t:Nat) (r:List Ins):∀ k,k≤r.length→(evRow t r k).countP G=(r.take k).countP f:=by
 intro k
 induction k with
 | zero=>intro _;simp [evRow]
 | succ k ih =>
  intro hk
  obtain ⟨x,hx⟩:=get_of_lt (xs:=r) (k:=k) hk
  rw [evRow_succ hx,List.countP_append,ih (by omega),List.take_add_one,hx,List.countP_append,hG]
  simp [List.countP_cons]
theorem evTo_count (G:Ev→Bool) (f:Ins→Bool) (hG:∀ (t i:Nat) (x:Ins),(evOf t i x).countP G=if f x=true then 1 else 0) (p:List (List Ins)):∀ j,j≤p.length→(evTo p j).countP G=cnt f (p.take j):=by
 intro j
 induction j with
 | zero=>intro _;simp [evTo,cnt]
 | succ j ih =>
  intro hj
  obtain ⟨r,hr⟩:=get_of_lt (xs:=p) (k:=j) hj
  have h:=evRow_count G f hG j r r.length (Nat.le_refl _)
  rw [List.take_length] at h
  rw [evTo_succ hr,List.countP_append,ih (by omega),cnt_take_succ f hr,h]
theorem evOf_r (l:Int) (t i:Nat) (x:Ins):(evOf t i x).countP (rAt l)=if fR l x=true then 1 else 0:=by
 unfold evOf fR
 by_cases h:x.op=4
 ·rw [if_pos h];simp [isRop,h]
 ·rw [if_neg h];simp [List.countP_cons,rAt,Bool.and_comm]
theorem evOf_w (l:Int) (t i:Nat) (x:Ins):(evOf t i x).countP (wAt l)=if fW l x=true then 1 else 0:=by
 unfold evOf fW
 by_cases h:x.op=4
 ·rw [if_pos h];simp [isWop,h]
 ·rw [if_neg h];simp [List.countP_cons,wAt,Bool.and_comm]
theorem evAll_r (p:List (List Ins)) (l:Int):(evAll p).countP (rAt l)=cnt (fR l) p:=by
 unfold evAll
 rw [List.countP_append,evTo_count (rAt l) (fR l) (evOf_r l) p p.length (Nat.le_refl _),List.take_length]
 simp [evHead,List.range_succ,rAt]
theorem evAll_w (p:List (List Ins)) {l:Nat} (hl:l < 3):(evAll p).countP (wAt l)=cnt (fW l) p+1:=by
 unfold evAll
 rw [List.countP_append,evTo_count (wAt l) (fW l) (evOf_w l) p p.length (Nat.le_refl _),List.take_length]
 have:l=0∨l=1∨l=2:=by omega
 rcases this with rfl | rfl | rfl <;> simp [evHead,List.range_succ,wAt,Nat.add_comm]
theorem ordsL_length (es:List Ev) (f:Nat→Nat) (hf:∀ l:Nat,l < 3→fact (wrL es l).tail.length≤f l):(ordsL es 0).length≤f 0 * (f 1 * f 2)∧(ordsL es 1).length≤f 1 * f 2∧(ordsL es 2).length≤f 2∧ordsL es 3=[[]]:=by
 have st:∀ l:Nat,l < 3→∀ b,(ordsL es (l+1)).length≤b→(ordsL es l).length≤f l * b:=fun l hl b hb=>by
  rw [ordsL_step hl]
  have h:=flatMap_length_le (fun q=>(ordsL es (l+1)).map (((wrL es l).headD 0 :: q) :: ·)) b (permsL (wrL es l).tail) (fun q _=>by rw [List.length_map];exact hb)
  have h2:=Nat.le_trans (permsL_length (wrL es l).tail) (hf l hl)
  exact Nat.le_trans h (Nat.mul_le_mul_right _ h2)
 have h3:(ordsL es 3).length≤1:=Nat.le_refl _
 have h2:=st 2 (by omega) 1 h3
 rw [Nat.mul_one] at h2
 have h1:=st 1 (by omega) _ h2
 have h0:=st 0 (by omega) _ h1
 exact ⟨h0,h1,h2,rfl⟩
structure Few (p:List (List Ins)):Prop where
 froms:∀ i,(fromsL (evAll p) i).length≤3000
 ords:∀ l,(ordsL (evAll p) l).length≤3000
 perms:∀ l:Nat,l < 3→fact (wrL (evAll p) l).tail.length≤3000
 all:(fromsL (evAll p) 0).length * (ordsL (evAll p) 0).length≤3000
theorem insValid_loc {x:Ins} (h:insValid x=true):x.loc=0∨x.loc=1∨x.loc=2:=by
 unfold insValid inB at h
 split at h
 ·simp at h;omega
 ·split at h
  ·simp at h;omega
  ·split at h
   ·simp at h;omega
   ·split at h
    ·simp at h;omega
    ·cases h
theorem few {p:List (List Ins)} (h:progValid p=true):Few p:=by
 have hv:=valid_le h
 unfold progValid at h
 simp only [Bool.and_eq_true,decide_eq_true_eq] at h
 have hP:=h.2
 have hloc:∀ e∈evAll p,e.r=true→e.l=0∨e.l=1∨e.l=2:=fun e he hr=>by
  obtain ⟨k,hk⟩:=List.mem_iff_getElem?.1 he
  obtain ⟨t',i',r,h1, -⟩:=ev_read (p:=p) hk hr
  rcases ev_cases hk with h2 | ⟨t2,i2,r2, -, -,h5,h6, -, -,h9⟩
  ·omega
  ·rw [h9];exact insValid_loc ((hv.2.2.1 r2 (List.mem_of_getElem? h5)).2 _ (List.mem_of_getElem? h6))
 have hc:∀ l:Nat,l < 3→(wrL (evAll p) l).length=cnt (fW l) p+1:=fun l hl=>by rw [wrL_count,evAll_w p hl]
 have hpos:∀ e∈evAll p,1≤facE (evAll p) e:=facE_pos fun e he hr=>by
  rcases hloc e he hr with hl | hl | hl
  ·rw [hl];have:=hc 0 (by omega);simp at this;omega
  ·rw [hl];have:=hc 1 (by omega);simp at this;omega
  ·rw [hl];have:=hc 2 (by omega);simp at this;omega
 have hA:=prodL_eq (fun l=>(wrL (evAll p) l).length) (evAll p) hloc
 have hA2:prodL (facE (evAll p)) (evAll p)=(cnt (fW (0:Nat)) p+1) ^ cnt (fR (0:Nat)) p * (cnt (fW (1:Nat)) p+1) ^ cnt (fR (1:Nat)) p * (cnt (fW (2:Nat)) p+1) ^ cnt (fR (2:Nat)) p:=by
  refine Eq.trans hA ?_
  rw [← hc 0 (by omega),← hc 1 (by omega),← hc 2 (by omega),← evAll_r,← evAll_r,← evAll_r]
  rfl
 have ht:∀ l:Nat,l < 3→fact (wrL (evAll p) l).tail.length≤fact (cnt (fW l) p):=fun l hl=>by
  rw [List.length_tail,hc l hl];exact Nat.le_refl _
 have t0:=ht 0 (by omega);have t1:=ht 1 (by omega);have t2:=ht 2 (by omega)
 obtain ⟨o0,o1,o2,o3⟩:=ordsL_length (evAll p) (fun l=>fact (cnt (fW l) p)) ht
 have hfr:∀ i,(fromsL (evAll p) i).length≤prodL (facE (evAll p)) (evAll p):=fun i=>by
  by_cases hi:i≤(evAll p).length
  ·exact Nat.le_trans (fromsL_length ((evAll p).length - i) i (by omega)) (prodL_drop hpos i)
  ·unfold fromsL
   rw [show (evAll p).length - i=0 by omega]
   exact prodL_pos hpos
 generalize prodL (facE (evAll p)) (evAll p)=A at *
 have f0:=fact_pos (cnt (fW (0:Nat)) p);have f1:=fact_pos (cnt (fW (1:Nat)) p);have f2:=fact_pos (cnt (fW (2:Nat)) p)
 have hA1:1≤A:=by rw [hA2];exact Nat.mul_pos (Nat.mul_pos (Nat.pow_pos (by omega)) (Nat.pow_pos (by omega))) (Nat.pow_pos (by omega))
 have hPe:A * (fact (cnt (fW (0:Nat)) p) * (fact (cnt (fW (1:Nat)) p) * fact (cnt (fW (2:Nat)) p)))≤3000:=by
  refine Nat.le_trans (Nat.le_of_eq ?_) hP
  rw [hA2]
  simp only [prodP,prodTo,pl]
  simp only [Nat.one_mul]
  ac_rfl
 clear hA hA2 hP hpos hloc hv hc h ht
 generalize fact (cnt (fW (0:Nat)) p)=F0 at *
 generalize fact (cnt (fW (1:Nat)) p)=F1 at *
 generalize fact (cnt (fW (2:Nat)) p)=F2 at *
 have h12:F1 * F2≤F0 * (F1 * F2):=Nat.le_mul_of_pos_left _ f0
 have h2:F2≤F1 * F2:=Nat.le_mul_of_pos_left _ f1
 have h1:F1≤F1 * F2:=Nat.le_mul_of_pos_right _ f2
 have h0:F0≤F0 * (F1 * F2):=Nat.le_mul_of_pos_right _ (Nat.mul_pos f1 f2)
 have hB1:1≤F0 * (F1 * F2):=Nat.mul_pos f0 (Nat.mul_pos f1 f2)
 have hB:F0 * (F1 * F2)≤A * (F0 * (F1 * F2)):=Nat.le_mul_of_pos_left _ hA1
 have hAB:A≤A * (F0 * (F1 * F2)):=Nat.le_mul_of_pos_right _ hB1
 refine ⟨fun i=>Nat.le_trans (hfr i) (by omega),fun l => ?_,fun l hl => ?_, ?_⟩
 ·have hl:l=0∨l=1∨l=2∨3≤l:=by omega
  rcases hl with rfl | rfl | rfl | hl
  ·omega
  ·omega
  ·omega
  ·unfold ordsL;rw [show 3 - l=0 by omega];show 1≤3000;omega
 ·have hl':l=0∨l=1∨l=2:=by omega
  rcases hl' with rfl | rfl | rfl
  ·exact Nat.le_trans t0 (by omega)
  ·exact Nat.le_trans t1 (by omega)
  ·exact Nat.le_trans t2 (by omega)
 ·exact Nat.le_trans (Nat.mul_le_mul (hfr 0) o0) hPe
end Go.Proofs.YtlddmagfbcomgaaGreat
namespace Go.Proofs.YtlddmagfbcomgaaGreat
section
variable {es es' : List Ev}
end
theorem countP_drop (f:Ins→Bool) (hf:∀ x:Ins,x.op=4→f x=false) (r:List Ins):(dropI r).countP f=r.countP f:=by
 unfold dropI
 rw [List.countP_filter]
 apply List.countP_congr
 intro x _
 unfold isFence
 by_cases h:x.op=4
 ·simp [h,hf x h]
 ·simp [h]
theorem cnt_drop (f:Ins→Bool) (hf:∀ x:Ins,x.op=4→f x=false) (p:List (List Ins)):cnt f (dropP p)=cnt f p:=by
 unfold cnt dropP
 induction p with
 | nil=>rfl
 | cons r p ih=>rw [List.map_cons,List.flatten_cons,List.flatten_cons,List.countP_append,List.countP_append,ih,countP_drop f hf]
theorem pl_drop (p:List (List Ins)) (l:Nat):pl (dropP p) l=pl p l:=by
 unfold pl
 rw [cnt_drop (fW l) (fun x hx=>by simp [fW,isWop,hx]),cnt_drop (fR l) (fun x hx=>by simp [fR,isRop,hx])]
theorem rowOk_drop {r:List Ins} (h:rowOk r=true):rowOk (dropI r)=true:=by
 unfold rowOk at h ⊢
 simp only [Bool.and_eq_true,List.all_eq_true,decide_eq_true_eq] at h ⊢
 refine ⟨fun x hx=>h.1 x ?_,Nat.le_trans (dropI_length r) h.2⟩
 unfold dropI at hx
 exact (List.mem_filter.1 hx).1
theorem progValid_drop {p:List (List Ins)} (h:progValid p=true):progValid (dropP p)=true:=by
 unfold progValid shapeOk at h ⊢
 simp only [Bool.and_eq_true,List.all_eq_true,decide_eq_true_eq] at h ⊢
 obtain ⟨⟨⟨⟨h1,h2⟩,h3⟩,h4⟩,h5⟩:=h
 refine ⟨⟨⟨⟨by simpa [dropP] using h1,fun r hr => ?_⟩, ?_⟩,by simpa [dropP] using h4⟩, ?_⟩
 ·unfold dropP at hr
  obtain ⟨q,hq,rfl⟩:=List.mem_map.1 hr
  exact rowOk_drop (h2 q hq)
 ·rw [cnt_drop notFence (fun x hx=>by simp [notFence,hx])];exact h3
 ·unfold prodP at h5 ⊢
  simp only [prodTo,pl_drop] at h5 ⊢;exact h5
end Go.Proofs.YtlddmagfbcomgaaGreat
namespace Go.Proofs.YtlddmagfbcomgaaGreat
open Go.RowKit
theorem Fd.app {a a' b b':List Ins} (h:Fd a a') (k:Fd b b'):Fd (a++b) (a'++b'):=by
 induction h with
 | nil=>exact k
 | keep x _ ih=>exact .keep x ih
 | drop x h4 _ ih=>exact .drop x h4 ih
theorem Fd_putTo (f:Int→Bool) (r:List Ins):∀ n,n≤r.length→Fd (putTo f r n) (r.take n):=by
 intro n
 induction n with
 | zero=>intro _;rw [List.take_zero];exact .nil
 | succ n ih =>
  intro h
  obtain ⟨x,hx⟩:=get_of_lt (xs:=r) (k:=n) h
  rw [putTo_succ hx,List.take_add_one,hx]
  refine (ih (by omega)).app ?_
  split
  ·exact .drop _ rfl (.keep x .nil)
  ·exact .keep x .nil
theorem FdP_put (f:Gp→Bool) (p:List (List Ins)):FdP (putP f p) p:=by
 refine ⟨putP_length f p,fun t r r' hr hr' => ?_⟩
 rw [putP_get hr',Option.some.injEq] at hr
 subst hr
 have:=Fd_putTo (fun i=>f ⟨t,i⟩) r' r'.length (Nat.le_refl _)
 rwa [List.take_length] at this
theorem put_within {p:List (List Ins)} {f:Gp→Bool} {split:Bool} (hv:progValid p=true) (o:List Int) (h:bufO split (putP f p) o):bufO split p o:=
 ⟨hv,bf_out_drop (valid_ins h.1) (valid_ins hv) (FdP_put f p) h.2⟩
theorem put_seq {p:List (List Ins)} {f:Gp→Bool} (hv:progValid p=true) (hq:progValid (putP f p)=true) (o:List Int):seqO (putP f p) o↔seqO p o:=by
 have h:=sq_out_drop (valid_ins hq) (valid_ins hv) (FdP_put f p) o
 exact ⟨fun k=>⟨hv,h.1 k.2⟩,fun k=>⟨hq,h.2 k.2⟩⟩
theorem robust_of {p:List (List Ins)} {split:Bool} (hd:∀ t i k,Delayed p t i k→Sep p t i k) (o:List Int) (h:bufO split p o):seqO p o:=by
 obtain ⟨hv,s,h1,h2,h3⟩:=h
 obtain ⟨s',k1,k2,k3⟩:=robust (valid_ins hv) (fun r hr=>Nat.le_trans ((valid_le hv).2.2.1 r hr).1 (by decide)) hd h1 h2
 exact ⟨hv,s',k1,k2,k3.trans h3⟩
end Go.Proofs.YtlddmagfbcomgaaGreat
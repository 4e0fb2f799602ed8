/-
  A region that draws its order and ends in one operation that waits, through others, for all, by an invariant: each operation is walked once. No program in sight.
-/
import Derived.Test.YtfbgppkdnfljhaaGreatDoorZt00
import Derived.OrdersIn
import Derived.Orders
set_option maxHeartbeats 6400000
set_option maxRecDepth 100000
namespace Go.Proofs.YtfbgppkdnfljhaaGreatDoor
open Go.RowKit
end Go.Proofs.YtfbgppkdnfljhaaGreatDoor
namespace Go.Proofs.YtfbgppkdnfljhaaGreatDoor
end Go.Proofs.YtfbgppkdnfljhaaGreatDoor
namespace Go.Proofs.YtfbgppkdnfljhaaGreatDoor
open Go.RowKit
end Go.Proofs.YtfbgppkdnfljhaaGreatDoor
namespace Go.Proofs.YtfbgppkdnfljhaaGreatDoor
open Go.RowKit
structure MayCome (md:Region.Mode) (ops:Array Oper) (listed:Array Bool) (i:Nat) (o:Oper):Prop where
 op:ops[i]? = some o
 new:listed[i]? = some false
 after:∀ e∈o.after,Region.binds md e=true→listed[e.on]? = some true
theorem ready_spec {md:Region.Mode} {ops:Array Oper} {listed:Array Bool} (hs:listed.size=ops.size) {i:Nat} (h:i∈Region.ready md ops listed):∃ o,MayCome md ops listed i o:=by
 unfold Region.ready at h
 rw [List.mem_filter] at h
 obtain ⟨h1,h2⟩:=h
 rw [List.mem_range] at h1
 rw [Bool.and_eq_true] at h2
 obtain ⟨h2,h3⟩:=h2
 rw [Array.getElem?_eq_getElem h1] at h3
 refine ⟨ops[i],Array.getElem?_eq_getElem h1, ?_,fun e he hb => ?_⟩
 ·rw [Array.getElem?_eq_getElem (by omega)]
  have:listed.getD i true=listed[i]'(by omega):=by simp [Array.getD,show i < listed.size by omega]
  rw [this] at h2
  simpa using h2
 ·simp only [Option.map_some,Option.getD_some,Array.all_eq_true'] at h3
  have h4:=h3 e he
  rw [hb] at h4
  simp only [Bool.not_true,Bool.false_or] at h4
  by_cases hl:e.on < listed.size
  ·rw [Array.getElem?_eq_getElem hl]
   have:listed.getD e.on false=listed[e.on]:=by simp [Array.getD,hl]
   rw [this] at h4;rw [h4]
  ·have:listed.getD e.on false=false:=by simp [Array.getD,hl]
   rw [this] at h4;cases h4
def earlier (ops:Array Oper):Bool:=(List.range ops.size).all fun i=>(ops[i]?.map fun o=>o.after.all fun e=>decide (e.on < i)).getD true
theorem ready_nil {md:Region.Mode} {ops:Array Oper} {listed:Array Bool} (hs:listed.size=ops.size) (he:earlier ops=true) (h:Region.ready md ops listed=[]):∀ i,i < ops.size→listed[i]? = some true:=by
 intro i
 induction i using Nat.strongRecOn with
 | ind i ih =>
  intro hi
  rw [Array.getElem?_eq_getElem (by omega)]
  by_cases e:listed[i]'(by omega)=true
  ·rw [e]
  ·exfalso
   have hm:i∈Region.ready md ops listed:=by
    unfold Region.ready
    rw [List.mem_filter,List.mem_range]
    refine ⟨hi, ?_⟩
    rw [Bool.and_eq_true]
    refine ⟨?_, ?_⟩
    ·have:listed.getD i true=listed[i]'(by omega):=by simp [Array.getD,show i < listed.size by omega]
     rw [this];simpa using e
    ·rw [Array.getElem?_eq_getElem hi]
     simp only [Option.map_some,Option.getD_some,Array.all_eq_true']
     intro x hx
     unfold earlier at he
     rw [List.all_eq_true] at he
     have h1:=he i (by simpa using hi)
     rw [Array.getElem?_eq_getElem hi] at h1
     simp only [Option.map_some,Option.getD_some,Array.all_eq_true'] at h1
     have h2:=h1 x hx
     simp only [decide_eq_true_eq] at h2
     have h3:=ih x.on h2 (by omega)
     have:listed.getD x.on false=true:=by
      have hl:x.on < listed.size:=by omega
      rw [Array.getElem?_eq_getElem hl] at h3
      simp only [Option.some.injEq] at h3
      simp [Array.getD,hl,h3]
     rw [this,Bool.or_true]
   rw [h] at hm;cases hm
def falses (l:Array Bool):Nat:=l.toList.countP fun b => !b
theorem falses_set {l:Array Bool} {i:Nat} (h:l[i]? = some false):falses (l.setIfInBounds i true)+1=falses l:=by
 unfold falses
 rw [Array.toList_setIfInBounds]
 have h':l.toList[i]? = some false:=by rw [Array.getElem?_toList];exact h
 obtain ⟨h1,h2⟩:=List.getElem?_eq_some_iff.1 h'
 generalize l.toList=L at *
 clear h h' l
 induction L generalizing i with
 | nil=>simp at h1
 | cons x L ih =>
  cases i with
  | zero=>simp at h2;subst h2;simp
  | succ i =>
   simp at h1 h2
   have:=ih h1 h2
   simp only [List.set_cons_succ,List.countP_cons]
   omega
theorem falses_zero {l:Array Bool} (h:falses l=0) (i:Nat):l[i]?≠some false:=by
 intro e
 have:=falses_set e
 omega
variable {F : Fence} {n : Nat} {P : Program} {ops : Array Oper} {Q : Exit → Act → World → Prop}
theorem wpAnyIn_inv {md:Region.Mode} (I:Array Bool→Act→World→Prop) (he:earlier ops=true)
 (hstep:∀ (listed:Array Bool) (a:Act) (w:World),listed.size=ops.size→I listed a w→∀ (i:Nat) (o:Oper),MayCome md ops listed i o→∀ K:Act→World→Prop,(∀ a' w',I (listed.setIfInBounds i true) a' w'→K a' w') →
  if Region.wanted o (yielded ops a.tmps)=true then Oper.wpIn F n P o a w K Q else (∀ f,o.about P w a.eval=some f→F.fn f)∧K (a.put o.dst undef) w)
 (hend:∀ (listed:Array Bool) (a:Act) (w:World),(∀ i,i < ops.size→listed[i]? = some true)→I listed a w→Q .normal a w) :
 ∀ (fuel:Nat) (listed:Array Bool) (a:Act) (w:World),listed.size=ops.size→falses listed≤fuel→I listed a w→wpAnyIn F n P md ops Q fuel listed a w:=by
 intro fuel
 induction fuel with
 | zero =>
  intro listed a w hs hf hi
  have hr:Region.ready md ops listed=[]:=by
   rcases hq:Region.ready md ops listed with _ | ⟨i,rest⟩
   ·rfl
   ·exfalso
    obtain ⟨o,ho⟩:=ready_spec hs (i:=i) (by rw [hq];simp)
    exact falses_zero (by omega) i ho.new
  exact ⟨hr,hend listed a w (ready_nil hs he hr) hi⟩
 | succ fuel ih =>
  intro listed a w hs hf hi
  refine ⟨fun hr=>hend listed a w (ready_nil hs he hr) hi,fun i hm => ?_⟩
  obtain ⟨o,ho⟩:=ready_spec hs hm
  have hK:=hstep listed a w hs hi i o ho (wpAnyIn F n P md ops Q fuel (listed.setIfInBounds i true)) (fun a' w' h=>ih _ a' w' (by simp [hs]) (by have:=falses_set ho.new;omega) h)
  unfold wpOpIn
  rw [ho.op]
  simp only
  exact hK
theorem wpIn_region_inv {id:Nat} {a:Act} {w:World} (hm:P.follows .mixedOrders=true) (I:Array Bool→Act→World→Prop) (he:earlier ops=true)
 (h0:I (Array.replicate ops.size false) a w.drew)
 (hstep:∀ (listed:Array Bool) (a:Act) (w:World),listed.size=ops.size→I listed a w→∀ (i:Nat) (o:Oper),MayCome .any ops listed i o→∀ K:Act→World→Prop,(∀ a' w',I (listed.setIfInBounds i true) a' w'→K a' w') →
  if Region.wanted o (yielded ops a.tmps)=true then Oper.wpIn F n P o a w K Q else (∀ f,o.about P w a.eval=some f→F.fn f)∧K (a.put o.dst undef) w)
 (hend:∀ (listed:Array Bool) (a:Act) (w:World),(∀ i,i < ops.size→listed[i]? = some true)→I listed a w→Q .normal a w) :
 (Code.region id ops true).wpIn F n P Q a w:=
 wpIn_region_any hm (wpAnyIn_inv I he hstep hend ops.size _ a _ (by simp) (by unfold falses;refine Nat.le_trans List.countP_le_length ?_;simp) h0)
end Go.Proofs.YtfbgppkdnfljhaaGreatDoor
namespace Go.Proofs.YtfbgppkdnfljhaaGreatDoor
open Go.RowKit
section
variable {P : Program} {ops : Array Oper} {Q : Exit → Act → World → Prop}
theorem wpAny_invR {md:Region.Mode} (I:Array Bool→Act→World→Prop) (he:earlier ops=true)
 (hstep:∀ (listed:Array Bool) (a:Act) (w:World),listed.size=ops.size→I listed a w→∀ (i:Nat) (o:Oper),MayCome md ops listed i o→∀ K:Act→World→Prop,(∀ a' w',I (listed.setIfInBounds i true) a' w'→K a' w') →
  if Region.wanted o (yielded ops a.tmps)=true then Oper.wp P o a w K Q else K (a.put o.dst undef) w)
 (hend:∀ (listed:Array Bool) (a:Act) (w:World),(∀ i,i < ops.size→listed[i]? = some true)→I listed a w→Q .normal a w) :
 ∀ (fuel:Nat) (listed:Array Bool) (a:Act) (w:World),listed.size=ops.size→falses listed≤fuel→I listed a w→wpAny P md ops Q fuel listed a w:=by
 intro fuel
 induction fuel with
 | zero =>
  intro listed a w hs hf hi
  have hr:Region.ready md ops listed=[]:=by
   rcases hq:Region.ready md ops listed with _ | ⟨i,rest⟩
   ·rfl
   ·exfalso
    obtain ⟨o,ho⟩:=ready_spec hs (i:=i) (by rw [hq];simp)
    exact falses_zero (by omega) i ho.new
  exact ⟨hr,hend listed a w (ready_nil hs he hr) hi⟩
 | succ fuel ih =>
  intro listed a w hs hf hi
  refine ⟨fun hr=>hend listed a w (ready_nil hs he hr) hi,fun i hm => ?_⟩
  obtain ⟨o,ho⟩:=ready_spec hs hm
  have hK:=hstep listed a w hs hi i o ho (wpAny P md ops Q fuel (listed.setIfInBounds i true)) (fun a' w' h=>ih _ a' w' (by simp [hs]) (by have:=falses_set ho.new;omega) h)
  unfold wpOp
  rw [ho.op]
  simp only
  split
  ·rename_i hw
   rw [if_pos hw] at hK
   exact .inl hK
  ·rename_i hw
   rw [if_neg hw] at hK
   exact hK
def lastWaits (ops:Array Oper) (n:Nat):Bool:=(List.range n).all fun i=>(ops[n]?.map fun o=>o.after.any fun e=>e.on==i&&Region.binds .any e).getD false
theorem wp_region_inv {id n:Nat} {a:Act} {w:World} (hm:P.follows .mixedOrders=true) (hn:ops.size=n+1) (he:earlier ops=true) (hlw:lastWaits ops n=true) (I:Act→Array Bool→Act→World→Prop)
 (h0:I a (Array.replicate (n+1) false) a w.drew)
 (hstep:∀ (ls:Array Bool) (a':Act) (w':World),ls.size=n+1→ls[n]? = some false→I a ls a' w'→∀ (i:Nat) (o:Oper),i < n→MayCome .any ops ls i o→∀ K:Act→World→Prop,(∀ a'' w'',I a (ls.setIfInBounds i true) a'' w''→K a'' w'') →
  if Region.wanted o (yielded ops a'.tmps)=true then Oper.wp P o a' w' K Q else K (a'.put o.dst undef) w')
 (hlast:∀ (ls:Array Bool) (a':Act) (w':World),(∀ i,i < n→ls[i]? = some true)→I a ls a' w'→∀ o,ops[n]? = some o →
  if Region.wanted o (yielded ops a'.tmps)=true then Oper.wp P o a' w' (fun a'' w''=>Q .normal a'' w'') Q else Q .normal (a'.put o.dst undef) w') :
 (Code.region id ops true).wp P Q a w:=by
 refine wp_region_any hm (wpAny_invR (fun ls a' w'=>(ls[n]? = some false∧I a ls a' w')∨(ls[n]? = some true∧(∀ i,i < n→ls[i]? = some true)∧Q .normal a' w')) he ?_ ?_ ops.size _ a _ (by simp) (by unfold falses;refine Nat.le_trans List.countP_le_length ?_;simp) (.inl ⟨by simp [hn],by rw [hn];exact h0⟩))
 ·intro ls a' w' hs hI i o mc K hK
  rcases hI with ⟨hf,hI⟩ | ⟨ht,hal,hQ⟩
  ·by_cases hi:i=n
   ·subst hi
    have hall:∀ j,j < i→ls[j]? = some true:=fun j hj=>by
     unfold lastWaits at hlw
     rw [List.all_eq_true] at hlw
     have h1:=hlw j (List.mem_range.2 hj)
     rw [mc.op] at h1
     simp only [Option.map_some,Option.getD_some,Array.any_eq_true'] at h1
     obtain ⟨e,he1,he2⟩:=h1
     rw [Bool.and_eq_true] at he2
     have h3:=mc.after e he1 he2.2
     have h4:e.on=j:=by simpa using he2.1
     rw [h4] at h3;exact h3
    have h:=hlast ls a' w' hall hI o mc.op
    have hset:(ls.setIfInBounds i true)[i]? = some true:=by
     rw [Array.getElem?_setIfInBounds];simp [hs,hn]
    have hall2:∀ j,j < i→(ls.setIfInBounds i true)[j]? = some true:=fun j hj=>by
     rw [Array.getElem?_setIfInBounds,if_neg (by omega)];exact hall j hj
    split
    ·rename_i hw
     rw [if_pos hw] at h
     exact Oper.wp_mono (fun a2 w2 h2=>hK a2 w2 (.inr ⟨hset,hall2,h2⟩)) h
    ·rename_i hw
     rw [if_neg hw] at h
     exact hK _ _ (.inr ⟨hset,hall2,h⟩)
   ·have hlt:i < n:=by
     have:=(Array.getElem?_eq_some_iff.1 mc.op).1
     omega
    have h:=hstep ls a' w' (by rw [hs,hn]) hf hI i o hlt mc K (fun a2 w2 h2=>hK a2 w2 (.inl ⟨by rw [Array.getElem?_setIfInBounds];simp [hi];exact hf,h2⟩))
    exact h
  ·exfalso
   by_cases hi:i=n
   ·subst hi;rw [mc.new] at ht;cases ht
   ·have hlt:i < n:=by
     have:=(Array.getElem?_eq_some_iff.1 mc.op).1
     omega
    have:=hal i hlt
    rw [mc.new] at this;cases this
 ·intro ls a' w' hall hI
  rcases hI with ⟨hf, -⟩ | ⟨-, -,hQ⟩
  ·have:=hall n (by omega)
   rw [hf] at this;cases this
  ·exact hQ
end
def putAll (a:Act):List (Tmp × Value)→Act
 | []=>a
 | (d,v) :: l=>putAll (a.put (some d) v) l
def Vd (ls:Array Bool) (k:Nat) (D:List Nat) (x v:Value):Prop:=ls[k]? = some true→(∀ d∈D,ls[d]? = some true)∧x=v
theorem ls_set {ls:Array Bool} {i j:Nat} (h:i≠j):(ls.setIfInBounds i true)[j]? = ls[j]?:=by
 rw [Array.getElem?_setIfInBounds,if_neg h]
theorem ls_got {ls:Array Bool} {i:Nat} (h:i < ls.size):(ls.setIfInBounds i true)[i]? = some true:=by
 rw [Array.getElem?_setIfInBounds,if_pos rfl,if_pos h]
theorem ls_keep {ls:Array Bool} {i j:Nat} (h:ls[j]? = some true):(ls.setIfInBounds i true)[j]? = some true:=by
 by_cases e:i=j
 ·subst e;exact ls_got (Array.getElem?_eq_some_iff.1 h).1
 ·rw [ls_set e];exact h
theorem Vd.start {n k:Nat} {D:List Nat} {x v:Value}:Vd (Array.replicate n false) k D x v:=fun h=>by
 rw [Array.getElem?_replicate] at h;split at h <;> simp at h
theorem Vd.set {ls:Array Bool} {i k:Nat} {D:List Nat} {x v:Value} (h:Vd ls k D x v) (hik:i≠k):Vd (ls.setIfInBounds i true) k D x v:=fun e=>by
 rw [ls_set hik] at e
 exact ⟨fun d hd=>ls_keep ((h e).1 d hd),(h e).2⟩
theorem Vd.same {ls:Array Bool} {k:Nat} {D:List Nat} {v:Value} (hD:∀ d∈D,ls[d]? = some true):Vd (ls.setIfInBounds k true) k D v v:=fun _=>⟨fun d hd=>ls_keep (hD d hd),rfl⟩
theorem Vd.void {ls:Array Bool} {i k:Nat} {D:List Nat} {x v v':Value} (h:Vd ls k D x v) (hd:i∈D) (hik:i≠k) (hn:ls[i]? = some false):Vd (ls.setIfInBounds i true) k D x v':=fun e=>by
 rw [ls_set hik] at e
 have:=(h e).1 i hd
 rw [hn] at this;cases this
theorem Vd.get {ls:Array Bool} {k:Nat} {D:List Nat} {x v:Value} (h:Vd ls k D x v) (e:ls[k]? = some true):x=v:=(h e).2
def fl (ls:Array Bool) (k:Nat):Bool:=ls[k]? == some true
theorem fl_start {n k:Nat}:fl (Array.replicate n false) k=false:=by
 unfold fl;rw [Array.getElem?_replicate];split <;> simp
theorem fl_set {ls:Array Bool} {i k:Nat} (h:i≠k):fl (ls.setIfInBounds i true) k=fl ls k:=by unfold fl;rw [ls_set h]
theorem fl_got {ls:Array Bool} {n k:Nat} (hs:ls.size=n+1) (h:k < n):fl (ls.setIfInBounds k true) k=true:=by unfold fl;rw [ls_got (by omega)];rfl
theorem fl_no {ls:Array Bool} {k:Nat} (h:ls[k]? = some false):fl ls k=false:=by unfold fl;rw [h];rfl
theorem fl_yes {ls:Array Bool} {k:Nat} (h:ls[k]? = some true):fl ls k=true:=by unfold fl;rw [h];rfl
end Go.Proofs.YtfbgppkdnfljhaaGreatDoor
namespace Go.Proofs.YtfbgppkdnfljhaaGreatDoor
open Go.RowKit
section
variable {P : Program} {ops : Array Oper} {Q : Exit → Act → World → Prop}
def ClosedL (ops:Array Oper) (ls:Array Bool):Prop:=∀ (i:Nat) (o:Oper),ls[i]? = some true→ops[i]? = some o→∀ e∈o.after,Region.binds .any e=true→ls[e.on]? = some true
theorem ClosedL.start (ops:Array Oper) (n:Nat):ClosedL ops (Array.replicate n false):=fun i o h=>by
 rw [Array.getElem?_replicate] at h;split at h <;> simp at h
theorem ClosedL.set {ls:Array Bool} {i:Nat} {o:Oper} (h:ClosedL ops ls) (mc:MayCome .any ops ls i o):ClosedL ops (ls.setIfInBounds i true):=by
 intro j o' hj ho e he hb
 have hk:∀ q,ls[q]? = some true→(ls.setIfInBounds i true)[q]? = some true:=fun q hq=>ls_keep hq
 by_cases hij:i=j
 ·subst hij
  rw [mc.op] at ho
  obtain rfl:=Option.some.inj ho
  exact hk _ (mc.after e he hb)
 ·rw [ls_set hij] at hj
  exact hk _ (h j o' hj ho e he hb)
def waitsAll (ops:Array Oper) (n:Nat):Bool:=(List.range n).all fun j=>(List.range (n+1)).any fun i=>decide (j < i)&&(ops[i]?.map fun o=>o.after.any fun e=>e.on==j&&Region.binds .any e).getD false
theorem waits_all {n:Nat} {ls:Array Bool} {o:Oper} (hw:waitsAll ops n=true) (hc:ClosedL ops ls) (mc:MayCome .any ops ls n o):∀ j,j < n→ls[j]? = some true:=by
 have key:∀ d j,j < n→n - j≤d→ls[j]? = some true:=by
  intro d
  induction d with
  | zero=>intro j h1 h2;omega
  | succ d ih =>
   intro j hj hd
   unfold waitsAll at hw
   rw [List.all_eq_true] at hw
   have h1:=hw j (List.mem_range.2 hj)
   rw [List.any_eq_true] at h1
   obtain ⟨i,hi,h1⟩:=h1
   rw [List.mem_range] at hi
   rw [Bool.and_eq_true,decide_eq_true_eq] at h1
   obtain ⟨hji,h1⟩:=h1
   cases ho:ops[i]? with
   | none=>rw [ho] at h1;simp at h1
   | some oi =>
    rw [ho] at h1
    simp only [Option.map_some,Option.getD_some,Array.any_eq_true'] at h1
    obtain ⟨e,he1,he2⟩:=h1
    rw [Bool.and_eq_true] at he2
    have h4:e.on=j:=by simpa using he2.1
    by_cases hin:i=n
    ·subst hin
     rw [mc.op] at ho
     obtain rfl:=Option.some.inj ho
     have h3:=mc.after e he1 he2.2
     rw [h4] at h3;exact h3
    ·have h3:=hc i oi (ih i (by omega) (by omega)) ho e he1 he2.2
     rw [h4] at h3;exact h3
 exact fun j hj=>key (n - j) j hj (Nat.le_refl _)
theorem wp_region_inv3 {id n:Nat} {a:Act} {w:World} (hm:P.follows .mixedOrders=true) (hn:ops.size=n+1) (he:earlier ops=true) (hlw:waitsAll ops n=true) (I:Act→Array Bool→Act→World→Prop)
 (h0:I a (Array.replicate (n+1) false) a w.drew)
 (hstep:∀ (ls:Array Bool) (a':Act) (w':World),ls.size=n+1→ls[n]? = some false→I a ls a' w'→∀ (i:Nat) (o:Oper),i < n→MayCome .any ops ls i o→∀ K:Act→World→Prop,(∀ a'' w'',I a (ls.setIfInBounds i true) a'' w''→K a'' w'') →
  if Region.wanted o (yielded ops a'.tmps)=true then Oper.wp P o a' w' K Q else K (a'.put o.dst undef) w')
 (hlast:∀ (ls:Array Bool) (a':Act) (w':World),(∀ i,i < n→ls[i]? = some true)→I a ls a' w'→∀ o,ops[n]? = some o →
  if Region.wanted o (yielded ops a'.tmps)=true then Oper.wp P o a' w' (fun a'' w''=>Q .normal a'' w'') Q else Q .normal (a'.put o.dst undef) w') :
 (Code.region id ops true).wp P Q a w:=by
 refine wp_region_any hm (wpAny_invR (fun ls a' w'=>ClosedL ops ls∧((ls[n]? = some false∧I a ls a' w')∨(ls[n]? = some true∧(∀ i,i < n→ls[i]? = some true)∧Q .normal a' w'))) he ?_ ?_ ops.size _ a _ (by simp) (by unfold falses;refine Nat.le_trans List.countP_le_length ?_;simp) ⟨ClosedL.start _ _, .inl ⟨by simp [hn],by rw [hn];exact h0⟩⟩)
 ·intro ls a' w' hs hI i o mc K hK
  obtain ⟨hcl,hI⟩:=hI
  have hcl2:=hcl.set mc
  rcases hI with ⟨hf,hI⟩ | ⟨ht,hal,hQ⟩
  ·by_cases hi:i=n
   ·subst hi
    have hall:∀ j,j < i→ls[j]? = some true:=waits_all hlw hcl mc
    have h:=hlast ls a' w' hall hI o mc.op
    have hset:(ls.setIfInBounds i true)[i]? = some true:=by
     rw [Array.getElem?_setIfInBounds];simp [hs,hn]
    have hall2:∀ j,j < i→(ls.setIfInBounds i true)[j]? = some true:=fun j hj=>by
     rw [Array.getElem?_setIfInBounds,if_neg (by omega)];exact hall j hj
    split
    ·rename_i hw
     rw [if_pos hw] at h
     exact Oper.wp_mono (fun a2 w2 h2=>hK a2 w2 ⟨hcl2, .inr ⟨hset,hall2,h2⟩⟩) h
    ·rename_i hw
     rw [if_neg hw] at h
     exact hK _ _ ⟨hcl2, .inr ⟨hset,hall2,h⟩⟩
   ·have hlt:i < n:=by
     have:=(Array.getElem?_eq_some_iff.1 mc.op).1
     omega
    have h:=hstep ls a' w' (by rw [hs,hn]) hf hI i o hlt mc K (fun a2 w2 h2=>hK a2 w2 ⟨hcl2, .inl ⟨by rw [Array.getElem?_setIfInBounds];simp [hi];exact hf,h2⟩⟩)
    exact h
  ·exfalso
   by_cases hi:i=n
   ·subst hi;rw [mc.new] at ht;cases ht
   ·have hlt:i < n:=by
     have:=(Array.getElem?_eq_some_iff.1 mc.op).1
     omega
    have:=hal i hlt
    rw [mc.new] at this;cases this
 ·intro ls a' w' hall hI
  rcases hI.2 with ⟨hf, -⟩ | ⟨-, -,hQ⟩
  ·have:=hall n (by omega)
   rw [hf] at this;cases this
  ·exact hQ
end
end Go.Proofs.YtfbgppkdnfljhaaGreatDoor
/-
  A law that answers true and turns nothing that was there, beside package-level variables. No condition.
-/
import Derived.Test.YtkfhgnkonaafgaaGreatDoorZs00
import Derived.Maps.AppendAt
import Derived.OrdersIn
import Derived.Orders
import Derived.Sort.Statements
import Derived.Test.YtkfhgnkonaafgaaGreatDoorRows
import Derived.ProofKit
import Derived.Deep.Slices
import Derived.OpenVars
import Derived.ChangeSame
import Derived.ChangeVars
import Derived.JoinedOf
import Derived.RowKitTokens
import Derived.LaidLaws
import Derived.LaidMore
import Derived.Stop.Joined
set_option maxHeartbeats 6400000
set_option maxRecDepth 100000
namespace Go.Proofs.YtkfhgnkonaafgaaGreatDoor
end Go.Proofs.YtkfhgnkonaafgaaGreatDoor
namespace Go.Proofs.YtkfhgnkonaafgaaGreatDoor
open Go.RowKit
theorem wpList_appAt {α:Type} (E:El α) {P:Program} {w:World} {ops:Array Oper} {rest:List Oper} {o:Oper} {a:Act} {Q:Exit→Act→World→Prop}
 (T:TypeId) {zv:Value} {bytes:Nat} (hinfo:(P.info? T).map (fun i=>(i.zero,i.size,i.bytes))=some (some zv,E.sz,bytes)) (hz:zv.cells.size=E.sz) {t:TypeId} (h1:P.underlying t=some (.slice T))
 (base:Nat) (v:Value) (xs:List α) (x:α) (hown:Own E T w base v xs) (hby:bytes≤256) (hn:xs.length≤68719476736) (hbase:base≤w.heap.size)
 (hg:o.guard=none) (s y:Operand) (hop:o.op = .call { callee:=.builtin .append,args:=#[s,y],argTypes:=#[t,t] })
 (hs:a.eval s=v) (b off c:Nat) (hy:a.eval y = .slice (some ⟨b,off,none⟩) 1 c) (hnews:∀ j u,(E.c x)[j]? = some u→w.cell? ⟨b,off+j,none⟩=some u)
 (hK:∀ v' w',Own E T w' base v' (xs++[x])→w.grownBy w' v.ownBlock→(v'.ownBlock=v.ownBlock∨∃ q,v'.ownBlock=some q∧w.heap.size≤q)→wpList P ops Q rest (a.put o.dst v') w') :
 wpList P ops Q (o :: rest) a w:=by
 obtain ⟨it,hi,hz0,hz1,hz2⟩:=info_parts hinfo
 refine wpList_append_own_at w hg s y t hop base T it zv E.sz bytes h1 hi hz0 hz1 hz2 hz E.pos v xs.length _ hs hown ⟨b,off,none⟩ 1 c (E.c x) hy (by rw [E.len,Nat.one_mul]) ?_ (E.one x) (by unfold maxLen;omega) ?_ hbase ?_
 ·intro j u hu
  have hadd:(⟨b,off,none⟩:Addr).add j=⟨b,off+j,none⟩:=by unfold Addr.add;split <;> simp_all
  rw [hadd]
  exact hnews j u hu
 ·have:=Nat.mul_le_mul (show xs.length+1≤68719476737 by omega) hby
  omega
 ·intro v' w' h2 h3 _ h5
  refine hK v' w' ?_ h3 ?_
  ·unfold Own
   simpa [List.flatMap_append] using h2
  ·rcases h5 with h5 | h5
   ·exact .inl h5
   ·exact .inr ⟨_,h5,Nat.le_refl _⟩
end Go.Proofs.YtkfhgnkonaafgaaGreatDoor
namespace Go.Proofs.YtkfhgnkonaafgaaGreatDoor
open Go.RowKit
structure MayCome (md:Region.Mode) (ops:Array Oper) (listed:Array Bool) (i:Nat) (o:Oper):Prop where
 op:ops[i]? = some o
 new:listed[i]? = some false
 after:∀ e∈o.after,Region.binds md e=true→listed[e.on]? = some true
theorem ready_spec {md:Region.Mode} {ops:Array Oper} {listed:Array Bool} (hs:listed.size=ops.size) {i:Nat} (h:i∈Region.ready md ops listed):∃ o,MayCome md ops listed i o:=by
 unfold Region.ready at h
 rw [List.mem_filter] at h
 obtain ⟨h1,h2⟩:=h
 rw [List.mem_range] at h1
 rw [Bool.and_eq_true] at h2
 obtain ⟨h2,h3⟩:=h2
 rw [Array.getElem?_eq_getElem h1] at h3
 refine ⟨ops[i],Array.getElem?_eq_getElem h1, ?_,fun e he hb => ?_⟩
 ·rw [Array.getElem?_eq_getElem (by omega)]
  have:listed.getD i true=listed[i]'(by omega):=by simp [Array.getD,show i < listed.size by omega]
  rw [this] at h2
  simpa using h2
 ·simp only [Option.map_some,Option.getD_some,Array.all_eq_true'] at h3
  have h4:=h3 e he
  rw [hb] at h4
  simp only [Bool.not_true,Bool.false_or] at h4
  by_cases hl:e.on < listed.size
  ·rw [Array.getElem?_eq_getElem hl]
   have:listed.getD e.on false=listed[e.on]:=by simp [Array.getD,hl]
   rw [this] at h4;rw [h4]
  ·have:listed.getD e.on false=false:=by simp [Array.getD,hl]
   rw [this] at h4;cases h4
def earlier (ops:Array Oper):Bool:=(List.range ops.size).all fun i=>(ops[i]?.map fun o=>o.after.all fun e=>decide (e.on < i)).getD true
theorem ready_nil {md:Region.Mode} {ops:Array Oper} {listed:Array Bool} (hs:listed.size=ops.size) (he:earlier ops=true) (h:Region.ready md ops listed=[]):∀ i,i < ops.size→listed[i]? = some true:=by
 intro i
 induction i using Nat.strongRecOn with
 | ind i ih =>
  intro hi
  rw [Array.getElem?_eq_getElem (by omega)]
  by_cases e:listed[i]'(by omega)=true
  ·rw [e]
  ·exfalso
   have hm:i∈Region.ready md ops listed:=by
    unfold Region.ready
    rw [List.mem_filter,List.mem_range]
    refine ⟨hi, ?_⟩
    rw [Bool.and_eq_true]
    refine ⟨?_, ?_⟩
    ·have:listed.getD i true=listed[i]'(by omega):=by simp [Array.getD,show i < listed.size by omega]
     rw [this];simpa using e
    ·rw [Array.getElem?_eq_getElem hi]
     simp only [Option.map_some,Option.getD_some,Array.all_eq_true']
     intro x hx
     unfold earlier at he
     rw [List.all_eq_true] at he
     have h1:=he i (by simpa using hi)
     rw [Array.getElem?_eq_getElem hi] at h1
     simp only [Option.map_some,Option.getD_some,Array.all_eq_true'] at h1
     have h2:=h1 x hx
     simp only [decide_eq_true_eq] at h2
     have h3:=ih x.on h2 (by omega)
     have:listed.getD x.on false=true:=by
      have hl:x.on < listed.size:=by omega
      rw [Array.getElem?_eq_getElem hl] at h3
      simp only [Option.some.injEq] at h3
      simp [Array.getD,hl,h3]
     rw [this,Bool.or_true]
   rw [h] at hm;cases hm
def falses (l:Array Bool):Nat:=l.toList.countP fun b => !b
theorem falses_set {l:Array Bool} {i:Nat} (h:l[i]? = some false):falses (l.setIfInBounds i true)+1=falses l:=by
 unfold falses
 rw [Array.toList_setIfInBounds]
 have h':l.toList[i]? = some false:=by rw [Array.getElem?_toList];exact h
 obtain ⟨h1,h2⟩:=List.getElem?_eq_some_iff.1 h'
 generalize l.toList=L at *
 clear h h' l
 induction L generalizing i with
 | nil=>simp at h1
 | cons x L ih =>
  cases i with
  | zero=>simp at h2;subst h2;simp
  | succ i =>
   simp at h1 h2
   have:=ih h1 h2
   simp only [List.set_cons_succ,List.countP_cons]
   omega
theorem falses_zero {l:Array Bool} (h:falses l=0) (i:Nat):l[i]?≠some false:=by
 intro e
 have:=falses_set e
 omega
variable {F : Fence} {n : Nat} {P : Program} {ops : Array Oper} {Q : Exit → Act → World → Prop}
end Go.Proofs.YtkfhgnkonaafgaaGreatDoor
namespace Go.Proofs.YtkfhgnkonaafgaaGreatDoor
open Go.RowKit
section
variable {P : Program} {ops : Array Oper} {Q : Exit → Act → World → Prop}
theorem wpAny_invR {md:Region.Mode} (I:Array Bool→Act→World→Prop) (he:earlier ops=true)
 (hstep:∀ (listed:Array Bool) (a:Act) (w:World),listed.size=ops.size→I listed a w→∀ (i:Nat) (o:Oper),MayCome md ops listed i o→∀ K:Act→World→Prop,(∀ a' w',I (listed.setIfInBounds i true) a' w'→K a' w') →
  if Region.wanted o (yielded ops a.tmps)=true then Oper.wp P o a w K Q else K (a.put o.dst undef) w)
 (hend:∀ (listed:Array Bool) (a:Act) (w:World),(∀ i,i < ops.size→listed[i]? = some true)→I listed a w→Q .normal a w) :
 ∀ (fuel:Nat) (listed:Array Bool) (a:Act) (w:World),listed.size=ops.size→falses listed≤fuel→I listed a w→wpAny P md ops Q fuel listed a w:=by
 intro fuel
 induction fuel with
 | zero =>
  intro listed a w hs hf hi
  have hr:Region.ready md ops listed=[]:=by
   rcases hq:Region.ready md ops listed with _ | ⟨i,rest⟩
   ·rfl
   ·exfalso
    obtain ⟨o,ho⟩:=ready_spec hs (i:=i) (by rw [hq];simp)
    exact falses_zero (by omega) i ho.new
  exact ⟨hr,hend listed a w (ready_nil hs he hr) hi⟩
 | succ fuel ih =>
  intro listed a w hs hf hi
  refine ⟨fun hr=>hend listed a w (ready_nil hs he hr) hi,fun i hm => ?_⟩
  obtain ⟨o,ho⟩:=ready_spec hs hm
  have hK:=hstep listed a w hs hi i o ho (wpAny P md ops Q fuel (listed.setIfInBounds i true)) (fun a' w' h=>ih _ a' w' (by simp [hs]) (by have:=falses_set ho.new;omega) h)
  unfold wpOp
  rw [ho.op]
  simp only
  split
  ·rename_i hw
   rw [if_pos hw] at hK
   exact .inl hK
  ·rename_i hw
   rw [if_neg hw] at hK
   exact hK
def lastWaits (ops:Array Oper) (n:Nat):Bool:=(List.range n).all fun i=>(ops[n]?.map fun o=>o.after.any fun e=>e.on==i&&Region.binds .any e).getD false
theorem wp_region_inv {id n:Nat} {a:Act} {w:World} (hm:P.follows .mixedOrders=true) (hn:ops.size=n+1) (he:earlier ops=true) (hlw:lastWaits ops n=true) (I:Act→Array Bool→Act→World→Prop)
 (h0:I a (Array.replicate (n+1) false) a w.drew)
 (hstep:∀ (ls:Array Bool) (a':Act) (w':World),ls.size=n+1→ls[n]? = some false→I a ls a' w'→∀ (i:Nat) (o:Oper),i < n→MayCome .any ops ls i o→∀ K:Act→World→Prop,(∀ a'' w'',I a (ls.setIfInBounds i true) a'' w''→K a'' w'') →
  if Region.wanted o (yielded ops a'.tmps)=true then Oper.wp P o a' w' K Q else K (a'.put o.dst undef) w')
 (hlast:∀ (ls:Array Bool) (a':Act) (w':World),(∀ i,i < n→ls[i]? = some true)→I a ls a' w'→∀ o,ops[n]? = some o →
  if Region.wanted o (yielded ops a'.tmps)=true then Oper.wp P o a' w' (fun a'' w''=>Q .normal a'' w'') Q else Q .normal (a'.put o.dst undef) w') :
 (Code.region id ops true).wp P Q a w:=by
 refine wp_region_any hm (wpAny_invR (fun ls a' w'=>(ls[n]? = some false∧I a ls a' w')∨(ls[n]? = some true∧(∀ i,i < n→ls[i]? = some true)∧Q .normal a' w')) he ?_ ?_ ops.size _ a _ (by simp) (by unfold falses;refine Nat.le_trans List.countP_le_length ?_;simp) (.inl ⟨by simp [hn],by rw [hn];exact h0⟩))
 ·intro ls a' w' hs hI i o mc K hK
  rcases hI with ⟨hf,hI⟩ | ⟨ht,hal,hQ⟩
  ·by_cases hi:i=n
   ·subst hi
    have hall:∀ j,j < i→ls[j]? = some true:=fun j hj=>by
     unfold lastWaits at hlw
     rw [List.all_eq_true] at hlw
     have h1:=hlw j (List.mem_range.2 hj)
     rw [mc.op] at h1
     simp only [Option.map_some,Option.getD_some,Array.any_eq_true'] at h1
     obtain ⟨e,he1,he2⟩:=h1
     rw [Bool.and_eq_true] at he2
     have h3:=mc.after e he1 he2.2
     have h4:e.on=j:=by simpa using he2.1
     rw [h4] at h3;exact h3
    have h:=hlast ls a' w' hall hI o mc.op
    have hset:(ls.setIfInBounds i true)[i]? = some true:=by
     rw [Array.getElem?_setIfInBounds];simp [hs,hn]
    have hall2:∀ j,j < i→(ls.setIfInBounds i true)[j]? = some true:=fun j hj=>by
     rw [Array.getElem?_setIfInBounds,if_neg (by omega)];exact hall j hj
    split
    ·rename_i hw
     rw [if_pos hw] at h
     exact Oper.wp_mono (fun a2 w2 h2=>hK a2 w2 (.inr ⟨hset,hall2,h2⟩)) h
    ·rename_i hw
     rw [if_neg hw] at h
     exact hK _ _ (.inr ⟨hset,hall2,h⟩)
   ·have hlt:i < n:=by
     have:=(Array.getElem?_eq_some_iff.1 mc.op).1
     omega
    have h:=hstep ls a' w' (by rw [hs,hn]) hf hI i o hlt mc K (fun a2 w2 h2=>hK a2 w2 (.inl ⟨by rw [Array.getElem?_setIfInBounds];simp [hi];exact hf,h2⟩))
    exact h
  ·exfalso
   by_cases hi:i=n
   ·subst hi;rw [mc.new] at ht;cases ht
   ·have hlt:i < n:=by
     have:=(Array.getElem?_eq_some_iff.1 mc.op).1
     omega
    have:=hal i hlt
    rw [mc.new] at this;cases this
 ·intro ls a' w' hall hI
  rcases hI with ⟨hf, -⟩ | ⟨-, -,hQ⟩
  ·have:=hall n (by omega)
   rw [hf] at this;cases this
  ·exact hQ
end
def putAll (a:Act):List (Tmp × Value)→Act
 | []=>a
 | (d,v) :: l=>putAll (a.put (some d) v) l
def Vd (ls:Array Bool) (k:Nat) (D:List Nat) (x v:Value):Prop:=ls[k]? = some true→(∀ d∈D,ls[d]? = some true)∧x=v
theorem ls_set {ls:Array Bool} {i j:Nat} (h:i≠j):(ls.setIfInBounds i true)[j]? = ls[j]?:=by
 rw [Array.getElem?_setIfInBounds,if_neg h]
theorem ls_got {ls:Array Bool} {i:Nat} (h:i < ls.size):(ls.setIfInBounds i true)[i]? = some true:=by
 rw [Array.getElem?_setIfInBounds,if_pos rfl,if_pos h]
theorem ls_keep {ls:Array Bool} {i j:Nat} (h:ls[j]? = some true):(ls.setIfInBounds i true)[j]? = some true:=by
 by_cases e:i=j
 ·subst e;exact ls_got (Array.getElem?_eq_some_iff.1 h).1
 ·rw [ls_set e];exact h
theorem Vd.start {n k:Nat} {D:List Nat} {x v:Value}:Vd (Array.replicate n false) k D x v:=fun h=>by
 rw [Array.getElem?_replicate] at h;split at h <;> simp at h
theorem Vd.set {ls:Array Bool} {i k:Nat} {D:List Nat} {x v:Value} (h:Vd ls k D x v) (hik:i≠k):Vd (ls.setIfInBounds i true) k D x v:=fun e=>by
 rw [ls_set hik] at e
 exact ⟨fun d hd=>ls_keep ((h e).1 d hd),(h e).2⟩
theorem Vd.same {ls:Array Bool} {k:Nat} {D:List Nat} {v:Value} (hD:∀ d∈D,ls[d]? = some true):Vd (ls.setIfInBounds k true) k D v v:=fun _=>⟨fun d hd=>ls_keep (hD d hd),rfl⟩
theorem Vd.void {ls:Array Bool} {i k:Nat} {D:List Nat} {x v v':Value} (h:Vd ls k D x v) (hd:i∈D) (hik:i≠k) (hn:ls[i]? = some false):Vd (ls.setIfInBounds i true) k D x v':=fun e=>by
 rw [ls_set hik] at e
 have:=(h e).1 i hd
 rw [hn] at this;cases this
theorem Vd.get {ls:Array Bool} {k:Nat} {D:List Nat} {x v:Value} (h:Vd ls k D x v) (e:ls[k]? = some true):x=v:=(h e).2
def fl (ls:Array Bool) (k:Nat):Bool:=ls[k]? == some true
theorem fl_start {n k:Nat}:fl (Array.replicate n false) k=false:=by
 unfold fl;rw [Array.getElem?_replicate];split <;> simp
theorem fl_set {ls:Array Bool} {i k:Nat} (h:i≠k):fl (ls.setIfInBounds i true) k=fl ls k:=by unfold fl;rw [ls_set h]
theorem fl_got {ls:Array Bool} {n k:Nat} (hs:ls.size=n+1) (h:k < n):fl (ls.setIfInBounds k true) k=true:=by unfold fl;rw [ls_got (by omega)];rfl
theorem fl_no {ls:Array Bool} {k:Nat} (h:ls[k]? = some false):fl ls k=false:=by unfold fl;rw [h];rfl
theorem fl_yes {ls:Array Bool} {k:Nat} (h:ls[k]? = some true):fl ls k=true:=by unfold fl;rw [h];rfl
end Go.Proofs.YtkfhgnkonaafgaaGreatDoor
namespace Go.Proofs.YtkfhgnkonaafgaaGreatDoor
open Go.RowKit
section
variable {P : Program} {ops : Array Oper} {Q : Exit → Act → World → Prop}
def ClosedL (ops:Array Oper) (ls:Array Bool):Prop:=∀ (i:Nat) (o:Oper),ls[i]? = some true→ops[i]? = some o→∀ e∈o.after,Region.binds .any e=true→ls[e.on]? = some true
theorem ClosedL.start (ops:Array Oper) (n:Nat):ClosedL ops (Array.replicate n false):=fun i o h=>by
 rw [Array.getElem?_replicate] at h;split at h <;> simp at h
theorem ClosedL.set {ls:Array Bool} {i:Nat} {o:Oper} (h:ClosedL ops ls) (mc:MayCome .any ops ls i o):ClosedL ops (ls.setIfInBounds i true):=by
 intro j o' hj ho e he hb
 have hk:∀ q,ls[q]? = some true→(ls.setIfInBounds i true)[q]? = some true:=fun q hq=>ls_keep hq
 by_cases hij:i=j
 ·subst hij
  rw [mc.op] at ho
  obtain rfl:=Option.some.inj ho
  exact hk _ (mc.after e he hb)
 ·rw [ls_set hij] at hj
  exact hk _ (h j o' hj ho e he hb)
def waitsAll (ops:Array Oper) (n:Nat):Bool:=(List.range n).all fun j=>(List.range (n+1)).any fun i=>decide (j < i)&&(ops[i]?.map fun o=>o.after.any fun e=>e.on==j&&Region.binds .any e).getD false
theorem waits_all {n:Nat} {ls:Array Bool} {o:Oper} (hw:waitsAll ops n=true) (hc:ClosedL ops ls) (mc:MayCome .any ops ls n o):∀ j,j < n→ls[j]? = some true:=by
 have key:∀ d j,j < n→n - j≤d→ls[j]? = some true:=by
  intro d
  induction d with
  | zero=>intro j h1 h2;omega
  | succ d ih =>
   intro j hj hd
   unfold waitsAll at hw
   rw [List.all_eq_true] at hw
   have h1:=hw j (List.mem_range.2 hj)
   rw [List.any_eq_true] at h1
   obtain ⟨i,hi,h1⟩:=h1
   rw [List.mem_range] at hi
   rw [Bool.and_eq_true,decide_eq_true_eq] at h1
   obtain ⟨hji,h1⟩:=h1
   cases ho:ops[i]? with
   | none=>rw [ho] at h1;simp at h1
   | some oi =>
    rw [ho] at h1
    simp only [Option.map_some,Option.getD_some,Array.any_eq_true'] at h1
    obtain ⟨e,he1,he2⟩:=h1
    rw [Bool.and_eq_true] at he2
    have h4:e.on=j:=by simpa using he2.1
    by_cases hin:i=n
    ·subst hin
     rw [mc.op] at ho
     obtain rfl:=Option.some.inj ho
     have h3:=mc.after e he1 he2.2
     rw [h4] at h3;exact h3
    ·have h3:=hc i oi (ih i (by omega) (by omega)) ho e he1 he2.2
     rw [h4] at h3;exact h3
 exact fun j hj=>key (n - j) j hj (Nat.le_refl _)
theorem wp_region_inv3 {id n:Nat} {a:Act} {w:World} (hm:P.follows .mixedOrders=true) (hn:ops.size=n+1) (he:earlier ops=true) (hlw:waitsAll ops n=true) (I:Act→Array Bool→Act→World→Prop)
 (h0:I a (Array.replicate (n+1) false) a w.drew)
 (hstep:∀ (ls:Array Bool) (a':Act) (w':World),ls.size=n+1→ls[n]? = some false→I a ls a' w'→∀ (i:Nat) (o:Oper),i < n→MayCome .any ops ls i o→∀ K:Act→World→Prop,(∀ a'' w'',I a (ls.setIfInBounds i true) a'' w''→K a'' w'') →
  if Region.wanted o (yielded ops a'.tmps)=true then Oper.wp P o a' w' K Q else K (a'.put o.dst undef) w')
 (hlast:∀ (ls:Array Bool) (a':Act) (w':World),(∀ i,i < n→ls[i]? = some true)→I a ls a' w'→∀ o,ops[n]? = some o →
  if Region.wanted o (yielded ops a'.tmps)=true then Oper.wp P o a' w' (fun a'' w''=>Q .normal a'' w'') Q else Q .normal (a'.put o.dst undef) w') :
 (Code.region id ops true).wp P Q a w:=by
 refine wp_region_any hm (wpAny_invR (fun ls a' w'=>ClosedL ops ls∧((ls[n]? = some false∧I a ls a' w')∨(ls[n]? = some true∧(∀ i,i < n→ls[i]? = some true)∧Q .normal a' w'))) he ?_ ?_ ops.size _ a _ (by simp) (by unfold falses;refine Nat.le_trans List.countP_le_length ?_;simp) ⟨ClosedL.start _ _, .inl ⟨by simp [hn],by rw [hn];exact h0⟩⟩)
 ·intro ls a' w' hs hI i o mc K hK
  obtain ⟨hcl,hI⟩:=hI
  have hcl2:=hcl.set mc
  rcases hI with ⟨hf,hI⟩ | ⟨ht,hal,hQ⟩
  ·by_cases hi:i=n
   ·subst hi
    have hall:∀ j,j < i→ls[j]? = some true:=waits_all hlw hcl mc
    have h:=hlast ls a' w' hall hI o mc.op
    have hset:(ls.setIfInBounds i true)[i]? = some true:=by
     rw [Array.getElem?_setIfInBounds];simp [hs,hn]
    have hall2:∀ j,j < i→(ls.setIfInBounds i true)[j]? = some true:=fun j hj=>by
     rw [Array.getElem?_setIfInBounds,if_neg (by omega)];exact hall j hj
    split
    ·rename_i hw
     rw [if_pos hw] at h
     exact Oper.wp_mono (fun a2 w2 h2=>hK a2 w2 ⟨hcl2, .inr ⟨hset,hall2,h2⟩⟩) h
    ·rename_i hw
     rw [if_neg hw] at h
     exact hK _ _ ⟨hcl2, .inr ⟨hset,hall2,h⟩⟩
   ·have hlt:i < n:=by
     have:=(Array.getElem?_eq_some_iff.1 mc.op).1
     omega
    have h:=hstep ls a' w' (by rw [hs,hn]) hf hI i o hlt mc K (fun a2 w2 h2=>hK a2 w2 ⟨hcl2, .inl ⟨by rw [Array.getElem?_setIfInBounds];simp [hi];exact hf,h2⟩⟩)
    exact h
  ·exfalso
   by_cases hi:i=n
   ·subst hi;rw [mc.new] at ht;cases ht
   ·have hlt:i < n:=by
     have:=(Array.getElem?_eq_some_iff.1 mc.op).1
     omega
    have:=hal i hlt
    rw [mc.new] at this;cases this
 ·intro ls a' w' hall hI
  rcases hI.2 with ⟨hf, -⟩ | ⟨-, -,hQ⟩
  ·have:=hall n (by omega)
   rw [hf] at this;cases this
  ·exact hQ
end
end Go.Proofs.YtkfhgnkonaafgaaGreatDoor
namespace Go.Proofs.YtkfhgnkonaafgaaGreatDoor
section
variable {S K : Type} (start : S) (next : S → Nat → Option S) (key : S → K)
variable {start next key}
end
def lexO:List Int→List Int→Int
 | x :: xs,y :: ys=>if x < y then -1 else if y < x then 1 else lexO xs ys
 | _,_=>0
theorem lexO_three (a b:List Int):lexO a b = -1∨lexO a b=0∨lexO a b=1:=by
 induction a generalizing b with
 | nil=>simp [lexO]
 | cons x a ih =>
  cases b with
  | nil=>simp [lexO]
  | cons y b =>
   simp only [lexO]
   split
   ·simp
   ·split
    ·simp
    ·exact ih b
theorem lexO_eq {a b:List Int} (h:a.length=b.length):lexO a b=0↔a=b:=by
 induction a generalizing b with
 | nil=>cases b <;> simp_all [lexO]
 | cons x a ih =>
  cases b with
  | nil=>simp at h
  | cons y b =>
   have:=ih (b:=b) (by simpa using h)
   simp only [lexO,List.cons.injEq]
   split
   ·constructor
    ·intro h;omega
    ·intro h;omega
   ·split
    ·constructor
     ·intro h;omega
     ·intro h;omega
    ·rw [this]
     constructor
     ·intro h;exact ⟨by omega,h⟩
     ·intro h;exact h.2
theorem lexO_swap (a b:List Int):lexO b a = - lexO a b:=by
 induction a generalizing b with
 | nil=>cases b <;> simp [lexO]
 | cons x a ih =>
  cases b with
  | nil=>simp [lexO]
  | cons y b =>
   simp only [lexO]
   have:=ih b
   repeat' split
   all_goals omega
theorem lexO_trans {n:Nat} {a b c:List Int} (ha:a.length=n) (hb:b.length=n) (hc:c.length=n) (h1:lexO a b = -1) (h2:lexO b c = -1):lexO a c = -1:=by
 induction a generalizing b c n with
 | nil=>simp [lexO] at h1
 | cons x a ih =>
  match b,c,hb,hc,h1,h2 with
  | [],_,_,_,h1,_=>simp [lexO] at h1
  | _ :: _,[],_,_,_,h2=>simp [lexO] at h2
  | y :: b,z :: c,hb,hc,h1,h2 =>
   simp only [List.length_cons] at ha hb hc
   simp only [lexO] at h1 h2 ⊢
   have hh:=fun p q=>ih (n:=n - 1) (b:=b) (c:=c) (by omega) (by omega) (by omega) p q
   by_cases e1:x < y
   ·by_cases e2:y < z
    ·rw [if_pos (by omega)]
    ·rw [if_neg e2] at h2
     by_cases e3:z < y
     ·rw [if_pos e3] at h2;omega
     ·rw [if_pos (by omega)]
   ·rw [if_neg e1] at h1
    by_cases e4:y < x
    ·rw [if_pos e4] at h1;omega
    ·rw [if_neg e4] at h1
     by_cases e2:y < z
     ·rw [if_pos (by omega)]
     ·rw [if_neg e2] at h2
      by_cases e3:z < y
      ·rw [if_pos e3] at h2;omega
      ·rw [if_neg e3] at h2
       rw [if_neg (by omega),if_neg (by omega)]
       exact hh h1 h2
structure OutsOk (n:Nat) (l:List (List Int)):Prop where
 len:∀ o∈l,o.length=n
 pw:l.Pairwise fun a b=>lexO a b = -1
theorem outs_unique {n:Nat}:∀ {xs ys:List (List Int)},OutsOk n xs→OutsOk n ys→(∀ o,o∈xs↔o∈ys)→xs=ys:=by
 have irr:∀ a:List Int,lexO a a≠-1:=fun a h=>by have:=(lexO_eq (a:=a) rfl).2 rfl;omega
 intro xs
 induction xs with
 | nil=>intro ys _ _ h;cases ys with
  | nil=>rfl
  | cons y ys=>have:=(h y).2 (by simp);simp at this
 | cons x xs ih =>
  intro ys hx hy h
  cases ys with
  | nil=>have:=(h x).1 (by simp);simp at this
  | cons y ys =>
   obtain ⟨px,pxs⟩:=List.pairwise_cons.1 hx.pw
   obtain ⟨py,pys⟩:=List.pairwise_cons.1 hy.pw
   have e:x=y:=by
    rcases List.mem_cons.1 ((h x).1 (by simp)) with e | e
    ·exact e
    ·rcases List.mem_cons.1 ((h y).2 (by simp)) with e2 | e2
     ·exact e2.symm
     ·have h1:=py x e
      have h2:=px y e2
      have:=lexO_swap x y
      omega
   subst e
   congr 1
   refine ih ⟨fun o ho=>hx.len o (by simp [ho]),pxs⟩ ⟨fun o ho=>hy.len o (by simp [ho]),pys⟩ fun o => ?_
   constructor
   ·intro ho
    rcases List.mem_cons.1 ((h o).1 (by simp [ho])) with e | e
    ·subst e;exact absurd (px o ho) (irr o)
    ·exact e
   ·intro ho
    rcases List.mem_cons.1 ((h o).2 (by simp [ho])) with e | e
    ·subst e;exact absurd (py o ho) (irr o)
    ·exact e
def putO (o:List Int):List (List Int)→List (List Int)
 | []=>[o]
 | x :: xs=>if lexO x o = -1 then x :: putO o xs else if lexO x o=0 then x :: xs else o :: x :: xs
theorem putO_mem {n:Nat} {o:List Int} (ho:o.length=n):∀ {l:List (List Int)},(∀ x∈l,x.length=n)→∀ y,y∈putO o l↔y=o∨y∈l:=by
 intro l
 induction l with
 | nil=>intro _ y;simp [putO]
 | cons x xs ih =>
  intro hl y
  have h1:=ih (fun z hz=>hl z (by simp [hz])) y
  unfold putO
  split
  ·rw [List.mem_cons,h1,List.mem_cons]
   constructor
   ·rintro (h | h | h)
    ·exact .inr (.inl h)
    ·exact .inl h
    ·exact .inr (.inr h)
   ·rintro (h | h | h)
    ·exact .inr (.inl h)
    ·exact .inl h
    ·exact .inr (.inr h)
  ·split
   ·rename_i h
    have e:x=o:=(lexO_eq (by rw [hl x (by simp),ho])).1 h
    subst e
    simp
   ·simp [List.mem_cons]
theorem putO_ok {n:Nat} {o:List Int} (ho:o.length=n):∀ {l:List (List Int)},OutsOk n l→OutsOk n (putO o l):=by
 intro l
 induction l with
 | nil=>intro _;exact ⟨fun x hx=>by simp [putO] at hx;subst hx;exact ho,by simp [putO]⟩
 | cons x xs ih =>
  intro hl
  obtain ⟨px,pxs⟩:=List.pairwise_cons.1 hl.pw
  have hxs:OutsOk n xs:=⟨fun z hz=>hl.len z (by simp [hz]),pxs⟩
  have hx:=hl.len x (by simp)
  refine ⟨fun y hy => ?_, ?_⟩
  ·rcases (putO_mem ho hl.len y).1 hy with e | e
   ·rw [e];exact ho
   ·exact hl.len y e
  ·unfold putO
   split
   ·rename_i h
    refine List.pairwise_cons.2 ⟨fun y hy => ?_,(ih hxs).pw⟩
    rcases (putO_mem ho hxs.len y).1 hy with e | e
    ·rw [e];exact h
    ·exact px y e
   ·rename_i h1
    split
    ·exact hl.pw
    ·rename_i h2
     have h3:=lexO_three x o
     have h4:=lexO_swap x o
     have h5:lexO o x = -1:=by omega
     refine List.pairwise_cons.2 ⟨fun y hy => ?_,hl.pw⟩
     rcases List.mem_cons.1 hy with e | e
     ·rw [e];exact h5
     ·exact lexO_trans ho hx (hxs.len y e) h5 (px y e)
end Go.Proofs.YtkfhgnkonaafgaaGreatDoor
namespace Go.Proofs.YtkfhgnkonaafgaaGreatDoor
open Go.RowKit
def cmpI (x y:Int):Int:=if x < y then -1 else if y < x then 1 else 0
def cmpL:List Int→List Int→Int
 | [],[]=>0
 | [],_ :: _ => -1
 | _ :: _,[]=>1
 | x :: xs,y :: ys=>if x < y then -1 else if y < x then 1 else cmpL xs ys
theorem cmpL_same:∀ (l:List Int),cmpL l l=0
 | []=>rfl
 | x :: l=>by unfold cmpL;simp;exact cmpL_same l
theorem cmpL_trans:∀ (a b c:List Int),cmpL a b < 0→cmpL b c < 0→cmpL a c < 0
 | [],[],c=>fun h _=>by simp [cmpL] at h
 | [],b :: l2,[]=>fun _ h=>by simp [cmpL] at h
 | [],b :: l2,c :: l3=>fun _ _=>by simp [cmpL]
 | a :: l1,[],c=>fun h _=>by simp [cmpL] at h
 | a :: l1,b :: l2,[]=>fun _ h=>by simp [cmpL] at h
 | a :: l1,b :: l2,c :: l3=>fun h1 h2=>by
  have ih:=cmpL_trans l1 l2 l3
  simp only [cmpL] at h1 h2 ⊢
  by_cases e1:a < b
  ·by_cases e2:b < c
   ·rw [if_pos (by omega)];omega
   ·rw [if_neg e2] at h2
    by_cases e3:c < b
    ·rw [if_pos e3] at h2;omega
    ·rw [if_pos (by omega)];omega
  ·rw [if_neg e1] at h1
   by_cases e4:b < a
   ·rw [if_pos e4] at h1;omega
   ·rw [if_neg e4] at h1
    by_cases e2:b < c
    ·rw [if_pos (by omega)];omega
    ·rw [if_neg e2] at h2
     by_cases e3:c < b
     ·rw [if_pos e3] at h2;omega
     ·rw [if_neg e3] at h2
      rw [if_neg (by omega),if_neg (by omega)]
      exact ih h1 h2
theorem cmpL_ntrans:∀ (a b c:List Int),¬ cmpL a b < 0→¬ cmpL b c < 0→¬ cmpL a c < 0
 | [],[],c=>fun _ h=>h
 | [],b :: l2,c=>fun h _=>absurd (show cmpL [] (b :: l2) < 0 by simp [cmpL]) h
 | a :: l1,b,[]=>fun _ _=>by simp [cmpL]
 | a :: l1,[],c :: l3=>fun _ h=>absurd (show cmpL [] (c :: l3) < 0 by simp [cmpL]) h
 | a :: l1,b :: l2,c :: l3=>fun h1 h2=>by
  have ih:=cmpL_ntrans l1 l2 l3
  simp only [cmpL] at h1 h2 ⊢
  by_cases e1:a < b
  ·rw [if_pos e1] at h1;omega
  ·rw [if_neg e1] at h1
   by_cases e2:b < c
   ·rw [if_pos e2] at h2;omega
   ·rw [if_neg e2] at h2
    rw [if_neg (show ¬ a < c by omega)]
    by_cases e4:b < a
    ·rw [if_pos (by omega)];omega
    ·rw [if_neg e4] at h1
     by_cases e3:c < b
     ·rw [if_pos (by omega)];omega
     ·rw [if_neg e3] at h2
      rw [if_neg (by omega)]
      exact ih h1 h2
theorem cmpL_step {xs ys:List Int} {k:Nat} {x y:Int} (hx:xs[k]? = some x) (hy:ys[k]? = some y):cmpL (xs.drop k) (ys.drop k)=if cmpI x y=0 then cmpL (xs.drop (k+1)) (ys.drop (k+1)) else cmpI x y:=by
 obtain ⟨h1,e1⟩:=List.getElem?_eq_some_iff.1 hx
 obtain ⟨h2,e2⟩:=List.getElem?_eq_some_iff.1 hy
 rw [List.drop_eq_getElem_cons h1,List.drop_eq_getElem_cons h2,e1,e2]
 simp only [cmpL,cmpI]
 by_cases c1:x < y
 ·simp [c1]
 ·by_cases c2:y < x
  ·simp [c1,c2]
  ·simp [c1,c2]
theorem isNaN_any (x:Int) (w:World):Calls Tryz.prog 172 #[.int .i64 x] w fun e w'=>e = .returned (.bool false)∧w=w':=by
 go_enter Tryz.func172,Tryz.ntmps172
 go_wp2_with fail
 go_ret
 exact ⟨by simp,rfl⟩
theorem cmpInt_any (x y:Int) (w:World):Calls Tryz.prog 127 #[.int .i64 x, .int .i64 y] w fun e w'=>e = .returned (.int .i64 (cmpI x y))∧w=w':=by
 have h1:x < y→cmpI x y = -1:=fun h=>by unfold cmpI;rw [if_pos h]
 have h2:¬ x < y→y < x→cmpI x y=1:=fun h h'=>by unfold cmpI;rw [if_neg h,if_pos h']
 have h3:¬ x < y→¬ y < x→cmpI x y=0:=fun h h'=>by unfold cmpI;rw [if_neg h,if_neg h']
 have H1:=hide h1;have H2:=hide h2;have H3:=hide h3
 clear h1 h2 h3
 generalize cmpI x y=r at *
 by_cases c1:x < y
 ·obtain rfl:=H1.out c1
  go_enter Tryz.func127,Tryz.ntmps127
  go_wp2_with (go_at_call 172;(with_reducible refine (isNaN_any _ w).mono ?_);rintro e w1 ⟨rfl,rfl⟩)
  go_ret
  exact ⟨rfl,rfl⟩
 ·by_cases c2:y < x
  ·obtain rfl:=H2.out c1 c2
   go_enter Tryz.func127,Tryz.ntmps127
   go_wp2_with (go_at_call 172;(with_reducible refine (isNaN_any _ w).mono ?_);rintro e w1 ⟨rfl,rfl⟩)
   go_ret
   exact ⟨rfl,rfl⟩
  ·obtain rfl:=H3.out c1 c2
   go_enter Tryz.func127,Tryz.ntmps127
   go_wp2_with (go_at_call 172;(with_reducible refine (isNaN_any _ w).mono ?_);rintro e w1 ⟨rfl,rfl⟩)
   go_ret
   exact ⟨rfl,rfl⟩
theorem Compare_any (v u:Value) (xs ys:List Int) (w:World) (hx:Rep IntE w v xs) (hy:Rep IntE w u ys):Calls Tryz.prog 86 #[v,u] w fun e w'=>e = .returned (.int .i64 (cmpL xs ys))∧w=w':=by
 obtain ⟨va,vc,rfl,hc1,hc2,hc3,hx⟩:=hx.open
 obtain ⟨ua,uc,rfl,hd1,hd2,hd3,hy⟩:=hy.open
 have HX:=hide hx;have HY:=hide hy
 clear hx hy hc1 hd1 hc3 hd3
 obtain ⟨R,hR⟩:∃ R,R=cmpL xs ys:=⟨_,rfl⟩
 rw [← hR]
 have HR:Hid (R=cmpL (xs.drop 0) (ys.drop 0)):=hide (by simpa using hR)
 clear hR
 generalize hn:xs.length=n at *
 generalize hm:ys.length=m at *
 have HN:=hide hn;have HM:=hide hm
 clear hn hm
 go_enter Tryz.func86,Tryz.ntmps86
 go_wp2_with fail
 go_loopw [11] (fun i wr => ∃ k:Nat,k≤n∧k≤m∧i = .int .i64 k∧Hid (R=cmpL (xs.drop k) (ys.drop k))∧w=wr) (fun i _=>n - (intOf i).toNat)
 case atStart=>exact ⟨0,Nat.zero_le _,Nat.zero_le _,rfl,HR.out |> hide,rfl⟩
 case round =>
  obtain ⟨k,hk,hkm,rfl,hr,rfl⟩:=hrel
  by_cases hlt:k < n
  ·have hlt':=nat_of_lt hlt
   obtain ⟨x,hxe⟩:=get_of_lt (xs:=xs) (k:=k) (by rw [HN.out];exact hlt)
   obtain ⟨b,o,rfl,hbl,i0⟩:=HX.out.int hxe
   by_cases hlm:k < m
   ·have hlm':=nat_of_lt hlm
    obtain ⟨y,hye⟩:=get_of_lt (xs:=ys) (k:=k) (by rw [HM.out];exact hlm)
    obtain ⟨b2,o2,rfl,hbl2,j0⟩:=HY.out.int hye
    have ST:=hide (cmpL_step hxe hye)
    clear hxe hye
    by_cases hc:cmpI x y=0
    ·have NR:Hid (R=cmpL (xs.drop (k+1)) (ys.drop (k+1))):=hide (by rw [hr.out,ST.out,if_pos hc])
     have HC:=hide hc
     clear hc hr
     go_wp2_with (go_at_call 127;(with_reducible refine (cmpInt_any x y w).mono ?_);rintro e w1 ⟨rfl,rfl⟩;rw [HC.out])
     go_roundw
     case rel=>exact ⟨k+1,by omega,by omega,by go_num,NR,trivial⟩
     case measure=>simp [intOf];omega
    ·have NR:Hid (R=cmpI x y):=hide (by rw [hr.out,ST.out,if_neg hc])
     clear hr
     have HCI:=hide (cmpInt_any x y w)
     generalize cmpI x y=z at *
     clear ST
     obtain rfl:R=z:=NR.out
     have hc':(R==0)=false:=by simpa using hc
     have hc2:¬ R=0:=hc
     go_wp2_with (go_at_call 127;(with_reducible refine HCI.out.mono ?_);rintro e w1 ⟨rfl,rfl⟩)
     go_ret
     exact ⟨rfl,rfl⟩
   ·obtain rfl:k=m:=by omega
    have E:Hid (R=1):=hide (by
     rw [hr.out,List.drop_of_length_le (l:=ys) (by rw [HM.out];exact Nat.le_refl _)]
     obtain ⟨h1,e1⟩:=List.getElem?_eq_some_iff.1 hxe
     rw [List.drop_eq_getElem_cons h1]
     simp [cmpL])
    clear hxe hr
    obtain rfl:=E.out
    go_wp2_with fail
    go_ret
    exact ⟨rfl,rfl⟩
  ·obtain rfl:k=n:=by omega
   by_cases hlm:k < m
   ·have hlm':=nat_of_lt hlm
    have E:Hid (R = -1):=hide (by
     rw [hr.out,List.drop_of_length_le (l:=xs) (by rw [HN.out];exact Nat.le_refl _)]
     have h1:k < ys.length:=by rw [HM.out];exact hlm
     rw [List.drop_eq_getElem_cons h1]
     simp [cmpL])
    clear hr
    obtain rfl:=E.out
    go_wp2_with fail
    go_ret
    exact ⟨rfl,rfl⟩
   ·obtain rfl:k=m:=by omega
    have E:Hid (R=0):=hide (by
     rw [hr.out,List.drop_of_length_le (l:=xs) (by rw [HN.out];exact Nat.le_refl _),List.drop_of_length_le (l:=ys) (by rw [HM.out];exact Nat.le_refl _)]
     rfl)
    clear hr
    obtain rfl:=E.out
    go_wp2_with fail
    go_ret
    exact ⟨rfl,rfl⟩
end Go.Proofs.YtkfhgnkonaafgaaGreatDoor
namespace Go.Proofs.YtkfhgnkonaafgaaGreatDoor
end Go.Proofs.YtkfhgnkonaafgaaGreatDoor
namespace Go.Proofs.YtkfhgnkonaafgaaGreatDoor
open Go.RowKit
theorem cmpL_lex:∀ {a b:List Int},a.length=b.length→cmpL a b=lexO a b
 | [],[],_=>rfl
 | [],_ :: _,h=>by simp at h
 | _ :: _,[],h=>by simp at h
 | x :: a,y :: b,h=>by simp only [cmpL,lexO];rw [cmpL_lex (by simpa using h)]
structure CI (l:List (Slc × List Int)) (n j:Nat) (r:List (Slc × List Int)):Prop where
 ok:OutsOk n (r.map Prod.snd)
 mem:∀ o,o∈r.map Prod.snd↔o∈(l.take j).map Prod.snd
 last:∀ x,l[j - 1]? = some x→∃ y,r.getLast? = some y∧y.2=x.2
 sub:∀ x∈r,x∈l
theorem CI.start {l:List (Slc × List Int)} {n:Nat} {x:Slc × List Int} (hx:l[0]? = some x) (hl:x.2.length=n):CI l n 1 [x]:=by
 cases l with
 | nil=>simp at hx
 | cons y l =>
  simp at hx
  subst hx
  exact ⟨⟨fun o ho=>by simp at ho;subst ho;exact hl,by simp⟩,fun o=>by simp,fun z hz=>by simp at hz;subst hz;exact ⟨_,rfl,rfl⟩,fun z hz=>by simp at hz;subst hz;simp⟩
theorem CI.same {l r:List (Slc × List Int)} {n j:Nat} {x y:Slc × List Int} (h:CI l n j r) (hj:1≤j) (hx:l[j]? = some x) (hy:l[j - 1]? = some y) (e:x.2=y.2):CI l n (j+1) r:=by
 refine ⟨h.ok,fun o => ?_,fun z hz => ?_,h.sub⟩
 ·rw [h.mem,List.take_add_one,hx,List.map_append,List.mem_append]
  constructor
  ·exact .inl
  ·rintro (q | q)
   ·exact q
   ·simp at q
    rw [q,e]
    refine List.mem_map.2 ⟨y, ?_,rfl⟩
    rw [List.mem_iff_getElem?]
    exact ⟨j - 1,by rw [List.getElem?_take,if_pos (by omega)];exact hy⟩
 ·rw [Nat.add_sub_cancel,hx] at hz
  simp at hz
  subst hz
  obtain ⟨q,h1,h2⟩:=h.last y hy
  exact ⟨q,h1,h2.trans e.symm⟩
theorem CI.more {l r:List (Slc × List Int)} {n j:Nat} {x y:Slc × List Int} (h:CI l n j r) (hj:1≤j) (hx:l[j]? = some x) (hy:l[j - 1]? = some y) (hs:l.Pairwise fun a b=>lexO a.2 b.2≠1) (hn:∀ z∈l,z.2.length=n) (e:x.2≠y.2):CI l n (j+1) (r++[x]):=by
 have hxn:=hn x (List.mem_of_getElem? hx)
 have hyn:=hn y (List.mem_of_getElem? hy)
 have hyx:lexO y.2 x.2 = -1:=by
  obtain ⟨h1,e1⟩:=List.getElem?_eq_some_iff.1 hx
  obtain ⟨h2,e2⟩:=List.getElem?_eq_some_iff.1 hy
  have h3:=List.pairwise_iff_getElem.1 hs (j - 1) j h2 h1 (by omega)
  rw [e1,e2] at h3
  have h4:lexO y.2 x.2≠0:=fun q=>e ((lexO_eq (hyn.trans hxn.symm)).1 q).symm
  rcases lexO_three y.2 x.2 with q | q | q
  ·exact q
  ·exact absurd q h4
  ·exact absurd q h3
 obtain ⟨q,hq1,hq2⟩:=h.last y hy
 have hall:∀ a∈r,lexO a.2 x.2 = -1:=fun a ha=>by
  rcases List.eq_nil_or_concat r with rfl | ⟨r',b,rfl⟩
  ·simp at ha
  ·rw [List.concat_eq_append] at *
   rw [List.getLast?_concat] at hq1
   simp at hq1
   subst hq1
   rcases List.mem_append.1 ha with h1 | h1
   ·have h2:=h.ok.pw
    rw [List.map_append,List.pairwise_append] at h2
    have h3:=h2.2.2 a.2 (List.mem_map.2 ⟨a,h1,rfl⟩) b.2 (by simp)
    rw [hq2] at h3
    exact lexO_trans (h.ok.len _ (List.mem_map.2 ⟨a,by simp [h1],rfl⟩)) hyn hxn h3 hyx
   ·simp at h1
    subst h1
    rw [hq2];exact hyx
 refine ⟨⟨fun o ho => ?_, ?_⟩,fun o => ?_,fun z hz => ?_,fun z hz => ?_⟩
 ·rw [List.map_append,List.mem_append] at ho
  rcases ho with ho | ho
  ·exact h.ok.len o ho
  ·simp at ho;rw [ho];exact hxn
 ·rw [List.map_append,List.pairwise_append]
  refine ⟨h.ok.pw,by simp,fun a ha b hb => ?_⟩
  obtain ⟨a',ha',rfl⟩:=List.mem_map.1 ha
  simp at hb
  rw [hb]
  exact hall a' ha'
 ·rw [List.map_append,List.mem_append,h.mem,List.take_add_one,hx,List.map_append,List.mem_append]
  simp
 ·rw [Nat.add_sub_cancel,hx] at hz
  simp at hz
  subst hz
  exact ⟨x,by simp,rfl⟩
 ·rcases List.mem_append.1 hz with q | q
  ·exact h.sub z q
  ·simp at q;subst q;exact List.mem_of_getElem? hx
def PrE:El (Slc × List Int):=⟨1,by decide,fun x=>[x.1.v],fun _=>rfl,fun x u h=>by simp at h;subst h;rfl⟩
theorem Own.pairs {T:TypeId} {w:World} {base:Nat} {v:Value} {xs:List (Slc × List Int)}:Own PrE T w base v xs↔Own SlcE T w base v (xs.map Prod.fst):=by
 have e:∀ l:List (Slc × List Int),l.flatMap PrE.c=(l.map Prod.fst).flatMap SlcE.c:=fun l=>by
  induction l with
  | nil=>rfl
  | cons x l ih=>rw [List.flatMap_cons,List.map_cons,List.flatMap_cons,ih];rfl
 unfold Own
 rw [e,List.length_map]
 exact Iff.rfl
end Go.Proofs.YtkfhgnkonaafgaaGreatDoor
namespace Go.Proofs.YtkfhgnkonaafgaaGreatDoor
section
variable {S : Type} {start : S} {next : S → Nat → Option S} (done : S → Bool) (out : S → List Int) (n : Nat)
variable {done out n}
end
end Go.Proofs.YtkfhgnkonaafgaaGreatDoor
namespace Go.Proofs.YtkfhgnkonaafgaaGreatDoor
open Go.RowKit Go.Deep Go.ChangeShapes Go.WideShapes Go.ChangeAt
theorem addr_of_cell {w:World} {a:Addr} {v:Value} (h:w.cell? a=some v):a.spot=none:=by
 unfold World.cell? at h
 split at h
 ·cases hs:a.spot with
  | none=>rfl
  | some x=>simp [hs] at h
 ·cases h
theorem cells_get {w:World} {base:Nat} {a:Addr} {n:Nat} {cs:List Value} (h:w.cells? base a n=some cs) {j:Nat} {u:Value} (hu:cs[j]? = some u):w.cell? (a.add j)=some u:=by
 unfold World.cells? at h
 split at h
 ·have hl:=mapM_some_length h
  have hj:j < n:=by
   have:=(List.getElem?_eq_some_iff.1 hu).1
   rw [hl] at this;simpa using this
  have:=mapM_some_get h j j (by simp [hj])
  rw [this];exact hu
 ·cases h
theorem add_none (b o j:Nat):(⟨b,o,none⟩:Addr).add j=⟨b,o+j,none⟩:=by unfold Addr.add;split <;> simp_all
section
variable {H : Type} {enc : TypeId × Value → H} {P : Program} {w : World} {base : Nat} {spare : Nat → Bool} {held : Bool} {fuel : Nat} {cs : List Value} {x : DataW H × List MemPlace}
theorem rep_of_trod {α:Type} [Inhabited α] (E:El α) {t e:TypeId} (ht:P.underlying t=some (.slice e)) (hc:P.cellsOf e=E.sz) (Q:α→Prop)
 (hel:∀ n cs x,DataW.trod enc P w base spare held n e cs=some x→∃ y,cs=E.c y∧Q y) (h:DataW.trod enc P w base spare held fuel t cs=some x):∃ v xs,cs=[v]∧Rep E w v xs∧∀ y∈xs,Q y:=by
 rcases open_slice ht h with ⟨rfl,_⟩ | ⟨a,len,cap,m,n,D,Pl,rfl,hb,hl,hm,hmm,_,hx⟩
 ·exact ⟨_,[],rfl,Rep.nil w,fun y h=>by simp at h⟩
 ·have hlm:len≤m:=by rw [hmm];split <;> omega
  have each:∀ i,i < len→∃ y,w.cells? base (a.add (i * E.sz)) E.sz=some (E.c y)∧Q y:=fun i hi=>by
   obtain ⟨cs',h1,h2⟩:=hx i (by omega)
   obtain ⟨y,rfl,hq⟩:=hel n cs' _ h2
   rw [hc] at h1
   exact ⟨y,h1,hq⟩
  obtain ⟨f,hf⟩:=choose_lt each
  refine ⟨_,(List.range len).map f,rfl,⟨some a,cap,by simp,by simpa using hl,hm,fun i y hy => ?_⟩, ?_⟩
  ·simp only [List.getElem?_map] at hy
   have hi:i < len:=by
    rcases Nat.lt_or_ge i len with h | h
    ·exact h
    ·rw [List.getElem?_eq_none (by simpa using h)] at hy;simp at hy
   rw [List.getElem?_range hi] at hy
   simp at hy
   subst hy
   have h0:=cells_get (hf 0 (by omega)).1 (El.first (E:=E) (f 0)).choose_spec
   rw [Nat.zero_mul] at h0
   have hsp:a.spot=none:=addr_of_cell (a:=a) (by simpa [Addr.add] using h0)
   obtain ⟨ab,ao,asp⟩:=a
   simp at hsp
   subst hsp
   refine ⟨ab,ao,rfl,fun j u hu => ?_⟩
   have:=cells_get (hf i hi).1 hu
   rwa [add_none,add_none] at this
  ·intro y hy
   simp only [List.mem_map,List.mem_range] at hy
   obtain ⟨i,hi,rfl⟩:=hy
   exact (hf i hi).2
instance:Inhabited Slc:=⟨⟨none,0,0⟩⟩
instance:Inhabited Ins:=⟨⟨0,0,0,0⟩⟩
end
section
variable {H : Type} {enc : TypeId × Value → H} {P : Program}
theorem trodAll_below (hl:laidOutB P=true) {W W':World} (hb:Below W.heap.size W W'):∀ {ts:List TypeId} {vs:List Value} {ds:List (DataW H)} {ps:List MemPlace},(∀ t∈ts,P.readableRec t=true∧t < P.types.size) →
 DataW.TrodAll enc P W 0 (fun _=>true) true ts vs ds ps→DataW.TrodAll enc P W' 0 (fun b=>decide (b < W.heap.size)) true ts vs ds ps
 | [],[],[],ps,_,h=>h
 | t :: ts,v :: vs,d :: ds,ps,ht,h=>by
  have hlt:=DataW.TrodAll.lt h
  obtain ⟨p,q,h1,h2,rfl⟩:=h
  exact ⟨p,q,Below.trod hl (ht t (List.mem_cons_self ..)).1 (ht t (List.mem_cons_self ..)).2 h1 hb (fun x hx=>hlt x (List.mem_append_left _ hx)),trodAll_below hl hb (fun t ht'=>ht t (List.mem_cons_of_mem _ ht')) h2,rfl⟩
 | [],[],_ :: _,_,_,h=>h.elim
 | [],_ :: _,_,_,_,h=>h.elim
 | _ :: _,[],_,_,_,h=>h.elim
 | _ :: _,_ :: _,[],_,_,h=>h.elim
end
end Go.Proofs.YtkfhgnkonaafgaaGreatDoor
namespace Go.Proofs.YtkfhgnkonaafgaaGreatDoor
open Go.RowKit Go.Deep Go.ChangeShapes Go.WideShapes Go.ChangeAt
theorem Tryz.own:ownKnob Tryz.prog.godebug=none:=by kernel_rfl
theorem Tryz.laidOut:laidOutB Tryz.prog=true:=by kernel_rfl
theorem Tryz.cellsByte:Tryz.prog.cellsOf 5=1:=by kernel_rfl
section
variable {H : Type} {enc : TypeId × Value → H} {w : World} {base : Nat} {spare : Nat → Bool} {held : Bool}
theorem bytes_of_trod {v:Value} {d:DataW H} {ps:List MemPlace} (hok:∃ a len cap,v = .slice a len cap) (h:DataW.Trod enc Tryz.prog w base spare held 50 v d ps):∃ p,Rep ByteE w v p∧∀ x∈p,0≤x∧x≤255:=by
 obtain ⟨fuel,hf⟩:=h
 obtain ⟨v',p,hv,hp,hq⟩:=rep_of_trod ByteE Tryz.underlying50 Tryz.cellsByte (fun x=>0≤x∧x≤255) (fun n cs x hx=>by
  obtain ⟨i,rfl,hi⟩:=DataW.trod_int Tryz.underlying5 hx
  exact ⟨i,rfl,by
   have:=hi.2
   simp only [Lit.wf,Bool.and_eq_true,decide_eq_true_eq,show IntKind.u8.min=0 from by decide,show IntKind.u8.max=255 from by decide] at this
   omega⟩) hf
 obtain ⟨a,len,cap,rfl⟩:=hok
 simp [Value.cells] at hv
 subst hv
 exact ⟨p,hp,hq⟩
end
end Go.Proofs.YtkfhgnkonaafgaaGreatDoor
namespace Go.Proofs.YtkfhgnkonaafgaaGreatDoor
open Go.RowKit Go.ChangeShapes Go.WideShapes Go.ChangeAt
section
variable {H : Type} {enc : TypeId × Value → H} {P : Program}
theorem post_lawV {f:Func} {s:ChangeSpec} {apart:Bool} {W W':World} {args:Array Value} {ds gs:List (DataW H)} {before:List MemPlace} {tb:TypeId} (hl:laidOutB P=true) (hts:∀ t∈f.params.toList,P.readableRec t=true∧t < P.types.size)
 (hv:varsRowed P s.vars=true) (hs:s.fn H (ds++gs) = { results:=[.lit (.bool true)],args:=ds,vars:=gs }) (hr:f.resultTypes = #[tb]) (htb:P.underlying tb=some .bool)
 (hW:DataW.Whole enc P f.params.toList s.vars apart W args.toList ds gs before) (hb:Below W.heap.size W W'):s.post enc P f apart true false false W args (.bool true) W':=by
 have hW2:=hW
 obtain ⟨p,q,hA,hV,rfl,hfz,hnd⟩:=hW2
 refine ⟨ds,gs,_,[],p,q,hW, ?_, ?_, ?_,hb.frame _,fun h=>by cases h⟩
 ·rw [hs,hr]
  exact trodAll_mk1 (shut_bool htb _)
 ·rw [hs]
  exact trodAll_below hl hb hts hA
 ·rw [hs]
  exact hb.trodVars hl hv hV
end
end Go.Proofs.YtkfhgnkonaafgaaGreatDoor
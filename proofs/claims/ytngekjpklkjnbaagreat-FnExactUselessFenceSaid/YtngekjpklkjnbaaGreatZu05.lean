/-
  The program's test whether outcomes are among others. No condition.
-/
import Derived.Test.YtngekjpklkjnbaaGreatZu00
import Derived.OrdersIn
set_option maxHeartbeats 6400000
set_option maxRecDepth 100000
namespace Go.Proofs.YtngekjpklkjnbaaGreat
open Go.RowKit
theorem AL (u:World) (B:Int):(convert 39 9 (.slice (some ⟨u.heap.size,0,none⟩) 1 1)).run Tryz.prog (u.alloc (.cells #[.int .u8 B] 5)) = .ok (.string (strOfNums [B])) (u.alloc (.cells #[.int .u8 B] 5)):=
 run_convert_bytes_arg (u.alloc (.cells #[.int .u8 B] 5)) 39 5 Tryz.underlying39 Tryz.underlying5 u.heap.size 0 1 1 [B] rfl (fun i hi=>by
  obtain rfl:i=0:=Om;simp[go_sem]) 9 Tryz.underlying9
theorem Fe (a b:List Int):strOfNums a++strOfNums b=strOfNums (a++b):=by
 apply ByteArray.ext;simp[strOfNums]
theorem Ff:strOfNums []=⟨#[]⟩:=by
 apply ByteArray.ext;simp[strOfNums]
theorem Cj (a:List Int):strOfNums a++⟨#[]⟩=strOfNums a:=by rw[← Ff,Fe,List.append_nil]
theorem BG (x:Int) (w:World) (h0:0≤x) (h1:x≤9) :
 Calls Tryz.prog 157 #[.int .i64 x] w fun e w'=>e = .returned (.string (strOfNums [48+x]))∧Below w.heap.size w w':=by
 have kc:=AL;go_enter Tryz.func157,Tryz.ntmps157;go_wp2_with fail
 go_loopw [0,3] (fun q i wr=>q = .int .i64 x∧i = .string ⟨#[]⟩∧wr=w) (fun _ i _=>0)
 case atStart=>exact⟨rfl,rfl,rfl⟩
 case round =>
  obtain⟨rfl,rfl,rfl⟩:=hrel;go_wp2_with fail;go_ret;exact⟨by rw[← Cj];rfl,(Below.refl _ _).alloc (Nat.le_refl _) _⟩
theorem JT (b x:Int) (w:World) (h0:0≤x) (h1:x≤9) (h2:0≤b) (h3:b≤200) :
 Calls Tryz.prog 156 #[.int .u8 b,.int .i64 x] w fun e w'=>e = .returned (.string (strOfNums [b+x]))∧Below w.heap.size w w':=by
 have kc:=AL;go_enter Tryz.func156,Tryz.ntmps156;go_wp2_with fail;go_ret;exact⟨rfl,(Below.refl _ _).alloc (Nat.le_refl _) _⟩
theorem Js (l:List Int):(strOfNums l).size=l.length:=by simp[strOfNums,ByteArray.size]
structure JJ (md:Region.Mode) (ops:Array Oper) (listed:Array Bool) (i:Nat) (o:Oper):Prop where
 op:ops[i]? = some o
 new:listed[i]? = some false
 after:∀ e∈o.after,Region.binds md e=true→listed[e.on]? = some true
theorem Un {md:Region.Mode}{ops:Array Oper}{listed:Array Bool}(hs:listed.size=ops.size) {i:Nat}(h:i∈Region.ready md ops listed):∃ o,JJ md ops listed i o:=by
 unfold Region.ready at h;rw[List.mem_filter]at h;obtain⟨h1,h2⟩:=h;rw[List.mem_range]at h1;rw[Bool.and_eq_true]at h2;obtain⟨h2,h3⟩:=h2;rw[Array.getElem?_eq_getElem h1]at h3;refine⟨ops[i],Array.getElem?_eq_getElem h1,?_,fun e he hb => ?_⟩
 ·rw[Array.getElem?_eq_getElem Om]
  have:listed.getD i true=listed[i]'Om:=by simp[Array.getD,show i < listed.size by omega]
  rw[this]at h2;simpa using h2
 ·simp only[Option.map_some,Option.getD_some,Array.all_eq_true']at h3
  have h4:=h3 e he;rw[hb]at h4;simp only[Bool.not_true,Bool.false_or]at h4;by_cases hl:e.on < listed.size
  ·rw[Array.getElem?_eq_getElem hl]
   have:listed.getD e.on false=listed[e.on]:=by simp[Array.getD,hl]
   rw[this]at h4;rw[h4]
  ·have:listed.getD e.on false=false:=by simp[Array.getD,hl]
   rw[this]at h4;cases h4
def Vm (ops:Array Oper):Bool:=(List.range ops.size).all fun i=>(ops[i]?.map fun o=>o.after.all fun e=>decide (e.on < i)).getD true
theorem Gg {md:Region.Mode}{ops:Array Oper}{listed:Array Bool}(hs:listed.size=ops.size) (he:Vm ops=true) (h:Region.ready md ops listed=[]):∀ i,i < ops.size→listed[i]? = some true:=by
 intro i
 induction i using Nat.strongRecOn with
 | ind i ih =>
  intro hi;rw[Array.getElem?_eq_getElem Om];by_cases e:listed[i]'Om=true
  ·rw[e]
  ·exfalso
   have hm:i∈Region.ready md ops listed:=by
    unfold Region.ready;rw[List.mem_filter,List.mem_range];refine⟨hi,?_⟩;rw[Bool.and_eq_true];refine⟨?_,?_⟩
    ·have:listed.getD i true=listed[i]'Om:=by simp[Array.getD,show i < listed.size by omega]
     rw[this];simpa using e
    ·rw[Array.getElem?_eq_getElem hi]
     simp only[Option.map_some,Option.getD_some,Array.all_eq_true'];intro x hx;unfold Vm at he;rw[List.all_eq_true]at he;have h1:=he i (by simpa using hi);rw[Array.getElem?_eq_getElem hi]at h1;simp only[Option.map_some,Option.getD_some,Array.all_eq_true']at h1;have h2:=h1 x hx;simp only[decide_eq_true_eq]at h2;have h3:=ih x.on h2 Om;have:listed.getD x.on false=true:=by
      have hl:x.on < listed.size:=Om;rw[Array.getElem?_eq_getElem hl]at h3;simp only[Option.some.injEq]at h3;simp[Array.getD,hl,h3]
     rw[this,Bool.or_true]
   rw[h]at hm;cases hm
def Kt (l:Array Bool):Nat:=l.toList.countP fun b => !b
theorem VO {l:Array Bool}{i:Nat}(h:l[i]? = some false):Kt (l.setIfInBounds i true)+1=Kt l:=by
 unfold Kt;rw[Array.toList_setIfInBounds];have h':l.toList[i]? = some false:=by rw[Array.getElem?_toList];exact h
 obtain⟨h1,h2⟩:=List.getElem?_eq_some_iff.1 h';generalize l.toList=L at *;clear h h' l
 induction L generalizing i with
 | nil=>simp at h1
 | cons x L ih =>
  cases i with
  | zero=>simp at h2;subst h2;simp
  | succ i =>
   simp at h1 h2;have:=ih h1 h2;simp only[List.set_cons_succ,List.countP_cons];omega
theorem Aj {l:Array Bool}(h:Kt l=0) (i:Nat):l[i]?≠some false:=by
 intro e;have:=VO e;omega
variable {F : Fence} {n : Nat} {P : Program} {ops : Array Oper} {Q : Exit → Act → World → Prop}
section
variable {P : Program} {ops : Array Oper} {Q : Exit → Act → World → Prop}
theorem Co {md:Region.Mode}(I:Array Bool→Act→World→Prop) (he:Vm ops=true)
 (hstep:∀ (listed:Array Bool) (a:Act) (w:World),listed.size=ops.size→I listed a w→∀ (i:Nat) (o:Oper),JJ md ops listed i o→∀ K:Act→World→Prop,(∀ a' w',I (listed.setIfInBounds i true) a' w'→K a' w') →
  if Region.wanted o (yielded ops a.tmps)=true then Oper.wp P o a w K Q else K (a.put o.dst undef) w)
 (hend:∀ (listed:Array Bool) (a:Act) (w:World),(∀ i,i < ops.size→listed[i]? = some true)→I listed a w→Q .normal a w) :
 ∀ (fuel:Nat) (listed:Array Bool) (a:Act) (w:World),listed.size=ops.size→Kt listed≤fuel→I listed a w→wpAny P md ops Q fuel listed a w:=by
 intro fuel
 induction fuel with
 | zero =>
  intro listed a w hs hf hi;have hr:Region.ready md ops listed=[]:=by
   rcases hq:Region.ready md ops listed with _ | ⟨i,rest⟩
   ·rfl
   ·exfalso
    obtain⟨o,ho⟩:=Un hs (i:=i) (by rw[hq];simp);exact Aj Om i ho.new
  exact⟨hr,hend listed a w (Gg hs he hr) hi⟩
 | succ fuel ih =>
  intro listed a w hs hf hi;refine⟨fun hr=>hend listed a w (Gg hs he hr) hi,fun i hm => ?_⟩;obtain⟨o,ho⟩:=Un hs hm;have hK:=hstep listed a w hs hi i o ho (wpAny P md ops Q fuel (listed.setIfInBounds i true)) (fun a' w' h=>ih _ a' w' (by simp[hs]) (by have:=VO ho.new;omega) h);unfold wpOp;rw[ho.op];simp only;split
  ·rename_i hw
   rw[if_pos hw]at hK;exact .inl hK
  ·rename_i hw
   rw[if_neg hw]at hK;exact hK
end
def Zk (a:Act):List (Tmp × Value)→Act
 | []=>a
 | (d,v) :: l=>Zk (a.put (some d) v) l
def Vd (ls:Array Bool) (k:Nat) (D:List Nat) (x v:Value):Prop:=ls[k]? = some true→(∀ d∈D,ls[d]? = some true)∧x=v
theorem Ug {ls:Array Bool}{i j:Nat}(h:i≠j):(ls.setIfInBounds i true)[j]? = ls[j]?:=by
 rw[Array.getElem?_setIfInBounds,if_neg h]
theorem E9 {ls:Array Bool}{i:Nat}(h:i < ls.size):(ls.setIfInBounds i true)[i]? = some true:=by
 rw[Array.getElem?_setIfInBounds,if_pos rfl,if_pos h]
theorem GR {ls:Array Bool}{i j:Nat}(h:ls[j]? = some true):(ls.setIfInBounds i true)[j]? = some true:=by
 by_cases e:i=j
 ·subst e;exact E9 (Array.getElem?_eq_some_iff.1 h).1
 ·rw[Ug e];exact h
theorem Vd.start {n k:Nat}{D:List Nat}{x v:Value}:Vd (Array.replicate n false) k D x v:=fun h=>by
 rw[Array.getElem?_replicate]at h;split at h <;> simp at h
theorem Vd.set {ls:Array Bool}{i k:Nat}{D:List Nat}{x v:Value}(h:Vd ls k D x v) (hik:i≠k):Vd (ls.setIfInBounds i true) k D x v:=fun e=>by
 rw[Ug hik]at e;exact⟨fun d hd=>GR ((h e).1 d hd),(h e).2⟩
theorem Vd.same {ls:Array Bool}{k:Nat}{D:List Nat}{v:Value}(hD:∀ d∈D,ls[d]? = some true):Vd (ls.setIfInBounds k true) k D v v:=fun _=>⟨fun d hd=>GR (hD d hd),rfl⟩
theorem Vd.void {ls:Array Bool}{i k:Nat}{D:List Nat}{x v v':Value}(h:Vd ls k D x v) (hd:i∈D) (hik:i≠k) (hn:ls[i]? = some false):Vd (ls.setIfInBounds i true) k D x v':=fun e=>by
 rw[Ug hik]at e;have:=(h e).1 i hd;rw[hn]at this;cases this
theorem Vd.get {ls:Array Bool}{k:Nat}{D:List Nat}{x v:Value}(h:Vd ls k D x v) (e:ls[k]? = some true):x=v:=(h e).2
def fl (ls:Array Bool) (k:Nat):Bool:=ls[k]? == some true
theorem Ye {n k:Nat}:fl (Array.replicate n false) k=false:=by
 unfold fl;rw[Array.getElem?_replicate];split <;> simp
theorem Ih {ls:Array Bool}{i k:Nat}(h:i≠k):fl (ls.setIfInBounds i true) k=fl ls k:=by unfold fl;rw[Ug h]
theorem ZD {ls:Array Bool}{n k:Nat}(hs:ls.size=n+1) (h:k < n):fl (ls.setIfInBounds k true) k=true:=by unfold fl;rw[E9 Om];rfl
theorem ZV {ls:Array Bool}{k:Nat}(h:ls[k]? = some false):fl ls k=false:=by unfold fl;rw[h];rfl
theorem Zz {ls:Array Bool}{k:Nat}(h:ls[k]? = some true):fl ls k=true:=by unfold fl;rw[h];rfl
theorem Vd.s {ls:Array Bool} {i k:Nat} {D:List Nat} {x v:Value} (h:Vd ls k D x v) (hik:i≠k:=by decide):Vd (ls.setIfInBounds i true) k D x v:=h.set hik
theorem pA {a b:Act} (h:a=b:=by simp only [Zk,Act.put,List.setIfInBounds_toArray,List.set_cons_succ,List.set_cons_zero]):a=b:=h
theorem fs {ls:Array Bool} (i k:Nat) (h:i≠k:=by decide):fl (ls.setIfInBounds i true) k=fl ls k:=Ih h
theorem Vd.ga {ls:Array Bool} {k n:Nat} {D:List Nat} {x v:Value} (h:Vd ls k D x v) (hall:∀ j,j<n→ls[j]?=some true) (hk:k<n:=by decide):v=x:=(h.get (hall k hk)).symm
theorem Ve {ls:Array Bool} {k:Nat} {D:List Nat} {v:Value} (hD:∀ d∈D,ls[d]?=some true:=by simp):Vd (ls.setIfInBounds k true) k D v v:=Vd.same hD
theorem Vs {n k:Nat} {D:List Nat} {x v:Value}:Vd (Array.replicate n false) k D x v:=Vd.start
section
variable {P : Program} {ops : Array Oper} {Q : Exit → Act → World → Prop}
def Qb (ops:Array Oper) (ls:Array Bool):Prop:=∀ (i:Nat) (o:Oper),ls[i]? = some true→ops[i]? = some o→∀ e∈o.after,Region.binds .any e=true→ls[e.on]? = some true
theorem Qb.start (ops:Array Oper) (n:Nat):Qb ops (Array.replicate n false):=fun i o h=>by
 rw[Array.getElem?_replicate]at h;split at h <;> simp at h
theorem Qb.set {ls:Array Bool}{i:Nat}{o:Oper}(h:Qb ops ls) (mc:JJ .any ops ls i o):Qb ops (ls.setIfInBounds i true):=by
 intro j o' hj ho e he hb;have hk:∀ q,ls[q]? = some true→(ls.setIfInBounds i true)[q]? = some true:=fun q hq=>GR hq;by_cases hij:i=j
 ·subst hij
  rw[mc.op]at ho;obtain rfl:=Option.some.inj ho;exact hk _ (mc.after e he hb)
 ·rw[Ug hij]at hj
  exact hk _ (h j o' hj ho e he hb)
def Ux (ops:Array Oper) (n:Nat):Bool:=(List.range n).all fun j=>(List.range (n+1)).any fun i=>decide (j < i)&&(ops[i]?.map fun o=>o.after.any fun e=>e.on==j&&Region.binds .any e).getD false
theorem DL {n:Nat}{ls:Array Bool}{o:Oper}(hw:Ux ops n=true) (hc:Qb ops ls) (mc:JJ .any ops ls n o):∀ j,j < n→ls[j]? = some true:=by
 have key:∀ d j,j < n→n - j≤d→ls[j]? = some true:=by
  intro d
  induction d with
  | zero=>intro j h1 h2;omega
  | succ d ih =>
   intro j hj hd;unfold Ux at hw;rw[List.all_eq_true]at hw;have h1:=hw j (List.mem_range.2 hj);rw[List.any_eq_true]at h1;obtain⟨i,hi,h1⟩:=h1;rw[List.mem_range]at hi;rw[Bool.and_eq_true,decide_eq_true_eq]at h1;obtain⟨hji,h1⟩:=h1;cases ho:ops[i]? with
   | none=>rw[ho]at h1;simp at h1
   | some oi =>
    rw[ho]at h1;simp only[Option.map_some,Option.getD_some,Array.any_eq_true']at h1;obtain⟨e,he1,he2⟩:=h1;rw[Bool.and_eq_true]at he2;have h4:e.on=j:=by simpa using he2.1
    by_cases hin:i=n
    ·subst hin
     rw[mc.op]at ho;obtain rfl:=Option.some.inj ho;have h3:=mc.after e he1 he2.2;rw[h4]at h3;exact h3
    ·have h3:=hc i oi (ih i Om Om) ho e he1 he2.2
     rw[h4]at h3;exact h3
 exact fun j hj=>key (n - j) j hj (Nat.le_refl _)
theorem Zl {id n:Nat}{a:Act}{w:World}(hm:P.follows .mixedOrders=true) (hn:ops.size=n+1) (he:Vm ops=true) (hlw:Ux ops n=true) (I:Act→Array Bool→Act→World→Prop)
 (h0:I a (Array.replicate (n+1) false) a w.drew)
 (hstep:∀ (ls:Array Bool) (a':Act) (w':World),ls.size=n+1→ls[n]? = some false→I a ls a' w'→∀ (i:Nat) (o:Oper),i < n→JJ .any ops ls i o→∀ K:Act→World→Prop,(∀ a'' w'',I a (ls.setIfInBounds i true) a'' w''→K a'' w'') →
  if Region.wanted o (yielded ops a'.tmps)=true then Oper.wp P o a' w' K Q else K (a'.put o.dst undef) w')
 (hlast:∀ (ls:Array Bool) (a':Act) (w':World),(∀ i,i < n→ls[i]? = some true)→I a ls a' w'→∀ o,ops[n]? = some o →
  if Region.wanted o (yielded ops a'.tmps)=true then Oper.wp P o a' w' (fun a'' w''=>Q .normal a'' w'') Q else Q .normal (a'.put o.dst undef) w') :
 (Code.region id ops true).wp P Q a w:=by
 refine wp_region_any hm (Co (fun ls a' w'=>Qb ops ls∧((ls[n]? = some false∧I a ls a' w')∨(ls[n]? = some true∧(∀ i,i < n→ls[i]? = some true)∧Q .normal a' w'))) he ?_ ?_ ops.size _ a _ Sm (by unfold Kt;refine Nat.le_trans List.countP_le_length ?_;simp) ⟨Qb.start _ _,.inl ⟨by simp[hn],by rw[hn];exact h0⟩⟩)
 ·intro ls a' w' hs hI i o mc K hK
  obtain⟨hcl,hI⟩:=hI;have hcl2:=hcl.set mc;rcases hI with⟨hf,hI⟩ | ⟨ht,hal,hQ⟩
  ·by_cases hi:i=n
   ·subst hi
    have hall:∀ j,j < i→ls[j]? = some true:=DL hlw hcl mc;have h:=hlast ls a' w' hall hI o mc.op;have hset:(ls.setIfInBounds i true)[i]? = some true:=by
     rw[Array.getElem?_setIfInBounds];simp[hs,hn]
    have hall2:∀ j,j < i→(ls.setIfInBounds i true)[j]? = some true:=fun j hj=>by
     rw[Array.getElem?_setIfInBounds,if_neg Om];exact hall j hj
    split
    ·rename_i hw
     rw[if_pos hw]at h;exact Oper.wp_mono (fun a2 w2 h2=>hK a2 w2 ⟨hcl2,.inr ⟨hset,hall2,h2⟩⟩) h
    ·rename_i hw
     rw[if_neg hw]at h;exact hK _ _ ⟨hcl2,.inr ⟨hset,hall2,h⟩⟩
   ·have hlt:i < n:=by
     have:=(Array.getElem?_eq_some_iff.1 mc.op).1;omega
    have h:=hstep ls a' w' (by rw[hs,hn]) hf hI i o hlt mc K (fun a2 w2 h2=>hK a2 w2 ⟨hcl2,.inl ⟨by rw[Array.getElem?_setIfInBounds];simp[hi];exact hf,h2⟩⟩);exact h
  ·exfalso
   by_cases hi:i=n
   ·subst hi;rw[mc.new]at ht;cases ht
   ·have hlt:i < n:=by
     have:=(Array.getElem?_eq_some_iff.1 mc.op).1;omega
    have:=hal i hlt;rw[mc.new]at this;cases this
 ·intro ls a' w' hall hI
  rcases hI.2 with⟨hf,-⟩ | ⟨-,-,hQ⟩
  ·have:=hall n Om
   rw[hf]at this;cases this
  ·exact hQ
end
end Go.Proofs.YtngekjpklkjnbaaGreat
namespace Go.Proofs.YtngekjpklkjnbaaGreat
open Go.RowKit Go.MapKept
def YW (w:World) (b:Nat) (ks:List ByteArray):Prop:=∃ (es:Array MapEntry) (clock:Nat),w.heap[b]? = some (.map es clock)∧es.toList.map (fun e=>(e.key,e.val))=ks.map fun s=>(Value.string s,Value.bool true)
theorem YW.made (w:World):YW (w.alloc (.map #[] 0)) w.heap.size []:=⟨#[],0,heap_alloc_new w _,rfl⟩
theorem YW.lt {w:World}{b:Nat}{ks:List ByteArray}(h:YW w b ks):b < w.heap.size:=by
 obtain⟨es,clock,h1,-⟩:=h;exact(Array.getElem?_eq_some_iff.1 h1).1
theorem YW.same {w w':World}{b:Nat}{ks:List ByteArray}(h:YW w b ks) (hb:w'.heap[b]? = w.heap[b]?):YW w' b ks:=by
 obtain⟨es,clock,h1,h2⟩:=h;exact⟨es,clock,hb.trans h1,h2⟩
theorem YW.below {w w':World}{b:Nat}{ks:List ByteArray}(h:YW w b ks) (hb:Below w.heap.size w w'):YW w' b ks:=h.same (hb.block b h.lt)
theorem YW.keys {es:Array MapEntry}{ks:List ByteArray}(h:es.toList.map (fun e=>(e.key,e.val))=ks.map fun s=>(Value.string s,Value.bool true)):(∀ x∈es.toList,IsKey .string x.key)∧(∀ x∈es.toList,x.val = .bool true)∧∀ s,(∃ x∈es.toList,x.key = .string s)↔s∈ks:=by
 refine⟨fun x hx => ?_,fun x hx => ?_,fun s=>⟨fun ⟨x,hx,e⟩ => ?_,fun hs => ?_⟩⟩
 ·have:(x.key,x.val)∈es.toList.map (fun e=>(e.key,e.val)):=List.mem_map.2 ⟨x,hx,rfl⟩
  rw[h]at this;obtain⟨s,-,e⟩:=List.mem_map.1 this;simp only[Prod.mk.injEq]at e;rw[← e.1];simp[IsKey]
 ·have:(x.key,x.val)∈es.toList.map (fun e=>(e.key,e.val)):=List.mem_map.2 ⟨x,hx,rfl⟩
  rw[h]at this;obtain⟨s,-,e⟩:=List.mem_map.1 this;simp only[Prod.mk.injEq]at e;exact e.2.symm
 ·have:(x.key,x.val)∈es.toList.map (fun e=>(e.key,e.val)):=List.mem_map.2 ⟨x,hx,rfl⟩
  rw[h]at this;obtain⟨s',hs',e'⟩:=List.mem_map.1 this;simp only[Prod.mk.injEq]at e';rw[e]at e';simp at e';rw[← e'.1];exact hs'
 ·have:(Value.string s,Value.bool true)∈ks.map fun s=>(Value.string s,Value.bool true):=List.mem_map.2 ⟨s,hs,rfl⟩
  rw[← h]at this;obtain⟨x,hx,e⟩:=List.mem_map.1 this;simp only[Prod.mk.injEq]at e;exact⟨x,hx,e.1⟩
section
variable {P : Program} {w : World} {b : Nat} {ks : List ByteArray} {t k e : TypeId}
theorem YW.look (h:YW w b ks) (ht:P.underlying t=some (.map k e)) (hk:P.underlying k=some .string) (hz:(zeroValue e).run P w = .ok (.bool false) w) (s:ByteArray) :
 ∃ D:Bool,(Instr.lookup t (.map (some b)) (.string s) false).run P w = .ok (.bool D) w∧(D=true↔s∈ks):=by
 obtain⟨es,clock,h1,h2⟩:=h;obtain⟨k1,k2,k3⟩:=YW.keys h2;have hik:IsKey .string (.string s):=by simp[IsKey]
 rcases findNow_spec hik es.toList 0 k1 with⟨f1,f2⟩ | ⟨j,x,f1,f2,f3⟩
 ·refine⟨false,?_,?_⟩
  ·have hf:=run_findKey (w:=w) hk f1
   have hc:=run_checkKey (w:=w) hk hik es.isEmpty 9999;simp[Instr.lookup,run_underlying ht,MapKept.run_getObj_map h1,hc,hf,hz,Result.andThen]
  ·simp only[Bool.false_eq_true,false_iff]
   intro hs;obtain⟨x,hx,e⟩:=(k3 s).2 hs;exact f2 x hx e
 ·refine⟨true,?_,?_⟩
  ·have hf:=run_findKey (w:=w) hk f1
   have hc:=run_checkKey (w:=w) hk hik es.isEmpty 9999;have hm:=List.mem_of_getElem? f2;simp[Instr.lookup,run_underlying ht,MapKept.run_getObj_map h1,hc,hf,k2 x hm,Result.andThen]
  ·simp only[true_iff]
   exact(k3 s).1 ⟨x,List.mem_of_getElem? f2,f3⟩
theorem YW.put (h:YW w b ks) (ht:P.underlying t=some (.map k e)) (hk:P.underlying k=some .string) {s:ByteArray}(hs:s∉ks) :
 ∃ w',(Instr.mapUpdate t (.map (some b)) (.string s) (.bool true)).run P w = .ok () w'∧YW w' b (ks++[s])∧w.grownBy w' (some b):=by
 obtain⟨es,clock,h1,h2⟩:=h;obtain⟨k1,k2,k3⟩:=YW.keys h2;have hik:IsKey .string (.string s):=by simp[IsKey]
 rcases findNow_spec hik es.toList 0 k1 with⟨f1,f2⟩ | ⟨j,x,f1,f2,f3⟩
 ·have hf:=run_findKey (w:=w) hk f1
  have hc:=run_checkKey (w:=w) hk hik false 9999;have hset:=MapKept.run_setObj_map (P:=P) (.map (es.push { key:=.string s,val:=.bool true,born:=clock }) (clock+1)) h1;obtain⟨g1,g2⟩:=heap_set (o':=.map (es.push { key:=.string s,val:=.bool true,born:=clock }) (clock+1)) h1;refine⟨{ w with heap:=w.heap.setIfInBounds b (.map (es.push { key:=.string s,val:=.bool true,born:=clock }) (clock+1)) },?_,⟨_,_,g1,?_⟩,⟨rfl,rfl,rfl,Sm,fun q _ hq=>g2 q (fun e=>hq (by rw[e]))⟩⟩
  ·simp[Instr.mapUpdate,run_underlying ht,MapKept.run_getObj_map h1,hc,hf,hset,Result.andThen]
  ·simp[h2]
 ·exact absurd ((k3 s).1 ⟨x,List.mem_of_getElem? f2,f3⟩) hs
end
end Go.Proofs.YtngekjpklkjnbaaGreat
namespace Go.Proofs.YtngekjpklkjnbaaGreat
open Go.RowKit
abbrev KA (w:World) (v:Value) (p:List (List Int)):Prop:=Yv Zo w v p
theorem Vu (v v':Value) (xs ys:List Int) (w:World) (hx:Z7 Zo w v xs) (hy:Z7 Zo w v' ys) :
 Calls Tryz.prog 73 #[v,v'] w fun e w'=>e = .returned (.bool (decide (xs=ys)))∧Below w.heap.size w w':=by
 obtain⟨a,c,rfl,hc1,hc2,hc3,hx⟩:=hx.open;obtain⟨a',c',rfl,hc1',hc2',hc3',hy⟩:=hy.open;have HX:=Za hx;clear hx;have HY:=Za hy;clear hy;generalize hn:xs.length=n at *;generalize hn':ys.length=n' at *;have H:=Za hn;clear hn;have H':=Za hn';clear hn';by_cases hc:n=n'
 ·subst hc
  have hc':((n:Int) != n)=false:=by simp
  go_enter Tryz.func73,Tryz.ntmps73;go_wp2_with fail
  go_loopw [13] (fun v wr => ∃ k:Nat,k≤n∧v = .int .i64 k∧Hid (xs.take k=ys.take k)∧Below w.heap.size w wr) (fun v _=>n - (intOf v).toNat)
  case atStart=>exact⟨0,Nat.zero_le _,rfl,Za Sm,Below.refl _ _⟩
  case round =>
   obtain⟨k,hk,rfl,T,hb⟩:=hrel;by_cases hlt:k < n
   ·obtain⟨x,hxk⟩:=Zd (xs:=xs) (k:=k) (by rw[H.out];exact hlt)
    obtain⟨y,hyk⟩:=Zd (xs:=ys) (k:=k) (by rw[H'.out];exact hlt);obtain⟨b,o,rfl,hbl,i0⟩:=(HX.out.below hb).int hxk;obtain⟨b',o',rfl,hbl',j0⟩:=(HY.out.below hb).int hyk;have hlt':=Zh hlt;have X:=Za hxk;clear hxk;have Y:=Za hyk;clear hyk;by_cases hxy:x=y
    ·have T':=Za (QJ T.out X.out Y.out hxy)
     have hd:(x != y)=false:=by simp[hxy]
     clear hxy;go_wp2_with fail;refine Zs Kr Kr ?_
     repeat (go_big_quiet_step (fail))
     refine wpQuiet_nil ?_;intro w1 hb1;have hb2:=hb.trans (hb1.mono hb.size);go_wp2_with fail;go_roundw
     case rel=>exact⟨k+1,Om,Gn,T',hb2⟩
     case measure=>simp[intOf];omega
    ·have hq:=Kx X.out Y.out hxy
     have hd:(x != y)=true:=by simp[hxy]
     clear hxy;go_wp2_with fail;refine Zs Kr Kr ?_
     repeat (go_big_quiet_step (fail))
     refine wpQuiet_nil ?_;intro w1 hb1;have hb2:=hb.trans (hb1.mono hb.size);go_wp2_with fail;go_ret;exact⟨by simp[hq],hb2⟩
   ·have e2:xs=ys:=Jn T.out (by rw[H.out];omega) (by rw[H'.out];omega)
    subst e2;go_wp2_with fail;go_ret;exact⟨Sm,hb⟩
 ·have hc':((n:Int) != n')=true:=So
  have hq:xs≠ys:=fun h=>hc (by rw[← H.out,← H'.out,h]);go_enter Tryz.func73,Tryz.ntmps73;go_wp2_with fail;go_ret;exact⟨by simp[hq],Below.refl _ _⟩
def JD (list:List (List Int)) (o:List Int):Bool:=list.any fun x=>decide (x=o)
def Ut (a b:List (List Int)):Bool:=a.all fun o=>JD b o
theorem Ql {α:Type}{f:α→Bool}{xs:List α}{k:Nat}{x:α}(h:(xs.take k).any f=false) (hx:xs[k]? = some x) (hf:f x=false):(xs.take (k+1)).any f=false:=by
 rw[List.take_add_one,hx,List.any_append,h];simp[hf]
theorem Vx {α:Type}{f:α→Bool}{xs:List α}{k:Nat}{x:α}(hx:xs[k]? = some x) (hf:f x=true):xs.any f=true:=List.any_eq_true.2 ⟨x,List.mem_of_getElem? hx,hf⟩
theorem QX {α:Type}{f:α→Bool}{xs:List α}{k:Nat}{x:α}(h:(xs.take k).all f=true) (hx:xs[k]? = some x) (hf:f x=true):(xs.take (k+1)).all f=true:=by
 rw[List.take_add_one,hx,List.all_append,h];simp[hf]
theorem Vw {α:Type}{f:α→Bool}{xs:List α}{k:Nat}{x:α}(hx:xs[k]? = some x) (hf:f x=false):xs.all f=false:=List.all_eq_false.2 ⟨x,List.mem_of_getElem? hx,by simp[hf]⟩
theorem Vc (u:Value) (x q:List Int) (b:Nat) (qa:Option Addr) (qn qc:Nat) (w:World) (hx:Z7 Zo w u x) (hc:w.cell? ⟨b,0,none⟩=some (.slice qa qn qc)) (hq:Z7 Zo w (.slice qa qn qc) q) :
 Calls Tryz.prog 72 #[u,.pointer (some ⟨b,0,none⟩)] w fun e w'=>e = .returned (.bool (decide (x=q)))∧Below w.heap.size w w':=by
 have HX:=Za hx;have HQ:=Za hq
 clear hx hq;go_enter Tryz.func72,Tryz.ntmps72;go_wp2_with (go_at_call 73;(with_reducible refine(Vu _ _ x q w HX.out HQ.out).mono ?_);rintro e w1 ⟨rfl,hb1⟩);go_ret;exact⟨rfl,hb1⟩
def Cu (R:Bool) (w:World) (e:Ending) (w':World):Prop:=(∃ k:Int,e = .returned (.int .i64 k)∧decide (0≤k)=R)∧Below w.heap.size w w'
theorem KZ (v:Value) (p:List (List Int)) (q:List Int) (b:Nat) (qa:Option Addr) (qn qc:Nat) (w:World) (hp:KA w v p) (hcl:w.cell? ⟨b,0,none⟩=some (.slice qa qn qc)) (hq:Z7 Zo w (.slice qa qn qc) q) :
 Calls Tryz.prog 98 #[v,.func (.func 72) #[] #[.pointer (some ⟨b,0,none⟩)]] w (Cu (JD p q) w):=by
 obtain⟨a,c,rfl,hc1,hc2,hc3,hp⟩:=hp.open;have HP:=Za hp;clear hp;have HQ:=Za hq;clear hq;have HN:Hid (JD p q=p.any fun x=>decide (x=q)):=Za rfl;have hbl0:=Zb hcl;have HCL:=Za hcl;clear hcl;generalize hR:JD p q=R at *;clear hR;generalize hn:p.length=n at *;have H:=Za hn;clear hn;have HPE:Hid (∀ (k:Int) (w':World),decide (0≤k)=R→Below w.heap.size w w'→Cu R w (.returned (.int .i64 k)) w'):=Za (fun k w' h1 h2=>⟨⟨k,rfl,h1⟩,h2⟩);go_enter Tryz.func98,Tryz.ntmps98;go_wp2_with fail
 go_loopw [8] (fun i wr => ∃ t:Nat,t≤n∧i = .int .i64 t∧Hid ((p.take t).any (fun x=>decide (x=q))=false)∧Below w.heap.size w wr) (fun i _=>n - (intOf i).toNat)
 case atStart=>exact⟨0,Nat.zero_le _,rfl,Za Sm,Below.refl _ _⟩
 case round =>
  obtain⟨t,ht,rfl,T,hb⟩:=hrel;by_cases hlt:t < n
  ·obtain⟨x,hxk⟩:=Zd (xs:=p) (k:=t) (by rw[H.out];exact hlt)
   obtain⟨b',o,ra,rc,rfl,hbl,i0,i1⟩:=(HP.out.below hb).row hxk;have hlt':=Zh hlt;have hcl:=(hb.cell (p:=⟨b,0,none⟩) hbl0).trans HCL.out;have HC:=Za (Vc _ x q b qa qn qc wr i1 hcl (HQ.out.below hb));have X:=Za hxk;clear hxk i1 hcl;generalize hfx:decide (x=q)=fx at *;have FX:=Za hfx;clear hfx;cases fx
   ·have T2:=Za (Ql (f:=fun x=>decide (x=q)) T.out X.out FX.out)
    go_wp2_with (go_at_call 72;(with_reducible refine HC.out.mono ?_);rintro e w2 ⟨rfl,hb2⟩);go_roundw
    case rel=>exact⟨t+1,Om,Gn,T2,hb.trans (hb2.mono hb.size)⟩
    case measure=>simp[intOf];omega
   ·have E:Hid (R=true):=Za (by rw[HN.out];exact Vx X.out FX.out)
    go_wp2_with (go_at_call 72;(with_reducible refine HC.out.mono ?_);rintro e w2 ⟨rfl,hb2⟩);go_ret;exact HPE.out _ _ (by rw[E.out];simp) (hb.trans (hb2.mono hb.size))
  ·have E:Hid (R=false):=Za (by have h:=T.out;rwa[List.take_of_length_le (by rw[H.out];omega),← HN.out]at h)
   go_wp2_with fail;go_ret;exact HPE.out _ _ (by rw[E.out];rfl) hb
theorem J9 (v:Value) (p:List (List Int)) (q:List Int) (b:Nat) (qa:Option Addr) (qn qc:Nat) (w:World) (hp:KA w v p) (hcl:w.cell? ⟨b,0,none⟩=some (.slice qa qn qc)) (hq:Z7 Zo w (.slice qa qn qc) q) :
 Calls Tryz.prog 71 #[v,.func (.func 72) #[] #[.pointer (some ⟨b,0,none⟩)]] w fun e w'=>e = .returned (.bool (JD p q))∧Below w.heap.size w w':=by
 have HC:=Za (KZ v p q b qa qn qc w hp hcl hq);clear hp hcl hq;go_enter Tryz.func71,Tryz.ntmps71;go_wp2_with fail
 (with_reducible refine HC.out.mono ?_)
 rintro e w1 ⟨⟨k,rfl,hk⟩,hb⟩;have HK:=Za hk;clear hk;go_wp2_with fail;go_ret;refine⟨?_,hb⟩;rw[← HK.out];rfl
theorem GF (v u:Value) (p q:List (List Int)) (w:World) (hp:KA w v p) (hq:KA w u q) :
 Calls Tryz.prog 38 #[v,u] w fun e w'=>e = .returned (.bool (Ut p q))∧Below w.heap.size w w':=by
 obtain⟨a,c,rfl,hc1,hc2,hc3,hp⟩:=hp.open;have HP:=Za hp;clear hp;have HQ:=Za hq;clear hq;have HN:Hid (Ut p q=p.all fun x=>JD q x):=Za rfl;generalize hR:Ut p q=R at *;clear hR;generalize hn:p.length=n at *;have H:=Za hn;clear hn;go_enter Tryz.func38,Tryz.ntmps38;go_wp2_with fail
 go_loopw [9] (fun i wr => ∃ k:Nat,k≤n∧i = .int .i64 k∧Hid ((p.take k).all (fun x=>JD q x)=true)∧Below w.heap.size w wr) (fun i _=>n - (intOf i).toNat)
 case atStart=>exact⟨0,Nat.zero_le _,rfl,Za Sm,Below.refl _ _⟩
 case round =>
  obtain⟨k,hk,rfl,T,hb⟩:=hrel;by_cases hlt:k < n
  ·have hlt1:=Zh hlt
   obtain⟨x,hxk⟩:=Zd (xs:=p) (k:=k) (by rw[H.out];exact hlt);obtain⟨b,o,ra,rc,rfl,hbl,i0,i1⟩:=(HP.out.below hb).row hxk;have X:=Za hxk;have I1:=Za i1
   clear hxk i1;have ha:=hb.alloc hb.size (.cells #[.slice ra x.length rc] 66);have ha2:=(Below.refl wr.heap.size wr).alloc (Nat.le_refl _) (.cells #[.slice ra x.length rc] 66);have HC:=Za (J9 u q x wr.heap.size ra x.length rc (wr.alloc (.cells #[.slice ra x.length rc] 66)) (HQ.out.below ha) (by simp[go_sem]) (I1.out.below ha2));generalize hz:JD q x=z at *;have Z:=Za hz;clear hz;cases z
   ·have E:Hid (R=false):=Za (by rw[HN.out];exact Vw X.out Z.out)
    go_wp2_with (go_at_call 71;(with_reducible refine HC.out.mono ?_);rintro e w1 ⟨rfl,hb1⟩);go_ret;rw[E.out];exact⟨rfl,ha.trans (hb1.mono ha.size)⟩
   ·have T2:=Za (QX T.out X.out Z.out)
    go_wp2_with (go_at_call 71;(with_reducible refine HC.out.mono ?_);rintro e w1 ⟨rfl,hb1⟩);go_roundw
    case rel=>exact⟨k+1,Om,Gn,T2,ha.trans (hb1.mono ha.size)⟩
    case measure=>simp[intOf];omega
  ·have E:Hid (R=true):=Za (by have h:=T.out;rwa[List.take_of_length_le (by rw[H.out];omega),← HN.out]at h)
   go_wp2_with fail;go_ret;rw[E.out];exact⟨rfl,hb⟩
end Go.Proofs.YtngekjpklkjnbaaGreat
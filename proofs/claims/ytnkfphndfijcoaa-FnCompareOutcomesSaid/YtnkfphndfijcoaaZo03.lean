/-
  A region that draws its order, by an invariant, where what one compiler alone keeps to does not bind: each operation is walked once. No program in sight.
-/
import Derived.Test.YtnkfphndfijcoaaZo00
import Derived.Laws.BytesArg
import Derived.Maps.AppendAt
import Derived.OrdersIn
import Derived.Orders
import Derived.Maps.OwnSet
import Derived.Maps.OwnOps
set_option maxHeartbeats 6400000
set_option maxRecDepth 100000
namespace Go.Proofs.Ytnkfphndfijcoaa
end Go.Proofs.Ytnkfphndfijcoaa
namespace Go.Proofs.Ytnkfphndfijcoaa
open Go.RowKit
end Go.Proofs.Ytnkfphndfijcoaa
namespace Go.Proofs.Ytnkfphndfijcoaa
open Go.RowKit
end Go.Proofs.Ytnkfphndfijcoaa
namespace Go.Proofs.Ytnkfphndfijcoaa
open Go.RowKit
theorem one_byte (u:World) (B:Int):(convert 22 9 (.slice (some ⟨u.heap.size,0,none⟩) 1 1)).run Try.prog (u.alloc (.cells #[.int .u8 B] 5)) = .ok (.string (strOfNums [B])) (u.alloc (.cells #[.int .u8 B] 5)):=
 run_convert_bytes_arg (u.alloc (.cells #[.int .u8 B] 5)) 22 5 Try.underlying22 Try.underlying5 u.heap.size 0 1 1 [B] rfl (fun i hi=>by
  obtain rfl:i=0:=by omega
  simp[go_sem]) 9 Try.underlying9
theorem strN_app (a b:List Int):strOfNums a++strOfNums b=strOfNums (a++b):=by
 apply ByteArray.ext;simp[strOfNums]
theorem strN_nil:strOfNums []=⟨#[]⟩:=by
 apply ByteArray.ext;simp[strOfNums]
theorem strN_empty (a:List Int):strOfNums a++⟨#[]⟩=strOfNums a:=by rw[← strN_nil,strN_app,List.append_nil]
theorem l17Dec_dig (x:Int) (w:World) (h0:0≤x) (h1:x≤9) :
 Calls Try.prog 76 #[.int .i64 x] w fun e w'=>e = .returned (.string (strOfNums [48+x]))∧Below w.heap.size w w':=by
 have kc:=one_byte;go_enter Try.func76,Try.ntmps76;go_wp2_with fail
 go_loopw [0,3] (fun q i wr=>q = .int .i64 x∧i = .string ⟨#[]⟩∧wr=w) (fun _ i _=>0)
 case atStart=>exact⟨rfl,rfl,rfl⟩
 case round =>
  obtain⟨rfl,rfl,rfl⟩:=hrel;go_wp2_with fail;go_ret;exact⟨by rw[← strN_empty];rfl,(Below.refl _ _).alloc (Nat.le_refl _) _⟩
theorem l1Letter_any (b x:Int) (w:World) (h0:0≤x) (h1:x≤9) (h2:0≤b) (h3:b≤200) :
 Calls Try.prog 75 #[.int .u8 b,.int .i64 x] w fun e w'=>e = .returned (.string (strOfNums [b+x]))∧Below w.heap.size w w':=by
 have kc:=one_byte;go_enter Try.func75,Try.ntmps75;go_wp2_with fail;go_ret;exact⟨rfl,(Below.refl _ _).alloc (Nat.le_refl _) _⟩
theorem size_strN (l:List Int):(strOfNums l).size=l.length:=by simp[strOfNums,ByteArray.size]
end Go.Proofs.Ytnkfphndfijcoaa
namespace Go.Proofs.Ytnkfphndfijcoaa
open Go.RowKit
theorem wpList_appAt {α:Type}(E:El α) {P:Program}{w:World}{ops:Array Oper}{rest:List Oper}{o:Oper}{a:Act}{Q:Exit→Act→World→Prop}
 (T:TypeId) {zv:Value}{bytes:Nat}(hinfo:(P.info? T).map (fun i=>(i.zero,i.size,i.bytes))=some (some zv,E.sz,bytes)) (hz:zv.cells.size=E.sz) {t:TypeId}(h1:P.underlying t=some (.slice T))
 (base:Nat) (v:Value) (xs:List α) (x:α) (hown:Own E T w base v xs) (hby:bytes≤256) (hn:xs.length≤68719476736) (hbase:base≤w.heap.size)
 (hg:o.guard=none) (s y:Operand) (hop:o.op = .call { callee:=.builtin .append,args:=#[s,y],argTypes:=#[t,t] })
 (hs:a.eval s=v) (b off c:Nat) (hy:a.eval y = .slice (some ⟨b,off,none⟩) 1 c) (hnews:∀ j u,(E.c x)[j]? = some u→w.cell? ⟨b,off+j,none⟩=some u)
 (hK:∀ v' w',Own E T w' base v' (xs++[x])→w.grownBy w' v.ownBlock→(v'.ownBlock=v.ownBlock∨∃ q,v'.ownBlock=some q∧w.heap.size≤q)→wpList P ops Q rest (a.put o.dst v') w') :
 wpList P ops Q (o :: rest) a w:=by
 obtain⟨it,hi,hz0,hz1,hz2⟩:=info_parts hinfo;refine wpList_append_own_at w hg s y t hop base T it zv E.sz bytes h1 hi hz0 hz1 hz2 hz E.pos v xs.length _ hs hown ⟨b,off,none⟩ 1 c (E.c x) hy (by rw[E.len,Nat.one_mul]) ?_ (E.one x) (by unfold maxLen;omega) ?_ hbase ?_
 ·intro j u hu
  have hadd:(⟨b,off,none⟩:Addr).add j=⟨b,off+j,none⟩:=by unfold Addr.add;split <;> simp_all
  rw[hadd];exact hnews j u hu
 ·have:=Nat.mul_le_mul (show xs.length+1≤68719476737 by omega) hby
  omega
 ·intro v' w' h2 h3 _ h5
  refine hK v' w' ?_ h3 ?_
  ·unfold Own
   simpa[List.flatMap_append] using h2
  ·rcases h5 with h5 | h5
   ·exact .inl h5
   ·exact .inr ⟨_,h5,Nat.le_refl _⟩
theorem wpList_appAtL {α:Type}(E:El α) {P:Program}{w:World}{ops:Array Oper}{rest:List Oper}{o:Oper}{a:Act}{Q:Exit→Act→World→Prop}
 (T:TypeId) {zv:Value}{bytes:Nat}(hinfo:(P.info? T).map (fun i=>(i.zero,i.size,i.bytes))=some (some zv,E.sz,bytes)) (hz:zv.cells.size=E.sz) {t:TypeId}(h1:P.underlying t=some (.slice T))
 (base:Nat) (v:Value) (xs:List α) (x:α) (hown:Own E T w base v xs) (hbl:(xs.length+1) * bytes≤140737488355328) (hn:xs.length≤140737488355328) (hbase:base≤w.heap.size)
 (hg:o.guard=none) (s y:Operand) (hop:o.op = .call { callee:=.builtin .append,args:=#[s,y],argTypes:=#[t,t] })
 (hs:a.eval s=v) (b off c:Nat) (hy:a.eval y = .slice (some ⟨b,off,none⟩) 1 c) (hnews:∀ j u,(E.c x)[j]? = some u→w.cell? ⟨b,off+j,none⟩=some u)
 (hK:∀ v' w',Own E T w' base v' (xs++[x])→w.grownBy w' v.ownBlock→(v'.ownBlock=v.ownBlock∨∃ q,v'.ownBlock=some q∧w.heap.size≤q)→wpList P ops Q rest (a.put o.dst v') w') :
 wpList P ops Q (o :: rest) a w:=by
 obtain⟨it,hi,hz0,hz1,hz2⟩:=info_parts hinfo;refine wpList_append_own_at w hg s y t hop base T it zv E.sz bytes h1 hi hz0 hz1 hz2 hz E.pos v xs.length _ hs hown ⟨b,off,none⟩ 1 c (E.c x) hy (by rw[E.len,Nat.one_mul]) ?_ (E.one x) (by unfold maxLen;omega) ?_ hbase ?_
 ·intro j u hu
  have hadd:(⟨b,off,none⟩:Addr).add j=⟨b,off+j,none⟩:=by unfold Addr.add;split <;> simp_all
  rw[hadd];exact hnews j u hu
 ·exact hbl
 ·intro v' w' h2 h3 _ h5
  refine hK v' w' ?_ h3 ?_
  ·unfold Own
   simpa[List.flatMap_append] using h2
  ·rcases h5 with h5 | h5
   ·exact .inl h5
   ·exact .inr ⟨_,h5,Nat.le_refl _⟩
theorem news_allocA {w:World}{l:List Value}{T:TypeId}{G:Nat}(hG:w.heap.size=G):∀ (j:Nat) (u:Value),l[j]? = some u→(w.alloc (.cells l.toArray T)).cell? ⟨G,0+j,none⟩=some u:=by
 subst hG;exact news_alloc
end Go.Proofs.Ytnkfphndfijcoaa
namespace Go.Proofs.Ytnkfphndfijcoaa
open Go.RowKit
structure MayCome (md:Region.Mode) (ops:Array Oper) (listed:Array Bool) (i:Nat) (o:Oper):Prop where
 op:ops[i]? = some o
 new:listed[i]? = some false
 after:∀ e∈o.after,Region.binds md e=true→listed[e.on]? = some true
theorem ready_spec {md:Region.Mode}{ops:Array Oper}{listed:Array Bool}(hs:listed.size=ops.size) {i:Nat}(h:i∈Region.ready md ops listed):∃ o,MayCome md ops listed i o:=by
 unfold Region.ready at h;rw[List.mem_filter]at h;obtain⟨h1,h2⟩:=h;rw[List.mem_range]at h1;rw[Bool.and_eq_true]at h2;obtain⟨h2,h3⟩:=h2;rw[Array.getElem?_eq_getElem h1]at h3;refine⟨ops[i],Array.getElem?_eq_getElem h1,?_,fun e he hb => ?_⟩
 ·rw[Array.getElem?_eq_getElem (by omega)]
  have:listed.getD i true=listed[i]'(by omega):=by simp[Array.getD,show i < listed.size by omega]
  rw[this]at h2;simpa using h2
 ·simp only[Option.map_some,Option.getD_some,Array.all_eq_true']at h3
  have h4:=h3 e he;rw[hb]at h4;simp only[Bool.not_true,Bool.false_or]at h4;by_cases hl:e.on < listed.size
  ·rw[Array.getElem?_eq_getElem hl]
   have:listed.getD e.on false=listed[e.on]:=by simp[Array.getD,hl]
   rw[this]at h4;rw[h4]
  ·have:listed.getD e.on false=false:=by simp[Array.getD,hl]
   rw[this]at h4;cases h4
def earlier (ops:Array Oper):Bool:=(List.range ops.size).all fun i=>(ops[i]?.map fun o=>o.after.all fun e=>decide (e.on < i)).getD true
theorem ready_nil {md:Region.Mode}{ops:Array Oper}{listed:Array Bool}(hs:listed.size=ops.size) (he:earlier ops=true) (h:Region.ready md ops listed=[]):∀ i,i < ops.size→listed[i]? = some true:=by
 intro i
 induction i using Nat.strongRecOn with
 | ind i ih =>
  intro hi;rw[Array.getElem?_eq_getElem (by omega)];by_cases e:listed[i]'(by omega)=true
  ·rw[e]
  ·exfalso
   have hm:i∈Region.ready md ops listed:=by
    unfold Region.ready;rw[List.mem_filter,List.mem_range];refine⟨hi,?_⟩;rw[Bool.and_eq_true];refine⟨?_,?_⟩
    ·have:listed.getD i true=listed[i]'(by omega):=by simp[Array.getD,show i < listed.size by omega]
     rw[this];simpa using e
    ·rw[Array.getElem?_eq_getElem hi]
     simp only[Option.map_some,Option.getD_some,Array.all_eq_true'];intro x hx;unfold earlier at he;rw[List.all_eq_true]at he;have h1:=he i (by simpa using hi);rw[Array.getElem?_eq_getElem hi]at h1;simp only[Option.map_some,Option.getD_some,Array.all_eq_true']at h1;have h2:=h1 x hx;simp only[decide_eq_true_eq]at h2;have h3:=ih x.on h2 (by omega);have:listed.getD x.on false=true:=by
      have hl:x.on < listed.size:=by omega
      rw[Array.getElem?_eq_getElem hl]at h3;simp only[Option.some.injEq]at h3;simp[Array.getD,hl,h3]
     rw[this,Bool.or_true]
   rw[h]at hm;cases hm
def falses (l:Array Bool):Nat:=l.toList.countP fun b => !b
theorem falses_set {l:Array Bool}{i:Nat}(h:l[i]? = some false):falses (l.setIfInBounds i true)+1=falses l:=by
 unfold falses;rw[Array.toList_setIfInBounds];have h':l.toList[i]? = some false:=by rw[Array.getElem?_toList];exact h
 obtain⟨h1,h2⟩:=List.getElem?_eq_some_iff.1 h';generalize l.toList=L at *;clear h h' l
 induction L generalizing i with
 | nil=>simp at h1
 | cons x L ih =>
  cases i with
  | zero=>simp at h2;subst h2;simp
  | succ i =>
   simp at h1 h2;have:=ih h1 h2;simp only[List.set_cons_succ,List.countP_cons];omega
theorem falses_zero {l:Array Bool}(h:falses l=0) (i:Nat):l[i]?≠some false:=by
 intro e;have:=falses_set e;omega
variable {F : Fence} {n : Nat} {P : Program} {ops : Array Oper} {Q : Exit → Act → World → Prop}
end Go.Proofs.Ytnkfphndfijcoaa
namespace Go.Proofs.Ytnkfphndfijcoaa
open Go.RowKit
section
variable {P : Program} {ops : Array Oper} {Q : Exit → Act → World → Prop}
theorem wpAny_invR {md:Region.Mode}(I:Array Bool→Act→World→Prop) (he:earlier ops=true)
 (hstep:∀ (listed:Array Bool) (a:Act) (w:World),listed.size=ops.size→I listed a w→∀ (i:Nat) (o:Oper),MayCome md ops listed i o→∀ K:Act→World→Prop,(∀ a' w',I (listed.setIfInBounds i true) a' w'→K a' w') →
  if Region.wanted o (yielded ops a.tmps)=true then Oper.wp P o a w K Q else K (a.put o.dst undef) w)
 (hend:∀ (listed:Array Bool) (a:Act) (w:World),(∀ i,i < ops.size→listed[i]? = some true)→I listed a w→Q .normal a w) :
 ∀ (fuel:Nat) (listed:Array Bool) (a:Act) (w:World),listed.size=ops.size→falses listed≤fuel→I listed a w→wpAny P md ops Q fuel listed a w:=by
 intro fuel
 induction fuel with
 | zero =>
  intro listed a w hs hf hi;have hr:Region.ready md ops listed=[]:=by
   rcases hq:Region.ready md ops listed with _ | ⟨i,rest⟩
   ·rfl
   ·exfalso
    obtain⟨o,ho⟩:=ready_spec hs (i:=i) (by rw[hq];simp);exact falses_zero (by omega) i ho.new
  exact⟨hr,hend listed a w (ready_nil hs he hr) hi⟩
 | succ fuel ih =>
  intro listed a w hs hf hi;refine⟨fun hr=>hend listed a w (ready_nil hs he hr) hi,fun i hm => ?_⟩;obtain⟨o,ho⟩:=ready_spec hs hm;have hK:=hstep listed a w hs hi i o ho (wpAny P md ops Q fuel (listed.setIfInBounds i true)) (fun a' w' h=>ih _ a' w' (by simp[hs]) (by have:=falses_set ho.new;omega) h);unfold wpOp;rw[ho.op];simp only;split
  ·rename_i hw
   rw[if_pos hw]at hK;exact .inl hK
  ·rename_i hw
   rw[if_neg hw]at hK;exact hK
end
def putAll (a:Act):List (Tmp × Value)→Act
 | []=>a
 | (d,v) :: l=>putAll (a.put (some d) v) l
def Vd (ls:Array Bool) (k:Nat) (D:List Nat) (x v:Value):Prop:=ls[k]? = some true→(∀ d∈D,ls[d]? = some true)∧x=v
theorem ls_set {ls:Array Bool}{i j:Nat}(h:i≠j):(ls.setIfInBounds i true)[j]? = ls[j]?:=by
 rw[Array.getElem?_setIfInBounds,if_neg h]
theorem ls_got {ls:Array Bool}{i:Nat}(h:i < ls.size):(ls.setIfInBounds i true)[i]? = some true:=by
 rw[Array.getElem?_setIfInBounds,if_pos rfl,if_pos h]
theorem ls_keep {ls:Array Bool}{i j:Nat}(h:ls[j]? = some true):(ls.setIfInBounds i true)[j]? = some true:=by
 by_cases e:i=j
 ·subst e;exact ls_got (Array.getElem?_eq_some_iff.1 h).1
 ·rw[ls_set e];exact h
theorem Vd.start {n k:Nat}{D:List Nat}{x v:Value}:Vd (Array.replicate n false) k D x v:=fun h=>by
 rw[Array.getElem?_replicate]at h;split at h <;> simp at h
theorem Vd.set {ls:Array Bool}{i k:Nat}{D:List Nat}{x v:Value}(h:Vd ls k D x v) (hik:i≠k):Vd (ls.setIfInBounds i true) k D x v:=fun e=>by
 rw[ls_set hik]at e;exact⟨fun d hd=>ls_keep ((h e).1 d hd),(h e).2⟩
theorem Vd.same {ls:Array Bool}{k:Nat}{D:List Nat}{v:Value}(hD:∀ d∈D,ls[d]? = some true):Vd (ls.setIfInBounds k true) k D v v:=fun _=>⟨fun d hd=>ls_keep (hD d hd),rfl⟩
theorem Vd.void {ls:Array Bool}{i k:Nat}{D:List Nat}{x v v':Value}(h:Vd ls k D x v) (hd:i∈D) (hik:i≠k) (hn:ls[i]? = some false):Vd (ls.setIfInBounds i true) k D x v':=fun e=>by
 rw[ls_set hik]at e;have:=(h e).1 i hd;rw[hn]at this;cases this
theorem Vd.get {ls:Array Bool}{k:Nat}{D:List Nat}{x v:Value}(h:Vd ls k D x v) (e:ls[k]? = some true):x=v:=(h e).2
def fl (ls:Array Bool) (k:Nat):Bool:=ls[k]? == some true
theorem fl_start {n k:Nat}:fl (Array.replicate n false) k=false:=by
 unfold fl;rw[Array.getElem?_replicate];split <;> simp
theorem fl_set {ls:Array Bool}{i k:Nat}(h:i≠k):fl (ls.setIfInBounds i true) k=fl ls k:=by unfold fl;rw[ls_set h]
theorem fl_got {ls:Array Bool}{n k:Nat}(hs:ls.size=n+1) (h:k < n):fl (ls.setIfInBounds k true) k=true:=by unfold fl;rw[ls_got (by omega)];rfl
theorem fl_no {ls:Array Bool}{k:Nat}(h:ls[k]? = some false):fl ls k=false:=by unfold fl;rw[h];rfl
theorem fl_yes {ls:Array Bool}{k:Nat}(h:ls[k]? = some true):fl ls k=true:=by unfold fl;rw[h];rfl
end Go.Proofs.Ytnkfphndfijcoaa
namespace Go.Proofs.Ytnkfphndfijcoaa
open Go.RowKit
section
variable {P : Program} {ops : Array Oper} {Q : Exit → Act → World → Prop}
def ClosedL (ops:Array Oper) (ls:Array Bool):Prop:=∀ (i:Nat) (o:Oper),ls[i]? = some true→ops[i]? = some o→∀ e∈o.after,Region.binds .any e=true→ls[e.on]? = some true
theorem ClosedL.start (ops:Array Oper) (n:Nat):ClosedL ops (Array.replicate n false):=fun i o h=>by
 rw[Array.getElem?_replicate]at h;split at h <;> simp at h
theorem ClosedL.set {ls:Array Bool}{i:Nat}{o:Oper}(h:ClosedL ops ls) (mc:MayCome .any ops ls i o):ClosedL ops (ls.setIfInBounds i true):=by
 intro j o' hj ho e he hb;have hk:∀ q,ls[q]? = some true→(ls.setIfInBounds i true)[q]? = some true:=fun q hq=>ls_keep hq;by_cases hij:i=j
 ·subst hij
  rw[mc.op]at ho;obtain rfl:=Option.some.inj ho;exact hk _ (mc.after e he hb)
 ·rw[ls_set hij]at hj
  exact hk _ (h j o' hj ho e he hb)
def waitsAll (ops:Array Oper) (n:Nat):Bool:=(List.range n).all fun j=>(List.range (n+1)).any fun i=>decide (j < i)&&(ops[i]?.map fun o=>o.after.any fun e=>e.on==j&&Region.binds .any e).getD false
theorem waits_all {n:Nat}{ls:Array Bool}{o:Oper}(hw:waitsAll ops n=true) (hc:ClosedL ops ls) (mc:MayCome .any ops ls n o):∀ j,j < n→ls[j]? = some true:=by
 have key:∀ d j,j < n→n - j≤d→ls[j]? = some true:=by
  intro d
  induction d with
  | zero=>intro j h1 h2;omega
  | succ d ih =>
   intro j hj hd;unfold waitsAll at hw;rw[List.all_eq_true]at hw;have h1:=hw j (List.mem_range.2 hj);rw[List.any_eq_true]at h1;obtain⟨i,hi,h1⟩:=h1;rw[List.mem_range]at hi;rw[Bool.and_eq_true,decide_eq_true_eq]at h1;obtain⟨hji,h1⟩:=h1;cases ho:ops[i]? with
   | none=>rw[ho]at h1;simp at h1
   | some oi =>
    rw[ho]at h1;simp only[Option.map_some,Option.getD_some,Array.any_eq_true']at h1;obtain⟨e,he1,he2⟩:=h1;rw[Bool.and_eq_true]at he2;have h4:e.on=j:=by simpa using he2.1
    by_cases hin:i=n
    ·subst hin
     rw[mc.op]at ho;obtain rfl:=Option.some.inj ho;have h3:=mc.after e he1 he2.2;rw[h4]at h3;exact h3
    ·have h3:=hc i oi (ih i (by omega) (by omega)) ho e he1 he2.2
     rw[h4]at h3;exact h3
 exact fun j hj=>key (n - j) j hj (Nat.le_refl _)
theorem wp_region_inv3 {id n:Nat}{a:Act}{w:World}(hm:P.follows .mixedOrders=true) (hn:ops.size=n+1) (he:earlier ops=true) (hlw:waitsAll ops n=true) (I:Act→Array Bool→Act→World→Prop)
 (h0:I a (Array.replicate (n+1) false) a w.drew)
 (hstep:∀ (ls:Array Bool) (a':Act) (w':World),ls.size=n+1→ls[n]? = some false→I a ls a' w'→∀ (i:Nat) (o:Oper),i < n→MayCome .any ops ls i o→∀ K:Act→World→Prop,(∀ a'' w'',I a (ls.setIfInBounds i true) a'' w''→K a'' w'') →
  if Region.wanted o (yielded ops a'.tmps)=true then Oper.wp P o a' w' K Q else K (a'.put o.dst undef) w')
 (hlast:∀ (ls:Array Bool) (a':Act) (w':World),(∀ i,i < n→ls[i]? = some true)→I a ls a' w'→∀ o,ops[n]? = some o →
  if Region.wanted o (yielded ops a'.tmps)=true then Oper.wp P o a' w' (fun a'' w''=>Q .normal a'' w'') Q else Q .normal (a'.put o.dst undef) w') :
 (Code.region id ops true).wp P Q a w:=by
 refine wp_region_any hm (wpAny_invR (fun ls a' w'=>ClosedL ops ls∧((ls[n]? = some false∧I a ls a' w')∨(ls[n]? = some true∧(∀ i,i < n→ls[i]? = some true)∧Q .normal a' w'))) he ?_ ?_ ops.size _ a _ (by simp) (by unfold falses;refine Nat.le_trans List.countP_le_length ?_;simp) ⟨ClosedL.start _ _,.inl ⟨by simp[hn],by rw[hn];exact h0⟩⟩)
 ·intro ls a' w' hs hI i o mc K hK
  obtain⟨hcl,hI⟩:=hI;have hcl2:=hcl.set mc;rcases hI with⟨hf,hI⟩ | ⟨ht,hal,hQ⟩
  ·by_cases hi:i=n
   ·subst hi
    have hall:∀ j,j < i→ls[j]? = some true:=waits_all hlw hcl mc;have h:=hlast ls a' w' hall hI o mc.op;have hset:(ls.setIfInBounds i true)[i]? = some true:=by
     rw[Array.getElem?_setIfInBounds];simp[hs,hn]
    have hall2:∀ j,j < i→(ls.setIfInBounds i true)[j]? = some true:=fun j hj=>by
     rw[Array.getElem?_setIfInBounds,if_neg (by omega)];exact hall j hj
    split
    ·rename_i hw
     rw[if_pos hw]at h;exact Oper.wp_mono (fun a2 w2 h2=>hK a2 w2 ⟨hcl2,.inr ⟨hset,hall2,h2⟩⟩) h
    ·rename_i hw
     rw[if_neg hw]at h;exact hK _ _ ⟨hcl2,.inr ⟨hset,hall2,h⟩⟩
   ·have hlt:i < n:=by
     have:=(Array.getElem?_eq_some_iff.1 mc.op).1;omega
    have h:=hstep ls a' w' (by rw[hs,hn]) hf hI i o hlt mc K (fun a2 w2 h2=>hK a2 w2 ⟨hcl2,.inl ⟨by rw[Array.getElem?_setIfInBounds];simp[hi];exact hf,h2⟩⟩);exact h
  ·exfalso
   by_cases hi:i=n
   ·subst hi;rw[mc.new]at ht;cases ht
   ·have hlt:i < n:=by
     have:=(Array.getElem?_eq_some_iff.1 mc.op).1;omega
    have:=hal i hlt;rw[mc.new]at this;cases this
 ·intro ls a' w' hall hI
  rcases hI.2 with⟨hf,-⟩ | ⟨-,-,hQ⟩
  ·have:=hall n (by omega)
   rw[hf]at this;cases this
  ·exact hQ
end
end Go.Proofs.Ytnkfphndfijcoaa
namespace Go.Proofs.Ytnkfphndfijcoaa
open Go.RowKit Go.MapKept
section
variable {P : Program} {w : World} {b : Nat} {ks : List ByteArray} {t k e : TypeId}
end
end Go.Proofs.Ytnkfphndfijcoaa
namespace Go.Proofs.Ytnkfphndfijcoaa
def readsR (r:List Ins) (g:Int):Bool:=r.any fun x=>isRop x.op&&x.reg==g
def writesP (p:List (List Ins)) (l:Int):Bool:=p.any fun row=>row.any fun x=>isWop x.op&&x.loc==l
end Go.Proofs.Ytnkfphndfijcoaa
namespace Go.Proofs.Ytnkfphndfijcoaa
open Go.RowKit
def l3L:List Int→List Int→Int
 | x :: xs,y :: ys=>if x < y then -1 else if y < x then 1 else l3L xs ys
 | _,_=>0
theorem l3L_drop {a b:List Int}{k:Nat}{x y:Int}(hx:a[k]? = some x) (hy:b[k]? = some y):l3L (a.drop k) (b.drop k)=if x < y then -1 else if y < x then 1 else l3L (a.drop (k+1)) (b.drop (k+1)):=by
 obtain⟨hk,rfl⟩:=List.getElem?_eq_some_iff.1 hx;obtain⟨hk',rfl⟩:=List.getElem?_eq_some_iff.1 hy;rw[List.drop_eq_getElem_cons hk,List.drop_eq_getElem_cons hk',l3L]
theorem l3L_zero {a b:List Int}(h:a.length=b.length):l3L a b=0↔a=b:=by
 induction a generalizing b with
 | nil=>cases b <;> simp_all [l3L]
 | cons x a ih =>
  cases b with
  | nil=>simp at h
  | cons y b =>
   simp only[l3L];have:=ih (b:=b) (by simpa using h);split
   ·constructor
    ·intro h;omega
    ·intro h;simp at h;omega
   ·split
    ·constructor
     ·intro h;omega
     ·intro h;simp at h;omega
    ·rw[this]
     constructor
     ·intro h;rw[h,show x=y by omega]
     ·intro h;simp at h;exact h.2
theorem l3L_end {a b:List Int}{k:Nat}(h:a.length≤k∨b.length≤k):l3L (a.drop k) (b.drop k)=0:=by
 rcases h with h | h
 ·rw[List.drop_of_length_le h];simp[l3L]
 ·rw[List.drop_of_length_le h];cases a.drop k <;> simp[l3L]
theorem l3Less_any (v v':Value) (xs ys:List Int) (w:World) (hx:Rep IntE w v xs) (hy:Rep IntE w v' ys) :
 Calls Try.prog 56 #[v,v'] w fun e w'=>e = .returned (.int .i64 (l3L xs ys))∧Below w.heap.size w w':=by
 obtain⟨a,c,rfl,hc1,hc2,hc3,hx⟩:=hx.open;obtain⟨a',c',rfl,hc1',hc2',hc3',hy⟩:=hy.open;have HX:=hide hx;clear hx;have HY:=hide hy;clear hy;have HS:Hid (l3L (xs.drop 0) (ys.drop 0)=l3L xs ys):=hide (by simp);generalize hR:l3L xs ys=R at *;clear hR;generalize hn:xs.length=n at *;generalize hn':ys.length=n' at *;have H:=hide hn;clear hn;have H':=hide hn';clear hn';go_enter Try.func56,Try.ntmps56;go_wp2_with fail
 go_loopw [5] (fun v wr => ∃ k:Nat,k≤n∧k≤n'∧v = .int .i64 k∧Hid (l3L (xs.drop k) (ys.drop k)=R)∧Below w.heap.size w wr) (fun v _=>n - (intOf v).toNat)
 case atStart=>exact⟨0,Nat.zero_le _,Nat.zero_le _,rfl,HS,Below.refl _ _⟩
 case round =>
  obtain⟨k,hk,hk',rfl,T,hb⟩:=hrel;by_cases hlt:k < n
  ·have hlt1:=nat_of_lt hlt
   by_cases hlt2:k < n'
   ·have hlt3:=nat_of_lt hlt2
    obtain⟨x,hxk⟩:=get_of_lt (xs:=xs) (k:=k) (by rw[H.out];exact hlt);obtain⟨y,hyk⟩:=get_of_lt (xs:=ys) (k:=k) (by rw[H'.out];exact hlt2);obtain⟨b,o,rfl,hbl,i0⟩:=(HX.out.below hb).int hxk;obtain⟨b',o',rfl,hbl',j0⟩:=(HY.out.below hb).int hyk;have ST:=hide (l3L_drop hxk hyk);clear hxk hyk;by_cases hxy:x < y
    ·have E:Hid (R = -1):=hide (by rw[← T.out,ST.out,if_pos hxy])
     go_wp2_with fail;refine wp_region_bw (by kernel_rfl) (by kernel_rfl) ?_
     repeat (go_big_quiet_step (fail))
     refine wpQuiet_nil ?_;intro w1 hw1;obtain⟨c1,-⟩:=bcell hw1;go_wp2_with fail;go_ret;rw[E.out];exact⟨rfl,hb.trans (hw1.mono hb.size)⟩
    ·have E0:Hid ((if y < x then 1 else l3L (xs.drop (k+1)) (ys.drop (k+1)))=R):=hide (by rw[← T.out,ST.out,if_neg hxy])
     have hxy':y≤x:=Int.not_lt.1 hxy;clear hxy;go_wp2_with fail;refine wp_region_bw (by kernel_rfl) (by kernel_rfl) ?_
     repeat (go_big_quiet_step (fail))
     refine wpQuiet_nil ?_;intro w1 hw1;obtain⟨c1,-⟩:=bcell hw1;have hbl1:b < w1.heap.size:=by have:=hw1.size;omega
     have hbl1':b' < w1.heap.size:=by have:=hw1.size;omega
     have i1:=(c1 b (o+k) hbl).trans i0;have j1:=(c1 b' (o'+k) hbl').trans j0;by_cases hyx:y < x
     ·have E:Hid (R=1):=hide (by rw[← E0.out,if_pos hyx])
      go_wp2_with fail;refine wp_region_bw (by kernel_rfl) (by kernel_rfl) ?_
      repeat (go_big_quiet_step (fail))
      refine wpQuiet_nil ?_;intro w2 hw2;go_wp2_with fail;go_ret;rw[E.out];exact⟨rfl,(hb.trans (hw1.mono hb.size)).trans (hw2.mono (by have:=hb.size;have:=hw1.size;omega))⟩
     ·have E:Hid (l3L (xs.drop (k+1)) (ys.drop (k+1))=R):=hide (by rw[← E0.out,if_neg hyx])
      have hyx':x≤y:=Int.not_lt.1 hyx;clear hyx;go_wp2_with fail;refine wp_region_bw (by kernel_rfl) (by kernel_rfl) ?_
      repeat (go_big_quiet_step (fail))
      refine wpQuiet_nil ?_;intro w2 hw2;go_wp2_with fail;go_roundw
      case rel=>exact⟨k+1,by omega,by omega,by go_num,E,(hb.trans (hw1.mono hb.size)).trans (hw2.mono (by have:=hb.size;have:=hw1.size;omega))⟩
      case measure=>simp[intOf];omega
   ·have hlt3:decide ((k:Int) < n')=false:=by simp;omega
    have E:Hid (R=0):=hide (by rw[← T.out];exact l3L_end (.inr (by rw[H'.out];omega)));go_wp2_with fail;go_ret;rw[E.out];exact⟨rfl,hb⟩
  ·have hlt3:decide ((k:Int) < n)=false:=by simp;omega
   have E:Hid (R=0):=hide (by rw[← T.out];exact l3L_end (.inl (by rw[H.out];omega)));go_wp2_with fail;go_ret;rw[E.out];exact⟨rfl,hb⟩
end Go.Proofs.Ytnkfphndfijcoaa
namespace Go.Proofs.Ytnkfphndfijcoaa
open Go.RowKit
def earlierM (md:Region.Mode) (ops:Array Oper):Bool:=(List.range ops.size).all fun i=>(ops[i]?.map fun o=>o.after.all fun e => !(Region.binds md e)||decide (e.on < i)).getD true
theorem ready_nilM {md:Region.Mode}{ops:Array Oper}{listed:Array Bool}(hs:listed.size=ops.size) (he:earlierM md ops=true) (h:Region.ready md ops listed=[]):∀ i,i < ops.size→listed[i]? = some true:=by
 intro i
 induction i using Nat.strongRecOn with
 | ind i ih =>
  intro hi;rw[Array.getElem?_eq_getElem (by omega)];by_cases e:listed[i]'(by omega)=true
  ·rw[e]
  ·exfalso
   have hm:i∈Region.ready md ops listed:=by
    unfold Region.ready;rw[List.mem_filter,List.mem_range];refine⟨hi,?_⟩;rw[Bool.and_eq_true];refine⟨?_,?_⟩
    ·have:listed.getD i true=listed[i]'(by omega):=by simp[Array.getD,show i < listed.size by omega]
     rw[this];simpa using e
    ·rw[Array.getElem?_eq_getElem hi]
     simp only[Option.map_some,Option.getD_some,Array.all_eq_true'];intro x hx;unfold earlierM at he;rw[List.all_eq_true]at he;have h1:=he i (by simpa using hi);rw[Array.getElem?_eq_getElem hi]at h1;simp only[Option.map_some,Option.getD_some,Array.all_eq_true']at h1;have h2:=h1 x hx;cases hbd:Region.binds md x with
     | false=>simp
     | true =>
     rw[hbd]at h2;simp only[Bool.not_true,Bool.false_or,decide_eq_true_eq]at h2;have h3:=ih x.on h2 (by omega);have:listed.getD x.on false=true:=by
      have hl:x.on < listed.size:=by omega
      rw[Array.getElem?_eq_getElem hl]at h3;simp only[Option.some.injEq]at h3;simp[Array.getD,hl,h3]
     rw[this,Bool.or_true]
   rw[h]at hm;cases hm
section
variable {P : Program} {ops : Array Oper} {Q : Exit → Act → World → Prop}
theorem wpAny_invM {md:Region.Mode}(I:Array Bool→Act→World→Prop) (he:earlierM md ops=true)
 (hstep:∀ (listed:Array Bool) (a:Act) (w:World),listed.size=ops.size→I listed a w→∀ (i:Nat) (o:Oper),MayCome md ops listed i o→∀ K:Act→World→Prop,(∀ a' w',I (listed.setIfInBounds i true) a' w'→K a' w') →
  if Region.wanted o (yielded ops a.tmps)=true then Oper.wp P o a w K Q else K (a.put o.dst undef) w)
 (hend:∀ (listed:Array Bool) (a:Act) (w:World),(∀ i,i < ops.size→listed[i]? = some true)→I listed a w→Q .normal a w) :
 ∀ (fuel:Nat) (listed:Array Bool) (a:Act) (w:World),listed.size=ops.size→falses listed≤fuel→I listed a w→wpAny P md ops Q fuel listed a w:=by
 intro fuel
 induction fuel with
 | zero =>
  intro listed a w hs hf hi;have hr:Region.ready md ops listed=[]:=by
   rcases hq:Region.ready md ops listed with _ | ⟨i,rest⟩
   ·rfl
   ·exfalso
    obtain⟨o,ho⟩:=ready_spec hs (i:=i) (by rw[hq];simp);exact falses_zero (by omega) i ho.new
  exact⟨hr,hend listed a w (ready_nilM hs he hr) hi⟩
 | succ fuel ih =>
  intro listed a w hs hf hi;refine⟨fun hr=>hend listed a w (ready_nilM hs he hr) hi,fun i hm => ?_⟩;obtain⟨o,ho⟩:=ready_spec hs hm;have hK:=hstep listed a w hs hi i o ho (wpAny P md ops Q fuel (listed.setIfInBounds i true)) (fun a' w' h=>ih _ a' w' (by simp[hs]) (by have:=falses_set ho.new;omega) h);unfold wpOp;rw[ho.op];simp only;split
  ·rename_i hw
   rw[if_pos hw]at hK;exact .inl hK
  ·rename_i hw
   rw[if_neg hw]at hK;exact hK
theorem wp_region_inv4 {id n:Nat}{a:Act}{w:World}(hm:P.follows .mixedOrders=true) (hn:ops.size=n+1) (he:earlierM .any ops=true) (hlw:waitsAll ops n=true) (I:Act→Array Bool→Act→World→Prop)
 (h0:I a (Array.replicate (n+1) false) a w.drew)
 (hstep:∀ (ls:Array Bool) (a':Act) (w':World),ls.size=n+1→ls[n]? = some false→I a ls a' w'→∀ (i:Nat) (o:Oper),i < n→MayCome .any ops ls i o→∀ K:Act→World→Prop,(∀ a'' w'',I a (ls.setIfInBounds i true) a'' w''→K a'' w'') →
  if Region.wanted o (yielded ops a'.tmps)=true then Oper.wp P o a' w' K Q else K (a'.put o.dst undef) w')
 (hlast:∀ (ls:Array Bool) (a':Act) (w':World),(∀ i,i < n→ls[i]? = some true)→I a ls a' w'→∀ o,ops[n]? = some o →
  if Region.wanted o (yielded ops a'.tmps)=true then Oper.wp P o a' w' (fun a'' w''=>Q .normal a'' w'') Q else Q .normal (a'.put o.dst undef) w') :
 (Code.region id ops true).wp P Q a w:=by
 refine wp_region_any hm (wpAny_invM (fun ls a' w'=>ClosedL ops ls∧((ls[n]? = some false∧I a ls a' w')∨(ls[n]? = some true∧(∀ i,i < n→ls[i]? = some true)∧Q .normal a' w'))) he ?_ ?_ ops.size _ a _ (by simp) (by unfold falses;refine Nat.le_trans List.countP_le_length ?_;simp) ⟨ClosedL.start _ _,.inl ⟨by simp[hn],by rw[hn];exact h0⟩⟩)
 ·intro ls a' w' hs hI i o mc K hK
  obtain⟨hcl,hI⟩:=hI;have hcl2:=hcl.set mc;rcases hI with⟨hf,hI⟩ | ⟨ht,hal,hQ⟩
  ·by_cases hi:i=n
   ·subst hi
    have hall:∀ j,j < i→ls[j]? = some true:=waits_all hlw hcl mc;have h:=hlast ls a' w' hall hI o mc.op;have hset:(ls.setIfInBounds i true)[i]? = some true:=by
     rw[Array.getElem?_setIfInBounds];simp[hs,hn]
    have hall2:∀ j,j < i→(ls.setIfInBounds i true)[j]? = some true:=fun j hj=>by
     rw[Array.getElem?_setIfInBounds,if_neg (by omega)];exact hall j hj
    split
    ·rename_i hw
     rw[if_pos hw]at h;exact Oper.wp_mono (fun a2 w2 h2=>hK a2 w2 ⟨hcl2,.inr ⟨hset,hall2,h2⟩⟩) h
    ·rename_i hw
     rw[if_neg hw]at h;exact hK _ _ ⟨hcl2,.inr ⟨hset,hall2,h⟩⟩
   ·have hlt:i < n:=by
     have:=(Array.getElem?_eq_some_iff.1 mc.op).1;omega
    have h:=hstep ls a' w' (by rw[hs,hn]) hf hI i o hlt mc K (fun a2 w2 h2=>hK a2 w2 ⟨hcl2,.inl ⟨by rw[Array.getElem?_setIfInBounds];simp[hi];exact hf,h2⟩⟩);exact h
  ·exfalso
   by_cases hi:i=n
   ·subst hi;rw[mc.new]at ht;cases ht
   ·have hlt:i < n:=by
     have:=(Array.getElem?_eq_some_iff.1 mc.op).1;omega
    have:=hal i hlt;rw[mc.new]at this;cases this
 ·intro ls a' w' hall hI
  rcases hI.2 with⟨hf,-⟩ | ⟨-,-,hQ⟩
  ·have:=hall n (by omega)
   rw[hf]at this;cases this
  ·exact hQ
end
end Go.Proofs.Ytnkfphndfijcoaa
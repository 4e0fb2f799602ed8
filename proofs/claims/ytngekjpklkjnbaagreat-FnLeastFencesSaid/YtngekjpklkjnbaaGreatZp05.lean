/-
  How many states a search can see; all that a search knows between two states and while it looks at one. No condition.
-/
import Derived.Test.YtngekjpklkjnbaaGreatZp00
import Derived.OrdersIn
set_option maxHeartbeats 6400000
set_option maxRecDepth 100000
namespace Go.Proofs.YtngekjpklkjnbaaGreat
open Go.RowKit
theorem E8 (u:World) (B:Int):(convert 39 9 (.slice (some ⟨u.heap.size,0,none⟩) 1 1)).run Tryz.prog (u.alloc (.cells #[.int .u8 B] 5)) = .ok (.string (strOfNums [B])) (u.alloc (.cells #[.int .u8 B] 5)):=
 run_convert_bytes_arg (u.alloc (.cells #[.int .u8 B] 5)) 39 5 Tryz.underlying39 Tryz.underlying5 u.heap.size 0 1 1 [B] rfl (fun i hi=>by
  obtain rfl:i=0:=Om;simp[go_sem]) 9 Tryz.underlying9
theorem MN (a b:List Int):strOfNums a++strOfNums b=strOfNums (a++b):=by
 apply ByteArray.ext;simp[strOfNums]
theorem MO:strOfNums []=⟨#[]⟩:=by
 apply ByteArray.ext;simp[strOfNums]
theorem He (a:List Int):strOfNums a++⟨#[]⟩=strOfNums a:=by rw[← MO,MN,List.append_nil]
theorem FC (x:Int) (w:World) (h0:0≤x) (h1:x≤9) :
 Calls Tryz.prog 157 #[.int .i64 x] w fun e w'=>e = .returned (.string (strOfNums [48+x]))∧Below w.heap.size w w':=by
 have kc:=E8;go_enter Tryz.func157,Tryz.ntmps157;go_wp2_with fail
 go_loopw [0,3] (fun q i wr=>q = .int .i64 x∧i = .string ⟨#[]⟩∧wr=w) (fun _ i _=>0)
 case atStart=>exact⟨rfl,rfl,rfl⟩
 case round =>
  obtain⟨rfl,rfl,rfl⟩:=hrel;go_wp2_with fail;go_ret;exact⟨by rw[← He];rfl,(Below.refl _ _).alloc (Nat.le_refl _) _⟩
theorem VZ (b x:Int) (w:World) (h0:0≤x) (h1:x≤9) (h2:0≤b) (h3:b≤200) :
 Calls Tryz.prog 156 #[.int .u8 b,.int .i64 x] w fun e w'=>e = .returned (.string (strOfNums [b+x]))∧Below w.heap.size w w':=by
 have kc:=E8;go_enter Tryz.func156,Tryz.ntmps156;go_wp2_with fail;go_ret;exact⟨rfl,(Below.refl _ _).alloc (Nat.le_refl _) _⟩
theorem KR (l:List Int):(strOfNums l).size=l.length:=by simp[strOfNums,ByteArray.size]
theorem Z8 {α:Type}(E:El α) {P:Program}{w:World}{ops:Array Oper}{rest:List Oper}{o:Oper}{a:Act}{Q:Exit→Act→World→Prop}
 (T:TypeId) {zv:Value}{bytes:Nat}(hinfo:(P.info? T).map (fun i=>(i.zero,i.size,i.bytes))=some (some zv,E.sz,bytes)) (hz:zv.cells.size=E.sz) {t:TypeId}(h1:P.underlying t=some (.slice T))
 (base:Nat) (v:Value) (xs:List α) (x:α) (hown:Own E T w base v xs) (hby:bytes≤256) (hn:xs.length≤68719476736) (hbase:base≤w.heap.size)
 (hg:o.guard=none) (s y:Operand) (hop:o.op = .call { callee:=.builtin .append,args:=#[s,y],argTypes:=#[t,t] })
 (hs:a.eval s=v) (b off c:Nat) (hy:a.eval y = .slice (some ⟨b,off,none⟩) 1 c) (hnews:∀ j u,(E.c x)[j]? = some u→w.cell? ⟨b,off+j,none⟩=some u)
 (hK:∀ v' w',Own E T w' base v' (xs++[x])→w.grownBy w' v.ownBlock→(v'.ownBlock=v.ownBlock∨∃ q,v'.ownBlock=some q∧w.heap.size≤q)→wpList P ops Q rest (a.put o.dst v') w') :
 wpList P ops Q (o :: rest) a w:=by
 obtain⟨it,hi,hz0,hz1,hz2⟩:=info_parts hinfo;refine wpList_append_own_at w hg s y t hop base T it zv E.sz bytes h1 hi hz0 hz1 hz2 hz E.pos v xs.length _ hs hown ⟨b,off,none⟩ 1 c (E.c x) hy (by rw[E.len,Nat.one_mul]) ?_ (E.one x) (by unfold maxLen;omega) ?_ hbase ?_
 ·intro j u hu
  have hadd:(⟨b,off,none⟩:Addr).add j=⟨b,off+j,none⟩:=by unfold Addr.add;split <;> simp_all
  rw[hadd];exact hnews j u hu
 ·have:=Nat.mul_le_mul (show xs.length+1≤68719476737 by omega) hby
  omega
 ·intro v' w' h2 h3 _ h5
  refine hK v' w' ?_ h3 ?_
  ·unfold Own
   simpa[List.flatMap_append] using h2
  ·rcases h5 with h5 | h5
   ·exact .inl h5
   ·exact .inr ⟨_,h5,Nat.le_refl _⟩
theorem AF {α:Type}(E:El α) {P:Program}{w:World}{ops:Array Oper}{rest:List Oper}{o:Oper}{a:Act}{Q:Exit→Act→World→Prop}
 (T:TypeId) {zv:Value}{bytes:Nat}(hinfo:(P.info? T).map (fun i=>(i.zero,i.size,i.bytes))=some (some zv,E.sz,bytes)) (hz:zv.cells.size=E.sz) {t:TypeId}(h1:P.underlying t=some (.slice T))
 (base:Nat) (v:Value) (xs:List α) (x:α) (hown:Own E T w base v xs) (hbl:(xs.length+1) * bytes≤140737488355328) (hn:xs.length≤140737488355328) (hbase:base≤w.heap.size)
 (hg:o.guard=none) (s y:Operand) (hop:o.op = .call { callee:=.builtin .append,args:=#[s,y],argTypes:=#[t,t] })
 (hs:a.eval s=v) (b off c:Nat) (hy:a.eval y = .slice (some ⟨b,off,none⟩) 1 c) (hnews:∀ j u,(E.c x)[j]? = some u→w.cell? ⟨b,off+j,none⟩=some u)
 (hK:∀ v' w',Own E T w' base v' (xs++[x])→w.grownBy w' v.ownBlock→(v'.ownBlock=v.ownBlock∨∃ q,v'.ownBlock=some q∧w.heap.size≤q)→wpList P ops Q rest (a.put o.dst v') w') :
 wpList P ops Q (o :: rest) a w:=by
 obtain⟨it,hi,hz0,hz1,hz2⟩:=info_parts hinfo;refine wpList_append_own_at w hg s y t hop base T it zv E.sz bytes h1 hi hz0 hz1 hz2 hz E.pos v xs.length _ hs hown ⟨b,off,none⟩ 1 c (E.c x) hy (by rw[E.len,Nat.one_mul]) ?_ (E.one x) (by unfold maxLen;omega) ?_ hbase ?_
 ·intro j u hu
  have hadd:(⟨b,off,none⟩:Addr).add j=⟨b,off+j,none⟩:=by unfold Addr.add;split <;> simp_all
  rw[hadd];exact hnews j u hu
 ·exact hbl
 ·intro v' w' h2 h3 _ h5
  refine hK v' w' ?_ h3 ?_
  ·unfold Own
   simpa[List.flatMap_append] using h2
  ·rcases h5 with h5 | h5
   ·exact .inl h5
   ·exact .inr ⟨_,h5,Nat.le_refl _⟩
theorem UY {w:World}{l:List Value}{T:TypeId}{G:Nat}(hG:w.heap.size=G):∀ (j:Nat) (u:Value),l[j]? = some u→(w.alloc (.cells l.toArray T)).cell? ⟨G,0+j,none⟩=some u:=by
 subst hG;exact Zk
structure JO (md:Region.Mode) (ops:Array Oper) (listed:Array Bool) (i:Nat) (o:Oper):Prop where
 op:ops[i]? = some o
 new:listed[i]? = some false
 after:∀ e∈o.after,Region.binds md e=true→listed[e.on]? = some true
theorem JZ {md:Region.Mode}{ops:Array Oper}{listed:Array Bool}(hs:listed.size=ops.size) {i:Nat}(h:i∈Region.ready md ops listed):∃ o,JO md ops listed i o:=by
 unfold Region.ready at h;rw[List.mem_filter]at h;obtain⟨h1,h2⟩:=h;rw[List.mem_range]at h1;rw[Bool.and_eq_true]at h2;obtain⟨h2,h3⟩:=h2;rw[Array.getElem?_eq_getElem h1]at h3;refine⟨ops[i],Array.getElem?_eq_getElem h1,?_,fun e he hb => ?_⟩
 ·rw[Array.getElem?_eq_getElem Om]
  have:listed.getD i true=listed[i]'Om:=by simp[Array.getD,show i < listed.size by omega]
  rw[this]at h2;simpa using h2
 ·simp only[Option.map_some,Option.getD_some,Array.all_eq_true']at h3
  have h4:=h3 e he;rw[hb]at h4;simp only[Bool.not_true,Bool.false_or]at h4;by_cases hl:e.on < listed.size
  ·rw[Array.getElem?_eq_getElem hl]
   have:listed.getD e.on false=listed[e.on]:=by simp[Array.getD,hl]
   rw[this]at h4;rw[h4]
  ·have:listed.getD e.on false=false:=by simp[Array.getD,hl]
   rw[this]at h4;cases h4
def KI (ops:Array Oper):Bool:=(List.range ops.size).all fun i=>(ops[i]?.map fun o=>o.after.all fun e=>decide (e.on < i)).getD true
theorem KN {md:Region.Mode}{ops:Array Oper}{listed:Array Bool}(hs:listed.size=ops.size) (he:KI ops=true) (h:Region.ready md ops listed=[]):∀ i,i < ops.size→listed[i]? = some true:=by
 intro i
 induction i using Nat.strongRecOn with
 | ind i ih =>
  intro hi;rw[Array.getElem?_eq_getElem Om];by_cases e:listed[i]'Om=true
  ·rw[e]
  ·exfalso
   have hm:i∈Region.ready md ops listed:=by
    unfold Region.ready;rw[List.mem_filter,List.mem_range];refine⟨hi,?_⟩;rw[Bool.and_eq_true];refine⟨?_,?_⟩
    ·have:listed.getD i true=listed[i]'Om:=by simp[Array.getD,show i < listed.size by omega]
     rw[this];simpa using e
    ·rw[Array.getElem?_eq_getElem hi]
     simp only[Option.map_some,Option.getD_some,Array.all_eq_true'];intro x hx;unfold KI at he;rw[List.all_eq_true]at he;have h1:=he i (by simpa using hi);rw[Array.getElem?_eq_getElem hi]at h1;simp only[Option.map_some,Option.getD_some,Array.all_eq_true']at h1;have h2:=h1 x hx;simp only[decide_eq_true_eq]at h2;have h3:=ih x.on h2 Om;have:listed.getD x.on false=true:=by
      have hl:x.on < listed.size:=Om;rw[Array.getElem?_eq_getElem hl]at h3;simp only[Option.some.injEq]at h3;simp[Array.getD,hl,h3]
     rw[this,Bool.or_true]
   rw[h]at hm;cases hm
def Kq (l:Array Bool):Nat:=l.toList.countP fun b => !b
theorem VA {l:Array Bool}{i:Nat}(h:l[i]? = some false):Kq (l.setIfInBounds i true)+1=Kq l:=by
 unfold Kq;rw[Array.toList_setIfInBounds];have h':l.toList[i]? = some false:=by rw[Array.getElem?_toList];exact h
 obtain⟨h1,h2⟩:=List.getElem?_eq_some_iff.1 h';generalize l.toList=L at *;clear h h' l
 induction L generalizing i with
 | nil=>simp at h1
 | cons x L ih =>
  cases i with
  | zero=>simp at h2;subst h2;simp
  | succ i =>
   simp at h1 h2;have:=ih h1 h2;simp only[List.set_cons_succ,List.countP_cons];omega
theorem UO {l:Array Bool}(h:Kq l=0) (i:Nat):l[i]?≠some false:=by
 intro e;have:=VA e;omega
variable {F : Fence} {n : Nat} {P : Program} {ops : Array Oper} {Q : Exit → Act → World → Prop}
theorem EW {md:Region.Mode}(I:Array Bool→Act→World→Prop) (he:KI ops=true)
 (hstep:∀ (listed:Array Bool) (a:Act) (w:World),listed.size=ops.size→I listed a w→∀ (i:Nat) (o:Oper),JO md ops listed i o→∀ K:Act→World→Prop,(∀ a' w',I (listed.setIfInBounds i true) a' w'→K a' w') →
  if Region.wanted o (yielded ops a.tmps)=true then Oper.wpIn F n P o a w K Q else (∀ f,o.about P w a.eval=some f→F.fn f)∧K (a.put o.dst undef) w)
 (hend:∀ (listed:Array Bool) (a:Act) (w:World),(∀ i,i < ops.size→listed[i]? = some true)→I listed a w→Q .normal a w) :
 ∀ (fuel:Nat) (listed:Array Bool) (a:Act) (w:World),listed.size=ops.size→Kq listed≤fuel→I listed a w→wpAnyIn F n P md ops Q fuel listed a w:=by
 intro fuel
 induction fuel with
 | zero =>
  intro listed a w hs hf hi;have hr:Region.ready md ops listed=[]:=by
   rcases hq:Region.ready md ops listed with _ | ⟨i,rest⟩
   ·rfl
   ·exfalso
    obtain⟨o,ho⟩:=JZ hs (i:=i) (by rw[hq];simp);exact UO Om i ho.new
  exact⟨hr,hend listed a w (KN hs he hr) hi⟩
 | succ fuel ih =>
  intro listed a w hs hf hi;refine⟨fun hr=>hend listed a w (KN hs he hr) hi,fun i hm => ?_⟩;obtain⟨o,ho⟩:=JZ hs hm;have hK:=hstep listed a w hs hi i o ho (wpAnyIn F n P md ops Q fuel (listed.setIfInBounds i true)) (fun a' w' h=>ih _ a' w' (by simp[hs]) (by have:=VA ho.new;omega) h);unfold wpOpIn;rw[ho.op];simp only;exact hK
theorem Gt {id:Nat}{a:Act}{w:World}(hm:P.follows .mixedOrders=true) (I:Array Bool→Act→World→Prop) (he:KI ops=true)
 (h0:I (Array.replicate ops.size false) a w.drew)
 (hstep:∀ (listed:Array Bool) (a:Act) (w:World),listed.size=ops.size→I listed a w→∀ (i:Nat) (o:Oper),JO .any ops listed i o→∀ K:Act→World→Prop,(∀ a' w',I (listed.setIfInBounds i true) a' w'→K a' w') →
  if Region.wanted o (yielded ops a.tmps)=true then Oper.wpIn F n P o a w K Q else (∀ f,o.about P w a.eval=some f→F.fn f)∧K (a.put o.dst undef) w)
 (hend:∀ (listed:Array Bool) (a:Act) (w:World),(∀ i,i < ops.size→listed[i]? = some true)→I listed a w→Q .normal a w) :
 (Code.region id ops true).wpIn F n P Q a w:=
 wpIn_region_any hm (EW I he hstep hend ops.size _ a _ Sm (by unfold Kq;refine Nat.le_trans List.countP_le_length ?_;simp) h0)
section
variable {P : Program} {ops : Array Oper} {Q : Exit → Act → World → Prop}
theorem Hi {md:Region.Mode}(I:Array Bool→Act→World→Prop) (he:KI ops=true)
 (hstep:∀ (listed:Array Bool) (a:Act) (w:World),listed.size=ops.size→I listed a w→∀ (i:Nat) (o:Oper),JO md ops listed i o→∀ K:Act→World→Prop,(∀ a' w',I (listed.setIfInBounds i true) a' w'→K a' w') →
  if Region.wanted o (yielded ops a.tmps)=true then Oper.wp P o a w K Q else K (a.put o.dst undef) w)
 (hend:∀ (listed:Array Bool) (a:Act) (w:World),(∀ i,i < ops.size→listed[i]? = some true)→I listed a w→Q .normal a w) :
 ∀ (fuel:Nat) (listed:Array Bool) (a:Act) (w:World),listed.size=ops.size→Kq listed≤fuel→I listed a w→wpAny P md ops Q fuel listed a w:=by
 intro fuel
 induction fuel with
 | zero =>
  intro listed a w hs hf hi;have hr:Region.ready md ops listed=[]:=by
   rcases hq:Region.ready md ops listed with _ | ⟨i,rest⟩
   ·rfl
   ·exfalso
    obtain⟨o,ho⟩:=JZ hs (i:=i) (by rw[hq];simp);exact UO Om i ho.new
  exact⟨hr,hend listed a w (KN hs he hr) hi⟩
 | succ fuel ih =>
  intro listed a w hs hf hi;refine⟨fun hr=>hend listed a w (KN hs he hr) hi,fun i hm => ?_⟩;obtain⟨o,ho⟩:=JZ hs hm;have hK:=hstep listed a w hs hi i o ho (wpAny P md ops Q fuel (listed.setIfInBounds i true)) (fun a' w' h=>ih _ a' w' (by simp[hs]) (by have:=VA ho.new;omega) h);unfold wpOp;rw[ho.op];simp only;split
  ·rename_i hw
   rw[if_pos hw]at hK;exact .inl hK
  ·rename_i hw
   rw[if_neg hw]at hK;exact hK
end
def Zl (a:Act):List (Tmp × Value)→Act
 | []=>a
 | (d,v) :: l=>Zl (a.put (some d) v) l
def Vd (ls:Array Bool) (k:Nat) (D:List Nat) (x v:Value):Prop:=ls[k]? = some true→(∀ d∈D,ls[d]? = some true)∧x=v
theorem RN {ls:Array Bool}{i j:Nat}(h:i≠j):(ls.setIfInBounds i true)[j]? = ls[j]?:=by
 rw[Array.getElem?_setIfInBounds,if_neg h]
theorem Ml {ls:Array Bool}{i:Nat}(h:i < ls.size):(ls.setIfInBounds i true)[i]? = some true:=by
 rw[Array.getElem?_setIfInBounds,if_pos rfl,if_pos h]
theorem Cv {ls:Array Bool}{i j:Nat}(h:ls[j]? = some true):(ls.setIfInBounds i true)[j]? = some true:=by
 by_cases e:i=j
 ·subst e;exact Ml (Array.getElem?_eq_some_iff.1 h).1
 ·rw[RN e];exact h
theorem Vd.start {n k:Nat}{D:List Nat}{x v:Value}:Vd (Array.replicate n false) k D x v:=fun h=>by
 rw[Array.getElem?_replicate]at h;split at h <;> simp at h
theorem Vd.set {ls:Array Bool}{i k:Nat}{D:List Nat}{x v:Value}(h:Vd ls k D x v) (hik:i≠k):Vd (ls.setIfInBounds i true) k D x v:=fun e=>by
 rw[RN hik]at e;exact⟨fun d hd=>Cv ((h e).1 d hd),(h e).2⟩
theorem Vd.same {ls:Array Bool}{k:Nat}{D:List Nat}{v:Value}(hD:∀ d∈D,ls[d]? = some true):Vd (ls.setIfInBounds k true) k D v v:=fun _=>⟨fun d hd=>Cv (hD d hd),rfl⟩
theorem Vd.void {ls:Array Bool}{i k:Nat}{D:List Nat}{x v v':Value}(h:Vd ls k D x v) (hd:i∈D) (hik:i≠k) (hn:ls[i]? = some false):Vd (ls.setIfInBounds i true) k D x v':=fun e=>by
 rw[RN hik]at e;have:=(h e).1 i hd;rw[hn]at this;cases this
theorem Vd.get {ls:Array Bool}{k:Nat}{D:List Nat}{x v:Value}(h:Vd ls k D x v) (e:ls[k]? = some true):x=v:=(h e).2
def fl (ls:Array Bool) (k:Nat):Bool:=ls[k]? == some true
theorem Yn {n k:Nat}:fl (Array.replicate n false) k=false:=by
 unfold fl;rw[Array.getElem?_replicate];split <;> simp
theorem OJ {ls:Array Bool}{i k:Nat}(h:i≠k):fl (ls.setIfInBounds i true) k=fl ls k:=by unfold fl;rw[RN h]
theorem ZM {ls:Array Bool}{n k:Nat}(hs:ls.size=n+1) (h:k < n):fl (ls.setIfInBounds k true) k=true:=by unfold fl;rw[Ml Om];rfl
theorem Yd {ls:Array Bool}{k:Nat}(h:ls[k]? = some false):fl ls k=false:=by unfold fl;rw[h];rfl
theorem Z5 {ls:Array Bool}{k:Nat}(h:ls[k]? = some true):fl ls k=true:=by unfold fl;rw[h];rfl
theorem Vd.s {ls:Array Bool} {i k:Nat} {D:List Nat} {x v:Value} (h:Vd ls k D x v) (hik:i≠k:=by decide):Vd (ls.setIfInBounds i true) k D x v:=h.set hik
theorem pA {a b:Act} (h:a=b:=by simp only [Zl,Act.put,List.setIfInBounds_toArray,List.set_cons_succ,List.set_cons_zero]):a=b:=h
theorem fs {ls:Array Bool} (i k:Nat) (h:i≠k:=by decide):fl (ls.setIfInBounds i true) k=fl ls k:=OJ h
theorem Vd.ga {ls:Array Bool} {k n:Nat} {D:List Nat} {x v:Value} (h:Vd ls k D x v) (hall:∀ j,j<n→ls[j]?=some true) (hk:k<n:=by decide):v=x:=(h.get (hall k hk)).symm
theorem Ve {ls:Array Bool} {k:Nat} {D:List Nat} {v:Value} (hD:∀ d∈D,ls[d]?=some true:=by simp):Vd (ls.setIfInBounds k true) k D v v:=Vd.same hD
theorem Vs {n k:Nat} {D:List Nat} {x v:Value}:Vd (Array.replicate n false) k D x v:=Vd.start
end Go.Proofs.YtngekjpklkjnbaaGreat
namespace Go.Proofs.YtngekjpklkjnbaaGreat
section
variable {S K : Type} (start : S) (next : S → Nat → Option S) (key : S → K)
inductive Zt:S→Prop
 | start:Zt start
 | step {s t:S}{i:Nat}(h:Zt s) (ht:next s i=some t):Zt t
structure Dn (work seen:List S):Prop where
 st:start∈seen
 sub:∀ s∈work,s∈seen
 rc:∀ s∈seen,Zt start next s
 cl:∀ s∈seen,s∉work→∀ i t,next s i=some t→t∈seen
structure Um (s:S) (k:Nat) (work seen:List S):Prop where
 st:start∈seen
 ms:s∈seen
 sub:∀ s∈work,s∈seen
 rc:∀ s∈seen,Zt start next s
 cl:∀ u∈seen,u≠s→u∉work→∀ i t,next u i=some t→t∈seen
 nx:∀ (i:Nat) (t:S),i < k→next s i=some t→t∈seen
variable {start next key}
theorem Dn.init:Dn start next [start] [start]:=
 ⟨Sm,fun s h=>h,fun s h=>by simp at h;subst h;exact .start,fun s h h'=>absurd h h'⟩
theorem Dn.enter {work work' seen:List S}{s:S}(h:Dn start next work seen) (hw:∀ u,u∈work↔u=s∨u∈work'):Um start next s 0 work' seen:=
 ⟨h.st,h.sub s ((hw s).2 (.inl rfl)),fun u hu=>h.sub u ((hw u).2 (.inr hu)),h.rc,fun u hu hne hn=>h.cl u hu (fun e=>((hw u).1 e).elim hne hn),fun i _ hi=>absurd hi (Nat.not_lt_zero i)⟩
theorem Um.skip {work seen:List S}{s:S}{k:Nat}(h:Um start next s k work seen) (ht:next s k=none):Um start next s (k+1) work seen:=
 ⟨h.st,h.ms,h.sub,h.rc,h.cl,fun i x hi hx=>by
  rcases Nat.lt_or_ge i k with hik | hik
  ·exact h.nx i x hik hx
  ·obtain rfl:i=k:=Om
   rw[ht]at hx;cases hx⟩
theorem Um.Mq {work seen:List S}{s t u:S}{k:Nat}(h:Um start next s k work seen) (ht:next s k=some t) (hu:u∈seen) (he:key u=key t)
 (hk:∀ a b,Zt start next a→Zt start next b→key a=key b→a=b):Um start next s (k+1) work seen:=by
 have hr:Zt start next t:=.step (h.rc s h.ms) ht;have e:u=t:=hk u t (h.rc u hu) hr he;refine⟨h.st,h.ms,h.sub,h.rc,h.cl,fun i x hi hx => ?_⟩;rcases Nat.lt_or_ge i k with hik | hik
 ·exact h.nx i x hik hx
 ·obtain rfl:i=k:=Om
  rw[ht]at hx;simp only[Option.some.injEq]at hx;subst hx;exact e ▸ hu
theorem Um.new {work work' seen seen':List S}{s t:S}{k:Nat}(h:Um start next s k work seen) (ht:next s k=some t) (hw:∀ u,u∈work'↔u=t∨u∈work) (hs:∀ u,u∈seen'↔u=t∨u∈seen):Um start next s (k+1) work' seen':=by
 have hr:Zt start next t:=.step (h.rc s h.ms) ht;have up:∀ u,u∈seen→u∈seen':=fun u hu=>(hs u).2 (.inr hu);refine⟨up _ h.st,up _ h.ms,fun u hu => ?_,fun u hu => ?_,fun u hu hne hn j x hx => ?_,fun i x hi hx => ?_⟩
 ·rcases (hw u).1 hu with e | e
  ·exact(hs u).2 (.inl e)
  ·exact up u (h.sub u e)
 ·rcases (hs u).1 hu with e | e
  ·exact e ▸ hr
  ·exact h.rc u e
 ·rcases (hs u).1 hu with e | e
  ·exact absurd ((hw u).2 (.inl e)) hn
  ·exact up x (h.cl u e hne (fun q=>hn ((hw u).2 (.inr q))) j x hx)
 ·rcases Nat.lt_or_ge i k with hik | hik
  ·exact up x (h.nx i x hik hx)
  ·obtain rfl:i=k:=Om
   rw[ht]at hx;simp only[Option.some.injEq]at hx;exact(hs x).2 (.inl hx.symm)
theorem Um.leave {work seen:List S}{s:S}{k:Nat}(h:Um start next s k work seen) (hk:∀ i t,next s i=some t→i < k):Dn start next work seen:=
 ⟨h.st,h.sub,h.rc,fun u hu hn i t ht=>by
  by_cases e:u=s
  ·subst e
   exact h.nx i t (hk i t ht) ht
  ·exact h.cl u hu e hn i t ht⟩
theorem Dn.all {seen:List S}(h:Dn start next [] seen) (s:S):s∈seen↔Zt start next s:=by
 refine⟨h.rc s,fun hr => ?_⟩
 induction hr with
 | start=>exact h.st
 | step _ ht ih=>exact h.cl _ ih Sm _ _ ht
def Vb (B:Nat) (rank:S→Nat) (work:List S):Nat:=(work.map fun s=>B ^ rank s).sum
theorem MY (B:Nat) (rank:S→Nat) (s:S) (work:List S):Vb B rank (s :: work)=B ^ rank s+Vb B rank work:=by simp[Vb]
theorem Ao (B:Nat) (rank:S→Nat) (xs ys:List S):Vb B rank (xs++ys)=Vb B rank xs+Vb B rank ys:=by simp[Vb,List.sum_append]
theorem MZ {B:Nat}{rank:S→Nat}{s:S}{new:List S}(hB:new.length < B) (hr:∀ t∈new,rank t < rank s):Vb B rank new < B ^ rank s:=by
 have h1:∀ (l:List S),(∀ t∈l,rank t < rank s)→Vb B rank l≤l.length * B ^ (rank s - 1):=by
  intro l
  induction l with
  | nil=>intro _;simp[Vb]
  | cons t l ih =>
   intro hl;have h2:=ih fun u hu=>hl u (by simp[hu]);have h3:B ^ rank t≤B ^ (rank s - 1):=Nat.pow_le_pow_right Om (by have:=hl t Sm;omega);rw[MY,List.length_cons,Nat.add_mul,Nat.one_mul];omega
 cases new with
 | nil=>simp only[Vb,List.map_nil,List.sum_nil];exact Nat.pow_pos Om
 | cons t l =>
  have h2:=hr t Sm;have h3:=h1 (t :: l) hr;have h4:B ^ rank s=B * B ^ (rank s - 1):=by
   conv=>lhs;rw[show rank s=(rank s - 1)+1 by omega,Nat.pow_succ]
   exact Nat.mul_comm _ _
  have h5:0 < B ^ (rank s - 1):=Nat.pow_pos Om;have h6:(t :: l).length * B ^ (rank s - 1) < B * B ^ (rank s - 1):=Nat.mul_lt_mul_of_pos_right hB h5;omega
end
def Y5:List Int→List Int→Int
 | x :: xs,y :: ys=>if x < y then -1 else if y < x then 1 else Y5 xs ys
 | _,_=>0
theorem JU (a b:List Int):Y5 a b = -1∨Y5 a b=0∨Y5 a b=1:=by
 induction a generalizing b with
 | nil=>simp[Y5]
 | cons x a ih =>
  cases b with
  | nil=>simp[Y5]
  | cons y b =>
   simp only[Y5];split
   ·simp
   ·split
    ·simp
    ·exact ih b
theorem Cu {a b:List Int}(h:a.length=b.length):Y5 a b=0↔a=b:=by
 induction a generalizing b with
 | nil=>cases b <;> simp_all [Y5]
 | cons x a ih =>
  cases b with
  | nil=>simp at h
  | cons y b =>
   have:=ih (b:=b) (by simpa using h);simp only[Y5,List.cons.injEq];split
   ·constructor
    ·intro h;omega
    ·intro h;omega
   ·split
    ·constructor
     ·intro h;omega
     ·intro h;omega
    ·rw[this]
     constructor
     ·intro h;exact⟨Om,h⟩
     ·intro h;exact h.2
theorem Ux (a b:List Int):Y5 b a = - Y5 a b:=by
 induction a generalizing b with
 | nil=>cases b <;> simp[Y5]
 | cons x a ih =>
  cases b with
  | nil=>simp[Y5]
  | cons y b =>
   simp only[Y5];have:=ih b
   repeat' split
   all_goals omega
theorem RL {n:Nat}{a b c:List Int}(ha:a.length=n) (hb:b.length=n) (hc:c.length=n) (h1:Y5 a b = -1) (h2:Y5 b c = -1):Y5 a c = -1:=by
 induction a generalizing b c n with
 | nil=>simp[Y5]at h1
 | cons x a ih =>
  match b,c,hb,hc,h1,h2 with
  | [],_,_,_,h1,_=>simp[Y5]at h1
  | _ :: _,[],_,_,_,h2=>simp[Y5]at h2
  | y :: b,z :: c,hb,hc,h1,h2 =>
   simp only[List.length_cons]at ha hb hc;simp only[Y5]at h1 h2 ⊢;have hh:=fun p q=>ih (n:=n - 1) (b:=b) (c:=c) Om Om Om p q;by_cases e1:x < y
   ·by_cases e2:y < z
    ·rw[if_pos Om]
    ·rw[if_neg e2]at h2
     by_cases e3:z < y
     ·rw[if_pos e3]at h2;omega
     ·rw[if_pos Om]
   ·rw[if_neg e1]at h1
    by_cases e4:y < x
    ·rw[if_pos e4]at h1;omega
    ·rw[if_neg e4]at h1
     by_cases e2:y < z
     ·rw[if_pos Om]
     ·rw[if_neg e2]at h2
      by_cases e3:z < y
      ·rw[if_pos e3]at h2;omega
      ·rw[if_neg e3]at h2
       rw[if_neg Om,if_neg Om];exact hh h1 h2
structure Xr (n:Nat) (l:List (List Int)):Prop where
 len:∀ o∈l,o.length=n
 pw:l.Pairwise fun a b=>Y5 a b = -1
def Xv (o:List Int):List (List Int)→List (List Int)
 | []=>[o]
 | x :: xs=>if Y5 x o = -1 then x :: Xv o xs else if Y5 x o=0 then x :: xs else o :: x :: xs
theorem Uf {n:Nat}{o:List Int}(ho:o.length=n):∀ {l:List (List Int)},(∀ x∈l,x.length=n)→∀ y,y∈Xv o l↔y=o∨y∈l:=by
 intro l
 induction l with
 | nil=>intro _ y;simp[Xv]
 | cons x xs ih =>
  intro hl y;have h1:=ih (fun z hz=>hl z (by simp[hz])) y;unfold Xv;split
  ·rw[List.mem_cons,h1,List.mem_cons]
   constructor
   ·rintro (h | h | h)
    ·exact .inr (.inl h)
    ·exact .inl h
    ·exact .inr (.inr h)
   ·rintro (h | h | h)
    ·exact .inr (.inl h)
    ·exact .inl h
    ·exact .inr (.inr h)
  ·split
   ·rename_i h
    have e:x=o:=(Cu (by rw[hl x Sm,ho])).1 h;subst e;simp
   ·simp[List.mem_cons]
theorem H7 {n:Nat}{o:List Int}(ho:o.length=n):∀ {l:List (List Int)},Xr n l→Xr n (Xv o l):=by
 intro l
 induction l with
 | nil=>intro _;exact⟨fun x hx=>by simp[Xv]at hx;subst hx;exact ho,by simp[Xv]⟩
 | cons x xs ih =>
  intro hl;obtain⟨px,pxs⟩:=List.pairwise_cons.1 hl.pw;have hxs:Xr n xs:=⟨fun z hz=>hl.len z (by simp[hz]),pxs⟩
  have hx:=hl.len x Sm;refine⟨fun y hy => ?_,?_⟩
  ·rcases (Uf ho hl.len y).1 hy with e | e
   ·rw[e];exact ho
   ·exact hl.len y e
  ·unfold Xv
   split
   ·rename_i h
    refine List.pairwise_cons.2 ⟨fun y hy => ?_,(ih hxs).pw⟩;rcases (Uf ho hxs.len y).1 hy with e | e
    ·rw[e];exact h
    ·exact px y e
   ·rename_i h1
    split
    ·exact hl.pw
    ·rename_i h2
     have h3:=JU x o;have h4:=Ux x o;have h5:Y5 o x = -1:=Om;refine List.pairwise_cons.2 ⟨fun y hy => ?_,hl.pw⟩;rcases List.mem_cons.1 hy with e | e
     ·rw[e];exact h5
     ·exact RL ho hx (hxs.len y e) h5 (px y e)
end Go.Proofs.YtngekjpklkjnbaaGreat
namespace Go.Proofs.YtngekjpklkjnbaaGreat
open Go.RowKit
section
variable {P : Program} {ops : Array Oper} {Q : Exit → Act → World → Prop}
def Jg (ops:Array Oper) (ls:Array Bool):Prop:=∀ (i:Nat) (o:Oper),ls[i]? = some true→ops[i]? = some o→∀ e∈o.after,Region.binds .any e=true→ls[e.on]? = some true
theorem Jg.start (ops:Array Oper) (n:Nat):Jg ops (Array.replicate n false):=fun i o h=>by
 rw[Array.getElem?_replicate]at h;split at h <;> simp at h
theorem Jg.set {ls:Array Bool}{i:Nat}{o:Oper}(h:Jg ops ls) (mc:JO .any ops ls i o):Jg ops (ls.setIfInBounds i true):=by
 intro j o' hj ho e he hb;have hk:∀ q,ls[q]? = some true→(ls.setIfInBounds i true)[q]? = some true:=fun q hq=>Cv hq;by_cases hij:i=j
 ·subst hij
  rw[mc.op]at ho;obtain rfl:=Option.some.inj ho;exact hk _ (mc.after e he hb)
 ·rw[RN hij]at hj
  exact hk _ (h j o' hj ho e he hb)
def Ap (ops:Array Oper) (n:Nat):Bool:=(List.range n).all fun j=>(List.range (n+1)).any fun i=>decide (j < i)&&(ops[i]?.map fun o=>o.after.any fun e=>e.on==j&&Region.binds .any e).getD false
theorem Lg {n:Nat}{ls:Array Bool}{o:Oper}(hw:Ap ops n=true) (hc:Jg ops ls) (mc:JO .any ops ls n o):∀ j,j < n→ls[j]? = some true:=by
 have key:∀ d j,j < n→n - j≤d→ls[j]? = some true:=by
  intro d
  induction d with
  | zero=>intro j h1 h2;omega
  | succ d ih =>
   intro j hj hd;unfold Ap at hw;rw[List.all_eq_true]at hw;have h1:=hw j (List.mem_range.2 hj);rw[List.any_eq_true]at h1;obtain⟨i,hi,h1⟩:=h1;rw[List.mem_range]at hi;rw[Bool.and_eq_true,decide_eq_true_eq]at h1;obtain⟨hji,h1⟩:=h1;cases ho:ops[i]? with
   | none=>rw[ho]at h1;simp at h1
   | some oi =>
    rw[ho]at h1;simp only[Option.map_some,Option.getD_some,Array.any_eq_true']at h1;obtain⟨e,he1,he2⟩:=h1;rw[Bool.and_eq_true]at he2;have h4:e.on=j:=by simpa using he2.1
    by_cases hin:i=n
    ·subst hin
     rw[mc.op]at ho;obtain rfl:=Option.some.inj ho;have h3:=mc.after e he1 he2.2;rw[h4]at h3;exact h3
    ·have h3:=hc i oi (ih i Om Om) ho e he1 he2.2
     rw[h4]at h3;exact h3
 exact fun j hj=>key (n - j) j hj (Nat.le_refl _)
theorem Zm {id n:Nat}{a:Act}{w:World}(hm:P.follows .mixedOrders=true) (hn:ops.size=n+1) (he:KI ops=true) (hlw:Ap ops n=true) (I:Act→Array Bool→Act→World→Prop)
 (h0:I a (Array.replicate (n+1) false) a w.drew)
 (hstep:∀ (ls:Array Bool) (a':Act) (w':World),ls.size=n+1→ls[n]? = some false→I a ls a' w'→∀ (i:Nat) (o:Oper),i < n→JO .any ops ls i o→∀ K:Act→World→Prop,(∀ a'' w'',I a (ls.setIfInBounds i true) a'' w''→K a'' w'') →
  if Region.wanted o (yielded ops a'.tmps)=true then Oper.wp P o a' w' K Q else K (a'.put o.dst undef) w')
 (hlast:∀ (ls:Array Bool) (a':Act) (w':World),(∀ i,i < n→ls[i]? = some true)→I a ls a' w'→∀ o,ops[n]? = some o →
  if Region.wanted o (yielded ops a'.tmps)=true then Oper.wp P o a' w' (fun a'' w''=>Q .normal a'' w'') Q else Q .normal (a'.put o.dst undef) w') :
 (Code.region id ops true).wp P Q a w:=by
 refine wp_region_any hm (Hi (fun ls a' w'=>Jg ops ls∧((ls[n]? = some false∧I a ls a' w')∨(ls[n]? = some true∧(∀ i,i < n→ls[i]? = some true)∧Q .normal a' w'))) he ?_ ?_ ops.size _ a _ Sm (by unfold Kq;refine Nat.le_trans List.countP_le_length ?_;simp) ⟨Jg.start _ _,.inl ⟨by simp[hn],by rw[hn];exact h0⟩⟩)
 ·intro ls a' w' hs hI i o mc K hK
  obtain⟨hcl,hI⟩:=hI;have hcl2:=hcl.set mc;rcases hI with⟨hf,hI⟩ | ⟨ht,hal,hQ⟩
  ·by_cases hi:i=n
   ·subst hi
    have hall:∀ j,j < i→ls[j]? = some true:=Lg hlw hcl mc;have h:=hlast ls a' w' hall hI o mc.op;have hset:(ls.setIfInBounds i true)[i]? = some true:=by
     rw[Array.getElem?_setIfInBounds];simp[hs,hn]
    have hall2:∀ j,j < i→(ls.setIfInBounds i true)[j]? = some true:=fun j hj=>by
     rw[Array.getElem?_setIfInBounds,if_neg Om];exact hall j hj
    split
    ·rename_i hw
     rw[if_pos hw]at h;exact Oper.wp_mono (fun a2 w2 h2=>hK a2 w2 ⟨hcl2,.inr ⟨hset,hall2,h2⟩⟩) h
    ·rename_i hw
     rw[if_neg hw]at h;exact hK _ _ ⟨hcl2,.inr ⟨hset,hall2,h⟩⟩
   ·have hlt:i < n:=by
     have:=(Array.getElem?_eq_some_iff.1 mc.op).1;omega
    have h:=hstep ls a' w' (by rw[hs,hn]) hf hI i o hlt mc K (fun a2 w2 h2=>hK a2 w2 ⟨hcl2,.inl ⟨by rw[Array.getElem?_setIfInBounds];simp[hi];exact hf,h2⟩⟩);exact h
  ·exfalso
   by_cases hi:i=n
   ·subst hi;rw[mc.new]at ht;cases ht
   ·have hlt:i < n:=by
     have:=(Array.getElem?_eq_some_iff.1 mc.op).1;omega
    have:=hal i hlt;rw[mc.new]at this;cases this
 ·intro ls a' w' hall hI
  rcases hI.2 with⟨hf,-⟩ | ⟨-,-,hQ⟩
  ·have:=hall n Om
   rw[hf]at this;cases this
  ·exact hQ
end
end Go.Proofs.YtngekjpklkjnbaaGreat
namespace Go.Proofs.YtngekjpklkjnbaaGreat
section
variable {S : Type} (mv : S → List Nat) (af : S → Nat → S)
def Kf (s:S) (j:Nat):Option S:=((mv s)[j]?).map (af s)
theorem Qv {s t:S}{j:Nat}:Kf mv af s j=some t↔∃ m,(mv s)[j]? = some m∧af s m=t:=by
 unfold Kf;cases (mv s)[j]? with
 | none=>simp
 | some m=>simp
variable (done : S → Bool) (out : S → List Int) (C R : Nat) (rank : S → Nat) (start : S)
structure PI (work taken:List S) (outs:List (List Int)):Prop where
 nd:(taken++work).Nodup
 rc:∀ s∈taken++work,Zt start (Kf mv af) s
 st:start∈taken++work
 cl:∀ s∈taken,∀ j t,Kf mv af s j=some t→t∈taken++work
 om:∀ o,o∈outs↔∃ s∈taken,done s=true∧out s=o
 ol:outs.length=(taken.filter done).length
 sk:∀ i s,work[i]? = some s→i+1≤C * (R+1 - rank s)
 rk:∀ s∈work,rank s≤R
structure As (s:S) (j:Nat) (init new taken:List S) (outs:List (List Int)):Prop where
 nd:((s :: taken)++(init++new)).Nodup
 rc:∀ u∈(s :: taken)++(init++new),Zt start (Kf mv af) u
 st:start∈(s :: taken)++(init++new)
 cl:∀ u∈taken,∀ i t,Kf mv af u i=some t→t∈(s :: taken)++(init++new)
 nx:∀ i t,i < j→Kf mv af s i=some t→t∈(s :: taken)++(init++new)
 om:∀ o,o∈outs↔∃ u∈s :: taken,done u=true∧out u=o
 ol:outs.length=((s :: taken).filter done).length
 sk:∀ i u,(init++new)[i]? = some u→i+1≤C * (R+1 - rank u)
 rk:∀ u∈init++new,rank u≤R
 rs:rank s≤R
 si:init.length+1≤C * (R+1 - rank s)
 nl:new.length≤j
 nr:∀ t∈new,rank t < rank s
variable {mv af done out C R rank start}
theorem PI.init (hC:1≤C) (hR:rank start≤R):PI mv af done out C R rank start [start] [] []:=by
 refine⟨Sm,fun s hs => ?_,Sm,fun s hs=>by simp at hs,fun o=>by simp,rfl,fun i s hi => ?_,fun s hs => ?_⟩
 ·simp at hs;subst hs;exact .start
 ·cases i with
  | zero =>
   simp at hi;subst hi;have:1≤R+1 - rank start:=Om;exact Nat.mul_le_mul hC this
  | succ i=>simp at hi
 ·simp at hs;subst hs;exact hR
theorem Ub {s u:S}{init taken:List S}:u∈taken++(init++[s])↔u∈(s :: taken)++(init++[]):=by
 simp only[List.mem_append,List.mem_cons,List.append_nil,List.not_mem_nil,or_false];constructor
 ·rintro (h | h | h)
  ·exact .inl (.inr h)
  ·exact .inr h
  ·exact .inl (.inl h)
 ·rintro ((h | h) | h)
  ·exact .inr (.inr h)
  ·exact .inl h
  ·exact .inr (.inl h)
theorem PI.EB {init taken:List S}{s:S}{outs outs':List (List Int)}(h:PI mv af done out C R rank start (init++[s]) taken outs)
 (hm:∀ o,o∈outs'↔∃ u∈s :: taken,done u=true∧out u=o) (hl:outs'.length=((s :: taken).filter done).length):As mv af done out C R rank start s 0 init [] taken outs':=by
 refine⟨?_,fun u hu=>h.rc u (Ub.2 hu),Ub.1 h.st,fun u hu i t ht=>Ub.1 (h.cl u hu i t ht),fun i t hi=>absurd hi (Nat.not_lt_zero i),hm,hl,fun i u hi => ?_,fun u hu => ?_,h.rk s Sm,?_,Sm,fun t ht=>by simp at ht⟩
 ·have hp:(taken++(init++[s])).Perm ((s :: taken)++(init++[])):=by
   rw[List.append_nil];have h1:(init++[s]).Perm (s :: init):=List.perm_append_comm;have h2:(taken++(s :: init)).Perm (s :: (taken++init)):=List.perm_middle;exact(h1.append_left taken).trans h2
  exact hp.nodup_iff.1 h.nd
 ·rw[List.append_nil]at hi
  have hlt:=(List.getElem?_eq_some_iff.1 hi).1;exact h.sk i u (by rw[List.getElem?_append_left hlt];exact hi)
 ·exact h.rk u (by simp at hu ⊢;exact .inl hu)
 ·exact h.sk init.length s Sm
theorem PI.Hz {init taken:List S}{s:S}{outs:List (List Int)}(h:PI mv af done out C R rank start (init++[s]) taken outs) (hd:done s=true):As mv af done out C R rank start s 0 init [] taken (outs++[out s]):=by
 refine h.EB (fun o => ?_) ?_
 ·rw[List.mem_append,h.om]
  constructor
  ·rintro (⟨u,h1,h2,h3⟩ | e)
   ·exact⟨u,by simp[h1],h2,h3⟩
   ·exact⟨s,Sm,hd,(List.mem_singleton.1 e).symm⟩
  ·rintro ⟨u,h1,h2,h3⟩
   rcases List.mem_cons.1 h1 with e | e
   ·exact .inr (by simp[← h3,e])
   ·exact .inl ⟨u,e,h2,h3⟩
 ·rw[List.length_append,h.ol,List.filter_cons,if_pos hd];simp
theorem PI.Mt {init taken:List S}{s:S}{outs:List (List Int)}(h:PI mv af done out C R rank start (init++[s]) taken outs) (hd:done s=false):As mv af done out C R rank start s 0 init [] taken outs:=by
 refine h.EB (fun o => ?_) ?_
 ·rw[h.om]
  constructor
  ·rintro ⟨u,h1,h2,h3⟩
   exact⟨u,by simp[h1],h2,h3⟩
  ·rintro ⟨u,h1,h2,h3⟩
   rcases List.mem_cons.1 h1 with e | e
   ·subst e;rw[hd]at h2;cases h2
   ·exact⟨u,e,h2,h3⟩
 ·rw[h.ol,List.filter_cons,if_neg (by simp[hd])]
theorem As.Of {s:S}{j:Nat}{init new taken:List S}{outs:List (List Int)}(_:As mv af done out C R rank start s j init new taken outs):s∈(s :: taken)++(init++new):=by simp
theorem As.Mq {s t u:S}{j:Nat}{init new taken:List S}{outs:List (List Int)}{K:Type}{key:S→K}(h:As mv af done out C R rank start s j init new taken outs) (ht:Kf mv af s j=some t)
 (hu:u∈(s :: taken)++(init++new)) (he:key u=key t) (hk:∀ a b,Zt start (Kf mv af) a→Zt start (Kf mv af) b→key a=key b→a=b):As mv af done out C R rank start s (j+1) init new taken outs:=by
 have hr:Zt start (Kf mv af) t:=.step (h.rc s h.Of) ht;have e:u=t:=hk u t (h.rc u hu) hr he;subst e;refine⟨h.nd,h.rc,h.st,h.cl,fun i x hi hx => ?_,h.om,h.ol,h.sk,h.rk,h.rs,h.si,by have:=h.nl;omega,h.nr⟩;rcases Nat.lt_or_ge i j with hij | hij
 ·exact h.nx i x hij hx
 ·obtain rfl:i=j:=Om
  rw[ht]at hx;simp only[Option.some.injEq]at hx;exact hx ▸ hu
theorem As.new {s t:S}{j:Nat}{init new taken:List S}{outs:List (List Int)}(h:As mv af done out C R rank start s j init new taken outs) (ht:Kf mv af s j=some t)
 (hn:t∉(s :: taken)++(init++new)) (hj:j < C) (hr:rank t < rank s):As mv af done out C R rank start s (j+1) init (new++[t]) taken outs:=by
 have hreach:Zt start (Kf mv af) t:=.step (h.rc s h.Of) ht;have up:∀ u,u∈(s :: taken)++(init++new)→u∈(s :: taken)++(init++(new++[t])):=fun u hu=>by
  simp only[List.mem_append,List.mem_cons]at hu ⊢;rcases hu with hu | hu | hu
  ·exact .inl hu
  ·exact .inr (.inl hu)
  ·exact .inr (.inr (.inl hu))
 have hasc:(s :: taken)++(init++(new++[t]))=((s :: taken)++(init++new))++[t]:=by simp[List.append_assoc]
 have hnl:=h.nl;have hrs:=h.rs;refine⟨?_,fun u hu => ?_,up _ h.st,fun u hu i x hx=>up x (h.cl u hu i x hx),fun i x hi hx => ?_,h.om,h.ol,fun i u hi => ?_,fun u hu => ?_,h.rs,h.si,So,fun u hu => ?_⟩
 ·rw[hasc]
  exact List.nodup_append.2 ⟨h.nd,Sm,fun a ha b hb=>by simp at hb;subst hb;exact fun e=>hn (e ▸ ha)⟩
 ·rw[hasc]at hu
  rcases List.mem_append.1 hu with e | e
  ·exact h.rc u e
  ·simp at e;subst e;exact hreach
 ·rcases Nat.lt_or_ge i j with hij | hij
  ·exact up x (h.nx i x hij hx)
  ·obtain rfl:i=j:=Om
   rw[ht]at hx;simp only[Option.some.injEq]at hx;subst hx;simp
 ·rw[← List.append_assoc]at hi
  by_cases hlt:i < (init++new).length
  ·rw[List.getElem?_append_left hlt]at hi
   exact h.sk i u hi
  ·rw[List.getElem?_append_right Om]at hi
   have h0:i - (init++new).length=0:=by
    have:=(List.getElem?_eq_some_iff.1 hi).1;simp only[List.length_singleton]at this;omega
   rw[h0]at hi;simp at hi;subst hi;have hi2:i=init.length+new.length:=by simp only[List.length_append]at hlt h0;omega
   have h1:=h.si;have h2:R+1 - rank s+1≤R+1 - rank t:=Om;have h3:=Nat.mul_le_mul_left C h2;rw[Nat.mul_add,Nat.mul_one]at h3;omega
 ·rw[← List.append_assoc]at hu
  rcases List.mem_append.1 hu with e | e
  ·exact h.rk u e
  ·simp at e;subst e;omega
 ·rcases List.mem_append.1 hu with e | e
  ·exact h.nr u e
  ·simp at e;subst e;exact hr
theorem As.leave {s:S}{j:Nat}{init new taken:List S}{outs:List (List Int)}(h:As mv af done out C R rank start s j init new taken outs) (hj:(mv s).length≤j):PI mv af done out C R rank start (init++new) (s :: taken) outs:=
 ⟨h.nd,h.rc,h.st,fun u hu i t ht=>by
  rcases List.mem_cons.1 hu with e | e
  ·subst e
   obtain⟨m,hm,-⟩:=(Qv mv af).1 ht;exact h.nx i t (by have:=(List.getElem?_eq_some_iff.1 hm).1;omega) ht
  ·exact h.cl u e i t ht,h.om,h.ol,h.sk,h.rk⟩
theorem As.Hs {s:S}{j:Nat}{init new taken:List S}{outs:List (List Int)}(h:As mv af done out C R rank start s j init new taken outs) (hj:j≤C):Vb (C+1) rank (init++new) < Vb (C+1) rank (init++[s]):=by
 have h1:=MZ (B:=C+1) (rank:=rank) (s:=s) (new:=new) (by have:=h.nl;omega) h.nr;rw[Ao,Ao];have:Vb (C+1) rank [s]=(C+1) ^ rank s:=by simp[Vb]
 omega
theorem Gc {work:List S}(h:∀ i s,work[i]? = some s→i+1≤C * (R+1 - rank s)):work.length≤C * (R+1):=by
 rcases Nat.eq_zero_or_pos work.length with e | e
 ·rw[e];exact Nat.zero_le _
 ·have h1:=h (work.length - 1) (work[work.length - 1]'Om) (List.getElem?_eq_getElem Om)
  have h2:C * (R+1 - rank (work[work.length - 1]'Om))≤C * (R+1):=Nat.mul_le_mul_left C Om;omega
theorem PI.short {work taken:List S}{outs:List (List Int)}(h:PI mv af done out C R rank start work taken outs):work.length≤C * (R+1):=Gc h.sk
theorem As.short {s:S}{j:Nat}{init new taken:List S}{outs:List (List Int)}(h:As mv af done out C R rank start s j init new taken outs):(init++new).length≤C * (R+1):=Gc h.sk
theorem PI.fin {taken:List S}{outs:List (List Int)}(h:PI mv af done out C R rank start [] taken outs) (o:List Int):o∈outs↔∃ s,Zt start (Kf mv af) s∧done s=true∧out s=o:=by
 have hall:∀ s,Zt start (Kf mv af) s→s∈taken:=fun s hr=>by
  induction hr with
  | start=>simpa using h.st
  | step _ ht ih=>simpa using h.cl _ ih _ _ ht
 rw[h.om];constructor
 ·rintro ⟨s,h1,h2,h3⟩;exact⟨s,h.rc s (by simp[h1]),h2,h3⟩
 ·rintro ⟨s,h1,h2,h3⟩;exact⟨s,hall s h1,h2,h3⟩
theorem PI.Sa {work taken:List S}{outs:List (List Int)}(h:PI mv af done out C R rank start work taken outs) {N:Nat}(hN:∀ l:List S,l.Nodup→(∀ s∈l,Zt start (Kf mv af) s∧done s=true)→l.length≤N):outs.length≤N:=by
 rw[h.ol];refine hN _ ((List.nodup_append.1 h.nd).1.filter _) fun s hs => ?_;rw[List.mem_filter]at hs;exact⟨h.rc s (by simp[hs.1]),hs.2⟩
theorem Ae {next:S→Nat→Option S}{ok:S→Prop}(h0:ok start) (h1:∀ s i t,ok s→next s i=some t→ok t) (hm:∀ s,ok s→∀ i,i∈mv s↔(next s i).isSome) (ha:∀ s,ok s→∀ i t,next s i=some t→af s i=t) (s:S) :
 Zt start (Kf mv af) s↔Zt start next s:=by
 have e:∀ s,ok s→∀ t,(∃ j,Kf mv af s j=some t)↔∃ i,next s i=some t:=fun s hs t=>by
  constructor
  ·rintro ⟨j,hj⟩
   obtain⟨m,h2,h3⟩:=(Qv mv af).1 hj;have h4:=(hm s hs m).1 (List.mem_of_getElem? h2);obtain⟨t',ht'⟩:=Option.isSome_iff_exists.1 h4;exact⟨m,by rw[ht',← ha s hs m t' ht',h3]⟩
  ·rintro ⟨i,hi⟩
   obtain⟨j,hj,e⟩:=List.mem_iff_getElem.1 ((hm s hs i).2 (by simp[hi]));exact⟨j,(Qv mv af).2 ⟨i,by rw[List.getElem?_eq_getElem hj,e],ha s hs i t hi⟩⟩
 constructor
 ·intro h
  have:Zt start next s∧ok s:=by
   induction h with
   | start=>exact⟨.start,h0⟩
   | step _ ht ih =>
    obtain⟨i,hi⟩:=(e _ ih.2 _).1 ⟨_,ht⟩;exact⟨.step ih.1 hi,h1 _ _ _ ih.2 hi⟩
  exact this.1
 ·intro h
  have:Zt start (Kf mv af) s∧ok s:=by
   induction h with
   | start=>exact⟨.start,h0⟩
   | step _ ht ih =>
    obtain⟨j,hj⟩:=(e _ ih.2 _).2 ⟨_,ht⟩;exact⟨.step ih.1 hj,h1 _ _ _ ih.2 ht⟩
  exact this.1
end
structure Sq where
 pc:List Int
 rg:List Int
 mm:List Int
def Zw (p:List (List Ins)):Sq:=⟨List.replicate p.length 0,List.replicate (p.length * 3) 0,List.replicate 3 0⟩
def Yb (s:Sq) (t:Nat) (x:Ins):Int:=if x.op=3 then s.rg.getD (t * 3+x.Ya.toNat) 0 else x.val
def ZN (s:Sq) (t:Nat) (k:Int) (x:Ins):Sq:=
 ⟨s.pc.set t (k+1),if ZG x.op=true then s.rg.set (t * 3+x.Ya.toNat) (s.mm.getD x.loc.toNat 0) else s.rg,if ZR x.op=true then s.mm.set x.loc.toNat (Yb s t x) else s.mm⟩
def ZO (p:List (List Ins)) (s:Sq) (t:Nat):Option Sq:=
 match p[t]?,s.pc[t]? with
 | some r,some k=>match r[k.toNat]? with
  | some x=>some (ZN s t k x)
  | none=>none
 | _,_=>none
def YN (s:Sq):List Int:=s.rg++s.mm
structure Y2 (p:List (List Ins)) (s:Sq):Prop where
 lp:s.pc.length=p.length
 lr:s.rg.length=p.length * 3
 lm:s.mm.length=3
 pc:∀ (t:Nat) (k:Int) (r:List Ins),s.pc[t]? = some k→p[t]? = some r→0≤k∧k≤r.length
 rg:∀ x∈s.rg,0≤x∧x≤3
 mm:∀ x∈s.mm,0≤x∧x≤3
theorem Y2.start (p:List (List Ins)):Y2 p (Zw p):=
 ⟨by simp[Zw],by simp[Zw],by simp[Zw],fun t k r h _=>by
  simp only[Zw,List.getElem?_replicate]at h;split at h
  ·simp at h;subst h;omega
  ·simp at h,fun x hx=>by simp[Zw]at hx;omega,fun x hx=>by simp[Zw]at hx;omega⟩
theorem Ye {l:List Int}(h:∀ x∈l,0≤x∧x≤3) (k:Nat):0≤l.getD k 0∧l.getD k 0≤3:=by
 rw[List.getD_eq_getElem?_getD];cases hk:l[k]? with
 | none=>simp
 | some x=>simpa using h x (List.mem_of_getElem? hk)
theorem KQ {l:List Int}(h:∀ x∈l,0≤x∧x≤3) {v:Int}(hv:0≤v∧v≤3) (k:Nat):∀ x∈l.set k v,0≤x∧x≤3:=fun x hx=>by
 rcases List.mem_or_eq_of_mem_set hx with e | e
 ·exact h x e
 ·rw[e];exact hv
theorem Qj {s:Sq}{t:Nat}{x:Ins}(h:∀ y∈s.rg,0≤y∧y≤3) (hx:Zi x=true) (hw:ZR x.op=true):0≤Yb s t x∧Yb s t x≤3:=by
 unfold Yb;split
 ·exact Ye h _
 ·rename_i h3
  unfold ZR at hw;unfold Zi VX at hx;simp only[Bool.or_eq_true,beq_iff_eq]at hw;rcases hw with (hw | hw) | hw
  ·simp[hw]at hx;omega
  ·exact absurd hw h3
  ·simp[hw]at hx;omega
theorem XW {p:List (List Ins)}{s s':Sq}{t:Nat}(h:ZO p s t=some s'):∃ r k x,p[t]? = some r∧s.pc[t]? = some k∧r[k.toNat]? = some x∧s'=ZN s t k x:=by
 unfold ZO at h;split at h
 ·rename_i r k hr hk
  split at h
  ·rename_i x hx
   simp only[Option.some.injEq]at h;exact⟨r,k,x,hr,hk,hx,h.symm⟩
  ·cases h
 ·cases h
theorem Y2.next {p:List (List Ins)}{s s':Sq}{t:Nat}(h:Y2 p s) (hp:∀ r∈p,∀ x∈r,Zi x=true) (hn:ZO p s t=some s'):Y2 p s':=by
 obtain⟨r,k,x,hr,hk,hx,rfl⟩:=XW hn;have hv:=hp r (List.mem_of_getElem? hr) x (List.mem_of_getElem? hx);have hk0:=h.pc t k r hk hr;have hlt:=(List.getElem?_eq_some_iff.1 hx).1;refine⟨by simp[ZN,h.lp],?_,?_,?_,?_,?_⟩
 ·unfold ZN;simp only;split
  ·rw[List.length_set];exact h.lr
  ·exact h.lr
 ·unfold ZN;simp only;split
  ·rw[List.length_set];exact h.lm
  ·exact h.lm
 ·intro t' k' r' h1 h2
  simp only[ZN]at h1;rw[List.getElem?_set]at h1;by_cases e:t=t'
  ·subst e
   rw[if_pos rfl]at h1;split at h1
   ·simp only[Option.some.injEq]at h1
    rw[hr]at h2;simp only[Option.some.injEq]at h2;subst h2;omega
   ·cases h1
  ·rw[if_neg e]at h1;exact h.pc t' k' r' h1 h2
 ·unfold ZN;simp only;split
  ·exact KQ h.rg (Ye h.mm _) _
  ·exact h.rg
 ·unfold ZN;simp only;split
  ·rename_i hw;exact KQ h.mm (Qj h.rg hv hw) _
  ·exact h.mm
def Yt (p:List (List Ins)) (s:Sq):Nat:=((List.range p.length).map fun t=>(p.getD t []).length - (s.pc.getD t 0).toNat).sum
theorem Pk {f g:Nat→Nat}{t:Nat}:∀ {n:Nat},t < n→(∀ i,i≠t→f i=g i)→f t < g t→((List.range n).map f).sum < ((List.range n).map g).sum:=by
 intro n
 induction n with
 | zero=>intro h;omega
 | succ n ih =>
  intro ht he hlt;rw[List.range_succ,List.map_append,List.map_append,List.sum_append,List.sum_append];simp only[List.map_cons,List.map_nil,List.sum_cons,List.sum_nil];by_cases e:t=n
  ·subst e
   have:((List.range t).map f)=((List.range t).map g):=List.map_congr_left fun i hi=>he i (by have:=List.mem_range.1 hi;omega);rw[this];omega
  ·have h1:=ih Om he hlt
   have h2:=he n (fun q=>e q.symm);omega
theorem Qw {p:List (List Ins)}{s s':Sq}{t:Nat}(h:Y2 p s) (hn:ZO p s t=some s'):Yt p s' < Yt p s:=by
 obtain⟨r,k,x,hr,hk,hx,rfl⟩:=XW hn;have ht:=(List.getElem?_eq_some_iff.1 hr).1;have ht2:=(List.getElem?_eq_some_iff.1 hk).1;have hlt:=(List.getElem?_eq_some_iff.1 hx).1;have hk0:=h.pc t k r hk hr;unfold Yt;refine Pk (t:=t) ht (fun i hi => ?_) ?_
 ·simp only[ZN,List.getD_eq_getElem?_getD]
  rw[List.getElem?_set,if_neg (fun e=>hi e.symm)]
 ·simp only[ZN,List.getD_eq_getElem?_getD,hr,hk,Option.getD_some]
  rw[List.getElem?_set,if_pos rfl,if_pos ht2];simp only[Option.getD_some];omega
def Jv (s:Sq):List Int:=s.pc++s.rg++s.mm
theorem Bl {p:List (List Ins)}{s s':Sq}(h:Y2 p s) (h':Y2 p s') (e:Jv s=Jv s'):s=s':=by
 unfold Jv at e;have e1:=List.append_inj e (by simp[h.lp,h.lr,h'.lp,h'.lr]);have e2:=List.append_inj e1.1 (by rw[h.lp,h'.lp]);cases s;cases s';simp only at e1 e2;rw[e2.1,e2.2,e1.2]
theorem Y2.reach {p:List (List Ins)}(hp:∀ r∈p,∀ x∈r,Zi x=true) {s:Sq}(h:Zt (Zw p) (ZO p) s):Y2 p s:=by
 induction h with
 | start=>exact Y2.start p
 | step _ ht ih=>exact ih.next hp ht
theorem EN {p:List (List Ins)}(hp:∀ r∈p,∀ x∈r,Zi x=true) (a b:Sq) (ha:Zt (Zw p) (ZO p) a) (hb:Zt (Zw p) (ZO p) b) (e:Jv a=Jv b):a=b:=Bl (Y2.reach hp ha) (Y2.reach hp hb) e
section
variable {S : Type} {start : S} {next : S → Nat → Option S} (done : S → Bool) (out : S → List Int) (n : Nat)
structure GI (taken:List S) (outs:List (List Int)):Prop where
 ok:Xr n outs
 mem:∀ o,o∈outs↔∃ s∈taken,done s=true∧out s=o
structure Lu (start:S) (next:S→Nat→Option S) (work seen taken:List S) (outs:List (List Int)):Prop where
 inv:Dn start next work seen
 o:GI done out n taken outs
 t1:∀ s∈seen,s∈work∨s∈taken
 t2:∀ s∈taken,s∈seen
variable {done out n}
theorem GI.nil:GI done out n [] []:=⟨⟨fun o h=>by simp at h,.nil⟩,fun o=>by simp⟩
theorem GI.yes {taken:List S}{outs:List (List Int)}(h:GI done out n taken outs) {s:S}(hd:done s=true) (hl:(out s).length=n):GI done out n (s :: taken) (Xv (out s) outs):=by
 refine⟨H7 hl h.ok,fun o => ?_⟩;rw[Uf hl h.ok.len,h.mem];constructor
 ·rintro (e | ⟨u,hu,h1,h2⟩)
  ·exact⟨s,Sm,hd,e.symm⟩
  ·exact⟨u,by simp[hu],h1,h2⟩
 ·rintro ⟨u,hu,h1,h2⟩
  rcases List.mem_cons.1 hu with e | e
  ·exact .inl (by rw[← h2,e])
  ·exact .inr ⟨u,e,h1,h2⟩
theorem GI.no {taken:List S}{outs:List (List Int)}(h:GI done out n taken outs) {s:S}(hd:done s=false):GI done out n (s :: taken) outs:=by
 refine⟨h.ok,fun o => ?_⟩;rw[h.mem];constructor
 ·rintro ⟨u,hu,h1,h2⟩
  exact⟨u,by simp[hu],h1,h2⟩
 ·rintro ⟨u,hu,h1,h2⟩
  rcases List.mem_cons.1 hu with e | e
  ·rw[e,hd]at h1;cases h1
  ·exact⟨u,e,h1,h2⟩
theorem Lu.fin {seen taken:List S}{outs:List (List Int)}(h:Lu done out n start next [] seen taken outs) (o:List Int):o∈outs↔∃ s,Zt start next s∧done s=true∧out s=o:=by
 rw[h.o.mem];constructor
 ·rintro ⟨s,hs,h1,h2⟩
  exact⟨s,h.inv.rc s (h.t2 s hs),h1,h2⟩
 ·rintro ⟨s,hs,h1,h2⟩
  rcases h.t1 s ((h.inv.all s).2 hs) with e | e
  ·simp at e
  ·exact⟨s,e,h1,h2⟩
end
def ZU (p:List (List Ins)) (s:Sq):Bool:=(List.range p.length).all fun t=>decide (¬ s.pc.getD t 0 < ((p.getD t []).length:Int))
theorem XX {p:List (List Ins)}{s:Sq}(h:Y2 p s):(YN s).length=p.length * 3+3:=by
 unfold YN;rw[List.length_append,h.lr,h.lm]
theorem Hf {f:Nat→Nat}{b:Nat}(h:∀ i,f i≤b):∀ n,((List.range n).map f).sum≤n * b:=by
 intro n
 induction n with
 | zero=>simp
 | succ n ih =>
  rw[List.range_succ,List.map_append,List.sum_append,Nat.add_mul];have:=h n;simp only[List.map_cons,List.map_nil,List.sum_cons,List.sum_nil];omega
theorem UB {p:List (List Ins)}(h:Zg p=true) (s:Sq):Yt p s≤21:=by
 obtain⟨h1,-,h2,-⟩:=Zv h;unfold Yt;have h3:=Hf (f:=fun t=>(p.getD t []).length - (s.pc.getD t 0).toNat) (b:=7) (fun t=>by
  show (p.getD t []).length - (s.pc.getD t 0).toNat≤7;have h4:(p.getD t []).length≤7:=by
   rw[List.getD_eq_getElem?_getD];cases hr:p[t]? with
   | none=>simp
   | some r=>exact(h2 r (List.mem_of_getElem? hr)).1
  omega) p.length
 have:p.length * 7≤3 * 7:=Nat.mul_le_mul_right _ h1;omega
theorem ZB {p:List (List Ins)}(h:Zg p=true):∀ r∈p,∀ x∈r,Zi x=true:=fun r hr x hx=>((Zv h).2.2.1 r hr).2 x hx
def Aw:List Int→Nat
 | []=>0
 | x :: xs=>x.toNat * 4 ^ xs.length+Aw xs
theorem Hr {l:List Int}(h:∀ x∈l,0≤x∧x≤3):Aw l < 4 ^ l.length:=by
 induction l with
 | nil=>simp[Aw]
 | cons x l ih =>
  have h1:=ih fun y hy=>h y (by simp[hy]);have h2:=h x Sm;have h3:x.toNat * 4 ^ l.length≤3 * 4 ^ l.length:=Nat.mul_le_mul_right _ Om;simp only[Aw,List.length_cons,Nat.pow_succ];omega
theorem DK {a b:List Int}(hl:a.length=b.length) (ha:∀ x∈a,0≤x∧x≤3) (hb:∀ x∈b,0≤x∧x≤3) (h:Y5 a b = -1):Aw a < Aw b:=by
 induction a generalizing b with
 | nil=>simp[Y5]at h
 | cons x a ih =>
  cases b with
  | nil=>simp at hl
  | cons y b =>
   have hl':a.length=b.length:=by simpa using hl
   have e1:=Hr (l:=a) fun z hz=>ha z (by simp[hz]);have hx:=ha x Sm;have hy:=hb y Sm;simp only[Y5]at h;simp only[Aw];by_cases h1:x < y
   ·have h2:(x.toNat+1) * 4 ^ a.length≤y.toNat * 4 ^ a.length:=Nat.mul_le_mul_right _ Om
    rw[Nat.add_mul,Nat.one_mul]at h2;rw[← hl'];omega
   ·rw[if_neg h1]at h
    by_cases h2:y < x
    ·rw[if_pos h2]at h;omega
    ·rw[if_neg h2]at h
     have e:x=y:=Om;subst e;have:=ih hl' (fun z hz=>ha z (by simp[hz])) (fun z hz=>hb z (by simp[hz])) h;rw[← hl'];omega
structure Bf where
 q:Sq
 bf:List (List (Int × Int))
def Yw (split:Bool):Nat:=if split then 3 else 1
def Zr (p:List (List Ins)) (split:Bool):Bf:=⟨Zw p,List.replicate (p.length * Yw split) []⟩
def Zj (t:Nat) (loc:Int) (split:Bool):Nat:=if split then t * 3+loc.toNat else t
def Yg (s:Bf) (t:Nat) (split:Bool):Bool:=(List.range (Yw split)).all fun i=>(s.bf.getD (t * Yw split+i) []).isEmpty
def Y4 (s:Bf) (t:Nat) (loc:Int) (split:Bool):Int:=
 match (s.bf.getD (Zj t loc split) []).reverse.find? (fun e=>e.1==loc) with
 | some e=>e.2
 | none=>s.q.mm.getD loc.toNat 0
def Qa (s:Bf) (split:Bool) (t:Nat) (k:Int) (x:Ins):Option Bf:=
 if x.op=4∨x.op=5 then if Yg s t split=true then some ⟨ZN s.q t k x,s.bf⟩ else none
 else if x.op=1 then some ⟨⟨s.q.pc.set t (k+1),s.q.rg.set (t * 3+x.Ya.toNat) (Y4 s t x.loc split),s.q.mm⟩,s.bf⟩
 else some ⟨⟨s.q.pc.set t (k+1),s.q.rg,s.q.mm⟩,s.bf.set (Zj t x.loc split) (s.bf.getD (Zj t x.loc split) []++[(x.loc,Yb s.q t x)])⟩
def Zy (p:List (List Ins)) (split:Bool) (s:Bf) (m:Nat):Option Bf:=
 if m < p.length then
  match p[m]?,s.q.pc[m]? with
  | some r,some k=>match r[k.toNat]? with
   | some x=>Qa s split m k x
   | none=>none
  | _,_=>none
 else match s.bf[m - p.length]? with
  | some ((l,v) :: rest)=>some ⟨⟨s.q.pc,s.q.rg,s.q.mm.set l.toNat v⟩,s.bf.set (m - p.length) rest⟩
  | _=>none
def YP (e:Int × Int):Prop:=(0≤e.1∧e.1≤2)∧0≤e.2∧e.2≤3
structure ZT (p:List (List Ins)) (split:Bool) (s:Bf):Prop where
 q:Y2 p s.q
 lb:s.bf.length=p.length * Yw split
 en:∀ l∈s.bf,∀ e∈l,YP e
theorem ZT.start (p:List (List Ins)) (split:Bool):ZT p split (Zr p split):=
 ⟨Y2.start p,by simp[Zr],fun l hl=>by simp[Zr]at hl;intro e he;rw[hl.2]at he;simp at he⟩
theorem Hx {p:List (List Ins)}{s:Sq}{t:Nat}{k:Int}{r:List Ins}{x:Ins}(h:Y2 p s) (hr:p[t]? = some r) (hk:s.pc[t]? = some k) (hx:r[k.toNat]? = some x) {rg mm:List Int}(h1:rg.length=p.length * 3) (h2:mm.length=3) (h3:∀ x∈rg,0≤x∧x≤3) (h4:∀ x∈mm,0≤x∧x≤3):Y2 p ⟨s.pc.set t (k+1),rg,mm⟩:=by
 have hk0:=h.pc t k r hk hr;have hlt:=(List.getElem?_eq_some_iff.1 hx).1;refine⟨by simp[h.lp],h1,h2,fun t' k' r' g1 g2 => ?_,h3,h4⟩;simp only at g1;rw[List.getElem?_set]at g1;by_cases e:t=t'
 ·subst e
  rw[if_pos rfl]at g1;split at g1
  ·simp only[Option.some.injEq]at g1
   rw[hr]at g2;simp only[Option.some.injEq]at g2;subst g2;omega
  ·cases g1
 ·rw[if_neg e]at g1;exact h.pc t' k' r' g1 g2
theorem DW {l:List (List (Int × Int))}(h:∀ x∈l,∀ e∈x,YP e) (k:Nat):∀ e∈l.getD k [],YP e:=by
 rw[List.getD_eq_getElem?_getD];cases hk:l[k]? with
 | none=>simp
 | some x=>simpa using h x (List.mem_of_getElem? hk)
theorem Hb {p:List (List Ins)}{split:Bool}{s:Bf}(h:ZT p split s) (t:Nat) (loc:Int):0≤Y4 s t loc split∧Y4 s t loc split≤3:=by
 unfold Y4;split
 ·rename_i e he
  exact(DW h.en _ e (List.mem_reverse.1 (List.mem_of_find?_eq_some he))).2
 ·exact Ye h.q.mm _
theorem YD {p:List (List Ins)}{split:Bool}{s s':Bf}{m:Nat}(h:Zy p split s m=some s') (hm:m < p.length):∃ r k x,p[m]? = some r∧s.q.pc[m]? = some k∧r[k.toNat]? = some x∧Qa s split m k x=some s':=by
 unfold Zy at h;rw[if_pos hm]at h;split at h
 ·rename_i r k hr hk
  split at h
  ·rename_i x hx
   exact⟨r,k,x,hr,hk,hx,h⟩
  ·cases h
 ·cases h
theorem Y9 {p:List (List Ins)}{split:Bool}{s s':Bf}{m:Nat}(h:Zy p split s m=some s') (hm:¬ m < p.length):∃ l v rest,s.bf[m - p.length]? = some ((l,v) :: rest)∧s'=⟨⟨s.q.pc,s.q.rg,s.q.mm.set l.toNat v⟩,s.bf.set (m - p.length) rest⟩:=by
 unfold Zy at h;rw[if_neg hm]at h;split at h
 ·rename_i l v rest hb
  simp only[Option.some.injEq]at h;exact⟨l,v,rest,hb,h.symm⟩
 ·cases h
theorem ZT.next {p:List (List Ins)}{split:Bool}{s s':Bf}{m:Nat}(h:ZT p split s) (hp:∀ r∈p,∀ x∈r,Zi x=true) (hn:Zy p split s m=some s'):ZT p split s':=by
 by_cases hm:m < p.length
 ·obtain⟨r,k,x,hr,hk,hx,hd⟩:=YD hn hm
  have hv:=hp r (List.mem_of_getElem? hr) x (List.mem_of_getElem? hx);unfold Qa at hd;split at hd
  ·split at hd
   ·simp only[Option.some.injEq]at hd
    subst hd;exact⟨h.q.next (t:=m) hp (by unfold ZO;simp[hr,hk,hx]),h.lb,h.en⟩
   ·cases hd
  ·rename_i h45
   split at hd
   ·simp only[Option.some.injEq]at hd
    subst hd;exact⟨Hx h.q hr hk hx (by rw[List.length_set];exact h.q.lr) h.q.lm (KQ h.q.rg (Hb h _ _) _) h.q.mm,h.lb,h.en⟩
   ·rename_i h1
    simp only[Option.some.injEq]at hd;subst hd;refine⟨Hx h.q hr hk hx h.q.lr h.q.lm h.q.rg h.q.mm,by rw[List.length_set];exact h.lb,fun l hl e he => ?_⟩;rcases List.mem_or_eq_of_mem_set hl with g | g
    ·exact h.en l g e he
    ·rw[g]at he
     rcases List.mem_append.1 he with g2 | g2
     ·exact DW h.en _ e g2
     ·simp only[List.mem_singleton]at g2
      subst g2;have h23:x.op=2∨x.op=3:=by
       unfold Zi at hv;split at hv
       ·omega
       ·split at hv
        ·omega
        ·split at hv
         ·omega
         ·split at hv
          ·omega
          ·cases hv
      have hloc:0≤x.loc∧x.loc≤2:=by
       unfold Zi VX at hv;rcases h23 with e2 | e2 <;> (simp[e2]at hv;omega)
      exact⟨hloc,Qj h.q.rg hv (by unfold ZR;rcases h23 with e2 | e2 <;> simp[e2])⟩
 ·obtain⟨l,v,rest,hb,rfl⟩:=Y9 hn hm
  have he:=h.en _ (List.mem_of_getElem? hb) (l,v) Sm;refine⟨⟨h.q.lp,h.q.lr,by rw[List.length_set];exact h.q.lm,h.q.pc,h.q.rg,KQ h.q.mm he.2 _⟩,by rw[List.length_set];exact h.lb,fun l' hl e he => ?_⟩;rcases List.mem_or_eq_of_mem_set hl with g | g
  ·exact h.en l' g e he
  ·rw[g]at he
   exact h.en _ (List.mem_of_getElem? hb) e (by simp[he])
def Y8 (p:List (List Ins)) (s:Bf):Nat:=2 * Yt p s.q+(s.bf.map List.length).sum
theorem Ib {l:List (List (Int × Int))}{k:Nat}{x:List (Int × Int)}(h:l[k]? = some x) (y:List (Int × Int)):((l.set k y).map List.length).sum+x.length=(l.map List.length).sum+y.length:=by
 induction l generalizing k with
 | nil=>simp at h
 | cons z l ih =>
  cases k with
  | zero=>simp at h;subst h;simp;omega
  | succ k =>
   simp only[List.getElem?_cons_succ]at h;have:=ih h;simp only[List.set_cons_succ,List.map_cons,List.sum_cons];omega
theorem Ms {p:List (List Ins)}{split:Bool}{t:Nat}{loc:Int}(ht:t < p.length) (h0:0≤loc) (h2:loc≤2):Zj t loc split < p.length * Yw split:=by
 unfold Zj Yw;cases split
 ·simp;exact ht
 ·simp;omega
theorem Bm {p:List (List Ins)}{s:Sq}{t:Nat}{k:Int}{r:List Ins}{x:Ins}(h:Y2 p s) (hr:p[t]? = some r) (hk:s.pc[t]? = some k) (hx:r[k.toNat]? = some x) (rg mm:List Int):Yt p ⟨s.pc.set t (k+1),rg,mm⟩ < Yt p s:=by
 have h1:=Qw h (show ZO p s t=some (ZN s t k x) by unfold ZO;simp[hr,hk,hx]);exact h1
theorem Jk {p:List (List Ins)}{split:Bool}{s s':Bf}{m:Nat}(h:ZT p split s) (hn:Zy p split s m=some s'):Y8 p s' < Y8 p s:=by
 unfold Y8;by_cases hm:m < p.length
 ·obtain⟨r,k,x,hr,hk,hx,hd⟩:=YD hn hm
  unfold Qa at hd;split at hd
  ·split at hd
   ·simp only[Option.some.injEq]at hd
    subst hd;have:=Qw h.q (show ZO p s.q m=some (ZN s.q m k x) by unfold ZO;simp[hr,hk,hx]);simp only;omega
   ·cases hd
  ·split at hd
   ·simp only[Option.some.injEq]at hd
    subst hd;have:=Bm h.q hr hk hx (s.q.rg.set (m * 3+x.Ya.toNat) (Y4 s m x.loc split)) s.q.mm;simp only;omega
   ·simp only[Option.some.injEq]at hd
    subst hd;have h1:=Bm h.q hr hk hx s.q.rg s.q.mm;simp only;cases hb:s.bf[Zj m x.loc split]? with
    | none =>
     have e:s.bf.set (Zj m x.loc split) (s.bf.getD (Zj m x.loc split) []++[(x.loc,Yb s.q m x)])=s.bf:=List.set_eq_of_length_le (by simpa using hb);rw[e];omega
    | some b =>
     have h2:=Ib hb (s.bf.getD (Zj m x.loc split) []++[(x.loc,Yb s.q m x)]);simp only[List.getD_eq_getElem?_getD,hb,Option.getD_some,List.length_append,List.length_singleton]at h2 ⊢;omega
 ·obtain⟨l,v,rest,hb,rfl⟩:=Y9 hn hm
  have h2:=Ib hb rest;simp only[List.length_cons]at h2;simp only[show Yt p ⟨s.q.pc,s.q.rg,s.q.mm.set l.toNat v⟩=Yt p s.q from rfl];omega
def Y3 (p:List (List Ins)) (s:Bf):Bool:=s.bf.all List.isEmpty&&ZU p s.q
def YA (s:Bf):List Int:=YN s.q
def At (p:List (List Ins)) (t i:Nat) (x:Ins):Prop:=∃ r,p[t]? = some r∧r[i]? = some x
theorem At.row {p:List (List Ins)}{t i:Nat}{x:Ins}(h:At p t i x):(p.getD t [])[i]? = some x:=by
 obtain⟨r,h1,h2⟩:=h;rw[List.getD_eq_getElem?_getD,h1];exact h2
theorem At.lt {p:List (List Ins)}{t i:Nat}{x:Ins}(h:At p t i x):t < p.length:=by
 obtain⟨r,h1,h2⟩:=h;exact(List.getElem?_eq_some_iff.1 h1).1
theorem At.Sb {p:List (List Ins)}{t i:Nat}{x:Ins}(h:At p t i x):i < (p.getD t []).length:=(List.getElem?_eq_some_iff.1 h.row).1
theorem At.of {p:List (List Ins)}{t i:Nat}(ht:t < p.length) (hi:i < (p.getD t []).length):∃ x,At p t i x:=by
 obtain⟨r,hr⟩:∃ r,p[t]? = some r:=⟨_,List.getElem?_eq_getElem ht⟩
 rw[List.getD_eq_getElem?_getD,hr]at hi;exact⟨_,r,hr,List.getElem?_eq_getElem hi⟩
def EZ (p:List (List Ins)) (t i:Nat) (x:Ins):Prop:=At p t i x∧x.op≠4
def PA (x y:Ins):Prop:=x.loc=y.loc∧(PJ x=true∨PJ y=true)
def Cf (p:List (List Ins)) (a b:Nat × Nat):Prop:=a.1≠b.1∧∃ x y,EZ p a.1 a.2 x∧EZ p b.1 b.2 y∧PA x y
def Po (p:List (List Ins)) (a b:Nat × Nat):Prop:=a.1=b.1∧a.2 < b.2∧(∃ x,EZ p a.1 a.2 x)∧∃ y,EZ p b.1 b.2 y
inductive Gh (p:List (List Ins)):Nat × Nat→Nat × Nat→Prop
 | refl (a:Nat × Nat):Gh p a a
 | cf {a b c:Nat × Nat}(h:Cf p a b) (k:Gh p b c):Gh p a c
 | po {a b c:Nat × Nat}(h:Po p a b) (k:Gh p b c):Gh p a c
theorem Gh.trans {p:List (List Ins)}{a b c:Nat × Nat}(h:Gh p a b) (k:Gh p b c):Gh p a c:=by
 induction h with
 | refl a=>exact k
 | cf h _ ih=>exact .cf h (ih k)
 | po h _ ih=>exact .po h (ih k)
def Way (p:List (List Ins)) (a b:Nat × Nat):Prop:=∃ x y,Cf p a x∧Gh p x y∧Cf p y b
def Sep (p:List (List Ins)) (t i k:Nat):Prop:=∃ m x,i≤m∧m≤k∧At p t m x∧(x.op=4∨x.op=5)
def Ng (p:List (List Ins)) (t i k:Nat):Prop:=i < k∧(∃ x,EZ p t i x)∧(∃ y,EZ p t k y)∧Way p (t,k) (t,i)
theorem Us {x:Ins}(h:Zi x=true):(x.op=1∨x.op=2∨x.op=3∨x.op=4∨x.op=5)∧(x.op≠4→0≤x.loc∧x.loc≤2)∧0≤x.Ya∧x.Ya≤2:=by
 unfold Zi VX at h;split at h
 ·simp at h;omega
 ·split at h
  ·simp at h;omega
  ·split at h
   ·simp at h;omega
   ·split at h
    ·simp at h;omega
    ·cases h
def rr (r:List Ins) (f:Nat→Int):Nat→Nat→Int
 | 0,_=>0
 | k+1,g=>match r[k]? with
  | some x=>if ZG x.op=true∧x.Ya.toNat=g then f k else rr r f k g
  | none=>rr r f k g
def wv (p:List (List Ins)) (rv:Nat→Nat→Int) (t i:Nat):Int:=match (p.getD t [])[i]? with
 | some x=>if x.op=3 then rr (p.getD t []) (rv t) i x.Ya.toNat else x.val
 | none=>0
def SH (p:List (List Ins)) (rv:Nat→Nat→Int) (key:Nat→Nat→Nat) (P:Nat→Nat→Ins→Prop) (v:Int):Prop:=
 (∃ u j y,EZ p u j y∧PJ y=true∧P u j y∧v=wv p rv u j∧∀ u' j' y',EZ p u' j' y'→PJ y'=true→P u' j' y'→key u' j'≤key u j) ∨
 (v=0∧∀ u j y,EZ p u j y→PJ y=true→P u j y→False)
structure Ord (p:List (List Ins)) (rv:Nat→Nat→Int) (key:Nat→Nat→Nat):Prop where
 inj:∀ t i x u j y,EZ p t i x→EZ p u j y→key t i=key u j→t=u∧i=j
 loc:∀ t i x k y,EZ p t i x→EZ p t k y→i < k→x.loc=y.loc→key t i < key t k
 sep:∀ t i x k y,EZ p t i x→EZ p t k y→i < k→Sep p t i k→key t i < key t k
 rd:∀ t i x,EZ p t i x→SJ x=true→SH p rv key (fun u j y=>y.loc=x.loc∧key u j < key t i) (rv t i)
def Gk (s:Sq) (t:Nat):Nat:=(s.pc.getD t 0).toNat
theorem QR {l:List Int}{k j:Nat}(h:k≠j) (v d:Int):(l.set k v).getD j d=l.getD j d:=by
 rw[List.getD_eq_getElem?_getD,List.getElem?_set,if_neg h,List.getD_eq_getElem?_getD]
theorem OY {α:Type}(R:α→α→Prop) (tr:∀ a b c,R a b→R b c→R a c) (ir:∀ a,¬ R a a):∀ l:List α,l≠[]→∃ m∈l,∀ x∈l,¬ R m x:=by
 intro l
 induction l with
 | nil=>intro h;exact absurd rfl h
 | cons a l ih =>
  intro _;cases l with
  | nil=>exact⟨a,Sm,fun x hx=>by simp at hx;subst hx;exact ir x⟩
  | cons b l =>
   obtain⟨m,hm,hx⟩:=ih Sm;by_cases e:R m a
   ·refine⟨a,Sm,fun x hx' => ?_⟩
    rcases List.mem_cons.1 hx' with q | q
    ·subst q;exact ir x
    ·intro g;exact hx x q (tr m a x e g)
   ·refine⟨m,List.mem_cons_of_mem _ hm,fun x hx' => ?_⟩
    rcases List.mem_cons.1 hx' with q | q
    ·subst q;exact e
    ·exact hx x q
theorem Pa {α:Type}(P:α→Prop) (f:α→Nat) (h:∃ a,P a):∃ a,P a∧∀ b,P b→f a≤f b:=by
 have key:∀ n a,P a→f a≤n→∃ a,P a∧∀ b,P b→f a≤f b:=by
  intro n
  induction n with
  | zero=>intro a ha hn;exact⟨a,ha,fun b _=>by omega⟩
  | succ n ih =>
   intro a ha hn;by_cases q:∃ b,P b∧f b < f a
   ·obtain⟨b,hb,hlt⟩:=q
    exact ih b hb Om
   ·exact⟨a,ha,fun b hb=>by
     rcases Nat.lt_or_ge (f b) (f a) with g | g
     ·exact absurd ⟨b,hb,g⟩ q
     ·exact g⟩
 obtain⟨a,ha⟩:=h;exact key (f a) a ha (Nat.le_refl _)
section
variable (p : List (List Ins)) (key : Nat → Nat → Nat) (s : Sq)
def Fa (t u:Nat):Prop:=∃ j,Gk s u≤j∧Cf p (u,j) (t,Gk s t)∧key u j < key t (Gk s t)
inductive Qn:Nat→Nat→Prop
 | one {t u:Nat}(h:Fa p key s t u):Qn t u
 | cons {t u v:Nat}(h:Fa p key s t u) (k:Qn u v):Qn t v
end
theorem Qn.trans {p:List (List Ins)}{key:Nat→Nat→Nat}{s:Sq}{t u v:Nat}(h:Qn p key s t u) (k:Qn p key s u v):Qn p key s t v:=by
 induction h with
 | one h=>exact .cons h k
 | cons h _ ih=>exact .cons h (ih k)
theorem Qn.SC {p:List (List Ins)}{key:Nat→Nat→Nat}{s:Sq}(hh:∀ t x,At p t (Gk s t) x→x.op≠4) {t u:Nat}(h:Qn p key s t u):∃ y,Gh p (u,Gk s u) y∧Cf p y (t,Gk s t):=by
 have first:∀ t u,Fa p key s t u→∃ y,Gh p (u,Gk s u) y∧Cf p y (t,Gk s t):=fun t u h=>by
  obtain⟨j,hj,hc,hk⟩:=h;refine⟨(u,j),?_,hc⟩;rcases Nat.lt_or_ge (Gk s u) j with q | q
  ·obtain⟨-,y,-,hy,-,-⟩:=hc
   obtain⟨z,hz⟩:=At.of (p:=p) (t:=u) (i:=Gk s u) hy.1.lt (by have h1:=hy.1.Sb;simp only at h1;omega);exact .po (b:=(u,j)) ⟨rfl,q,⟨z,hz,hh u z hz⟩,y,hy⟩ (.refl _)
  ·obtain rfl:j=Gk s u:=Om
   exact .refl _
 induction h with
 | one h=>exact first _ _ h
 | cons h _ ih =>
  obtain⟨y,h1,h2⟩:=ih;obtain⟨z,h3,h4⟩:=first _ _ h;exact⟨z,h1.trans (.cf h2 h3),h4⟩
theorem source {p:List (List Ins)}{rv:Nat→Nat→Int}{key:Nat→Nat→Nat}{s:Sq}(od:Ord p rv key) (hd:∀ t i k,Ng p t i k→Sep p t i k)
 (hh:∀ t x,At p t (Gk s t) x→x.op≠4) (hne:∃ t x,At p t (Gk s t) x):∃ t x,At p t (Gk s t) x∧∀ u,¬ Fa p key s t u:=by
 apply Classical.byContradiction;intro hno;have hb:∀ t x,At p t (Gk s t) x→∃ u,Fa p key s t u:=fun t x hx=>Classical.byContradiction fun q=>hno ⟨t,x,hx,fun u g=>q ⟨u,g⟩⟩;have hat:∀ t u,Fa p key s t u→∃ x,At p u (Gk s u) x:=fun t u h=>by
  obtain⟨j,hj,⟨-,y,-,hy,-,-⟩,-⟩:=h;exact At.of hy.1.lt (by have h1:=hy.1.Sb;simp only at h1;omega)
 have hcyc:∃ t,Qn p key s t t:=by
  apply Classical.byContradiction;intro hn;obtain⟨t0,x0,h0⟩:=hne;obtain⟨m,hm,hmax⟩:=OY (Qn p key s) (fun a b c=>Qn.trans) (fun a h=>hn ⟨a,h⟩) ((List.range p.length).filter fun t=>decide (Gk s t < (p.getD t []).length)) (by
   intro e;have:t0∈(List.range p.length).filter fun t=>decide (Gk s t < (p.getD t []).length):=by
    rw[List.mem_filter];exact⟨List.mem_range.2 h0.lt,decide_eq_true h0.Sb⟩
   rw[e]at this;simp at this)
  rw[List.mem_filter]at hm;obtain⟨x,hx⟩:=At.of (List.mem_range.1 hm.1) (of_decide_eq_true hm.2);obtain⟨u,hu⟩:=hb m x hx;obtain⟨y,hy⟩:=hat m u hu;exact hmax u (by rw[List.mem_filter];exact⟨List.mem_range.2 hy.lt,decide_eq_true hy.Sb⟩) (.one hu)
 obtain⟨t,ht,hmin⟩:=Pa (fun t=>Qn p key s t t) (fun t=>key t (Gk s t)) hcyc;have hfin:∀ u,Fa p key s t u→Qn p key s u t→False:=fun u h1 h2=>by
  have hu:=hmin u (h2.trans (.one h1));have h0:=h1;obtain⟨j,hj,hc,hk⟩:=h1;obtain⟨z,hz⟩:=hat t u h0;obtain⟨y,g1,g2⟩:=Qn.SC hh (.one h0:Qn p key s t u);obtain⟨w,k1,k2⟩:=Qn.SC hh h2;have hway:Way p (u,j) (u,Gk s u):=⟨(t,Gk s t),w,hc,k1,k2⟩
  obtain⟨-,e,-,he,-,-⟩:=hc;simp only at he;rcases Nat.lt_or_ge (Gk s u) j with q | q
  ·have hsep:=hd u (Gk s u) j ⟨q,⟨z,hz,hh u z hz⟩,⟨e,he⟩,hway⟩
   have:=od.sep u (Gk s u) z j e ⟨hz,hh u z hz⟩ he q hsep;omega
  ·obtain rfl:j=Gk s u:=Om
   omega
 cases ht with
 | one h =>
  obtain⟨j,hj,hc,hk⟩:=h;exact hc.1 rfl
 | cons h k=>exact hfin _ h k
theorem ZT.reach {p:List (List Ins)}{split:Bool}(hp:∀ r∈p,∀ x∈r,Zi x=true) {s:Bf}(h:Zt (Zr p split) (Zy p split) s):ZT p split s:=by
 induction h with
 | start=>exact ZT.start p split
 | step _ ht ih=>exact ih.next hp ht
def ZX (l:List (Int × Int)):List Int:=l.flatMap fun e=>[e.1,e.2]
def QN:List (List (Int × Int))→List Int
 | []=>[]
 | l :: ls=>255 :: (ZX l++QN ls)
def VP (s:Bf):List Int:=Jv s.q++QN s.bf
theorem UI (ls:List (List (Int × Int))):QN ls=[]∨∃ r,QN ls=255 :: r:=by
 cases ls with
 | nil=>exact .inl rfl
 | cons l ls=>exact .inr ⟨_,rfl⟩
theorem LX:∀ {l l':List (Int × Int)}{r r':List Int},(∀ e∈l,YP e)→(∀ e∈l',YP e)→(r=[]∨∃ q,r=255 :: q)→(r'=[]∨∃ q,r'=255 :: q)→ZX l++r=ZX l'++r'→l=l'∧r=r':=by
 intro l
 induction l with
 | nil =>
  intro l' r r' _ h2 hr _ he;cases l' with
  | nil=>exact⟨rfl,by simpa[ZX] using he⟩
  | cons e l' =>
   have h3:=h2 e Sm;simp only[ZX,List.flatMap_nil,List.nil_append,List.flatMap_cons,List.cons_append]at he;rcases hr with hr | ⟨q,hr⟩
   ·rw[hr]at he;cases he
   ·rw[hr]at he
    simp only[List.cons.injEq]at he;unfold YP at h3;omega
 | cons e l ih =>
  intro l' r r' h1 h2 hr hr' he;have h3:=h1 e Sm;cases l' with
  | nil =>
   simp only[ZX,List.flatMap_nil,List.nil_append,List.flatMap_cons,List.cons_append]at he;rcases hr' with hr' | ⟨q,hr'⟩
   ·rw[hr']at he;cases he
   ·rw[hr']at he
    simp only[List.cons.injEq]at he;unfold YP at h3;omega
  | cons e' l' =>
   simp only[ZX,List.nil_append,List.flatMap_cons,List.cons_append,List.cons.injEq]at he;obtain⟨a,b,c⟩:=he;obtain⟨h4,h5⟩:=ih (l':=l') (fun x hx=>h1 x (by simp[hx])) (fun x hx=>h2 x (by simp[hx])) hr hr' c;exact⟨by rw[h4,show e=e' from Prod.ext a b],h5⟩
theorem Fq:∀ {ls ls':List (List (Int × Int))},(∀ l∈ls,∀ e∈l,YP e)→(∀ l∈ls',∀ e∈l,YP e)→QN ls=QN ls'→ls=ls':=by
 intro ls
 induction ls with
 | nil =>
  intro ls' _ _ he;cases ls' with
  | nil=>rfl
  | cons l ls'=>simp[QN]at he
 | cons l ls ih =>
  intro ls' h1 h2 he;cases ls' with
  | nil=>simp[QN]at he
  | cons l' ls' =>
   simp only[QN,List.cons.injEq,true_and]at he;obtain⟨h3,h4⟩:=LX (h1 l Sm) (h2 l' Sm) (UI ls) (UI ls') he;rw[h3,ih (fun x hx=>h1 x (by simp[hx])) (fun x hx=>h2 x (by simp[hx])) h4]
theorem Im {p:List (List Ins)}{split:Bool}{s s':Bf}(h:ZT p split s) (h':ZT p split s') (e:VP s=VP s'):s=s':=by
 unfold VP at e;have hl:(Jv s.q).length=(Jv s'.q).length:=by simp[Jv,h.q.lp,h.q.lr,h.q.lm,h'.q.lp,h'.q.lr,h'.q.lm]
 have e1:=List.append_inj e hl;have h1:=Bl h.q h'.q e1.1;have h2:=Fq h.en h'.en e1.2;cases s;cases s';simp only at h1 h2;rw[h1,h2]
theorem Du {p:List (List Ins)}{split:Bool}(hp:∀ r∈p,∀ x∈r,Zi x=true) (a b:Bf) (ha:Zt (Zr p split) (Zy p split) a) (hb:Zt (Zr p split) (Zy p split) b) (e:VP a=VP b):a=b:=
 Im (ZT.reach hp ha) (ZT.reach hp hb) e
theorem Bg {split:Bool}{t:Nat}{loc:Int}(h0:0≤loc) (h2:loc≤2):Zj t loc split / Yw split=t:=by
 cases split
 ·simp[Zj,Yw]
 ·simp only[Zj,Yw,if_true];omega
def dW (b:Nat):Nat→Nat
 | 0=>1
 | r+1=>1+b * dW b r
def cW (b:Nat):Nat→Nat
 | 0=>0
 | r+1=>dW b r
theorem LN (b r:Nat):dW b r=1+b * cW b r:=by cases r <;> simp[dW,cW]
theorem Oz (b r:Nat):1≤dW b r:=by rw[LN];omega
theorem Np (b:Nat) (hb:0 < b) (r:Nat):dW b r≤dW b (r+1):=by
 have h:dW b r * 1≤dW b r * b:=Nat.mul_le_mul_left _ hb;rw[show dW b (r+1)=1+b * dW b r from rfl,Nat.mul_comm b];omega
theorem Hq {b:Nat}(hb:0 < b) {r r':Nat}(h:r≤r'):dW b r≤dW b r':=by
 induction h with
 | refl=>exact Nat.le_refl _
 | step _ ih=>exact Nat.le_trans ih (Np b hb _)
theorem No {b:Nat}(hb:0 < b) {r r':Nat}(h:r < r'):dW b r≤cW b r':=by
 cases r' with
 | zero=>omega
 | succ r'=>exact Hq hb (Nat.le_of_lt_succ h)
section
variable {S : Type} (b : Nat) (rank : S → Nat)
def G8 (l:List S):Nat:=(l.map fun s=>dW b (rank s)).sum
theorem JX (l l':List S):G8 b rank (l++l')=G8 b rank l+G8 b rank l':=by simp[G8,List.sum_append]
theorem Ud (s:S):G8 b rank [s]=dW b (rank s):=by simp[G8]
theorem Hy (l:List S):l.length≤G8 b rank l:=by
 induction l with
 | nil=>simp
 | cons s l ih =>
  have:=Oz b (rank s);simp only[G8,List.map_cons,List.sum_cons,List.length_cons]at ih ⊢;omega
end
section
variable {S K : Type} {start : S} {next : S → Nat → Option S} {key : S → K} (done : S → Bool) (out : S → List Int) (n b : Nat) (rank : S → Nat) (tot : Nat)
structure Vz (start:S) (next:S→Nat→Option S) (work seen taken:List S) (outs:List (List Int)):Prop where
 all:Lu done out n start next work seen taken outs
 num:seen.length=taken.length+work.length
 le:taken.length+G8 b rank work≤tot
structure XO (start:S) (next:S→Nat→Option S) (m:Nat) (s:S) (k:Nat) (work seen taken:List S) (outs:List (List Int)):Prop where
 OZ:Um start next s k work seen
 o:GI done out n taken outs
 t1:∀ u∈seen,u∈work∨u∈taken
 t2:∀ u∈taken,u∈seen
 num:seen.length=taken.length+work.length
 le:taken.length+G8 b rank work+(b - k) * cW b (rank s)≤tot
 Nt:G8 b rank work+(b - k) * cW b (rank s)+1≤m
variable {done out n b rank tot}
theorem Vz.init (hb:dW b (rank start)≤tot):Vz done out n b rank tot start next [start] [start] [] []:=
 ⟨⟨.init,.nil,fun s h => .inl h,fun s h=>by simp at h⟩,Sm,by rw[Ud];simpa using hb⟩
theorem Vz.len {work seen taken:List S}{outs:List (List Int)}(h:Vz done out n b rank tot start next work seen taken outs):seen.length≤tot:=by
 have h1:=Hy b rank work;have h2:=h.le;rw[h.num];omega
theorem XO.len {m:Nat}{s:S}{k:Nat}{work seen taken:List S}{outs:List (List Int)}(h:XO done out n b rank tot start next m s k work seen taken outs):seen.length≤tot:=by
 have h1:=Hy b rank work;have h2:=h.le;rw[h.num];omega
theorem Vz.rc {work seen taken:List S}{outs:List (List Int)}(h:Vz done out n b rank tot start next work seen taken outs) {s:S}(hs:s∈work):Zt start next s:=h.all.inv.rc s (h.all.inv.sub s hs)
theorem Vz.enter {work seen taken:List S}{s:S}{outs outs':List (List Int)}(h:Vz done out n b rank tot start next (work++[s]) seen taken outs) (ho:GI done out n (s :: taken) outs'):XO done out n b rank tot start next (G8 b rank (work++[s])) s 0 work seen (s :: taken) outs':=by
 have h1:=h.le;rw[JX,Ud,LN]at h1;have h2:=h.num;simp only[List.length_append,List.length_singleton]at h2;have hw:∀ u,u∈work++[s]↔u=s∨u∈work:=fun u=>by simp[or_comm]
 refine⟨h.all.inv.enter hw,ho,fun u hu => ?_,fun u hu => ?_,by simp only[List.length_cons];omega,by simp only[List.length_cons,Nat.sub_zero];omega,by rw[JX,Ud,LN,Nat.sub_zero];omega⟩
 ·rcases h.all.t1 u hu with e | e
  ·rcases (hw u).1 e with e | e
   ·exact .inr (by simp[e])
   ·exact .inl e
  ·exact .inr (by simp[e])
 ·rcases List.mem_cons.1 hu with e | e
  ·rw[e];exact h.all.inv.sub s Sm
  ·exact h.all.t2 u e
theorem Vz.yes {work seen taken:List S}{s:S}{outs:List (List Int)}(h:Vz done out n b rank tot start next (work++[s]) seen taken outs) (hd:done s=true) (hl:(out s).length=n):XO done out n b rank tot start next (G8 b rank (work++[s])) s 0 work seen (s :: taken) (Xv (out s) outs):=h.enter (h.all.o.yes hd hl)
theorem Vz.no {work seen taken:List S}{s:S}{outs:List (List Int)}(h:Vz done out n b rank tot start next (work++[s]) seen taken outs) (hd:done s=false):XO done out n b rank tot start next (G8 b rank (work++[s])) s 0 work seen (s :: taken) outs:=h.enter (h.all.o.no hd)
theorem XO.skip {m:Nat}{s:S}{k:Nat}{work seen taken:List S}{outs:List (List Int)}(h:XO done out n b rank tot start next m s k work seen taken outs) (hn:next s k=none):XO done out n b rank tot start next m s (k+1) work seen taken outs:=
 ⟨h.OZ.skip hn,h.o,h.t1,h.t2,h.num,by
  have h1:=h.le;have h2:(b - (k+1)) * cW b (rank s)≤(b - k) * cW b (rank s):=Nat.mul_le_mul_right _ Om;omega,by
  have h1:=h.Nt;have h2:(b - (k+1)) * cW b (rank s)≤(b - k) * cW b (rank s):=Nat.mul_le_mul_right _ Om;omega⟩
theorem XO.Mq {m:Nat}{s t:S}{k:Nat}{work seen taken:List S}{outs:List (List Int)}(h:XO done out n b rank tot start next m s k work seen taken outs) (hn:next s k=some t) (hk:key t∈seen.map key)
 (hi:∀ a b,Zt start next a→Zt start next b→key a=key b→a=b):XO done out n b rank tot start next m s (k+1) work seen taken outs:=by
 obtain⟨u,hu,he⟩:=List.mem_map.1 hk;exact⟨h.OZ.Mq (key:=key) hn hu he hi,h.o,h.t1,h.t2,h.num,by
  have h1:=h.le;have h2:(b - (k+1)) * cW b (rank s)≤(b - k) * cW b (rank s):=Nat.mul_le_mul_right _ Om;omega,by
  have h1:=h.Nt;have h2:(b - (k+1)) * cW b (rank s)≤(b - k) * cW b (rank s):=Nat.mul_le_mul_right _ Om;omega⟩
theorem XO.new {m:Nat}{s t:S}{k:Nat}{work seen taken:List S}{outs:List (List Int)}(h:XO done out n b rank tot start next m s k work seen taken outs) (hn:next s k=some t) (hkb:k < b) (hr:rank t < rank s):XO done out n b rank tot start next m s (k+1) (work++[t]) (seen++[t]) taken outs:=by
 have h1:=h.le;have h5:=h.Nt;have h2:dW b (rank t)≤cW b (rank s):=No Om hr;have h3:(b - k) * cW b (rank s)=(b - (k+1)) * cW b (rank s)+cW b (rank s):=by
  rw[show b - k=(b - (k+1))+1 by omega,Nat.add_mul,Nat.one_mul]
 have h4:=h.num;refine⟨h.OZ.new hn (fun u=>by simp[or_comm]) (fun u=>by simp[or_comm]),h.o,fun u hu => ?_,fun u hu=>by simp[h.t2 u hu],by simp only[List.length_append,List.length_singleton];omega,by rw[JX,Ud];omega,by rw[JX,Ud];omega⟩;rcases List.mem_append.1 hu with e | e
 ·rcases h.t1 u e with e | e
  ·exact .inl (by simp[e])
  ·exact .inr e
 ·exact .inl (by simp at e;simp[e])
theorem XO.leave {m:Nat}{s:S}{k:Nat}{work seen taken:List S}{outs:List (List Int)}(h:XO done out n b rank tot start next m s k work seen taken outs) (hk:∀ i t,next s i=some t→i < k):Vz done out n b rank tot start next work seen taken outs:=
 ⟨⟨h.OZ.leave hk,h.o,h.t1,h.t2⟩,h.num,by have:=h.le;omega⟩
theorem XO.Mr {m:Nat}{s:S}{k:Nat}{work seen taken:List S}{outs:List (List Int)}(h:XO done out n b rank tot start next m s k work seen taken outs):G8 b rank work < m:=by
 have:=h.Nt;omega
end
end Go.Proofs.YtngekjpklkjnbaaGreat
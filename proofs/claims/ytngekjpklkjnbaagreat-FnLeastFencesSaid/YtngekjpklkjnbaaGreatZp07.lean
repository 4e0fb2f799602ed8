/-
  What is possible with a buffer for each thread is possible with split buffers, plain. No condition.
-/
import Derived.Test.YtngekjpklkjnbaaGreatZp04
import Derived.Test.YtngekjpklkjnbaaGreatZp02
import Derived.Test.YtngekjpklkjnbaaGreatZp05
import Derived.Test.YtngekjpklkjnbaaGreatZp03
import Derived.Shelf.SlSortCmp.Whole1
set_option maxHeartbeats 6400000
set_option maxRecDepth 100000
namespace Go.Proofs.YtngekjpklkjnbaaGreat
open Go.RowKit
theorem Vl (P:Program) (w:World) (t e:TypeId) (a:Option Addr) (n c n' c':Nat) (h:P.underlying t=some (.slice e)):(binOp .eql t (.slice a n c) (.slice none n' c')).run P w = .ok (.bool a.isNone) w:=Lib.run_eql_slice_nil w t e a n c n' c' h
theorem Fb (v:Value) (xs:List Ins) (w:World) (hx:ZC Zx w v xs) (hl:xs.length≤1048576) :
 Calls Tryz.prog 70 #[v] w (Xs Zx 44 w xs):=by
 obtain⟨a,c,rfl,hc1,hc2,hc3,hx⟩:=hx.open;have HX:=Za hx;clear hx;have hlen:([]:List Ins).length+xs.length≤68719476736:=So;generalize hn:xs.length=n at *;have H:=Za hn;clear hn;cases a with
 | none =>
  have hE:=fun w':World=>Vl Tryz.prog w' 42 44 none n c 0 0 Tryz.underlying42;have hxs:Hid (xs=[]):=Za (by
   cases xs with
   | nil=>rfl
   | cons y ys=>obtain⟨b,o,hb,_⟩:=HX.out.ins (k:=0) rfl;cases hb)
  go_enter Tryz.func70,Tryz.ntmps70;go_wp2_with fail;go_ret;rw[hxs.out];exact⟨_,rfl,Own.nil _ _ _,Below.refl _ _⟩
 | some ad =>
  have hE:=fun w':World=>Vl Tryz.prog w' 42 44 (some ad) n c 0 0 Tryz.underlying42;go_enter Tryz.func70,Tryz.ntmps70;go_wp2_with (at_builtin;refine ZJ Zx 44 Tryz.Xe rfl Tryz.underlying42 w.heap.size _ [] xs _ (Own.empty _ w (Nat.le_refl _)) (HX.out.below ((Below.refl _ _).alloc (Nat.le_refl _) _)) Dc (by rw[H.out];exact hlen) Sm rfl _ _ rfl rfl rfl ?_;intro v' w1 hown1 hgr1);go_ret;exact⟨_,rfl,by simpa using hown1,((Below.refl _ _).alloc (Nat.le_refl _) _).grown hgr1 Sm (fun k hk=>by simp[Value.ownBlock]at hk;omega)⟩
theorem Uq (v:Value) (xs:List (List Ins)) (w:World) (hx:Z9 w v xs) (hl:xs.length≤1048576) (hl2:∀ r∈xs,r.length≤1048576) :
 Calls Tryz.prog 36 #[v] w (Gv Zx 42 44 w xs):=by
 obtain⟨a,c,rfl,hc1,hc2,hc3,hx⟩:=hx.open;have HX:=Za hx;clear hx;have HL2:=Za hl2;clear hl2;generalize hn:xs.length=n at *;have H:=Za hn;clear hn;go_enter Tryz.func36,Tryz.ntmps36;go_wp2_with (at_make;refine YC Z2 42 ⟨none,0,0⟩ Tryz.Xy rfl Tryz.underlying28 n Dc Om rfl _ _ rfl rfl rfl ?_;intro w1 hown hgr);have hb1:=QL hgr
 go_loopw [11] (fun i wr => ∃ k:Nat,k≤n∧i = .int .i64 k∧KU wr w.heap.size (.slice (some ⟨w.heap.size,0,none⟩) n n) (xs.take k++List.replicate (n - k) [])∧Below w.heap.size w wr) (fun i _=>n - (intOf i).toNat)
 case atStart=>exact⟨0,Nat.zero_le _,rfl,by simpa using ZL.made hown,hb1⟩
 case round =>
  obtain⟨k,hk,rfl,ho,hb⟩:=hrel;by_cases hlt:k < n
  ·obtain⟨x,hxk⟩:=Zd (xs:=xs) (k:=k) (by rw[H.out];exact hlt)
   obtain⟨b,o,ra,rc,rfl,hbl,i0,i1⟩:=(HX.out.below hb).row hxk;have hlt':=Zh hlt;have hxl:x.length≤1048576:=HL2.out x (List.mem_of_getElem? hxk);have X:=Za hxk;clear hxk;have I1:=Za i1;clear i1;go_wp2_with (go_at_call 70;(with_reducible refine(Fb _ x _ I1.out hxl).mono ?_);rintro e w2 ⟨u,rfl,hu,hb2⟩;obtain⟨s,rfl,-⟩:=hu.Yy;obtain⟨hgl,⟨_,f0⟩,hfr⟩:=(ho.below hb2).cellAt (k:=k) (by rw[← H.out,JT _ _ (by rw[H.out];omega),H.out];exact hlt));have ho2:=ho.put hb2 hb.size (k:=k) (by rw[← H.out,JT _ _ (by rw[H.out];omega),H.out];exact hlt) hu;rw[← H.out,CU xs _ X.out,H.out]at ho2;go_roundw
   case rel=>exact⟨k+1,Om,Gn,ho2,(hb.trans (hb2.mono hb.size)).setCell (Nat.le_refl _) _⟩
   case measure=>simp[intOf];omega
  ·go_wp2_with fail
   go_ret;rw[← H.out,CC xs _ (by rw[H.out];omega),H.out]at ho;exact⟨_,rfl,ho,hb⟩
theorem FD (v:Value) (xs:List (List Ins)) (w:World) (hx:Z9 w v xs) (hl:xs.length≤1048576) (hl2:∀ r∈xs,r.length≤1048576) :
 Calls Tryz.prog 31 #[v] w (Gv Zx 42 44 w xs):=by
 obtain⟨a,c,rfl,hc1,hc2,hc3,hx⟩:=hx.open;have HX:=Za hx;clear hx;have HL2:=Za hl2;clear hl2;generalize hn:xs.length=n at *;have H:=Za hn;clear hn;go_enter Tryz.func31,Tryz.ntmps31;go_wp2_with fail
 go_loopw [3,4] (fun s i wr => ∃ k:Nat,k≤n∧i = .int .i64 k∧KU wr w.heap.size s (xs.take k)∧Below w.heap.size w wr) (fun _ i _=>n - (intOf i).toNat)
 case atStart=>exact⟨0,Nat.zero_le _,rfl,by simpa using ZL.empty _ _ w (Nat.le_refl _),(Below.refl _ _).alloc (Nat.le_refl _) _⟩
 case round =>
  obtain⟨k,hk,rfl,ho,hb⟩:=hrel;by_cases hlt:k < n
  ·obtain⟨x,hxk⟩:=Zd (xs:=xs) (k:=k) (by rw[H.out];exact hlt)
   obtain⟨b,o,ra,rc,rfl,hbl,i0,i1⟩:=(HX.out.below hb).row hxk;have hlt':=Zh hlt;have hxl:x.length≤1048576:=HL2.out x (List.mem_of_getElem? hxk);have htk:(xs.take k).length≤1048576:=So;have TS:Hid (xs.take (k+1)=xs.take k++[x]):=Za (by rw[List.take_add_one,hxk];rfl);have X:=Za hxk;clear hxk;have I1:=Za i1;clear i1;generalize hT:xs.take k=T at *;clear hT;have hlen:([]:List Ins).length+x.length≤68719476736:=So;have hbx:=(Below.refl wr.heap.size wr).alloc (Nat.le_refl _) (.cells #[] 44);have HBX:=Za hbx;clear hbx;obtain⟨us,hU,-⟩:=ho.told;have HU:=Za hU;clear hU;have hub:us.length≤68719476736:=by have:=HU.out.1;omega
   go_wp2_with (first | (at_builtin;refine ZJ Zx 44 Tryz.Xe rfl Tryz.underlying42 wr.heap.size _ [] x _ (Own.empty _ wr (Nat.le_refl _)) (I1.out.below HBX.out) Dc hlen Sm rfl (.tmp 13) (.tmp 17) rfl rfl rfl ?_;intro u w2 hown1 hgr1;obtain⟨s,rfl,-⟩:=Own.Yy hown1;have hb2:=HBX.out.grown hgr1 Sm (fun k hk=>by simp[Value.ownBlock]at hk;omega)) | (at_builtin;refine Z4 Z2 42 Tryz.Xy rfl Tryz.underlying28 w.heap.size _ us s ((HU.out.2.1.below hb2).alloc _) Dc hub (by simp;have:=hb.size;have:=hb2.size;omega) rfl (.tmp 12) (.tmp 19) rfl rfl w2.heap.size 0 1 rfl Zk ?_;intro v' w3 hown3 hgr3));have hown1':GJ w2 wr.heap.size s.v x:=by simpa using hown1
   have ho2:=(HU.out).app Dc (hb2.trans ((Below.refl _ _).alloc hb2.size _)) hb.size (hown1'.alloc _) hown3 hgr3;rw[← TS.out]at ho2;have hb3:=ZI (hb.trans (hb2.mono hb.size)) (HU.out.2.1.below hb2) hgr3;go_roundw
   case rel=>exact⟨k+1,Om,Gn,ho2,hb3⟩
   case measure=>simp[intOf];omega
  ·go_wp2_with fail
   go_ret;rw[List.take_of_length_le (by rw[H.out];omega)]at ho;exact⟨_,rfl,ho,hb⟩
section
variable {α : Type} {f : α → α} {k : Nat} {xs : List α}
end
def Lr {α:Type}(E:El α) (T1 T2:TypeId) (w:World) (p:List (List α)) (b:Bool) (e:Ending) (w':World):Prop:=∃ v,e = .returned (.tuple #[v,.bool b])∧ZL E T1 T2 w' w.heap.size v p∧Below w.heap.size w w'
theorem CN {p:List (List Ins)}(h:Zg p=true):∀ r∈p,r.length≤1048576:=fun r hr=>by
 have:=((Zv h).2.2.1 r hr).1;omega
section
variable {α : Type} [Inhabited α] {enc : α → Value} {w : World} {g m : Nat} {d : Array α} {os : Array Obj}
theorem KB (k:Nat) (hk:k < w.heap.size) (hg:k≠g):(sortWorld enc w g 0 m d os).heap[k]? = w.heap[k]?:=by
 show ((w.heap.modify g _)++os)[k]? = _;rw[Array.getElem?_append_left (by simpa using hk),Array.getElem?_modify,if_neg (Ne.symm hg)]
theorem ME {cur:Array Value}{T:TypeId}{fz:Nat × Nat}(h:w.heap[g]? = some (.cells cur T fz)):(sortWorld enc w g 0 m d os).heap[g]? = some (.cells (Sort.putCells enc 0 d cur) T fz):=by
 have hk:=(Array.getElem?_eq_some_iff.1 h).1;show ((w.heap.modify g _)++os)[g]? = _;rw[Array.getElem?_append_left (by simpa using hk),Array.getElem?_modify,if_pos rfl,h];rfl
theorem MF {T:TypeId}{base:Nat}{cur:Array Value}(h:w.heap[g]? = some (.cells cur T (0,0))) (hb:base≤g):YX [T] base w (sortWorld enc w g 0 m d os):=by
 refine⟨rfl,rfl,rfl,?_,fun k ob hk hl => ?_⟩
 ·show w.heap.size≤((w.heap.modify g _)++os).size
  simp
 ·have hlt:=(Array.getElem?_eq_some_iff.1 hk).1
  refine(KB k hlt fun e => ?_).trans hk;subst e;rw[h]at hk;simp only[Option.some.injEq]at hk;rcases hl with hl | hl
  ·omega
  ·exact hl _ _ _ hk.symm Sm
end
structure OE (w:World) (g:Nat) where
 u:Zs
 o:List Int
 h:∀ W:World,(∀ k,k < w.heap.size→k≠g→W.heap[k]? = w.heap[k]?)→ZC Zq W u.v o
instance (w:World) (g:Nat):Inhabited (OE w g):=⟨⟨⟨none,0,0⟩,[],fun W _=>ZC.nil W⟩⟩
theorem Sr {α:Type}{us:List Zs}{outs:List (List Int)}{F:α→Zs}{G:α→List Int}(hl:us.length=outs.length) (h:∀ (i:Nat) (u:Zs) (o:List Int),us[i]? = some u→outs[i]? = some o→∃ x:α,F x=u∧G x=o):∃ d:List α,d.map F=us∧d.map G=outs:=by
 induction us generalizing outs with
 | nil=>cases outs with
  | nil=>exact⟨[],rfl,rfl⟩
  | cons o outs=>simp at hl
 | cons u us ih =>
  cases outs with
  | nil=>simp at hl
  | cons o outs =>
   obtain⟨x,h1,h2⟩:=h 0 u o rfl rfl;obtain⟨d,h3,h4⟩:=ih (outs:=outs) (by simpa using hl) fun i u o hu ho=>h (i+1) u o (by simpa using hu) (by simpa using ho);exact⟨x :: d,by simp[h1,h3],by simp[h2,h4]⟩
theorem Sw (w:World) (g:Nat):Sort.SWO (ltOf fun x y:OE w g=>Xf x.o y.o) where
 irrefl x:=by simp[ltOf,AM]
 trans x y z h1 h2:=by simp only[ltOf,decide_eq_true_eq] at *;exact Ra _ _ _ h1 h2
 ntrans x y z h1 h2:=by simp only[ltOf,decide_eq_false_iff_not] at *;exact UN _ _ _ h1 h2
end Go.Proofs.YtngekjpklkjnbaaGreat
namespace Go.Proofs.YtngekjpklkjnbaaGreat
def Q7 (p:List (List Ins)) (bf:List (List (Int × Int))):List (List (Int × Int)):=(List.range (p.length * 3)).map fun i=>(bf.getD (i / 3) []).filter fun e=>e.1==((i % 3:Nat):Int)
theorem JE {p:List (List Ins)}{bf:List (List (Int × Int))}{i:Nat}(h:i < p.length * 3):(Q7 p bf)[i]? = some ((bf.getD (i / 3) []).filter fun e=>e.1==((i % 3:Nat):Int)):=by
 unfold Q7;rw[List.getElem?_map,List.getElem?_range h];rfl
theorem V9 {p:List (List Ins)}{bf:List (List (Int × Int))}{i:Nat}(h:i < p.length * 3):(Q7 p bf).getD i []=(bf.getD (i / 3) []).filter fun e=>e.1==((i % 3:Nat):Int):=by
 rw[List.getD_eq_getElem?_getD,JE h];rfl
theorem AN {p:List (List Ins)}{bf:List (List (Int × Int))}{t:Nat}{y z:List (Int × Int)}{l:Nat}(ht:t < p.length) (hb:t < bf.length) (hl:l < 3) (hz:z=y.filter fun e=>e.1==(l:Int))
 (ho:∀ j,j < 3→j≠l→(y.filter fun e=>e.1==(j:Int))=((bf.getD t []).filter fun e=>e.1==(j:Int))):Q7 p (bf.set t y)=(Q7 p bf).set (t * 3+l) z:=by
 apply List.ext_getElem?;intro i;rw[List.getElem?_set];have hlen:(Q7 p bf).length=p.length * 3:=by simp[Q7]
 have hlen2:(Q7 p (bf.set t y)).length=p.length * 3:=by simp[Q7]
 rcases Nat.lt_or_ge i (p.length * 3) with hi | hi
 ·rw[JE hi]
  by_cases e:t * 3+l=i
  ·rw[if_pos e,if_pos Om]
   have e1:i / 3=t:=Om;have e2:i % 3=l:=Om;rw[e1,e2,List.getD_eq_getElem?_getD,List.getElem?_set,if_pos rfl,if_pos hb,hz];rfl
  ·rw[if_neg e,JE hi]
   by_cases e3:i / 3=t
   ·have h1:=ho (i % 3) Om Om
    rw[e3,← h1,List.getD_eq_getElem?_getD,List.getElem?_set,if_pos rfl,if_pos hb];rfl
   ·rw[List.getD_eq_getElem?_getD,List.getElem?_set,if_neg (fun q=>e3 q.symm),← List.getD_eq_getElem?_getD]
 ·rw[List.getElem?_eq_none Om,if_neg Om,List.getElem?_eq_none Om]
theorem DH (p:List (List Ins)):Q7 p (List.replicate (p.length * 1) [])=List.replicate (p.length * 3) []:=by
 apply List.ext_getElem?;intro i;rcases Nat.lt_or_ge i (p.length * 3) with hi | hi
 ·rw[JE hi,List.getElem?_replicate,if_pos hi,List.getD_eq_getElem?_getD,List.getElem?_replicate]
  split <;> rfl
 ·rw[List.getElem?_eq_none (by simp[Q7];omega),List.getElem?_eq_none So]
theorem LV (l:Int) (b:List (Int × Int)):(b.filter fun e=>e.1==l).reverse.find? (fun e=>e.1==l)=b.reverse.find? (fun e=>e.1==l):=by
 rw[← List.filter_reverse]
 induction b.reverse with
 | nil=>rfl
 | cons e r ih =>
  simp only[List.filter_cons,List.find?_cons];cases h:(e.1==l) with
  | true=>simp[h]
  | false=>simpa using ih
theorem NF {x:Ins}(hv:Zi x=true) (h4:x.op≠4):0≤x.loc∧x.loc≤2:=by
 unfold Zi VX at hv;split at hv
 ·simp at hv;omega
 ·split at hv
  ·simp at hv;omega
  ·split at hv
   ·simp at hv;omega
   ·cases hv
theorem Dx {p:List (List Ins)}(hp:∀ r∈p,∀ x∈r,Zi x=true) {s:Bf}(h:Zt (Zr p false) (Zy p false) s):Zt (Zr p true) (Zy p true) ⟨s.q,Q7 p s.bf⟩:=by
 induction h with
 | start=>exact(show (⟨Zw p,Q7 p (List.replicate (p.length * 1) [])⟩:Bf)=Zr p true by rw[DH];rfl) ▸ .start
 | step hs ht ih =>
  rename_i s s' m;have hok:=ZT.reach hp hs;have hlb:s.bf.length=p.length:=by have:=hok.lb;simpa[Yw] using this
  by_cases hm:m < p.length
  ·obtain⟨r,k,x,hr,hk,hx,hd⟩:=YD ht hm
   have hv:=hp r (List.mem_of_getElem? hr) x (List.mem_of_getElem? hx);refine .step (i:=m) ih ?_;unfold Zy;rw[if_pos hm,hr,hk];simp only[hx];unfold Qa at hd ⊢;split at hd
   ·rename_i h45
    rw[if_pos h45];split at hd
    ·rename_i hem
     simp only[Option.some.injEq]at hd;subst hd;have he:s.bf.getD m []=[]:=by
      unfold Yg Yw at hem;simp at hem;simpa using hem
     have hem2:Yg ⟨s.q,Q7 p s.bf⟩ m true=true:=by
      unfold Yg Yw;rw[List.all_eq_true];intro i hi;have hi3:=List.mem_range.1 hi;simp only[if_true]at hi3 ⊢;rw[V9 Om,show (m * 3+i) / 3=m by omega,he];rfl
     rw[if_pos hem2]
    ·cases hd
   ·rename_i h45
    rw[if_neg h45];have hloc:=NF hv (fun e=>h45 (.inl e));split at hd
    ·rename_i h1
     rw[if_pos h1];simp only[Option.some.injEq]at hd;subst hd;have e1:Y4 ⟨s.q,Q7 p s.bf⟩ m x.loc true=Y4 s m x.loc false:=by
      unfold Y4 Zj;simp only[if_true,Bool.false_eq_true,if_false];rw[V9 Om,show (m * 3+x.loc.toNat) / 3=m by omega,show (((m * 3+x.loc.toNat) % 3:Nat):Int)=x.loc by omega,LV]
     rw[e1]
    ·rename_i h1
     rw[if_neg h1];simp only[Option.some.injEq]at hd;subst hd;simp only[Option.some.injEq,Bf.mk.injEq,true_and];unfold Zj;simp only[if_true,Bool.false_eq_true,if_false];rw[V9 Om,show (m * 3+x.loc.toNat) / 3=m by omega,show (((m * 3+x.loc.toNat) % 3:Nat):Int)=x.loc by omega];refine(AN hm Om Om ?_ ?_).symm
     ·rw[show ((x.loc.toNat:Nat):Int)=x.loc by omega,List.filter_append]
      simp
     ·intro j hj hne
      rw[List.filter_append];have:(x.loc==(j:Int))=false:=by rw[beq_eq_false_iff_ne];omega
      simp[this]
  ·obtain⟨l,v,rest,hb,rfl⟩:=Y9 ht hm
   have hlt:=(List.getElem?_eq_some_iff.1 hb).1;have he:=hok.en _ (List.mem_of_getElem? hb) (l,v) Sm;unfold YP at he;simp only at he;refine .step (i:=p.length+((m - p.length) * 3+l.toNat)) ih ?_;unfold Zy;rw[if_neg Om,show p.length+((m - p.length) * 3+l.toNat) - p.length=(m - p.length) * 3+l.toNat by omega];simp only;rw[JE Om,show ((m - p.length) * 3+l.toNat) / 3=m - p.length by omega,show ((((m - p.length) * 3+l.toNat) % 3:Nat):Int)=l by omega,List.getD_eq_getElem?_getD,hb];simp only[Option.getD_some,List.filter_cons,beq_self_eq_true,if_true];simp only[Option.some.injEq,Bf.mk.injEq,true_and];refine(AN Om hlt Om ?_ ?_).symm
   ·rw[show ((l.toNat:Nat):Int)=l by omega]
   ·intro j hj hne
    rw[List.getD_eq_getElem?_getD,hb];have:(l==(j:Int))=false:=by rw[beq_eq_false_iff_ne];omega
    simp[this]
theorem BQ {p:List (List Ins)}(hp:∀ r∈p,∀ x∈r,Zi x=true) {o:List Int}(h:∃ s,Zt (Zr p false) (Zy p false) s∧Y3 p s=true∧YA s=o):∃ s,Zt (Zr p true) (Zy p true) s∧Y3 p s=true∧YA s=o:=by
 obtain⟨s,h1,h2,h3⟩:=h;refine⟨_,Dx hp h1,?_,h3⟩;unfold Y3 at h2 ⊢;simp only[Bool.and_eq_true]at h2 ⊢;refine⟨?_,h2.2⟩;rw[List.all_eq_true];intro l hl;unfold Q7 at hl;obtain⟨i,-,rfl⟩:=List.mem_map.1 hl;rw[List.getD_eq_getElem?_getD];cases hq:s.bf[i / 3]? with
 | none=>rfl
 | some q =>
  have:=List.all_eq_true.1 h2.1 q (List.mem_of_getElem? hq);rw[List.isEmpty_iff]at this;simp[this]
end Go.Proofs.YtngekjpklkjnbaaGreat
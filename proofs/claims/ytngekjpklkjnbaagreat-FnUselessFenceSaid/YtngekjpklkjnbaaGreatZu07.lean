/-
  sortedOutcomes: sorted, equal ones once. Condition: outcomes of one length, bounds on lengths.
-/
import Derived.Test.YtngekjpklkjnbaaGreatZu03
import Derived.Test.YtngekjpklkjnbaaGreatZu04
import Derived.Test.YtngekjpklkjnbaaGreatZu02
import Derived.Test.YtngekjpklkjnbaaGreatZu05
import Derived.Test.YtngekjpklkjnbaaGreatZu01
set_option maxHeartbeats 6400000
set_option maxRecDepth 100000
namespace Go.Proofs.YtngekjpklkjnbaaGreat
open Go.RowKit
theorem J0 (P:Program) (w:World) (t e:TypeId) (a:Option Addr) (n c n' c':Nat) (h:P.underlying t=some (.slice e)):(binOp .eql t (.slice a n c) (.slice none n' c')).run P w = .ok (.bool a.isNone) w:=Lib.run_eql_slice_nil w t e a n c n' c' h
theorem Bg (v:Value) (xs:List Ins) (w:World) (hx:Z7 ZH w v xs) (hl:xs.length≤1048576) :
 Calls Tryz.prog 70 #[v] w (Xm ZH 44 w xs):=by
 obtain⟨a,c,rfl,hc1,hc2,hc3,hx⟩:=hx.open;have HX:=Za hx;clear hx;have hlen:([]:List Ins).length+xs.length≤68719476736:=So;generalize hn:xs.length=n at *;have H:=Za hn;clear hn;cases a with
 | none =>
  have hE:=fun w':World=>J0 Tryz.prog w' 42 44 none n c 0 0 Tryz.underlying42;have hxs:Hid (xs=[]):=Za (by
   cases xs with
   | nil=>rfl
   | cons y ys=>obtain⟨b,o,hb,_⟩:=HX.out.ins (k:=0) rfl;cases hb)
  go_enter Tryz.func70,Tryz.ntmps70;go_wp2_with fail;go_ret;rw[hxs.out];exact⟨_,rfl,Own.nil _ _ _,Below.refl _ _⟩
 | some ad =>
  have hE:=fun w':World=>J0 Tryz.prog w' 42 44 (some ad) n c 0 0 Tryz.underlying42;go_enter Tryz.func70,Tryz.ntmps70;go_wp2_with (at_builtin;refine ZC ZH 44 Tryz.Y2 rfl Tryz.underlying42 w.heap.size _ [] xs _ (Own.empty _ w (Nat.le_refl _)) (HX.out.below ((Below.refl _ _).alloc (Nat.le_refl _) _)) Dc (by rw[H.out];exact hlen) Sm rfl _ _ rfl rfl rfl ?_;intro v' w1 hown1 hgr1);go_ret;exact⟨_,rfl,by simpa using hown1,((Below.refl _ _).alloc (Nat.le_refl _) _).grown hgr1 Sm (fun k hk=>by simp[Value.ownBlock]at hk;omega)⟩
theorem Kq (v:Value) (xs:List (List Ins)) (w:World) (hx:Z5 w v xs) (hl:xs.length≤1048576) (hl2:∀ r∈xs,r.length≤1048576) :
 Calls Tryz.prog 36 #[v] w (Gv ZH 42 44 w xs):=by
 obtain⟨a,c,rfl,hc1,hc2,hc3,hx⟩:=hx.open;have HX:=Za hx;clear hx;have HL2:=Za hl2;clear hl2;generalize hn:xs.length=n at *;have H:=Za hn;clear hn;go_enter Tryz.func36,Tryz.ntmps36;go_wp2_with (at_make;refine Y4 Zw 42 ⟨none,0,0⟩ Tryz.YT rfl Tryz.underlying28 n Dc Om rfl _ _ rfl rfl rfl ?_;intro w1 hown hgr);have hb1:=XN hgr
 go_loopw [11] (fun i wr => ∃ k:Nat,k≤n∧i = .int .i64 k∧Kl wr w.heap.size (.slice (some ⟨w.heap.size,0,none⟩) n n) (xs.take k++List.replicate (n - k) [])∧Below w.heap.size w wr) (fun i _=>n - (intOf i).toNat)
 case atStart=>exact⟨0,Nat.zero_le _,rfl,by simpa using ZG.made hown,hb1⟩
 case round =>
  obtain⟨k,hk,rfl,ho,hb⟩:=hrel;by_cases hlt:k < n
  ·obtain⟨x,hxk⟩:=Zd (xs:=xs) (k:=k) (by rw[H.out];exact hlt)
   obtain⟨b,o,ra,rc,rfl,hbl,i0,i1⟩:=(HX.out.below hb).row hxk;have hlt':=Zh hlt;have hxl:x.length≤1048576:=HL2.out x (List.mem_of_getElem? hxk);have X:=Za hxk;clear hxk;have I1:=Za i1;clear i1;go_wp2_with (go_at_call 70;(with_reducible refine(Bg _ x _ I1.out hxl).mono ?_);rintro e w2 ⟨u,rfl,hu,hb2⟩;obtain⟨s,rfl,-⟩:=hu.YL;obtain⟨hgl,⟨_,f0⟩,hfr⟩:=(ho.below hb2).cellAt (k:=k) (by rw[← H.out,QB _ _ (by rw[H.out];omega),H.out];exact hlt));have ho2:=ho.put hb2 hb.size (k:=k) (by rw[← H.out,QB _ _ (by rw[H.out];omega),H.out];exact hlt) hu;rw[← H.out,Rp xs _ X.out,H.out]at ho2;go_roundw
   case rel=>exact⟨k+1,Om,Gn,ho2,(hb.trans (hb2.mono hb.size)).setCell (Nat.le_refl _) _⟩
   case measure=>simp[intOf];omega
  ·go_wp2_with fail
   go_ret;rw[← H.out,Re xs _ (by rw[H.out];omega),H.out]at ho;exact⟨_,rfl,ho,hb⟩
theorem VX (v:Value) (xs:List (List Ins)) (w:World) (hx:Z5 w v xs) (hl:xs.length≤1048576) (hl2:∀ r∈xs,r.length≤1048576) :
 Calls Tryz.prog 31 #[v] w (Gv ZH 42 44 w xs):=by
 obtain⟨a,c,rfl,hc1,hc2,hc3,hx⟩:=hx.open;have HX:=Za hx;clear hx;have HL2:=Za hl2;clear hl2;generalize hn:xs.length=n at *;have H:=Za hn;clear hn;go_enter Tryz.func31,Tryz.ntmps31;go_wp2_with fail
 go_loopw [3,4] (fun s i wr => ∃ k:Nat,k≤n∧i = .int .i64 k∧Kl wr w.heap.size s (xs.take k)∧Below w.heap.size w wr) (fun _ i _=>n - (intOf i).toNat)
 case atStart=>exact⟨0,Nat.zero_le _,rfl,by simpa using ZG.empty _ _ w (Nat.le_refl _),(Below.refl _ _).alloc (Nat.le_refl _) _⟩
 case round =>
  obtain⟨k,hk,rfl,ho,hb⟩:=hrel;by_cases hlt:k < n
  ·obtain⟨x,hxk⟩:=Zd (xs:=xs) (k:=k) (by rw[H.out];exact hlt)
   obtain⟨b,o,ra,rc,rfl,hbl,i0,i1⟩:=(HX.out.below hb).row hxk;have hlt':=Zh hlt;have hxl:x.length≤1048576:=HL2.out x (List.mem_of_getElem? hxk);have htk:(xs.take k).length≤1048576:=So;have TS:Hid (xs.take (k+1)=xs.take k++[x]):=Za (by rw[List.take_add_one,hxk];rfl);have X:=Za hxk;clear hxk;have I1:=Za i1;clear i1;generalize hT:xs.take k=T at *;clear hT;have hlen:([]:List Ins).length+x.length≤68719476736:=So;have hbx:=(Below.refl wr.heap.size wr).alloc (Nat.le_refl _) (.cells #[] 44);have HBX:=Za hbx;clear hbx;obtain⟨us,hU,-⟩:=ho.told;have HU:=Za hU;clear hU;have hub:us.length≤68719476736:=by have:=HU.out.1;omega
   go_wp2_with (first | (at_builtin;refine ZC ZH 44 Tryz.Y2 rfl Tryz.underlying42 wr.heap.size _ [] x _ (Own.empty _ wr (Nat.le_refl _)) (I1.out.below HBX.out) Dc hlen Sm rfl (.tmp 13) (.tmp 17) rfl rfl rfl ?_;intro u w2 hown1 hgr1;obtain⟨s,rfl,-⟩:=Own.YL hown1;have hb2:=HBX.out.grown hgr1 Sm (fun k hk=>by simp[Value.ownBlock]at hk;omega)) | (at_builtin;refine Z3 Zw 42 Tryz.YT rfl Tryz.underlying28 w.heap.size _ us s ((HU.out.2.1.below hb2).alloc _) Dc hub (by simp;have:=hb.size;have:=hb2.size;omega) rfl (.tmp 12) (.tmp 19) rfl rfl w2.heap.size 0 1 rfl Zp ?_;intro v' w3 hown3 hgr3));have hown1':CN w2 wr.heap.size s.v x:=by simpa using hown1
   have ho2:=(HU.out).app Dc (hb2.trans ((Below.refl _ _).alloc hb2.size _)) hb.size (hown1'.alloc _) hown3 hgr3;rw[← TS.out]at ho2;have hb3:=ZM (hb.trans (hb2.mono hb.size)) (HU.out.2.1.below hb2) hgr3;go_roundw
   case rel=>exact⟨k+1,Om,Gn,ho2,hb3⟩
   case measure=>simp[intOf];omega
  ·go_wp2_with fail
   go_ret;rw[List.take_of_length_le (by rw[H.out];omega)]at ho;exact⟨_,rfl,ho,hb⟩
section
variable {α : Type} {f : α → α} {k : Nat} {xs : List α}
end
theorem Kb {p:List (List Ins)}(h:Zi p=true):∀ r∈p,r.length≤1048576:=fun r hr=>by
 have:=((Z4 h).2.2.1 r hr).1;omega
theorem Aa:∀ {a b:List Int},a.length=b.length→YC a b=Ym a b
 | [],[],_=>rfl
 | [],_ :: _,h=>by simp at h
 | _ :: _,[],h=>by simp at h
 | x :: a,y :: b,h=>by simp only[YC,Ym];rw[Aa (by simpa using h)]
structure CI (l:List (Zt × List Int)) (n j:Nat) (r:List (Zt × List Int)):Prop where
 ok:YD n (r.map Prod.snd)
 mem:∀ o,o∈r.map Prod.snd↔o∈(l.take j).map Prod.snd
 last:∀ x,l[j - 1]? = some x→∃ y,r.getLast? = some y∧y.2=x.2
 sub:∀ x∈r,x∈l
theorem CI.start {l:List (Zt × List Int)}{n:Nat}{x:Zt × List Int}(hx:l[0]? = some x) (hl:x.2.length=n):CI l n 1 [x]:=by
 cases l with
 | nil=>simp at hx
 | cons y l =>
  simp at hx;subst hx;exact⟨⟨fun o ho=>by simp at ho;subst ho;exact hl,Sm⟩,fun o=>by simp,fun z hz=>by simp at hz;subst hz;exact⟨_,rfl,rfl⟩,fun z hz=>by simp at hz;subst hz;simp⟩
theorem CI.same {l r:List (Zt × List Int)}{n j:Nat}{x y:Zt × List Int}(h:CI l n j r) (hj:1≤j) (hx:l[j]? = some x) (hy:l[j - 1]? = some y) (e:x.2=y.2):CI l n (j+1) r:=by
 refine⟨h.ok,fun o => ?_,fun z hz => ?_,h.sub⟩
 ·rw[h.mem,List.take_add_one,hx,List.map_append,List.mem_append]
  constructor
  ·exact .inl
  ·rintro (q | q)
   ·exact q
   ·simp at q
    rw[q,e];refine List.mem_map.2 ⟨y,?_,rfl⟩;rw[List.mem_iff_getElem?];exact⟨j - 1,by rw[List.getElem?_take,if_pos Om];exact hy⟩
 ·rw[Nat.add_sub_cancel,hx]at hz
  simp at hz;subst hz;obtain⟨q,h1,h2⟩:=h.last y hy;exact⟨q,h1,h2.trans e.symm⟩
theorem CI.more {l r:List (Zt × List Int)}{n j:Nat}{x y:Zt × List Int}(h:CI l n j r) (hj:1≤j) (hx:l[j]? = some x) (hy:l[j - 1]? = some y) (hs:l.Pairwise fun a b=>Ym a.2 b.2≠1) (hn:∀ z∈l,z.2.length=n) (e:x.2≠y.2):CI l n (j+1) (r++[x]):=by
 have hxn:=hn x (List.mem_of_getElem? hx);have hyn:=hn y (List.mem_of_getElem? hy);have hyx:Ym y.2 x.2 = -1:=by
  obtain⟨h1,e1⟩:=List.getElem?_eq_some_iff.1 hx;obtain⟨h2,e2⟩:=List.getElem?_eq_some_iff.1 hy;have h3:=List.pairwise_iff_getElem.1 hs (j - 1) j h2 h1 Om;rw[e1,e2]at h3;have h4:Ym y.2 x.2≠0:=fun q=>e ((Vo (hyn.trans hxn.symm)).1 q).symm;rcases QD y.2 x.2 with q | q | q
  ·exact q
  ·exact absurd q h4
  ·exact absurd q h3
 obtain⟨q,hq1,hq2⟩:=h.last y hy;have hall:∀ a∈r,Ym a.2 x.2 = -1:=fun a ha=>by
  rcases List.eq_nil_or_concat r with rfl | ⟨r',b,rfl⟩
  ·simp at ha
  ·rw[List.concat_eq_append] at *
   rw[List.getLast?_concat]at hq1;simp at hq1;subst hq1;rcases List.mem_append.1 ha with h1 | h1
   ·have h2:=h.ok.pw
    rw[List.map_append,List.pairwise_append]at h2;have h3:=h2.2.2 a.2 (List.mem_map.2 ⟨a,h1,rfl⟩) b.2 Sm;rw[hq2]at h3;exact Uf (h.ok.len _ (List.mem_map.2 ⟨a,by simp[h1],rfl⟩)) hyn hxn h3 hyx
   ·simp at h1
    subst h1;rw[hq2];exact hyx
 refine⟨⟨fun o ho => ?_,?_⟩,fun o => ?_,fun z hz => ?_,fun z hz => ?_⟩
 ·rw[List.map_append,List.mem_append]at ho
  rcases ho with ho | ho
  ·exact h.ok.len o ho
  ·simp at ho;rw[ho];exact hxn
 ·rw[List.map_append,List.pairwise_append]
  refine⟨h.ok.pw,Sm,fun a ha b hb => ?_⟩;obtain⟨a',ha',rfl⟩:=List.mem_map.1 ha;simp at hb;rw[hb];exact hall a' ha'
 ·rw[List.map_append,List.mem_append,h.mem,List.take_add_one,hx,List.map_append,List.mem_append]
  simp
 ·rw[Nat.add_sub_cancel,hx]at hz
  simp at hz;subst hz;exact⟨x,Sm,rfl⟩
 ·rcases List.mem_append.1 hz with q | q
  ·exact h.sub z q
  ·simp at q;subst q;exact List.mem_of_getElem? hx
def Rx:El (Zt × List Int):=⟨1,Dc,fun x=>[x.1.v],fun _=>rfl,fun x u h=>by simp at h;subst h;rfl⟩
theorem Own.Hs {T:TypeId}{w:World}{base:Nat}{v:Value}{xs:List (Zt × List Int)}:Own Rx T w base v xs↔Own Zw T w base v (xs.map Prod.fst):=by
 have e:∀ l:List (Zt × List Int),l.flatMap Rx.c=(l.map Prod.fst).flatMap Zw.c:=fun l=>by
  induction l with
  | nil=>rfl
  | cons x l ih=>rw[List.flatMap_cons,List.map_cons,List.flatMap_cons,ih];rfl
 unfold Own;rw[e,List.length_map];exact Iff.rfl
theorem UY (v v':Value) (xs ys:List Int) (w:World) (hx:Z7 Zo w v xs) (hy:Z7 Zo w v' ys) :
 Calls Tryz.prog 134 #[v,v'] w fun e w'=>e = .returned (.bool (decide (xs=ys)))∧Below w.heap.size w w':=by
 have H:=Za (Vu v v' xs ys w hx hy);clear hx hy;generalize decide (xs=ys)=D at *;go_enter Tryz.func134,Tryz.ntmps134;go_wp2_with (go_at_call 73;(with_reducible refine H.out.mono ?_);rintro e w1 ⟨rfl,hb1⟩);go_ret;exact⟨rfl,hb1⟩
def Gu (w:World) (base:Nat) (n:Nat) (l:List (Zt × List Int)) (e:Ending) (w':World):Prop:=
 ∃ v r,e = .returned v∧Own Rx 66 w' base v r∧CI l n l.length r∧(∀ x∈l,Own Zo 3 w' base x.1.v x.2)∧YS [66] base w w'
theorem Rn {w w':World}{base:Nat}{l:List (Zt × List Int)}(h:∀ x∈l,Own Zo 3 w base x.1.v x.2) (k:YS [66] base w w'):∀ x∈l,Own Zo 3 w' base x.1.v x.2:=fun x hx=>(Yn.own (B:=base) (L:=[66]) (h x hx) Dc).keep w' k
def DQ (w:World) (base g c0 n:Nat) (l:List (Zt × List Int)) (m j kk:Nat) (wr:World):Prop:=
 ∃ c,Own Rx 66 wr base (.slice (some ⟨g,0,none⟩) m c0) c∧c.length=m∧c.drop j=l.drop j∧CI l n (j+1) (c.take kk)∧(∀ x∈c,x∈l)∧YS [66] base w wr
theorem Rz (base g c0 n:Nat) (l:List (Zt × List Int)) (w:World) (ho:Own Rx 66 w base (.slice (some ⟨g,0,none⟩) l.length c0) l) (hr:∀ x∈l,Own Zo 3 w base x.1.v x.2)
 (hn:∀ x∈l,x.2.length=n) (hs:l.Pairwise fun a b=>Ym a.2 b.2≠1) (hl:l.length≤68719476736) :
 Calls Tryz.prog 133 #[.slice (some ⟨g,0,none⟩) l.length c0,.func (.func 134) #[] #[]] w (Gu w base n l):=by
 have HR:=Za hr;have HN:=Za hn;have HS:=Za hs;have HO:=Za ho
 have hcap:l.length≤c0:=by
  rcases ho.shape with⟨e,_⟩ | ⟨g',cap',e,_,_,h5,_⟩
  ·simp at e
  ·simp only[Value.slice.injEq]at e;omega
 have hgl:=World.ownsRow.lt ho g rfl;clear hr hn hs ho;obtain⟨m,hm⟩:∃ m,m=l.length:=⟨_,rfl⟩
 rw[← hm]at HO hcap hl ⊢;have HM:=Za hm;clear hm;by_cases h2:m < 2
 ·have F:Hid (Gu w base n l (.returned (.slice (some ⟨g,0,none⟩) m c0)) w):=Za (by
   refine⟨_,l,rfl,by rw[HM.out]at HO ⊢;exact HO.out,?_,HR.out,.refl _ _ _⟩
   match l,HM.out,HN.out with
   | [],_,_=>exact⟨⟨fun o h=>by simp at h,.nil⟩,fun o=>by simp,fun x hx=>by simp at hx,fun x hx=>hx⟩
   | [x],_,h=>exact CI.start rfl (h x Sm)
   | x :: y :: l',h,_=>simp at h;omega)
  have h2':(m:Int) < 2:=Om;go_enter Tryz.func133,Tryz.ntmps133;go_wp2_with fail;go_ret;exact F.out
 ·have h2':¬ (m:Int) < 2:=Om
  go_enter Tryz.func133,Tryz.ntmps133;go_wp2_with fail;have HC1:Hid (CI l n 1 (l.take 1)):=Za (by
   obtain⟨x,hx⟩:=Zd (xs:=l) (k:=0) (by rw[← HM.out];omega);have:=CI.start hx (HN.out x (List.mem_of_getElem? hx));rwa[show l.take 1=[x] by cases l with | nil=>simp at hx | cons z l=>simp at hx;simp[hx]])
  go_loopw [5] (fun i wr => ∃ q:Nat,q+1≤m∧i = .int .i64 ((q+1:Nat):Int)∧CI l n (q+1) (l.take (q+1))∧Below w.heap.size w wr) (fun i _=>m - (intOf i).toNat)
  case atStart=>exact⟨0,Om,rfl,HC1.out,Below.refl _ _⟩
  case round =>
   obtain⟨q,hq,rfl,hci,hbl⟩:=hrel;have CI0:=Za hci;have BL:=Za hbl
   have HO1:=Za (HO.out.below hbl);have HR1:=Za (fun x hx=>(HR.out x hx).below hbl);clear hci;by_cases hlt:q+1 < m
   ·have hlt':=Zh hlt
    have hltq:(q:Int) < (m:Int):=Om;obtain⟨⟨⟨xa,xn,xk⟩,xo⟩,hx⟩:=Zd (xs:=l) (k:=q+1) (by rw[← HM.out];exact hlt);obtain⟨⟨⟨ya,yn,yk⟩,yo⟩,hy⟩:=Zd (xs:=l) (k:=q) (by rw[← HM.out];omega);have x0:wr.cell? ⟨g,(q+1) * 1+0,none⟩=some (.slice xa xn xk):=HO1.out.cell hx (j:=0) rfl;have y0:wr.cell? ⟨g,q * 1+0,none⟩=some (.slice ya yn yk):=HO1.out.cell hy (j:=0) rfl;rw[Nat.mul_one,Nat.add_zero]at x0 y0;have xl:=Zb x0;have HE:=Za (fun X:BW wr=>UY (.slice xa xn xk) (.slice ya yn yk) xo yo X.val ((HR1.out _ (List.mem_of_getElem? hx)).rep.below X.prop) ((HR1.out _ (List.mem_of_getElem? hy)).rep.below X.prop));have HXE:=Za hx;have HYE:=Za hy
    clear hx hy hbl;by_cases he:xo=yo
    ·simp only[he,decide_true]at HE
     go_wp2_with fail;refine Zs Kr Kr ?_
     repeat (go_big_quiet_step ((go_at_call 134;(with_reducible exact Calls.bw (HE.out _)))))
     refine wpQuiet_nil ?_;intro w1 hw1;subst he;have CI1:=Za (CI0.out.same Om HXE.out HYE.out rfl);have B1:=Za (BL.out.trans (hw1.mono BL.out.size));have HOW:=Za (HO.out.below B1.out);have hqc:q+1 < c0:=Om;have hqe:(c0==q+1)=false:=So;have hqe2:¬ c0=q+1:=Om;clear hw1 HE x0 y0 xl;go_wp2_with fail
     go_loopw [5,7] (fun a b wr => ∃ kk z:Nat,q+2+z≤m∧1≤kk∧kk≤q+1+z∧a = .int .i64 (kk:Int)∧b = .int .i64 ((z+1:Nat):Int)∧DQ w base g c0 n l m (q+1+z) kk wr) (fun _ b _=>m - (intOf b).toNat)
     case atStart=>exact⟨q+1,0,Om,Om,Om,rfl,rfl,l,HOW.out,HM.out.symm,rfl,CI1.out,(fun x hx=>hx),.Zf B1.out⟩
     case round =>
      obtain⟨kk,z,hz,hk1,hkz,rfl,rfl,c,hoc,hcl,hdr,hci,hsub,hkp⟩:=hrel;have OC:=Za hoc;have CL:=Za hcl;have DR:=Za hdr;have CIz:=Za hci;have SB:=Za hsub;have KP:=Za hkp
      have RW:=Za (Rn HR.out hkp);clear hcl hdr hci hsub hkp;by_cases hlt2:q+2+z < m
      ·have hl3:z+1 < m - (q+1):=Om
       have hl4:z < m - (q+1):=Om;have hl5:((z:Int)+1) < ((m - (q+1):Nat):Int):=Om;have hl6:(z:Int) < ((m - (q+1):Nat):Int):=Om;have hkm:kk < m:=Om;have hkm2:(kk:Int) < (m:Int):=Om;obtain⟨⟨⟨xa,xn,xk⟩,xo⟩,hx⟩:=Zd (xs:=l) (k:=q+2+z) (by rw[← HM.out];exact hlt2);obtain⟨⟨⟨ya,yn,yk⟩,yo⟩,hy⟩:=Zd (xs:=l) (k:=q+1+z) (by rw[← HM.out];omega);have hcx:c[q+2+z]? = some (⟨xa,xn,xk⟩,xo):=by
        have:=congrArg (fun t=>t[1]?) DR.out;simp only[List.getElem?_drop]at this;rw[show q+2+z=q+1+z+1 by omega]at hx ⊢;exact this.trans hx
       have hcy:c[q+1+z]? = some (⟨ya,yn,yk⟩,yo):=by
        have:=congrArg (fun t=>t[0]?) DR.out;simp only[List.getElem?_drop,Nat.add_zero]at this;exact this.trans hy
       have x0:wr.cell? ⟨g,(q+2+z) * 1+0,none⟩=some (.slice xa xn xk):=hoc.cell hcx (j:=0) rfl;have y0:wr.cell? ⟨g,(q+1+z) * 1+0,none⟩=some (.slice ya yn yk):=hoc.cell hcy (j:=0) rfl;rw[Nat.mul_one,Nat.add_zero,show q+2+z=q+1+(z+1) by omega]at x0;rw[Nat.mul_one,Nat.add_zero]at y0;have xl:=Zb x0;have HE:=Za (fun X:BW wr=>UY (.slice xa xn xk) (.slice ya yn yk) xo yo X.val ((RW.out _ (List.mem_of_getElem? hx)).rep.below X.prop) ((RW.out _ (List.mem_of_getElem? hy)).rep.below X.prop));have HXE:=Za hx;have HYE:=Za hy;have HCX:=Za hcx
       have hd1:c.drop (q+1+(z+1))=l.drop (q+1+(z+1)):=by
        have:=congrArg (List.drop 1) DR.out;rw[List.drop_drop,List.drop_drop]at this;exact this
       have HD1:=Za hd1;clear hx hy hcx hcy hd1 hoc;by_cases he:xo=yo
       ·simp only[he,decide_true]at HE
        go_wp2_with fail;refine Zs Kr Kr ?_
        repeat (go_big_quiet_step ((go_at_call 134;(with_reducible exact Calls.bw (HE.out _)))))
        refine wpQuiet_nil ?_;intro w2 hw2;subst he;have HF:Hid (DQ w base g c0 n l m (q+1+(z+1)) kk w2):=Za ⟨c,OC.out.below hw2,CL.out,HD1.out,by
         have:=CIz.out.same Om (x:=(⟨xa,xn,xk⟩,xo)) (y:=(⟨ya,yn,yk⟩,xo)) (by rw[show q+1+z+1=q+2+z by omega];exact HXE.out) (by rw[Nat.add_sub_cancel];exact HYE.out) rfl;exact this,SB.out,KP.out.trans (.Zf hw2)⟩
        clear hw2;go_wp2_with fail;go_roundw
        case rel=>exact⟨kk,z+1,Om,hk1,Om,rfl,Gn,HF.out⟩
        case measure=>simp[intOf];omega
       ·have hed:decide (xo=yo)=false:=by simpa using he
        rw[hed]at HE;go_wp2_with fail;refine Zs Kr Kr ?_
        repeat (go_big_quiet_step ((go_at_call 134;(with_reducible exact Calls.bw (HE.out _)))))
        refine wpQuiet_nil ?_;intro w2 hw2;have OC2:=Za (OC.out.below hw2);have x2:=(hw2.cell (p:=⟨g,q+1+(z+1),none⟩) xl).trans x0;have hfz:=OC2.out.frozen;have xl2:=Zb x2;obtain⟨⟨⟨ka,kn,kc⟩,ko⟩,hck⟩:=Zd (xs:=c) (k:=kk) (by rw[CL.out];exact hkm);have k0:w2.cell? ⟨g,kk * 1+0,none⟩=some (.slice ka kn kc):=OC2.out.cell hck (j:=0) rfl;rw[Nat.mul_one,Nat.add_zero]at k0;have hset:=OC2.out.set (i:=kk) (j:=0) (x:=(⟨ka,kn,kc⟩,ko)) (⟨xa,xn,xk⟩,xo) (u:=.slice xa xn xk) Dc hck rfl;have KP2:=Za ((KP.out.trans (.Zf hw2)).trans (YS.Yh (T:=66) (L:=[66]) (B:=base) (g:=g) (j:=kk) (w:=w2) (by obtain⟨a,ha⟩:=OC2.out.Xa (g:=g) rfl;exact⟨a,ha⟩) Sm hgl.1 (.slice xa xn xk)));simp only[Rx,Nat.mul_one,Nat.add_zero]at hset;have HSET:=Za hset;have CIn:=Za (CIz.out.more Om (x:=(⟨xa,xn,xk⟩,xo)) (y:=(⟨ya,yn,yk⟩,yo)) (by rw[show q+1+z+1=q+2+z by omega];exact HXE.out) (by rw[Nat.add_sub_cancel];exact HYE.out) HS.out HN.out he);have HKL:Hid (kk < c.length):=Za (by rw[CL.out];exact hkm);have HF:Hid (DQ w base g c0 n l m (q+1+(z+1)) (kk+1) (w2.setCell ⟨g,kk,none⟩ (.slice xa xn xk))):=Za (by
         refine⟨c.set kk (⟨xa,xn,xk⟩,xo),HSET.out,by rw[List.length_set];exact CL.out,?_,?_,fun y hy => ?_,KP2.out⟩
         ·rw[List.drop_set_of_lt Om];exact HD1.out
         ·have e:(c.set kk (⟨xa,xn,xk⟩,xo)).take (kk+1)=c.take kk++[(⟨xa,xn,xk⟩,xo)]:=by
           rw[List.take_add_one,List.take_set_of_le (Nat.le_refl _),List.getElem?_set_self HKL.out];rfl
          rw[e];exact CIn.out
         ·rcases List.mem_or_eq_of_mem_set hy with h | h
          ·exact SB.out y h
          ·rw[h];exact List.mem_of_getElem? HXE.out)
        clear hw2 hset hck HE x0 y0 xl;go_wp2_with fail;go_roundw
        case rel=>exact⟨kk+1,z+1,Om,Om,Om,Gn,Gn,HF.out⟩
        case measure=>simp[intOf];omega
      ·have hzm:q+2+z=m:=Om
       have hl3:¬ z+1 < m - (q+1):=Om;have hl5:¬ ((z:Int)+1) < ((m - (q+1):Nat):Int):=Om;have hkm:kk < m:=Om;have hkm2:(kk:Int) < (m:Int):=Om;have hkc:(c0==kk)=false:=So;have hkc2:¬ c0=kk:=Om;clear hoc;go_wp2_with (refine Kh Rx 66 (⟨none,0,0⟩,[]) Tryz.Yl rfl Tryz.underlying46 base g m c0 kk _ c OC.out hkm rfl _ rfl (by simp[Rx];rfl) ?_;intro w3 ho3 hgr3);have hkl:(c.take kk).length=kk:=by rw[List.length_take,CL.out];omega
       have hcut:=ho3.cut (i:=kk) Om;rw[List.take_left' hkl]at hcut;have K3:YS [66] base w w3:=KP.out.trans (.grown OC.out Sm (Nat.le_refl _) hgr3);have F:Hid (Gu w base n l (.returned (.slice (some ⟨g,0,none⟩) kk c0)) w3):=Za ⟨_,c.take kk,rfl,hcut,by
        have:=CIz.out;rw[show q+1+z+1=l.length by rw[← HM.out];omega]at this;exact this,Rn HR.out K3,K3⟩
       clear hcut K3 ho3 hgr3;go_ret;exact F.out
    ·have hed:decide (xo=yo)=false:=by simpa using he
     rw[hed]at HE;go_wp2_with fail;refine Zs Kr Kr ?_
     repeat (go_big_quiet_step ((go_at_call 134;(with_reducible exact Calls.bw (HE.out _)))))
     refine wpQuiet_nil ?_;intro w1 hw1;have CI1:Hid (CI l n (q+1+1) (l.take (q+1+1))):=Za (by
      have:=CI0.out.more Om HXE.out HYE.out HS.out HN.out he;rwa[List.take_add_one (i:=q+1),HXE.out])
     have BL1:=Za (BL.out.trans (hw1.mono BL.out.size));clear hw1;go_wp2_with fail;go_roundw
     case rel=>exact⟨q+1,Om,Gn,CI1.out,BL1.out⟩
     case measure=>simp[intOf];omega
   ·have E:Hid (q+1=m):=Za Om
    have F:Hid (Gu w base n l (.returned (.slice (some ⟨g,0,none⟩) m c0)) wr):=Za (by
     refine⟨_,l,rfl,HO1.out,?_,HR1.out,.Zf BL.out⟩;have:=CI0.out;rw[E.out,HM.out,List.take_length]at this;exact this)
    go_wp2_with fail;go_ret;exact F.out
def GM (x:Ins):Bool:=x.op==4
def UU (r:List Ins):List Ins:=r.filter fun x => !GM x
def UW (p:List (List Ins)):List (List Ins):=p.map UU
theorem Fj {α:Type} [Inhabited α] (enc:α→Value) (d:Array α) (cur:Array Value) (h:d.size≤cur.size):(Sort.putCells enc 0 d cur).toList.take d.size=d.toList.map enc:=by
 apply List.ext_getElem?;intro k;rw[List.getElem?_take];by_cases hk:k < d.size
 ·rw[if_pos hk]
  have h1:k < cur.size:=Om;simp[Sort.putCells,hk,h1]
 ·rw[if_neg hk,List.getElem?_eq_none (by simpa using hk)]
theorem Uk (l:List (Zt × List Int)):l.flatMap Rx.c=l.map fun x=>x.1.v:=by
 induction l with
 | nil=>rfl
 | cons x l ih=>rw[List.flatMap_cons,ih];rfl
theorem CP (base g c0 n:Nat) (l:List (Zt × List Int)) (w:World) (ho:Own Rx 66 w base (.slice (some ⟨g,0,none⟩) l.length c0) l) (hr:∀ x∈l,Own Zo 3 w base x.1.v x.2) (hn:∀ x∈l,x.2.length=n) (hl:l.length≤68719476736) :
 Calls Tryz.prog 131 #[.slice (some ⟨g,0,none⟩) l.length c0,.func (.func 132) #[] #[]] w fun e w'=>e = .returned (.tuple #[]) ∧
  ∃ l':List (Zt × List Int),l'.Perm l∧Own Rx 66 w' base (.slice (some ⟨g,0,none⟩) l.length c0) l'∧(l'.Pairwise fun a b=>Ym a.2 b.2≠1)∧(∀ x∈l',Own Zo 3 w' base x.1.v x.2)∧YS [66] base w w':=by
 obtain⟨cur,hcur⟩:=ho.Xa (g:=g) rfl;have hgl:=World.ownsRow.lt ho g rfl;obtain⟨D,hD1,hD2⟩:=L3 (F:=fun x:OE w g=>x.u) (G:=fun x:OE w g=>x.o) (us:=l.map Prod.fst) (outs:=l.map Prod.snd) Sm fun i u o hu ho'=>by
  rw[List.getElem?_map]at hu ho';cases hx:l[i]? with
  | none=>rw[hx]at hu;simp at hu
  | some x =>
   rw[hx]at hu ho';simp only[Option.map_some,Option.some.injEq]at hu ho';subst hu;subst ho';have hrow:=hr x (List.mem_of_getElem? hx);refine⟨⟨x.1,x.2,fun W hW=>(hrow.J6 fun q hq => ?_).rep⟩,rfl,rfl⟩;refine hW q (World.ownsRow.lt hrow q hq).2 fun e => ?_;obtain⟨a,ha⟩:=hrow.Xa hq;rw[e,hcur]at ha;simp at ha
 have hlen:D.length=l.length:=by simpa using congrArg List.length hD1
 have hpair:D.map (fun x=>(x.u,x.o))=l:=by
  apply List.ext_getElem?;intro k;have h1:=congrArg (fun t:List Zt=>t[k]?) hD1;have h2:=congrArg (fun t:List (List Int)=>t[k]?) hD2;simp only[List.getElem?_map]at h1 h2 ⊢;cases hd:D[k]? with
  | none=>rw[hd]at h1;cases hx:l[k]? with
   | none=>rfl
   | some x=>rw[hx]at h1;simp at h1
  | some y =>
   rw[hd]at h1 h2;cases hx:l[k]? with
   | none=>rw[hx]at h1;simp at h1
   | some x =>
    rw[hx]at h1 h2;simp only[Option.map_some,Option.some.injEq]at h1 h2 ⊢;rw[h1,h2]
 have hsz:D.toArray.size=l.length:=by simpa using hlen
 have hH:Sort.Holds (fun x:OE w g=>x.u.v) w g 0 D.toArray:=fun j hj=>by
  have hj2:j < l.length:=Om;obtain⟨x,hx⟩:=Zd (xs:=l) (k:=j) hj2;have hc:=ho.cell hx (j:=0) rfl;simp only[Rx,Nat.mul_one,Nat.add_zero]at hc;have hfz:=ho.frozen j;rw[Nat.zero_add];refine⟨?_,hfz⟩;rw[hc];have h1:=congrArg (fun t:List Zt=>t[j]?) hD1;simp only[List.getElem?_map,hx,Option.map_some]at h1;have hjd:j < D.length:=by simpa using hj
  rw[List.getElem?_eq_getElem hjd]at h1;simp only[Option.map_some,Option.some.injEq]at h1;simp[hjd,h1]
 have hcmp:CmpLays1 Tryz.prog 132 #[] (fun x:OE w g=>x.u.v) (fun x y=>YC x.o y.o) g 0 D.toArray.size w:=fun m os dk _ x y=>by
  refine(R9 x.u.v y.u.v x.o y.o _ (x.h _ fun k hk hg=>Jm k hk hg) (y.h _ fun k hk hg=>Jm k hk hg)).mono ?_;rintro e w' ⟨rfl,rfl⟩;exact⟨rfl,0,#[],by rw[Sort.grow_empty];rfl⟩
 have h:=Any.slices_SortFunc Tryz.E8 (fun x:OE w g=>x.u.v) (fun _=>rfl) (fun x y=>YC x.o y.o) (L8 w g) 132 #[] g 0 c0 D.toArray w (fun _ _=>by kernel_rfl) hcmp hH hgl.2 Om;rw[hsz]at h;refine Calls.mono h ?_;rintro e w' ⟨rfl,d',q,os,hp,hso,rfl⟩;obtain⟨hp1,-,hp3⟩:=hp;have hd's:d'.size=l.length:=by rw[hp1,hsz]
 have hperm:d'.toList.Perm D:=by
  have e1:(d'.extract 0 l.length).toList=d'.toList:=by rw[← hd's];simp
  have e2:(D.toArray.extract 0 l.length).toList=D:=by rw[← hsz];simp
  rw[e1,e2]at hp3;exact hp3
 have hk:=EW (enc:=fun x:OE w g=>x.u.v) (m:=q) (d:=d') (os:=os) hcur hgl.1;have hlp:(d'.toList.map fun x=>(x.u,x.o)).Perm l:=by
  have:=hperm.map fun x:OE w g=>(x.u,x.o)
  rwa[hpair]at this
 refine⟨rfl,d'.toList.map fun x=>(x.u,x.o),hlp,?_,?_,fun x hx=>Rn (fun x hx=>hr x hx) hk x (hlp.mem_iff.1 hx),hk⟩
 ·have hcs:l.length≤cur.size∧l.length≤c0∧c0≤maxLen∧cur.size=c0:=by
   rcases ho.2 with⟨e,_⟩ | ⟨g',cap',cur',e,_,h3,h4,h5,h6,_⟩
   ·simp at e
   ·simp only[Value.slice.injEq,Option.some.injEq,Addr.mk.injEq]at e
    obtain⟨⟨rfl,-,-⟩,-,rfl⟩:=e;rw[hcur]at h3;simp only[Option.some.injEq,Obj.cells.injEq,and_true]at h3;subst h3;simp only[Rx,Nat.mul_one]at h6;exact⟨Om,h4,h5,h6⟩
  refine⟨?_,.inr ⟨g,c0,_,?_,hgl.1,EV hcur,?_,hcs.2.2.1,?_,?_⟩⟩
  ·rw[Uk];simp[Rx]
  ·simp[hd's]
  ·simp[hd's];exact hcs.2.1
  ·simp[Sort.putCells,Rx];exact hcs.2.2.2
  ·rw[Uk]
   have:=Fj (fun x:OE w g=>x.u.v) d' cur Om;simpa[Rx,Function.comp_def] using this
 ·rw[List.pairwise_map,List.pairwise_iff_getElem]
  intro i j hi hj hij hlex;have h1:=hso i j (Nat.zero_le _) hij (by rw[← hd's];simpa using hj);simp only[ltOf,decide_eq_false_iff_not]at h1;have hi2:i < d'.size:=by simpa using hi
  have hj2:j < d'.size:=by simpa using hj
  rw[getElem!_pos d' i hi2,getElem!_pos d' j hj2]at h1;have m1:=hn _ (hlp.mem_iff.1 (List.mem_map.2 ⟨d'[i],Sm,rfl⟩));have m2:=hn _ (hlp.mem_iff.1 (List.mem_map.2 ⟨d'[j],Sm,rfl⟩));simp only at m1 m2;rw[Aa (m2.trans m1.symm)]at h1;have h3:=Jp d'[i].o d'[j].o;simp only[Array.getElem_toList]at hlex;omega
end Go.Proofs.YtngekjpklkjnbaaGreat
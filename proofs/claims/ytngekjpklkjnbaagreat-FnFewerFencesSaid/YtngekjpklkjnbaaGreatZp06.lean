/-
  slices.CompactFunc at lists of outcomes. Condition: a sorted list, outcomes of one length, bounds on lengths.
-/
import Derived.Test.YtngekjpklkjnbaaGreatZp03
import Derived.Test.YtngekjpklkjnbaaGreatZp04
import Derived.Deep.RegionHeld3
import Derived.Deep.DeepCutAuto
import Derived.Test.YtngekjpklkjnbaaGreatZp05
set_option maxHeartbeats 6400000
set_option maxRecDepth 100000
namespace Go.Proofs.YtngekjpklkjnbaaGreat
open Go.RowKit
theorem NA (b:Nat) (a:Option Addr) (c:Nat) (xs:List Int) (p:Int) (y0 y1 y2:Int) (w':World) (G:Nat) (hG:w'.heap.size=G) (hb:b < G) (h:Rd (w'.alloc (.cells #[.int .i64 y0,.int .i64 y1,.int .i64 y2] 3)) b a c xs p) (hp:p≤1000000000) :
 Calls Tryz.prog 100 #[.pointer (some ⟨b,0,none⟩),.slice (some ⟨G,0,none⟩) 3 3] (w'.alloc (.cells #[.int .i64 y0,.int .i64 y1,.int .i64 y2] 3)) (Ke (w'.alloc (.cells #[.int .i64 y0,.int .i64 y1,.int .i64 y2] 3)) b a c xs p 1 (UD [y0,y1,y2])):=by
 subst hG;exact C0 b a c xs p (Value.slice (some (Addr.mk w'.heap.size 0 none)) 3 3) [y0,y1,y2] _ h hp (H8 w' [y0,y1,y2] 3 Sm) Sm Sm (by intro g o e;simp at e;omega)
theorem NB (b:Nat) (a:Option Addr) (c:Nat) (xs:List Int) (p:Int) (y0 y1 y2 y3 y4:Int) (w':World) (G:Nat) (hG:w'.heap.size=G) (hb:b < G) (h:Rd (w'.alloc (.cells #[.int .i64 y0,.int .i64 y1,.int .i64 y2,.int .i64 y3,.int .i64 y4] 3)) b a c xs p) (hp:p≤1000000000) :
 Calls Tryz.prog 100 #[.pointer (some ⟨b,0,none⟩),.slice (some ⟨G,0,none⟩) 5 5] (w'.alloc (.cells #[.int .i64 y0,.int .i64 y1,.int .i64 y2,.int .i64 y3,.int .i64 y4] 3)) (Ke (w'.alloc (.cells #[.int .i64 y0,.int .i64 y1,.int .i64 y2,.int .i64 y3,.int .i64 y4] 3)) b a c xs p 1 (UD [y0,y1,y2,y3,y4])):=by
 subst hG;exact C0 b a c xs p (Value.slice (some (Addr.mk w'.heap.size 0 none)) 5 5) [y0,y1,y2,y3,y4] _ h hp (H8 w' [y0,y1,y2,y3,y4] 3 Sm) Sm Sm (by intro g o e;simp at e;omega)
def Ni (w:World) (e:Ending) (w':World):Prop:=∃ (B:Nat) (a:Option Addr) (c:Nat) (xs:List Int),e = .returned (.pointer (some ⟨B,0,none⟩))∧Rd w' B a c xs 0∧w.heap.size≤B∧Below w.heap.size w w'
theorem ZC.take {w:World}{a:Option Addr}{n c:Nat}{xs:List Int}(h:ZC Zu w (.slice a n c) xs) {k:Nat}(hk:k≤xs.length):ZC Zu w (.slice a k c) (xs.take k):=by
 obtain⟨a',c',hv,h1,h2,h3⟩:=h;simp only[Value.slice.injEq]at hv;obtain⟨rfl,rfl,rfl⟩:=hv;refine⟨a,c,by rw[List.length_take,Nat.min_eq_left hk],by rw[List.length_take];omega,h2,fun i x hx => ?_⟩;rw[List.getElem?_take]at hx;split at hx
 ·exact h3 i x hx
 ·cases hx
theorem M6 {w:World}{a:Option Addr}{n c:Nat}{xs:List Int}(h:ZC Zu w (.slice a n c) xs) (g o:Nat) (hne:xs≠[]) (e:a=some ⟨g,o,none⟩):g < w.heap.size:=by
 cases xs with
 | nil=>exact absurd rfl hne
 | cons x xs =>
  obtain⟨b,o',hb,hlt,-⟩:=h.byte (k:=0) (x:=x) rfl;rw[e]at hb;simp only[Option.some.injEq,Addr.mk.injEq,and_true]at hb;omega
theorem Ef (v:Value) (xs:List Int) (w:World) (hx:ZC Zu w v xs) (hb:∀ x∈xs,0≤x∧x≤255) :
 Calls Tryz.prog 76 #[v] w (Ni w):=by
 obtain⟨a,c,rfl,hc1,hc2,hc3,hx⟩:=hx.open;have HX:=Za hx;clear hx;by_cases hl:xs.length > 2000
 ·have hT:=Za (HX.out.take (k:=2000) Om)
  have hlt:(2000:Int) < (xs.length:Int):=Om;have hc4:2000≤c:=Om;have htl:(xs.take 2000).length=2000:=by rw[List.length_take];omega
  have HTL:=Za htl;clear htl;generalize hn:xs.length=n at *;clear hn;go_enter Tryz.func76,Tryz.ntmps76;go_wp2_with fail;go_ret;have h2:Rd (w.alloc (.cells #[.slice a 2000 c,.int .i64 0] 111)) w.heap.size a c (xs.take 2000) 0:=
   ⟨Sm,by rw[HTL.out];simp[go_sem],by simp[go_sem],by simp[go_sem],by rw[HTL.out];exact hT.out.below ((Below.refl _ _).alloc (Nat.le_refl _) _),fun g o hne e=>M6 hT.out g o hne e,fun x hx=>hb x (List.mem_of_mem_take hx),Om⟩
  exact⟨w.heap.size,a,c,_,rfl,h2,Nat.le_refl _,(Below.refl _ _).alloc (Nat.le_refl _) _⟩
 ·have hge:decide ((xs.length:Int) > 2000)=false:=decide_eq_false Om
  clear hl;have HXR:=Za (fun g o hne e=>M6 HX.out g o hne e);generalize hn:xs.length=n at *;have H:=Za hn;clear hn;go_enter Tryz.func76,Tryz.ntmps76;go_wp2_with fail;go_ret;have h2:Rd (w.alloc (.cells #[.slice a n c,.int .i64 0] 111)) w.heap.size a c xs 0:=
   ⟨Sm,by rw[H.out];simp[go_sem],by simp[go_sem],by simp[go_sem],by rw[H.out];exact HX.out.below ((Below.refl _ _).alloc (Nat.le_refl _) _),HXR.out,hb,Om⟩
  exact⟨w.heap.size,a,c,_,rfl,h2,Nat.le_refl _,(Below.refl _ _).alloc (Nat.le_refl _) _⟩
theorem JC {b:Nat}{w w':World}{B:Nat}(h:Outside b (b+1) w w') (hB:B≤b) (hB2:B≤w.heap.size):Below B w w':=h.below hB hB2
theorem DG:∀ {a b:List Int},a.length=b.length→Xf a b=Y5 a b
 | [],[],_=>rfl
 | [],_ :: _,h=>by simp at h
 | _ :: _,[],h=>by simp at h
 | x :: a,y :: b,h=>by simp only[Xf,Y5];rw[DG (by simpa using h)]
structure CI (l:List (Zs × List Int)) (n j:Nat) (r:List (Zs × List Int)):Prop where
 ok:Xr n (r.map Prod.snd)
 mem:∀ o,o∈r.map Prod.snd↔o∈(l.take j).map Prod.snd
 last:∀ x,l[j - 1]? = some x→∃ y,r.getLast? = some y∧y.2=x.2
 sub:∀ x∈r,x∈l
theorem CI.start {l:List (Zs × List Int)}{n:Nat}{x:Zs × List Int}(hx:l[0]? = some x) (hl:x.2.length=n):CI l n 1 [x]:=by
 cases l with
 | nil=>simp at hx
 | cons y l =>
  simp at hx;subst hx;exact⟨⟨fun o ho=>by simp at ho;subst ho;exact hl,Sm⟩,fun o=>by simp,fun z hz=>by simp at hz;subst hz;exact⟨_,rfl,rfl⟩,fun z hz=>by simp at hz;subst hz;simp⟩
theorem CI.same {l r:List (Zs × List Int)}{n j:Nat}{x y:Zs × List Int}(h:CI l n j r) (hj:1≤j) (hx:l[j]? = some x) (hy:l[j - 1]? = some y) (e:x.2=y.2):CI l n (j+1) r:=by
 refine⟨h.ok,fun o => ?_,fun z hz => ?_,h.sub⟩
 ·rw[h.mem,List.take_add_one,hx,List.map_append,List.mem_append]
  constructor
  ·exact .inl
  ·rintro (q | q)
   ·exact q
   ·simp at q
    rw[q,e];refine List.mem_map.2 ⟨y,?_,rfl⟩;rw[List.mem_iff_getElem?];exact⟨j - 1,by rw[List.getElem?_take,if_pos Om];exact hy⟩
 ·rw[Nat.add_sub_cancel,hx]at hz
  simp at hz;subst hz;obtain⟨q,h1,h2⟩:=h.last y hy;exact⟨q,h1,h2.trans e.symm⟩
theorem CI.more {l r:List (Zs × List Int)}{n j:Nat}{x y:Zs × List Int}(h:CI l n j r) (hj:1≤j) (hx:l[j]? = some x) (hy:l[j - 1]? = some y) (hs:l.Pairwise fun a b=>Y5 a.2 b.2≠1) (hn:∀ z∈l,z.2.length=n) (e:x.2≠y.2):CI l n (j+1) (r++[x]):=by
 have hxn:=hn x (List.mem_of_getElem? hx);have hyn:=hn y (List.mem_of_getElem? hy);have hyx:Y5 y.2 x.2 = -1:=by
  obtain⟨h1,e1⟩:=List.getElem?_eq_some_iff.1 hx;obtain⟨h2,e2⟩:=List.getElem?_eq_some_iff.1 hy;have h3:=List.pairwise_iff_getElem.1 hs (j - 1) j h2 h1 Om;rw[e1,e2]at h3;have h4:Y5 y.2 x.2≠0:=fun q=>e ((Cu (hyn.trans hxn.symm)).1 q).symm;rcases JU y.2 x.2 with q | q | q
  ·exact q
  ·exact absurd q h4
  ·exact absurd q h3
 obtain⟨q,hq1,hq2⟩:=h.last y hy;have hall:∀ a∈r,Y5 a.2 x.2 = -1:=fun a ha=>by
  rcases List.eq_nil_or_concat r with rfl | ⟨r',b,rfl⟩
  ·simp at ha
  ·rw[List.concat_eq_append] at *
   rw[List.getLast?_concat]at hq1;simp at hq1;subst hq1;rcases List.mem_append.1 ha with h1 | h1
   ·have h2:=h.ok.pw
    rw[List.map_append,List.pairwise_append]at h2;have h3:=h2.2.2 a.2 (List.mem_map.2 ⟨a,h1,rfl⟩) b.2 Sm;rw[hq2]at h3;exact RL (h.ok.len _ (List.mem_map.2 ⟨a,by simp[h1],rfl⟩)) hyn hxn h3 hyx
   ·simp at h1
    subst h1;rw[hq2];exact hyx
 refine⟨⟨fun o ho => ?_,?_⟩,fun o => ?_,fun z hz => ?_,fun z hz => ?_⟩
 ·rw[List.map_append,List.mem_append]at ho
  rcases ho with ho | ho
  ·exact h.ok.len o ho
  ·simp at ho;rw[ho];exact hxn
 ·rw[List.map_append,List.pairwise_append]
  refine⟨h.ok.pw,Sm,fun a ha b hb => ?_⟩;obtain⟨a',ha',rfl⟩:=List.mem_map.1 ha;simp at hb;rw[hb];exact hall a' ha'
 ·rw[List.map_append,List.mem_append,h.mem,List.take_add_one,hx,List.map_append,List.mem_append]
  simp
 ·rw[Nat.add_sub_cancel,hx]at hz
  simp at hz;subst hz;exact⟨x,Sm,rfl⟩
 ·rcases List.mem_append.1 hz with q | q
  ·exact h.sub z q
  ·simp at q;subst q;exact List.mem_of_getElem? hx
def Dh:El (Zs × List Int):=⟨1,Dc,fun x=>[x.1.v],fun _=>rfl,fun x u h=>by simp at h;subst h;rfl⟩
theorem Own.Ol {T:TypeId}{w:World}{base:Nat}{v:Value}{xs:List (Zs × List Int)}:Own Dh T w base v xs↔Own Z2 T w base v (xs.map Prod.fst):=by
 have e:∀ l:List (Zs × List Int),l.flatMap Dh.c=(l.map Prod.fst).flatMap Z2.c:=fun l=>by
  induction l with
  | nil=>rfl
  | cons x l ih=>rw[List.flatMap_cons,List.map_cons,List.flatMap_cons,ih];rfl
 unfold Own;rw[e,List.length_map];exact Iff.rfl
theorem AP (v v':Value) (xs ys:List Int) (w:World) (hx:ZC Zq w v xs) (hy:ZC Zq w v' ys) :
 Calls Tryz.prog 134 #[v,v'] w fun e w'=>e = .returned (.bool (decide (xs=ys)))∧Below w.heap.size w w':=by
 have H:=Za (GF v v' xs ys w hx hy);clear hx hy;generalize decide (xs=ys)=D at *;go_enter Tryz.func134,Tryz.ntmps134;go_wp2_with (go_at_call 73;(with_reducible refine H.out.mono ?_);rintro e w1 ⟨rfl,hb1⟩);go_ret;exact⟨rfl,hb1⟩
def BD (w:World) (base:Nat) (n:Nat) (l:List (Zs × List Int)) (e:Ending) (w':World):Prop:=
 ∃ v r,e = .returned v∧Own Dh 66 w' base v r∧CI l n l.length r∧(∀ x∈l,Own Zq 3 w' base x.1.v x.2)∧YX [66] base w w'
theorem CO {w w':World}{base:Nat}{l:List (Zs × List Int)}(h:∀ x∈l,Own Zq 3 w base x.1.v x.2) (k:YX [66] base w w'):∀ x∈l,Own Zq 3 w' base x.1.v x.2:=fun x hx=>(Yu.own (B:=base) (L:=[66]) (h x hx) Dc).Yf w' k
def Lm (w:World) (base g c0 n:Nat) (l:List (Zs × List Int)) (m j kk:Nat) (wr:World):Prop:=
 ∃ c,Own Dh 66 wr base (.slice (some ⟨g,0,none⟩) m c0) c∧c.length=m∧c.drop j=l.drop j∧CI l n (j+1) (c.take kk)∧(∀ x∈c,x∈l)∧YX [66] base w wr
theorem Di (base g c0 n:Nat) (l:List (Zs × List Int)) (w:World) (ho:Own Dh 66 w base (.slice (some ⟨g,0,none⟩) l.length c0) l) (hr:∀ x∈l,Own Zq 3 w base x.1.v x.2)
 (hn:∀ x∈l,x.2.length=n) (hs:l.Pairwise fun a b=>Y5 a.2 b.2≠1) (hl:l.length≤68719476736) :
 Calls Tryz.prog 133 #[.slice (some ⟨g,0,none⟩) l.length c0,.func (.func 134) #[] #[]] w (BD w base n l):=by
 have HR:=Za hr;have HN:=Za hn;have HS:=Za hs;have HO:=Za ho
 have hcap:l.length≤c0:=by
  rcases ho.shape with⟨e,_⟩ | ⟨g',cap',e,_,_,h5,_⟩
  ·simp at e
  ·simp only[Value.slice.injEq]at e;omega
 have hgl:=World.ownsRow.lt ho g rfl;clear hr hn hs ho;obtain⟨m,hm⟩:∃ m,m=l.length:=⟨_,rfl⟩
 rw[← hm]at HO hcap hl ⊢;have HM:=Za hm;clear hm;by_cases h2:m < 2
 ·have F:Hid (BD w base n l (.returned (.slice (some ⟨g,0,none⟩) m c0)) w):=Za (by
   refine⟨_,l,rfl,by rw[HM.out]at HO ⊢;exact HO.out,?_,HR.out,.refl _ _ _⟩
   match l,HM.out,HN.out with
   | [],_,_=>exact⟨⟨fun o h=>by simp at h,.nil⟩,fun o=>by simp,fun x hx=>by simp at hx,fun x hx=>hx⟩
   | [x],_,h=>exact CI.start rfl (h x Sm)
   | x :: y :: l',h,_=>simp at h;omega)
  have h2':(m:Int) < 2:=Om;go_enter Tryz.func133,Tryz.ntmps133;go_wp2_with fail;go_ret;exact F.out
 ·have h2':¬ (m:Int) < 2:=Om
  go_enter Tryz.func133,Tryz.ntmps133;go_wp2_with fail;have HC1:Hid (CI l n 1 (l.take 1)):=Za (by
   obtain⟨x,hx⟩:=Zd (xs:=l) (k:=0) (by rw[← HM.out];omega);have:=CI.start hx (HN.out x (List.mem_of_getElem? hx));rwa[show l.take 1=[x] by cases l with | nil=>simp at hx | cons z l=>simp at hx;simp[hx]])
  go_loopw [5] (fun i wr => ∃ q:Nat,q+1≤m∧i = .int .i64 ((q+1:Nat):Int)∧CI l n (q+1) (l.take (q+1))∧Below w.heap.size w wr) (fun i _=>m - (intOf i).toNat)
  case atStart=>exact⟨0,Om,rfl,HC1.out,Below.refl _ _⟩
  case round =>
   obtain⟨q,hq,rfl,hci,hbl⟩:=hrel;have CI0:=Za hci;have BL:=Za hbl
   have HO1:=Za (HO.out.below hbl);have HR1:=Za (fun x hx=>(HR.out x hx).below hbl);clear hci;by_cases hlt:q+1 < m
   ·have hlt':=Zh hlt
    have hltq:(q:Int) < (m:Int):=Om;obtain⟨⟨⟨xa,xn,xk⟩,xo⟩,hx⟩:=Zd (xs:=l) (k:=q+1) (by rw[← HM.out];exact hlt);obtain⟨⟨⟨ya,yn,yk⟩,yo⟩,hy⟩:=Zd (xs:=l) (k:=q) (by rw[← HM.out];omega);have x0:wr.cell? ⟨g,(q+1) * 1+0,none⟩=some (.slice xa xn xk):=HO1.out.cell hx (j:=0) rfl;have y0:wr.cell? ⟨g,q * 1+0,none⟩=some (.slice ya yn yk):=HO1.out.cell hy (j:=0) rfl;rw[Nat.mul_one,Nat.add_zero]at x0 y0;have xl:=Zb x0;have HE:=Za (fun X:BW wr=>AP (.slice xa xn xk) (.slice ya yn yk) xo yo X.val ((HR1.out _ (List.mem_of_getElem? hx)).rep.below X.prop) ((HR1.out _ (List.mem_of_getElem? hy)).rep.below X.prop));have HXE:=Za hx;have HYE:=Za hy
    clear hx hy hbl;by_cases he:xo=yo
    ·simp only[he,decide_true]at HE
     go_wp2_with fail;refine Zo Kr Kr ?_
     repeat (go_big_quiet_step ((go_at_call 134;(with_reducible exact Calls.bw (HE.out _)))))
     refine wpQuiet_nil ?_;intro w1 hw1;subst he;have CI1:=Za (CI0.out.same Om HXE.out HYE.out rfl);have B1:=Za (BL.out.trans (hw1.mono BL.out.size));have HOW:=Za (HO.out.below B1.out);have hqc:q+1 < c0:=Om;have hqe:(c0==q+1)=false:=So;have hqe2:¬ c0=q+1:=Om;clear hw1 HE x0 y0 xl;go_wp2_with fail
     go_loopw [5,7] (fun a b wr => ∃ kk z:Nat,q+2+z≤m∧1≤kk∧kk≤q+1+z∧a = .int .i64 (kk:Int)∧b = .int .i64 ((z+1:Nat):Int)∧Lm w base g c0 n l m (q+1+z) kk wr) (fun _ b _=>m - (intOf b).toNat)
     case atStart=>exact⟨q+1,0,Om,Om,Om,rfl,rfl,l,HOW.out,HM.out.symm,rfl,CI1.out,(fun x hx=>hx),.Zf B1.out⟩
     case round =>
      obtain⟨kk,z,hz,hk1,hkz,rfl,rfl,c,hoc,hcl,hdr,hci,hsub,hkp⟩:=hrel;have OC:=Za hoc;have CL:=Za hcl;have DR:=Za hdr;have CIz:=Za hci;have SB:=Za hsub;have KP:=Za hkp
      have RW:=Za (CO HR.out hkp);clear hcl hdr hci hsub hkp;by_cases hlt2:q+2+z < m
      ·have hl3:z+1 < m - (q+1):=Om
       have hl4:z < m - (q+1):=Om;have hl5:((z:Int)+1) < ((m - (q+1):Nat):Int):=Om;have hl6:(z:Int) < ((m - (q+1):Nat):Int):=Om;have hkm:kk < m:=Om;have hkm2:(kk:Int) < (m:Int):=Om;obtain⟨⟨⟨xa,xn,xk⟩,xo⟩,hx⟩:=Zd (xs:=l) (k:=q+2+z) (by rw[← HM.out];exact hlt2);obtain⟨⟨⟨ya,yn,yk⟩,yo⟩,hy⟩:=Zd (xs:=l) (k:=q+1+z) (by rw[← HM.out];omega);have hcx:c[q+2+z]? = some (⟨xa,xn,xk⟩,xo):=by
        have:=congrArg (fun t=>t[1]?) DR.out;simp only[List.getElem?_drop]at this;rw[show q+2+z=q+1+z+1 by omega]at hx ⊢;exact this.trans hx
       have hcy:c[q+1+z]? = some (⟨ya,yn,yk⟩,yo):=by
        have:=congrArg (fun t=>t[0]?) DR.out;simp only[List.getElem?_drop,Nat.add_zero]at this;exact this.trans hy
       have x0:wr.cell? ⟨g,(q+2+z) * 1+0,none⟩=some (.slice xa xn xk):=hoc.cell hcx (j:=0) rfl;have y0:wr.cell? ⟨g,(q+1+z) * 1+0,none⟩=some (.slice ya yn yk):=hoc.cell hcy (j:=0) rfl;rw[Nat.mul_one,Nat.add_zero,show q+2+z=q+1+(z+1) by omega]at x0;rw[Nat.mul_one,Nat.add_zero]at y0;have xl:=Zb x0;have HE:=Za (fun X:BW wr=>AP (.slice xa xn xk) (.slice ya yn yk) xo yo X.val ((RW.out _ (List.mem_of_getElem? hx)).rep.below X.prop) ((RW.out _ (List.mem_of_getElem? hy)).rep.below X.prop));have HXE:=Za hx;have HYE:=Za hy;have HCX:=Za hcx
       have hd1:c.drop (q+1+(z+1))=l.drop (q+1+(z+1)):=by
        have:=congrArg (List.drop 1) DR.out;rw[List.drop_drop,List.drop_drop]at this;exact this
       have HD1:=Za hd1;clear hx hy hcx hcy hd1 hoc;by_cases he:xo=yo
       ·simp only[he,decide_true]at HE
        go_wp2_with fail;refine Zo Kr Kr ?_
        repeat (go_big_quiet_step ((go_at_call 134;(with_reducible exact Calls.bw (HE.out _)))))
        refine wpQuiet_nil ?_;intro w2 hw2;subst he;have HF:Hid (Lm w base g c0 n l m (q+1+(z+1)) kk w2):=Za ⟨c,OC.out.below hw2,CL.out,HD1.out,by
         have:=CIz.out.same Om (x:=(⟨xa,xn,xk⟩,xo)) (y:=(⟨ya,yn,yk⟩,xo)) (by rw[show q+1+z+1=q+2+z by omega];exact HXE.out) (by rw[Nat.add_sub_cancel];exact HYE.out) rfl;exact this,SB.out,KP.out.trans (.Zf hw2)⟩
        clear hw2;go_wp2_with fail;go_roundw
        case rel=>exact⟨kk,z+1,Om,hk1,Om,rfl,Gn,HF.out⟩
        case measure=>simp[intOf];omega
       ·have hed:decide (xo=yo)=false:=by simpa using he
        rw[hed]at HE;go_wp2_with fail;refine Zo Kr Kr ?_
        repeat (go_big_quiet_step ((go_at_call 134;(with_reducible exact Calls.bw (HE.out _)))))
        refine wpQuiet_nil ?_;intro w2 hw2;have OC2:=Za (OC.out.below hw2);have x2:=(hw2.cell (p:=⟨g,q+1+(z+1),none⟩) xl).trans x0;have hfz:=OC2.out.frozen;have xl2:=Zb x2;obtain⟨⟨⟨ka,kn,kc⟩,ko⟩,hck⟩:=Zd (xs:=c) (k:=kk) (by rw[CL.out];exact hkm);have k0:w2.cell? ⟨g,kk * 1+0,none⟩=some (.slice ka kn kc):=OC2.out.cell hck (j:=0) rfl;rw[Nat.mul_one,Nat.add_zero]at k0;have hset:=OC2.out.set (i:=kk) (j:=0) (x:=(⟨ka,kn,kc⟩,ko)) (⟨xa,xn,xk⟩,xo) (u:=.slice xa xn xk) Dc hck rfl;have KP2:=Za ((KP.out.trans (.Zf hw2)).trans (YX.Ys (T:=66) (L:=[66]) (B:=base) (g:=g) (j:=kk) (w:=w2) (by obtain⟨a,ha⟩:=OC2.out.XZ (g:=g) rfl;exact⟨a,ha⟩) Sm hgl.1 (.slice xa xn xk)));simp only[Dh,Nat.mul_one,Nat.add_zero]at hset;have HSET:=Za hset;have CIn:=Za (CIz.out.more Om (x:=(⟨xa,xn,xk⟩,xo)) (y:=(⟨ya,yn,yk⟩,yo)) (by rw[show q+1+z+1=q+2+z by omega];exact HXE.out) (by rw[Nat.add_sub_cancel];exact HYE.out) HS.out HN.out he);have HKL:Hid (kk < c.length):=Za (by rw[CL.out];exact hkm);have HF:Hid (Lm w base g c0 n l m (q+1+(z+1)) (kk+1) (w2.setCell ⟨g,kk,none⟩ (.slice xa xn xk))):=Za (by
         refine⟨c.set kk (⟨xa,xn,xk⟩,xo),HSET.out,by rw[List.length_set];exact CL.out,?_,?_,fun y hy => ?_,KP2.out⟩
         ·rw[List.drop_set_of_lt Om];exact HD1.out
         ·have e:(c.set kk (⟨xa,xn,xk⟩,xo)).take (kk+1)=c.take kk++[(⟨xa,xn,xk⟩,xo)]:=by
           rw[List.take_add_one,List.take_set_of_le (Nat.le_refl _),List.getElem?_set_self HKL.out];rfl
          rw[e];exact CIn.out
         ·rcases List.mem_or_eq_of_mem_set hy with h | h
          ·exact SB.out y h
          ·rw[h];exact List.mem_of_getElem? HXE.out)
        clear hw2 hset hck HE x0 y0 xl;go_wp2_with fail;go_roundw
        case rel=>exact⟨kk+1,z+1,Om,Om,Om,Gn,Gn,HF.out⟩
        case measure=>simp[intOf];omega
      ·have hzm:q+2+z=m:=Om
       have hl3:¬ z+1 < m - (q+1):=Om;have hl5:¬ ((z:Int)+1) < ((m - (q+1):Nat):Int):=Om;have hkm:kk < m:=Om;have hkm2:(kk:Int) < (m:Int):=Om;have hkc:(c0==kk)=false:=So;have hkc2:¬ c0=kk:=Om;clear hoc;go_wp2_with (refine De Dh 66 (⟨none,0,0⟩,[]) Tryz.Y0 rfl Tryz.underlying46 base g m c0 kk _ c OC.out hkm rfl _ rfl (by simp[Dh];rfl) ?_;intro w3 ho3 hgr3);have hkl:(c.take kk).length=kk:=by rw[List.length_take,CL.out];omega
       have hcut:=ho3.cut (i:=kk) Om;rw[List.take_left' hkl]at hcut;have K3:YX [66] base w w3:=KP.out.trans (.grown OC.out Sm (Nat.le_refl _) hgr3);have F:Hid (BD w base n l (.returned (.slice (some ⟨g,0,none⟩) kk c0)) w3):=Za ⟨_,c.take kk,rfl,hcut,by
        have:=CIz.out;rw[show q+1+z+1=l.length by rw[← HM.out];omega]at this;exact this,CO HR.out K3,K3⟩
       clear hcut K3 ho3 hgr3;go_ret;exact F.out
    ·have hed:decide (xo=yo)=false:=by simpa using he
     rw[hed]at HE;go_wp2_with fail;refine Zo Kr Kr ?_
     repeat (go_big_quiet_step ((go_at_call 134;(with_reducible exact Calls.bw (HE.out _)))))
     refine wpQuiet_nil ?_;intro w1 hw1;have CI1:Hid (CI l n (q+1+1) (l.take (q+1+1))):=Za (by
      have:=CI0.out.more Om HXE.out HYE.out HS.out HN.out he;rwa[List.take_add_one (i:=q+1),HXE.out])
     have BL1:=Za (BL.out.trans (hw1.mono BL.out.size));clear hw1;go_wp2_with fail;go_roundw
     case rel=>exact⟨q+1,Om,Gn,CI1.out,BL1.out⟩
     case measure=>simp[intOf];omega
   ·have E:Hid (q+1=m):=Za Om
    have F:Hid (BD w base n l (.returned (.slice (some ⟨g,0,none⟩) m c0)) wr):=Za (by
     refine⟨_,l,rfl,HO1.out,?_,HR1.out,.Zf BL.out⟩;have:=CI0.out;rw[E.out,HM.out,List.take_length]at this;exact this)
    go_wp2_with fail;go_ret;exact F.out
end Go.Proofs.YtngekjpklkjnbaaGreat
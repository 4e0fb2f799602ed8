/-
  slices.CompactFunc at lists of outcomes. Condition: a sorted list, outcomes of one length, bounds on lengths.
-/
import Derived.Test.YtlddmagfbcomgaaGreatZq05
import Derived.Test.YtlddmagfbcomgaaGreatZq04
import Derived.Test.YtlddmagfbcomgaaGreatZq06
set_option maxHeartbeats 6400000
set_option maxRecDepth 100000
namespace Go.Proofs.YtlddmagfbcomgaaGreat
open Go.RowKit
theorem cmpL_lex:∀ {a b:List Int},a.length=b.length→cmpL a b=lexO a b
 | [],[],_=>rfl
 | [],_ :: _,h=>by simp at h
 | _ :: _,[],h=>by simp at h
 | x :: a,y :: b,h=>by simp only [cmpL,lexO];rw [cmpL_lex (by simpa using h)]
structure CI (l:List (Slc × List Int)) (n j:Nat) (r:List (Slc × List Int)):Prop where
 ok:OutsOk n (r.map Prod.snd)
 mem:∀ o,o∈r.map Prod.snd↔o∈(l.take j).map Prod.snd
 last:∀ x,l[j - 1]? = some x→∃ y,r.getLast? = some y∧y.2=x.2
 sub:∀ x∈r,x∈l
theorem CI.start {l:List (Slc × List Int)} {n:Nat} {x:Slc × List Int} (hx:l[0]? = some x) (hl:x.2.length=n):CI l n 1 [x]:=by
 cases l with
 | nil=>simp at hx
 | cons y l =>
  simp at hx
  subst hx
  exact ⟨⟨fun o ho=>by simp at ho;subst ho;exact hl,by simp⟩,fun o=>by simp,fun z hz=>by simp at hz;subst hz;exact ⟨_,rfl,rfl⟩,fun z hz=>by simp at hz;subst hz;simp⟩
theorem CI.same {l r:List (Slc × List Int)} {n j:Nat} {x y:Slc × List Int} (h:CI l n j r) (hj:1≤j) (hx:l[j]? = some x) (hy:l[j - 1]? = some y) (e:x.2=y.2):CI l n (j+1) r:=by
 refine ⟨h.ok,fun o => ?_,fun z hz => ?_,h.sub⟩
 ·rw [h.mem,List.take_add_one,hx,List.map_append,List.mem_append]
  constructor
  ·exact .inl
  ·rintro (q | q)
   ·exact q
   ·simp at q
    rw [q,e]
    refine List.mem_map.2 ⟨y, ?_,rfl⟩
    rw [List.mem_iff_getElem?]
    exact ⟨j - 1,by rw [List.getElem?_take,if_pos (by omega)];exact hy⟩
 ·rw [Nat.add_sub_cancel,hx] at hz
  simp at hz
  subst hz
  obtain ⟨q,h1,h2⟩:=h.last y hy
  exact ⟨q,h1,h2.trans e.symm⟩
theorem CI.more {l r:List (Slc × List Int)} {n j:Nat} {x y:Slc × List Int} (h:CI l n j r) (hj:1≤j) (hx:l[j]? = some x) (hy:l[j - 1]? = some y) (hs:l.Pairwise fun a b=>lexO a.2 b.2≠1) (hn:∀ z∈l,z.2.length=n) (e:x.2≠y.2):CI l n (j+1) (r++[x]):=by
 have hxn:=hn x (List.mem_of_getElem? hx)
 have hyn:=hn y (List.mem_of_getElem? hy)
 have hyx:lexO y.2 x.2 = -1:=by
  obtain ⟨h1,e1⟩:=List.getElem?_eq_some_iff.1 hx
  obtain ⟨h2,e2⟩:=List.getElem?_eq_some_iff.1 hy
  have h3:=List.pairwise_iff_getElem.1 hs (j - 1) j h2 h1 (by omega)
  rw [e1,e2] at h3
  have h4:lexO y.2 x.2≠0:=fun q=>e ((lexO_eq (hyn.trans hxn.symm)).1 q).symm
  rcases lexO_three y.2 x.2 with q | q | q
  ·exact q
  ·exact absurd q h4
  ·exact absurd q h3
 obtain ⟨q,hq1,hq2⟩:=h.last y hy
 have hall:∀ a∈r,lexO a.2 x.2 = -1:=fun a ha=>by
  rcases List.eq_nil_or_concat r with rfl | ⟨r',b,rfl⟩
  ·simp at ha
  ·rw [List.concat_eq_append] at *
   rw [List.getLast?_concat] at hq1
   simp at hq1
   subst hq1
   rcases List.mem_append.1 ha with h1 | h1
   ·have h2:=h.ok.pw
    rw [List.map_append,List.pairwise_append] at h2
    have h3:=h2.2.2 a.2 (List.mem_map.2 ⟨a,h1,rfl⟩) b.2 (by simp)
    rw [hq2] at h3
    exact lexO_trans (h.ok.len _ (List.mem_map.2 ⟨a,by simp [h1],rfl⟩)) hyn hxn h3 hyx
   ·simp at h1
    subst h1
    rw [hq2];exact hyx
 refine ⟨⟨fun o ho => ?_, ?_⟩,fun o => ?_,fun z hz => ?_,fun z hz => ?_⟩
 ·rw [List.map_append,List.mem_append] at ho
  rcases ho with ho | ho
  ·exact h.ok.len o ho
  ·simp at ho;rw [ho];exact hxn
 ·rw [List.map_append,List.pairwise_append]
  refine ⟨h.ok.pw,by simp,fun a ha b hb => ?_⟩
  obtain ⟨a',ha',rfl⟩:=List.mem_map.1 ha
  simp at hb
  rw [hb]
  exact hall a' ha'
 ·rw [List.map_append,List.mem_append,h.mem,List.take_add_one,hx,List.map_append,List.mem_append]
  simp
 ·rw [Nat.add_sub_cancel,hx] at hz
  simp at hz
  subst hz
  exact ⟨x,by simp,rfl⟩
 ·rcases List.mem_append.1 hz with q | q
  ·exact h.sub z q
  ·simp at q;subst q;exact List.mem_of_getElem? hx
def PrE:El (Slc × List Int):=⟨1,by decide,fun x=>[x.1.v],fun _=>rfl,fun x u h=>by simp at h;subst h;rfl⟩
theorem Own.pairs {T:TypeId} {w:World} {base:Nat} {v:Value} {xs:List (Slc × List Int)}:Own PrE T w base v xs↔Own SlcE T w base v (xs.map Prod.fst):=by
 have e:∀ l:List (Slc × List Int),l.flatMap PrE.c=(l.map Prod.fst).flatMap SlcE.c:=fun l=>by
  induction l with
  | nil=>rfl
  | cons x l ih=>rw [List.flatMap_cons,List.map_cons,List.flatMap_cons,ih];rfl
 unfold Own
 rw [e,List.length_map]
 exact Iff.rfl
end Go.Proofs.YtlddmagfbcomgaaGreat
namespace Go.Proofs.YtlddmagfbcomgaaGreat
open Go.RowKit
theorem eqClo_any (v v':Value) (xs ys:List Int) (w:World) (hx:Rep IntE w v xs) (hy:Rep IntE w v' ys) :
 Calls Tryz.prog 170 #[v,v'] w fun e w'=>e = .returned (.bool (decide (xs=ys)))∧Below w.heap.size w w':=by
 have H:=hide (EqualN_any v v' xs ys w hx hy)
 clear hx hy
 generalize decide (xs=ys)=D at *
 go_enter Tryz.func170,Tryz.ntmps170
 go_wp2_with (go_at_call 116;(with_reducible refine H.out.mono ?_);rintro e w1 ⟨rfl,hb1⟩)
 go_ret
 exact ⟨rfl,hb1⟩
def RetCmp (w:World) (base:Nat) (n:Nat) (l:List (Slc × List Int)) (e:Ending) (w':World):Prop:=
 ∃ v r,e = .returned v∧Own PrE 40 w' base v r∧CI l n l.length r∧(∀ x∈l,Own IntE 3 w' base x.1.v x.2)∧KpT [40] base w w'
theorem rows_kp {w w':World} {base:Nat} {l:List (Slc × List Int)} (h:∀ x∈l,Own IntE 3 w base x.1.v x.2) (k:KpT [40] base w w'):∀ x∈l,Own IntE 3 w' base x.1.v x.2:=fun x hx=>(LocT.own (B:=base) (L:=[40]) (h x hx) (by decide)).keep w' k
def CmpIn (w:World) (base g c0 n:Nat) (l:List (Slc × List Int)) (m j kk:Nat) (wr:World):Prop:=
 ∃ c,Own PrE 40 wr base (.slice (some ⟨g,0,none⟩) m c0) c∧c.length=m∧c.drop j=l.drop j∧CI l n (j+1) (c.take kk)∧(∀ x∈c,x∈l)∧KpT [40] base w wr
theorem Compact_any (base g c0 n:Nat) (l:List (Slc × List Int)) (w:World) (ho:Own PrE 40 w base (.slice (some ⟨g,0,none⟩) l.length c0) l) (hr:∀ x∈l,Own IntE 3 w base x.1.v x.2)
 (hn:∀ x∈l,x.2.length=n) (hs:l.Pairwise fun a b=>lexO a.2 b.2≠1) (hl:l.length≤68719476736) :
 Calls Tryz.prog 169 #[.slice (some ⟨g,0,none⟩) l.length c0, .func (.func 170) #[] #[]] w (RetCmp w base n l):=by
 have HR:=hide hr;have HN:=hide hn;have HS:=hide hs;have HO:=hide ho
 have hcap:l.length≤c0:=by
  rcases ho.shape with ⟨e,_⟩ | ⟨g',cap',e,_,_,h5,_⟩
  ·simp at e
  ·simp only [Value.slice.injEq] at e;omega
 have hgl:=World.ownsRow.lt ho g rfl
 clear hr hn hs ho
 obtain ⟨m,hm⟩:∃ m,m=l.length:=⟨_,rfl⟩
 rw [← hm] at HO hcap hl ⊢
 have HM:=hide hm
 clear hm
 by_cases h2:m < 2
 ·have F:Hid (RetCmp w base n l (.returned (.slice (some ⟨g,0,none⟩) m c0)) w):=hide (by
   refine ⟨_,l,rfl,by rw [HM.out] at HO ⊢;exact HO.out, ?_,HR.out, .refl _ _ _⟩
   match l,HM.out,HN.out with
   | [],_,_=>exact ⟨⟨fun o h=>by simp at h, .nil⟩,fun o=>by simp,fun x hx=>by simp at hx,fun x hx=>hx⟩
   | [x],_,h=>exact CI.start rfl (h x (by simp))
   | x :: y :: l',h,_=>simp at h;omega)
  have h2':(m:Int) < 2:=by omega
  go_enter Tryz.func169,Tryz.ntmps169
  go_wp2_with fail
  go_ret
  exact F.out
 ·have h2':¬ (m:Int) < 2:=by omega
  go_enter Tryz.func169,Tryz.ntmps169
  go_wp2_with fail
  have HC1:Hid (CI l n 1 (l.take 1)):=hide (by
   obtain ⟨x,hx⟩:=get_of_lt (xs:=l) (k:=0) (by rw [← HM.out];omega)
   have:=CI.start hx (HN.out x (List.mem_of_getElem? hx))
   rwa [show l.take 1=[x] by cases l with | nil=>simp at hx | cons z l=>simp at hx;simp [hx]])
  go_loopw [5] (fun i wr => ∃ q:Nat,q+1≤m∧i = .int .i64 ((q+1:Nat):Int)∧CI l n (q+1) (l.take (q+1))∧Below w.heap.size w wr) (fun i _=>m - (intOf i).toNat)
  case atStart=>exact ⟨0,by omega,rfl,HC1.out,Below.refl _ _⟩
  case round =>
   obtain ⟨q,hq,rfl,hci,hbl⟩:=hrel
   have CI0:=hide hci;have BL:=hide hbl
   have HO1:=hide (HO.out.below hbl)
   have HR1:=hide (fun x hx=>(HR.out x hx).below hbl)
   clear hci
   by_cases hlt:q+1 < m
   ·have hlt':=nat_of_lt hlt
    have hltq:(q:Int) < (m:Int):=by omega
    obtain ⟨⟨⟨xa,xn,xk⟩,xo⟩,hx⟩:=get_of_lt (xs:=l) (k:=q+1) (by rw [← HM.out];exact hlt)
    obtain ⟨⟨⟨ya,yn,yk⟩,yo⟩,hy⟩:=get_of_lt (xs:=l) (k:=q) (by rw [← HM.out];omega)
    have x0:wr.cell? ⟨g,(q+1) * 1+0,none⟩=some (.slice xa xn xk):=HO1.out.cell hx (j:=0) rfl
    have y0:wr.cell? ⟨g,q * 1+0,none⟩=some (.slice ya yn yk):=HO1.out.cell hy (j:=0) rfl
    rw [Nat.mul_one,Nat.add_zero] at x0 y0
    have xl:=lt_of_cell x0
    have HE:=hide (fun X:BW wr=>eqClo_any (.slice xa xn xk) (.slice ya yn yk) xo yo X.val ((HR1.out _ (List.mem_of_getElem? hx)).rep.below X.prop) ((HR1.out _ (List.mem_of_getElem? hy)).rep.below X.prop))
    have HXE:=hide hx;have HYE:=hide hy
    clear hx hy hbl
    by_cases he:xo=yo
    ·simp only [he,decide_true] at HE
     go_wp2_with fail
     refine wp_region_bw (by kernel_rfl) (by kernel_rfl) ?_
     repeat (go_big_quiet_step ((go_at_call 170;(with_reducible exact Calls.bw (HE.out _)))))
     refine wpQuiet_nil ?_
     intro w1 hw1
     subst he
     have CI1:=hide (CI0.out.same (by omega) HXE.out HYE.out rfl)
     have B1:=hide (BL.out.trans (hw1.mono BL.out.size))
     have HOW:=hide (HO.out.below B1.out)
     have hqc:q+1 < c0:=by omega
     have hqe:(c0==q+1)=false:=by simp;omega
     have hqe2:¬ c0=q+1:=by omega
     clear hw1 HE x0 y0 xl
     go_wp2_with fail
     go_loopw [5,7] (fun a b wr => ∃ kk z:Nat,q+2+z≤m∧1≤kk∧kk≤q+1+z∧a = .int .i64 (kk:Int)∧b = .int .i64 ((z+1:Nat):Int)∧CmpIn w base g c0 n l m (q+1+z) kk wr) (fun _ b _=>m - (intOf b).toNat)
     case atStart=>exact ⟨q+1,0,by omega,by omega,by omega,rfl,rfl,l,HOW.out,HM.out.symm,rfl,CI1.out,(fun x hx=>hx), .of_below B1.out⟩
     case round =>
      obtain ⟨kk,z,hz,hk1,hkz,rfl,rfl,c,hoc,hcl,hdr,hci,hsub,hkp⟩:=hrel
      have OC:=hide hoc;have CL:=hide hcl;have DR:=hide hdr;have CIz:=hide hci;have SB:=hide hsub;have KP:=hide hkp
      have RW:=hide (rows_kp HR.out hkp)
      clear hcl hdr hci hsub hkp
      by_cases hlt2:q+2+z < m
      ·have hl3:z+1 < m - (q+1):=by omega
       have hl4:z < m - (q+1):=by omega
       have hl5:((z:Int)+1) < ((m - (q+1):Nat):Int):=by omega
       have hl6:(z:Int) < ((m - (q+1):Nat):Int):=by omega
       have hkm:kk < m:=by omega
       have hkm2:(kk:Int) < (m:Int):=by omega
       obtain ⟨⟨⟨xa,xn,xk⟩,xo⟩,hx⟩:=get_of_lt (xs:=l) (k:=q+2+z) (by rw [← HM.out];exact hlt2)
       obtain ⟨⟨⟨ya,yn,yk⟩,yo⟩,hy⟩:=get_of_lt (xs:=l) (k:=q+1+z) (by rw [← HM.out];omega)
       have hcx:c[q+2+z]? = some (⟨xa,xn,xk⟩,xo):=by
        have:=congrArg (fun t=>t[1]?) DR.out
        simp only [List.getElem?_drop] at this
        rw [show q+2+z=q+1+z+1 by omega] at hx ⊢
        exact this.trans hx
       have hcy:c[q+1+z]? = some (⟨ya,yn,yk⟩,yo):=by
        have:=congrArg (fun t=>t[0]?) DR.out
        simp only [List.getElem?_drop,Nat.add_zero] at this
        exact this.trans hy
       have x0:wr.cell? ⟨g,(q+2+z) * 1+0,none⟩=some (.slice xa xn xk):=hoc.cell hcx (j:=0) rfl
       have y0:wr.cell? ⟨g,(q+1+z) * 1+0,none⟩=some (.slice ya yn yk):=hoc.cell hcy (j:=0) rfl
       rw [Nat.mul_one,Nat.add_zero,show q+2+z=q+1+(z+1) by omega] at x0
       rw [Nat.mul_one,Nat.add_zero] at y0
       have xl:=lt_of_cell x0
       have HE:=hide (fun X:BW wr=>eqClo_any (.slice xa xn xk) (.slice ya yn yk) xo yo X.val ((RW.out _ (List.mem_of_getElem? hx)).rep.below X.prop) ((RW.out _ (List.mem_of_getElem? hy)).rep.below X.prop))
       have HXE:=hide hx;have HYE:=hide hy;have HCX:=hide hcx
       have hd1:c.drop (q+1+(z+1))=l.drop (q+1+(z+1)):=by
        have:=congrArg (List.drop 1) DR.out
        rw [List.drop_drop,List.drop_drop] at this
        exact this
       have HD1:=hide hd1
       clear hx hy hcx hcy hd1 hoc
       by_cases he:xo=yo
       ·simp only [he,decide_true] at HE
        go_wp2_with fail
        refine wp_region_bw (by kernel_rfl) (by kernel_rfl) ?_
        repeat (go_big_quiet_step ((go_at_call 170;(with_reducible exact Calls.bw (HE.out _)))))
        refine wpQuiet_nil ?_
        intro w2 hw2
        subst he
        have HF:Hid (CmpIn w base g c0 n l m (q+1+(z+1)) kk w2):=hide ⟨c,OC.out.below hw2,CL.out,HD1.out,by
         have:=CIz.out.same (by omega) (x:=(⟨xa,xn,xk⟩,xo)) (y:=(⟨ya,yn,yk⟩,xo)) (by rw [show q+1+z+1=q+2+z by omega];exact HXE.out) (by rw [Nat.add_sub_cancel];exact HYE.out) rfl
         exact this,SB.out,KP.out.trans (.of_below hw2)⟩
        clear hw2
        go_wp2_with fail
        go_roundw
        case rel=>exact ⟨kk,z+1,by omega,hk1,by omega,rfl,by go_num,HF.out⟩
        case measure=>simp [intOf];omega
       ·have hed:decide (xo=yo)=false:=by simpa using he
        rw [hed] at HE
        go_wp2_with fail
        refine wp_region_bw (by kernel_rfl) (by kernel_rfl) ?_
        repeat (go_big_quiet_step ((go_at_call 170;(with_reducible exact Calls.bw (HE.out _)))))
        refine wpQuiet_nil ?_
        intro w2 hw2
        have OC2:=hide (OC.out.below hw2)
        have x2:=(hw2.cell (p:=⟨g,q+1+(z+1),none⟩) xl).trans x0
        have hfz:=OC2.out.frozen
        have xl2:=lt_of_cell x2
        obtain ⟨⟨⟨ka,kn,kc⟩,ko⟩,hck⟩:=get_of_lt (xs:=c) (k:=kk) (by rw [CL.out];exact hkm)
        have k0:w2.cell? ⟨g,kk * 1+0,none⟩=some (.slice ka kn kc):=OC2.out.cell hck (j:=0) rfl
        rw [Nat.mul_one,Nat.add_zero] at k0
        have hset:=OC2.out.set (i:=kk) (j:=0) (x:=(⟨ka,kn,kc⟩,ko)) (⟨xa,xn,xk⟩,xo) (u:=.slice xa xn xk) (by decide) hck rfl
        have KP2:=hide ((KP.out.trans (.of_below hw2)).trans (KpT.setT (T:=40) (L:=[40]) (B:=base) (g:=g) (j:=kk) (w:=w2) (by obtain ⟨a,ha⟩:=OC2.out.typeT (g:=g) rfl;exact ⟨a,ha⟩) (by simp) hgl.1 (.slice xa xn xk)))
        simp only [PrE,Nat.mul_one,Nat.add_zero] at hset
        have HSET:=hide hset
        have CIn:=hide (CIz.out.more (by omega) (x:=(⟨xa,xn,xk⟩,xo)) (y:=(⟨ya,yn,yk⟩,yo)) (by rw [show q+1+z+1=q+2+z by omega];exact HXE.out) (by rw [Nat.add_sub_cancel];exact HYE.out) HS.out HN.out he)
        have HKL:Hid (kk < c.length):=hide (by rw [CL.out];exact hkm)
        have HF:Hid (CmpIn w base g c0 n l m (q+1+(z+1)) (kk+1) (w2.setCell ⟨g,kk,none⟩ (.slice xa xn xk))):=hide (by
         refine ⟨c.set kk (⟨xa,xn,xk⟩,xo),HSET.out,by rw [List.length_set];exact CL.out, ?_, ?_,fun y hy => ?_,KP2.out⟩
         ·rw [List.drop_set_of_lt (by omega)];exact HD1.out
         ·have e:(c.set kk (⟨xa,xn,xk⟩,xo)).take (kk+1)=c.take kk++[(⟨xa,xn,xk⟩,xo)]:=by
           rw [List.take_add_one,List.take_set_of_le (Nat.le_refl _),List.getElem?_set_self HKL.out]
           rfl
          rw [e];exact CIn.out
         ·rcases List.mem_or_eq_of_mem_set hy with h | h
          ·exact SB.out y h
          ·rw [h];exact List.mem_of_getElem? HXE.out)
        clear hw2 hset hck HE x0 y0 xl
        go_wp2_with fail
        go_roundw
        case rel=>exact ⟨kk+1,z+1,by omega,by omega,by omega,by go_num,by go_num,HF.out⟩
        case measure=>simp [intOf];omega
      ·have hzm:q+2+z=m:=by omega
       have hl3:¬ z+1 < m - (q+1):=by omega
       have hl5:¬ ((z:Int)+1) < ((m - (q+1):Nat):Int):=by omega
       have hkm:kk < m:=by omega
       have hkm2:(kk:Int) < (m:Int):=by omega
       have hkc:(c0==kk)=false:=by simp;omega
       have hkc2:¬ c0=kk:=by omega
       clear hoc
       go_wp2_with (refine wpList_clear PrE 40 (⟨none,0,0⟩,[]) Tryz.infoIntSM rfl Tryz.underlying31 base g m c0 kk _ c OC.out hkm rfl _ rfl (by simp [PrE];rfl) ?_;intro w3 ho3 hgr3)
       have hkl:(c.take kk).length=kk:=by rw [List.length_take,CL.out];omega
       have hcut:=ho3.cut (i:=kk) (by omega)
       rw [List.take_left' hkl] at hcut
       have K3:KpT [40] base w w3:=KP.out.trans (.grown OC.out (by simp) (Nat.le_refl _) hgr3)
       have F:Hid (RetCmp w base n l (.returned (.slice (some ⟨g,0,none⟩) kk c0)) w3):=hide ⟨_,c.take kk,rfl,hcut,by
        have:=CIz.out
        rw [show q+1+z+1=l.length by rw [← HM.out];omega] at this
        exact this,rows_kp HR.out K3,K3⟩
       clear hcut K3 ho3 hgr3
       go_ret
       exact F.out
    ·have hed:decide (xo=yo)=false:=by simpa using he
     rw [hed] at HE
     go_wp2_with fail
     refine wp_region_bw (by kernel_rfl) (by kernel_rfl) ?_
     repeat (go_big_quiet_step ((go_at_call 170;(with_reducible exact Calls.bw (HE.out _)))))
     refine wpQuiet_nil ?_
     intro w1 hw1
     have CI1:Hid (CI l n (q+1+1) (l.take (q+1+1))):=hide (by
      have:=CI0.out.more (by omega) HXE.out HYE.out HS.out HN.out he
      rwa [List.take_add_one (i:=q+1),HXE.out])
     have BL1:=hide (BL.out.trans (hw1.mono BL.out.size))
     clear hw1
     go_wp2_with fail
     go_roundw
     case rel=>exact ⟨q+1,by omega,by go_num,CI1.out,BL1.out⟩
     case measure=>simp [intOf];omega
   ·have E:Hid (q+1=m):=hide (by omega)
    have F:Hid (RetCmp w base n l (.returned (.slice (some ⟨g,0,none⟩) m c0)) wr):=hide (by
     refine ⟨_,l,rfl,HO1.out, ?_,HR1.out, .of_below BL.out⟩
     have:=CI0.out
     rw [E.out,HM.out,List.take_length] at this
     exact this)
    go_wp2_with fail
    go_ret
    exact F.out
end Go.Proofs.YtlddmagfbcomgaaGreat
/-
  l5Join: a thread sees what a view sees. Condition: the state is a call's own, the view is another of its rows.
-/
import Derived.Test.YtnkfphndfijcoaaZo19
set_option maxHeartbeats 6400000
set_option maxRecDepth 100000
namespace Go.Proofs.Ytnkfphndfijcoaa
open Go.RowKit
theorem l5Join_any (x:SV) (s:Vw) (us lu:List Slc) (ms:List (List MV)) (t:Nat) (um:Slc) (ix:Ix) (u v:List Int) (w:World) (base B:Nat) (h:OwnVw w base x s us lu ms) (hv:s.vw[t]? = some v) (hix:ix≠(2,t,0)) (hu:famOf x us ms s ix=some (um,u))
 (hl:u.length=v.length) (hl0:0 < v.length) (hl1:v.length≤1000) (hB:B≤base) :
 Calls Try.prog 73 #[.agg #[.slice x.p.a x.p.n x.p.cap,.slice x.r.a x.r.n x.r.cap,.slice x.m.a x.m.n x.m.cap,.slice x.b.a x.b.n x.b.cap],.int .i64 (t:Int),.slice um.a um.n um.cap] w
  fun e w'=>e = .returned (.tuple #[])∧OwnVw w' base x (s.sv t (vwJoin v u)) us lu ms∧KpT [3] B w w':=by
 obtain⟨gm,cm,g,c,hxm,hus,hgm,hbg,-⟩:=h.view hv hl0;have hgl:=lt_of_cell hgm;have hJ:(vwJoin v u).length=v.length:=by simp[vwJoin,hl]
 have hgl2:g < w.heap.size:=by
  obtain⟨z,hz⟩:=get_of_lt hl0;obtain⟨_,_,g',c',_,hus',_,_,h5⟩:=h.view hv hl0;rw[hus]at hus';simp only[Option.some.injEq,Slc.mk.injEq,Addr.mk.injEq,and_true]at hus';rw[hus'.1];exact lt_of_cell (h5 0 z hz).1
 have hgg:g≠gm:=by
  intro e;obtain⟨a1,ha1⟩:=h.hv.typeT (g:=gm) (by rw[hxm];rfl);obtain⟨a2,ha2⟩:=(h.fam.own (2,t,0) _ v (famOf_sv (r':=v) hus hv).1).typeT (g:=g) rfl;rw[e,ha1]at ha2;simp at ha2
 have hrep:=(h.fam.own ix um u hu).rep;obtain⟨ua,uc,hum,-,-,-,-⟩:=hrep.open;have hune:∀ q,um.a=some q→q.block≠g:=fun q hq e=>by
  have:=h.fam.far (2,t,0) ix _ _ _ _ (famOf_sv (r':=v) hus hv).1 hu hix.symm g rfl;apply this;simp[Slc.v,hq,Value.ownBlock,e]
 obtain⟨⟨pa,pn,pk⟩,⟨ra,rn,rk⟩,⟨ma,mn,mk⟩,⟨ba,bn,bk⟩⟩:=x;simp only[Slc.mk.injEq]at hxm;obtain⟨rfl,rfl,rfl⟩:=hxm;obtain⟨uma,umn,umc⟩:=um;simp only[Slc.v,Value.slice.injEq]at hum;obtain⟨rfl,rfl,rfl⟩:=hum;obtain⟨gu,rfl⟩:∃ gu,uma=some ⟨gu,0,none⟩:=by
  rcases (h.fam.own ix _ u hu).shape with⟨-,h0⟩ | ⟨gu,cu,h0,-⟩
  ·rw[h0]at hl;simp at hl;omega
  ·simp only[Slc.v,Value.slice.injEq]at h0
   exact⟨gu,h0.1⟩
 have hgug:gu≠g:=hune _ rfl;have hggu:g≠gu:=hgug.symm;obtain⟨x,hx⟩:∃ x:SV,x=⟨⟨pa,pn,pk⟩,⟨ra,rn,rk⟩,⟨some ⟨gm,0,none⟩,s.vw.length,mk⟩,⟨ba,bn,bk⟩⟩:=⟨_,rfl⟩
 rw[← hx]at h hu;obtain⟨A0,hA0⟩:∃ A0,A0=w.alloc (.cells #[.slice pa pn pk,.slice ra rn rk,.slice (some ⟨gm,0,none⟩) s.vw.length mk,.slice ba bn bk] 79):=⟨_,rfl⟩
 have BA:=hide (show Below w.heap.size w A0 by rw[hA0];exact belowAlloc _ _);have hz:A0.heap.size=w.heap.size+1:=by rw[hA0];simp
 have HX2:Hid (A0.heap[w.heap.size]? = some (.cells #[.slice pa pn pk,.slice ra rn rk,.slice (some ⟨gm,0,none⟩) s.vw.length mk,.slice ba bn bk] 79 (0,0))):=hide (by rw[hA0];exact heap_alloc_new w _);have HA0:=hide hA0;have HO0:=hide (h.below BA.out);have HV:=hide hv;have HU:=hide hu;have HUS:=hide hus
 have htl:=(List.getElem?_eq_some_iff.1 hv).1;have hgB:g≠w.heap.size:=Nat.ne_of_lt hgl2;have hgmB:gm≠w.heap.size:=Nat.ne_of_lt hgl;have htl':(t:Int) < (s.vw.length:Int):=Int.ofNat_lt.2 htl;have HL:=hide hl;have HJ:=hide hJ;have HGM:=hide hgm;have HX:=hide hx
 generalize hul:u.length=n at *;have HUL:=hide hul;have hn1000:n≤1000:=by omega
 have HVL:Hid (v.length=n):=hide hl.symm;have HVW:=hide (rfl:s.vw.length=s.vw.length);generalize s.vw.length=vl at *;clear hA0 hv hu hus htl hgm hx h hrep hJ hl hul HVW;have FX:Hid (∀ (W:World) (r':List Int) (k:Nat) (a y:Int),OwnVw W base x (s.sv t r') us lu ms→r'.length=n→r'[k]? = some a→u[k]? = some y →
  W.cell? ⟨gm,t,none⟩=some (.slice (some ⟨g,0,none⟩) n c)∧W.cell? ⟨g,k,none⟩=some (.int .i64 a)∧W.frozen? ⟨g,k,none⟩=false∧W.cell? ⟨gu,k,none⟩=some (.int .i64 y)∧∀ z',OwnVw (W.setCell ⟨g,k,none⟩ (.int .i64 z')) base x (s.sv t (r'.set k z')) us lu ms):=hide (fun W r' k a y hW hr hk hy=>by
  have hkl:=(List.getElem?_eq_some_iff.1 hk).1;obtain⟨gm',cm',g',c',hxm',hus',h1,-,h5⟩:=hW.view (t:=t) (Vw.sv_get HV.out) (by omega);rw[HUS.out]at hus';simp only[Option.some.injEq,Slc.mk.injEq,Addr.mk.injEq,and_true]at hus';obtain⟨rfl,-,rfl⟩:=hus';rw[HX.out]at hxm';simp only[Slc.mk.injEq,Option.some.injEq,Addr.mk.injEq,and_true]at hxm';obtain⟨rfl,-,-⟩:=hxm';obtain⟨e1,e2,e3⟩:=h5 k a hk;have hrow:=hW.fam.own ix _ u (by rw[(famOf_sv (r':=r') HUS.out HV.out).2.2 ix hix];exact HU.out);have hc:=Own.cell (g:=gu) hrow hy (j:=0) rfl;simp only[IntE,Nat.mul_one,Nat.add_zero]at hc;refine⟨by rw[← hr];exact h1,e1,e2,hc,fun z' => ?_⟩;have:=e3 z';rwa[Vw.sv_sv]at this)
 go_enter Try.func73,Try.ntmps73;go_wp2_with fail;rw[← HA0.out]
 go_loopw [6] (fun i wr => ∃ k:Nat,k≤n∧i = .int .i64 k∧Hid (OwnVw wr base x (s.sv t (mixL (vwJoin v u) v k)) us lu ms)∧Hid (wr.heap[w.heap.size]? = some (.cells #[.slice pa pn pk,.slice ra rn rk,.slice (some ⟨gm,0,none⟩) vl mk,.slice ba bn bk] 79 (0,0)))∧KpT [3] B w wr) (fun i _=>n - (intOf i).toNat)
 case atStart=>exact⟨0,Nat.zero_le _,rfl,hide (by rw[mixL_zero,Vw.sv_self HV.out];exact HO0.out),HX2,.of_below BA.out⟩
 case round =>
  obtain⟨k,hk,rfl,HO,HBX,hb⟩:=hrel;have d2:=cellH HBX.out (k:=2) rfl;have dl:=lt_of_cell d2;by_cases hlt:k < n
  ·have hlt':=nat_of_lt hlt
   obtain⟨a,ha⟩:=get_of_lt (xs:=v) (k:=k) (by rw[HVL.out];exact hlt);obtain⟨y,hy⟩:=get_of_lt (xs:=u) (k:=k) (by rw[HUL.out];exact hlt);have hjk:=vwJoin_get ha hy;have hmg:(mixL (vwJoin v u) v k)[k]? = some a:=by rw[mixL_get HJ.out (by rw[HVL.out];exact hlt)];exact ha
   have hml:(mixL (vwJoin v u) v k).length=n:=by rw[mixL_len HJ.out,HVL.out]
   obtain⟨f1,f2,f3,f4,-⟩:=FX.out wr _ k a y HO.out hml hmg hy;have l1:=lt_of_cell f1;have l2:=lt_of_cell f2;have l4:=lt_of_cell f4
   have HBS:=hide hb;have HMG:=hide hmg;have HY:=hide hy;have HML:=hide hml
   by_cases hay:a < y
   ·have MS:=hide (mixL_set HJ.out (by rw[hjk,if_pos hay]:(vwJoin v u)[k]? = some y))
    have hay2:decide (a < y)=true:=decide_eq_true hay;clear hb hmg hy hml ha hjk;go_wp2_with fail;refine wp_region_bw (by kernel_rfl) (by kernel_rfl) ?_
    repeat (go_big_quiet_step (fail))
    refine wpQuiet_nil ?_;intro W hW;have HO2:=hide (HO.out.below hW);have HB2:=hide (HBS.out.trans (.of_below hW))
    have HBX2:=hide ((hW.block w.heap.size dl).trans HBX.out);clear hW f1 f2 f3 f4 l1 l2 l4 d2 dl;obtain⟨f1,f2,f3,f4,f5⟩:=FX.out W _ k a y HO2.out HML.out HMG.out HY.out;have l1:=lt_of_cell f1;have l2:=lt_of_cell f2;have l4:=lt_of_cell f4
    have d2:=cellH HBX2.out (k:=2) rfl;have dl:=lt_of_cell d2;clear f5;go_wp2_with fail
    go_region_held3 (fun V=>V.cell? ⟨w.heap.size,2,none⟩=some (.slice (some ⟨gm,0,none⟩) vl mk)∧V.cell? ⟨gm,t,none⟩=some (.slice (some ⟨g,0,none⟩) n c)∧V.cell? ⟨gu,k,none⟩=some (.int .i64 y)) ((simp[go_sem, *])) (fail)
    go_wp2_with fail;go_roundw
    case rel =>
     obtain⟨-,-,-,-,f5⟩:=FX.out W _ k a y HO2.out HML.out HMG.out HY.out;obtain⟨ag,TG0⟩:=(HO2.out.fam.own (2,t,0) _ _ (famOf_sv HUS.out HV.out).2.1).typeT (g:=g) rfl;have TG:=hide TG0;refine⟨k+1,hlt,by go_num,hide (by rw[← MS.out];exact(f5 y).below (Below.refl _ _).drew),hide ?_,(HB2.out.trans (KpT.set TG.out (by simp) (Nat.le_trans hB hbg) _)).trans (.of_below (Below.refl _ _).drew)⟩;exact(heap_setCell_other W ⟨g,k,none⟩ _ _ (show w.heap.size≠g from hgB.symm)).trans HBX2.out
    case measure=>simp[intOf];omega
   ·have MS:=hide (mixL_same HJ.out (by rw[hjk,if_neg hay]:(vwJoin v u)[k]? = some a) ha)
    have hay2:decide (a < y)=false:=decide_eq_false hay;clear hb hmg hy hml ha hjk;go_wp2_with fail;refine wp_region_bw (by kernel_rfl) (by kernel_rfl) ?_
    repeat (go_big_quiet_step (fail))
    refine wpQuiet_nil ?_;intro W hW;have HO2:=hide (HO.out.below hW);have HB2:=hide (HBS.out.trans (.of_below hW))
    have HBX2:=hide ((hW.block w.heap.size dl).trans HBX.out);go_wp2_with fail;go_roundw
    case rel=>exact⟨k+1,hlt,by go_num,hide (by rw[MS.out];exact HO2.out),HBX2,HB2.out⟩
    case measure=>simp[intOf];omega
  ·obtain rfl:k=n:=by omega
   have E:Hid (mixL (vwJoin v u) v k=vwJoin v u):=hide (mixL_all (by rw[HJ.out,HVL.out];exact Nat.le_refl _) (by rw[HVL.out];exact Nat.le_refl _));go_wp2_with fail;go_end0;exact⟨rfl,by have h:=HO.out;rw[E.out,HX.out]at h;exact h,hb⟩
end Go.Proofs.Ytnkfphndfijcoaa
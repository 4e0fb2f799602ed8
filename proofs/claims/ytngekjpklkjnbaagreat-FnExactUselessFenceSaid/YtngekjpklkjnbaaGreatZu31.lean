/-
  UselessFence of the reference. Condition: bounds on lengths.
-/
import Derived.Test.YtngekjpklkjnbaaGreatZu30
set_option maxHeartbeats 6400000
set_option maxRecDepth 100000
namespace Go.Proofs.YtngekjpklkjnbaaGreat
open Go.RowKit
theorem Qj (vp:Value) (p:List (List Ins)) (s:ByteArray) (w:World) (hp:Z5 w vp p) (hl:p.flatten.length≤1048576) (hpl:p.length≤1048576) :
 Calls Tryz.prog 9 #[vp,.string s] w (Kn (Xj s p) w):=by
 obtain⟨pa,pc,rfl,hc1,hc2,hc3,hpp⟩:=hp.open;have HP00:=Za hp;clear hpp hp;obtain⟨w0,hw0⟩:∃ w0,w0=w.alloc (.cells #[.int .i64 0,.int .i64 0] 25):=⟨_,rfl⟩
 have hB0:Below w.heap.size w w0:=by rw[hw0];exact(Below.refl _ _).alloc (Nat.le_refl _) _
 have hA0:w0.heap[w.heap.size]? = some (.cells #[.int .i64 0,.int .i64 0] 25 (0,0)):=by rw[hw0];exact heap_alloc_new w _
 have hs0:w.heap.size < w0.heap.size:=by rw[hw0];simp
 have B0:=Za hB0;have A0:=Za hA0;have S0:=Za hs0
 have HP0:=Za (HP00.out.below hB0);have HV:=Za (fun W (h:Z5 W (.slice pa p.length pc) p)=>Yd _ p W h hl hpl);have HIB:=Za (Uc s)
 -- what lies in the result's cell, in a world in which all below is as it was
 have RC:Hid (∀ W,Below w0.heap.size w0 W→W.cell? ⟨w.heap.size,0,none⟩=some (.int .i64 0)∧W.cell? ⟨w.heap.size,1,none⟩=some (.int .i64 0)∧W.frozen? ⟨w.heap.size,0,none⟩=false∧W.frozen? ⟨w.heap.size,1,none⟩=false):=Za fun W h=>by
  have hb:=(h.block w.heap.size S0.out).trans A0.out;exact⟨Zc hb (k:=0) rfl,Zc hb (k:=1) rfl,by simp[World.frozen?,hb],by simp[World.frozen?,hb]⟩
 have NO:Hid (Xj s p=none→∀ W,Below w.heap.size w W→Kn (Xj s p) w (.returned (.tuple #[.agg #[.int .i64 0,.int .i64 0],.bool false])) W):=Za fun h W hW=>⟨by rw[h];rfl,hW⟩
 clear hB0 hA0 hs0;cases hv:Zi p
 ·have NO:=Za (NO.out (AY hv s))
  clear hl;generalize Xj s p=R at *;go_enter Tryz.func9,Tryz.ntmps9;go_wp2_with (rw[← hw0];go_at_call 28;(with_reducible refine(HV.out _ HP0.out).mono ?_);rintro e w1 ⟨rfl,hb1⟩;obtain⟨q0,q1,z0,z1⟩:=RC.out w1 hb1;have B1:=Za hb1;rw[hv];clear hb1);refine bodyPost_ret (v:=.tuple #[.agg #[.int .i64 0,.int .i64 0],.bool false]) (by simp[results,Tryz.results9,go_sem,q0,q1]) rfl (NO.out _ ?_);exact((B0.out.trans (B1.out.mono (Nat.le_of_lt S0.out))).setCell (Nat.le_refl _) _).setCell (Nat.le_refl _) _
 ·cases hib:BE s
  ·have NO:=Za (NO.out (CK hib p))
   clear hl;rw[hib]at HIB;generalize Xj s p=R at *;go_enter Tryz.func9,Tryz.ntmps9;go_wp2_with (first
    | (rw[← hw0];go_at_call 28;(with_reducible refine(HV.out _ HP0.out).mono ?_);rintro e w1 ⟨rfl,hb1⟩;obtain⟨q0,q1,z0,z1⟩:=RC.out w1 hb1;have B1:=Za hb1;rw[hv];clear hb1)
    | (go_at_call 29;(with_reducible refine(HIB.out _).mono ?_);rintro e w2 ⟨rfl,rfl⟩))
   refine bodyPost_ret (v:=.tuple #[.agg #[.int .i64 0,.int .i64 0],.bool false]) (by simp[results,Tryz.results9,go_sem,q0,q1]) rfl (NO.out _ ?_);exact((B0.out.trans (B1.out.mono (Nat.le_of_lt S0.out))).setCell (Nat.le_refl _) _).setCell (Nat.le_refl _) _
  ·obtain⟨split,rfl⟩:=BF hib
   rw[hib]at HIB;obtain⟨hn3,-,hr7,-,-⟩:=Z4 hv;have HMO:=Za (fun W v q (h:Z5 W v q) (hq:q.flatten.length≤1048576) (hql:q.length≤1048576)=>Jk split v q W h hq hql);have HCL:=Za (fun W (h:Z5 W (.slice pa p.length pc) p)=>VX _ p W h Om (Kb hv));have HUE:Hid (∀ r,Kk (CB split p) p r→Xj (Uy split) p=r):=Za fun r h=>(Uu hv).trans (Ru h);have HR7:=Za hr7;have HQ:Hid (∀ t j x y,p[t]? = some x→x[j]? = some y→y.op=4→(p.set t (x.eraseIdx j)).flatten.length≤1048576∧JC p t j=p.set t (x.eraseIdx j)):=Za fun t j x y hx hy h4=>by
    have e:JC p t j=p.set t (x.eraseIdx j):=by unfold JC;rw[Qw hx]
    exact⟨by rw[← e];exact QK (Ju (Vj hx hy h4) hv),e⟩
   generalize Xj (Uy split) p=R at *;generalize Uy split=nm at *;generalize hn:p.length=n at *;have H:=Za hn;clear hn hr7 NO;go_enter Tryz.func9,Tryz.ntmps9;go_wp2_with (first
    | (rw[← hw0];go_at_call 28;(with_reducible refine(HV.out _ HP0.out).mono ?_);rintro e w1 ⟨rfl,hb1⟩;have B1:=Za hb1;rw[hv];clear hb1)
    | (go_at_call 29;(with_reducible refine(HIB.out _).mono ?_);rintro e w2 ⟨rfl,rfl⟩))
   (with_reducible refine(HMO.out w1 _ p (HP0.out.below B1.out) hl (by have:=H.out;omega)).mono ?_);rintro e w2 ⟨vL,L,rfl,hu2,-,hL,hb2⟩
   have B2:=Za (B1.out.trans (hb2.mono B1.out.size));have HU2:=Za hu2;have HL:=Za hL
   have HP2:=Za (HP0.out.below B2.out);clear hb2 hu2 hL;go_wp2_with fail;have RC2:Hid (∀ W,Below w2.heap.size w2 W→W.cell? ⟨w.heap.size,0,none⟩=some (.int .i64 0)∧W.cell? ⟨w.heap.size,1,none⟩=some (.int .i64 0)∧W.frozen? ⟨w.heap.size,0,none⟩=false∧W.frozen? ⟨w.heap.size,1,none⟩=false∧w.heap.size < W.heap.size):=Za fun W h=>by
    have hb:=B2.out.trans (h.mono B2.out.size);obtain⟨a1,a2,a3,a4⟩:=RC.out W hb;exact⟨a1,a2,a3,a4,Nat.lt_of_lt_of_le S0.out hb.size⟩
   have BW2:Hid (∀ W,Below w2.heap.size w2 W→Below w.heap.size w W):=Za fun W h=>B0.out.trans ((B2.out.trans (h.mono B2.out.size)).mono (Nat.le_of_lt S0.out));clear RC B1 HP0 HP00 HV HIB
   go_loopw [7] (fun i wr => ∃ t:Nat,t≤n∧i = .int .i64 t∧Hid (∀ t',t' < t→∀ i',i' < (p.getD t' []).length→CB split p t' i'=false)∧Below w2.heap.size w2 wr) (fun i _=>n - (intOf i).toNat)
   case atStart=>exact⟨0,Nat.zero_le _,rfl,Za (fun t' h=>absurd h (Nat.not_lt_zero _)),Below.refl _ _⟩
   case round =>
    obtain⟨t,ht,rfl,HNO,hb⟩:=hrel;by_cases hlt:t < n
    ·obtain⟨x,hxk⟩:=Zd (xs:=p) (k:=t) (by rw[H.out];exact hlt)
     obtain⟨a',c',he,-,-,-,hrows⟩:=(HP2.out.below hb).open;simp only[Value.slice.injEq]at he;obtain⟨rfl,-,rfl⟩:=he;obtain⟨b,o,ra,rc,rfl,hbl,i0,i1⟩:=hrows.row hxk;clear hrows;have hlt':=Zh hlt;have I1:=Za i1;have X:=Za hxk
     have hx7:=HR7.out x (List.mem_of_getElem? hxk);have hgx:=Qw hxk;have GX:=Za hgx;have I0:=Za i0;clear i0 i1 hgx;generalize hxn:x.length=xn at *;have HXN:=Za hxn;clear hxn hxk;obtain⟨wm,rfl⟩:∃ wm:World,wm=wr:=⟨_,rfl⟩
     have HBM:=Za hb;clear hb;go_wp2_with fail
     go_loopw [8] (fun i wr => ∃ j:Nat,j≤xn∧i = .int .i64 j∧Hid (∀ i',i' < j→CB split p t i'=false)∧Below wm.heap.size wm wr) (fun i _=>xn - (intOf i).toNat)
     case atStart=>exact⟨0,Nat.zero_le _,rfl,Za (fun t' h=>absurd h (Nat.not_lt_zero _)),Below.refl _ _⟩
     case round =>
      obtain⟨j,hj,rfl,HNI,hb⟩:=hrel;have i0:=(hb.cell (p:=⟨b,o+t,none⟩) hbl).trans I0.out;have hblr:=Nat.lt_of_lt_of_le hbl hb.size;by_cases hltj:j < xn
      ·obtain⟨y,hyk⟩:=Zd (xs:=x) (k:=j) (by rw[HXN.out];exact hltj)
       obtain⟨b',o',rfl,hbl',j0,j1,j2,j3⟩:=(I1.out.below hb).ins hyk;have hltj':=Zh hltj;by_cases h4:y.op=4
       ·have g4:(y.op != 4)=false:=by simp[h4]
        have HQ2:=Za (HQ.out t j x y X.out hyk h4);have HYK:=Za hyk;obtain⟨V,rfl⟩:∃ V,V=wr:=⟨_,rfl⟩
        have BV:=Za hb;have BV2:=Za (HBM.out.trans (BV.out.mono HBM.out.size));clear hyk hb;go_wp2_with fail
        (with_reducible refine(HCL.out V (HP2.out.below BV2.out)).mono ?_);rintro e w3 ⟨u,rfl,hu,hb3⟩
        obtain⟨us,hU,-⟩:=hu.told;have hul:=hU.1;rcases hU.2.1.shape with⟨-,h0⟩ | ⟨g,cap,rfl,hg1,hg2,hcc1,hcc2⟩
        ·exfalso;rw[h0,H.out]at hul;simp at hul;omega
        have hln:us.length=n:=hul.trans H.out;rw[hln]at hU hcc1 ⊢;obtain⟨⟨sa,sn,sc⟩,hs,hgl,f0,hrow,-⟩:=hU.row X.out;have hrn:sn=xn:=hrow.len.trans HXN.out;subst hrn;rcases hrow.shape with⟨-,h0⟩ | ⟨g',c',h0,hg1',hg2',hcc1',hcc2'⟩
        ·exfalso;have:=HYK.out;rw[h0]at this;simp at this
        have h0:Value.slice sa sn sc=Value.slice (some ⟨g',0,none⟩) x.length c':=h0;simp only[Value.slice.injEq]at h0;obtain⟨rfl,-,rfl⟩:=h0;have hfrz:=hU.2.1.frozen t;have hgne:some g≠(Value.slice (some ⟨g',0,none⟩) sn sc).ownBlock:=fun e=>QE Dc hU.2.1 hrow g e.symm rfl;have HU:=Za hU;have HS:=Za hs;have RW:=Za hrow;have HGN:=Za hgne;have HLO:=Za hrow.lo;have HG1:=Za hg1
        have C3:=Za (BV.out.trans (hb3.mono BV.out.size));have hw3:=hb3.size;clear hu hU hs hrow hgne hb3 hul hln hcc2 hcc2' hg1 hg2;have f1:w3.cell? ⟨g,t,none⟩=some (.slice (some ⟨g',0,none⟩) sn sc):=f0;clear f0;have hlx:j < x.length:=by rw[HXN.out];exact hltj
        have hjs:j+1+(x.length - (j+1))=x.length:=Om;obtain⟨news,A,hnl,hA,hsrc,h2,h3,⟨L',hL',hLe⟩,hgw⟩:=Own.En (k:=j) (m:=x.length - (j+1)) (c:=sc) (g:=g') (xs:=x) (by rw[hjs,HXN.out];exact RW.out.below (Below.refl _ _).drew);obtain⟨W4,hW4⟩:∃ W4,W4=w3.drew.setCells g' (0+j * 4) news:=⟨_,rfl⟩
        have hgr:=hgw w3 (YF (Below.refl _ _).drew _);rw[← hW4]at hL' hgr;have ho4:=hL'.cut (i:=j+(x.length - (j+1))) Om;rw[hLe]at ho4;have f2:=hgr.cell f1 HGN.out;have hfr2:W4.frozen? ⟨g,t,none⟩=false:=(World.frozen?_of_block (w:=w3) (hgr.block g hgl HGN.out)).trans hfrz;have hgl4:g < W4.heap.size:=Zb f2;have hput:=HU.out.ES (s':=⟨some ⟨g',0,none⟩,j+(x.length - (j+1)),sc⟩) HS.out ho4 hgr rfl;obtain⟨W5,hW5⟩:∃ W5,W5=W4.setCell ⟨g,t,none⟩ (.slice (some ⟨g',0,none⟩) (j+(x.length - (j+1))) sc):=⟨_,rfl⟩
        have hput2:=hput;rw[show W4.setCell ⟨g,t,none⟩ (Zt.v ⟨some ⟨g',0,none⟩,j+(x.length - (j+1)),sc⟩)=W5 from hW5.symm]at hput2;have HPUT:=Za hput2.own.rep;have C5:=Za (show Below wm.heap.size wm W5 by rw[hW5];exact(C3.out.grown hgr C3.out.size (fun k hk=>Nat.le_trans BV.out.size (HLO.out k hk).1)).setCell (Nat.le_trans BV.out.size HG1.out) _);have BW5:=Za (HBM.out.trans (C5.out.mono HBM.out.size));have HW5:=Za hW5;have HW4:=Za hW4
        have NL:=Za hnl;have SRC:=Za hsrc;have s2:=Za h2;have s3:=Za h3
        have hj1:j+1≤x.length:=Om;have hjx:j≤x.length:=Om;have hjw:IntKind.i64.wrap ((j:Int)+1)=(j:Int)+1:=by rw[IntKind.wrap_i64];have:=HXN.out;omega
        have hjc:j≤sc:=by have:=HXN.out;omega
        have hjc1:j+1≤sc:=by have:=HXN.out;omega
        have hij:(0:Int)≤(j:Int)+1:=Om;have hijn:(j:Int)+1≤(x.length:Int):=Om;obtain⟨it,hi1,hz0,hz1,hz2⟩:=info_parts (Tryz.Y2);clear hput hput2 hW5 hgr ho4 hW4 hnl hsrc h2 h3 hL' hLe hgw hjs;go_wp2_with fail
        go_region_law (refine step_append_room rfl (.tmp 55) (.tmp 62) 42 rfl 44 it 4 Tryz.underlying42 hi1 hz1 g' 0 j sc (by simp[Act.eval,Act.put]) A (x.length - (j+1)) (sc - (j+1)) news (by simp[Act.eval,Act.put]) NL.out SRC.out s2.out Om s3.out ?_;rw[← HW4.out])
        all_goals
         go_wp2_with fail;rw[← HW5.out]
         (with_reducible refine(HMO.out W5 _ _ HPUT.out HQ2.out.1 (by rw[List.length_set,H.out];omega)).mono ?_);rintro e w6 ⟨vM,M,rfl,hu6,-,hM,hb6⟩
         have C6:=Za (C5.out.trans (hb6.mono C5.out.size));have BW6:=Za (HBM.out.trans (C6.out.mono HBM.out.size));have HUM:=Za hu6;have HOK:=Za (CC (split:=split) (p:=p) (M:=M) (L:=L) (by rw[GX.out];exact HYK.out) h4 (fun o=>by rw[HQ2.out.2];exact hM o) HL.out);clear hu6 hM hb6;go_wp2_with fail
         (with_reducible refine(GQ vM.v vL.v M L w6 HUM.out (HU2.out.below BW6.out)).mono ?_);rintro e w7 ⟨rfl,hb7⟩
         have C7:=Za (C6.out.trans (hb7.mono C6.out.size));have BW7:=Za (HBM.out.trans (C7.out.mono HBM.out.size));clear hb7;cases hsub:Ut M L
         ·have HNI2:=Za (QA HNI.out (HOK.out.trans hsub))
          go_wp2_with fail;go_roundw
          case rel=>exact⟨j+1,Om,Gn,HNI2,C7.out⟩
          case measure=>simp[intOf];omega
         ·obtain⟨q0,q1,z0,z1,hsz⟩:=RC2.out w7 BW7.out
          have HR:=HUE.out (some (t,j)) ⟨by rw[H.out];exact hlt,by rw[GX.out,HXN.out];exact hltj,HOK.out.trans hsub,HNO.out,HNI.out⟩;go_wp2_with fail;refine bodyPost_ret (v:=.tuple #[.agg #[.int .i64 (t:Int),.int .i64 (j:Int)],.bool true]) (by simp[results,Tryz.results9,go_sem,q0,q1]) rfl ⟨by rw[HR];rfl,?_⟩;exact((BW2.out w7 BW7.out).setCell (Nat.le_refl _) _).setCell (Nat.le_refl _) _
       ·have g4:(y.op != 4)=true:=by simp[h4]
        have HNI2:=Za (QA HNI.out (ED (by rw[GX.out];exact hyk) h4));go_wp2_with fail;go_roundw
        case rel=>exact⟨j+1,Om,Gn,HNI2,hb⟩
        case measure=>simp[intOf];omega
      ·have hj2:j=xn:=Om
       subst hj2;have HNO2:=Za (Uj X.out HNO.out (fun i' hi=>HNI.out i' (by rw[← HXN.out];exact hi)));go_wp2_with fail;go_roundw
       case rel=>exact⟨t+1,Om,Gn,HNO2,HBM.out.trans (hb.mono HBM.out.size)⟩
       case measure=>simp[intOf];omega
    ·have ht2:t=n:=Om
     subst ht2;obtain⟨q0,q1,z0,z1,hsz⟩:=RC2.out wr hb;have HR:=HUE.out none (fun t' h i' hi=>HNO.out t' (by rw[← H.out];exact h) i' hi);go_wp2_with fail;refine bodyPost_ret (v:=.tuple #[.agg #[.int .i64 0,.int .i64 0],.bool false]) (by simp[results,Tryz.results9,go_sem,q0,q1]) rfl ⟨by rw[HR];rfl,?_⟩;exact((BW2.out wr hb).setCell (Nat.le_refl _) _).setCell (Nat.le_refl _) _
end Go.Proofs.YtngekjpklkjnbaaGreat
/-
  The reference's least fences. Condition: bounds on lengths.
-/
import Derived.Test.YtngekjpklkjnbaaGreatZp29
set_option maxHeartbeats 6400000
set_option maxRecDepth 100000
namespace Go.Proofs.YtngekjpklkjnbaaGreat
open Go.RowKit
theorem R7 (s:ByteArray) (w:World):Calls Tryz.prog 29 #[.string s] w fun e w'=>e = .returned (.bool (F9 s))∧w=w':=by
 have H:Hid (F9 s=((s.toList==[116,115,111])||(s.toList==[112,115,111]))):=Za rfl;generalize F9 s=R at *;cases h0:(s.toList==[116,115,111]) <;> cases h1:(s.toList==[112,115,111])
 all_goals
  rw[h0,h1]at H;go_enter Tryz.func29,Tryz.ntmps29;go_wp2_with fail;go_ret;rw[H.out];exact⟨rfl,rfl⟩
theorem My {p:List (List Ins)}(hv:Zg p=true) {L:List Gp}{n:Nat}(h:L∈Zn (ZF p) n):XV p L=Zg (Y1 (Xo L) p):=by
 unfold XV;rw[hv];have:Lc L (ZF p)=true:=List.all_eq_true.2 fun g hg=>decide_eq_true (DF _ n L h g hg);rw[this];simp
theorem Qi (vp:Value) (p:List (List Ins)) (s:ByteArray) (w:World) (hp:Z9 w vp p) (hl:p.flatten.length≤1048576) (hpl:p.length≤1048576) :
 Calls Tryz.prog 14 #[vp,.string s] w (Xw (QB s p) w):=by
 have HV:=Za (ZS vp p w hp hl hpl);have HIB:=Za (R7 s);have HP:=Za hp;have HGP:=Za (fun W (h:Z9 W vp p)=>R9 vp p W h hl);have HPF:=Za (fun (hr:∀ r∈p,r.length≤1048576) W v2 L (h:Z9 W vp p) hL=>IA vp v2 p L W h hL hpl hr);clear hp hl;have F:QB s p=none→∀ w1,Below w.heap.size w w1→Xw (QB s p) w (.returned (.tuple #[.slice (some ⟨w1.heap.size,0,none⟩) 0 0,.bool false])) (w1.alloc (.cells #[] 25)):=fun h w1 hb=>⟨⟨some ⟨w1.heap.size,0,none⟩,0,0⟩,by rw[h];rfl,by rw[h];exact(Own.empty (E:=ZZ) 25 w1 hb.size),hb.alloc hb.size _⟩
 cases hv:Zg p
 ·have F2:=Za (F (Eu hv s))
  clear F HGP HPF;generalize QB s p=R at *;go_enter Tryz.func14,Tryz.ntmps14;go_wp2_with (go_at_call 28;(with_reducible refine HV.out.mono ?_);rintro e w1 ⟨rfl,hb1⟩;have B1:=Za hb1;rw[hv];clear hb1);go_ret2;exact F2.out _ B1.out
 ·cases hib:F9 s
  ·have F2:=Za (F (Cw hib p))
   clear F HGP HPF;rw[hib]at HIB;generalize QB s p=R at *;go_enter Tryz.func14,Tryz.ntmps14;go_wp2_with (first
    | (go_at_call 28;(with_reducible refine HV.out.mono ?_);rintro e w1 ⟨rfl,hb1⟩;have B1:=Za hb1;rw[hv];clear hb1)
    | (go_at_call 29;(with_reducible refine(HIB.out _).mono ?_);rintro e w2 ⟨rfl,rfl⟩))
   go_ret2;exact F2.out _ B1.out
  ·obtain⟨split,rfl⟩:=FA hib
   rw[hib]at HIB;rw[Kw]at F ⊢;have HLV:Hid (YF split p=if (ZF p).length≤8 then Qh (RU split p) (ZF p) else none):=Za (by
    unfold YF;rw[hv];simp)
   have hfl:∀ L,(Y1 (Xo L) p).flatten.length≤1048576:=fun L=>Nat.le_trans (U7 (Zv hv).1 (fun r hr=>((Zv hv).2.2.1 r hr).1)) Dc;have hql:∀ L,(Y1 (Xo L) p).length≤1048576:=fun L=>by rw[YQ];exact hpl
   have HRP:=Za (fun W v L (hW:Z9 W v (Y1 (Xo L) p))=>Ct split v (Y1 (Xo L) p) W hW (hfl L) (hql L));have HVQ:=Za (fun W v L (hW:Z9 W v (Y1 (Xo L) p))=>ZS v (Y1 (Xo L) p) W hW (hfl L) (hql L));have HPF:=Za (HPF.out (fun r hr=>Nat.le_trans ((Zv hv).2.2.1 r hr).1 Dc));have HIN:=Za (fun (L:List Gp) n (h:L∈Zn (ZF p) n)=>My hv h);have HSEL:=Za (fun (n:Nat) v W (hn:n≤1000) (h8:(ZF p).length≤8) h=>Cr n v (ZF p) W hn h8 h);have HOK:Hid (∀ L,RU split p L=(XV p L&&Gl split (Y1 (Xo L) p))):=Za (fun L=>rfl);have FF:=Za F;clear F;generalize YF split p=R at *;generalize Bb split=nm at *;generalize hgs:ZF p=gs at *;clear hgs;go_enter Tryz.func14,Tryz.ntmps14;go_wp2_with (first
    | (go_at_call 28;(with_reducible refine HV.out.mono ?_);rintro e w1 ⟨rfl,hb1⟩;have B1:=Za hb1;rw[hv];clear hb1)
    | (go_at_call 29;(with_reducible refine(HIB.out _).mono ?_);rintro e w2 ⟨rfl,rfl⟩))
   (with_reducible refine(HGP.out w1 (HP.out.below B1.out)).mono ?_);rintro e w2 ⟨gv,rfl,hg2,hb2⟩
   obtain⟨⟨ga,gn,gc⟩,hve,hgn⟩:=hg2.Yy;have hve:gv = .slice ga gn gc:=hve;subst hve;have G2:=Za (hg2.mono B1.out.size);have B2:=Za (B1.out.trans (hb2.mono B1.out.size));have HGN:=Za hgn
   clear hb2 hg2;have HG:Hid (gn=gs.length):=Za hgn;clear hgn hfl hql hpl;go_wp2_with fail
   go_loopw [7] (fun i wr => ∃ n:Nat,n≤4∧i = .int .i64 n∧Hid (∀ x∈YL gs n,RU split p x=false)∧Below w.heap.size w wr∧Below w2.heap.size w2 wr) (fun i _=>4 - (intOf i).toNat)
   case atStart=>exact⟨0,Nat.zero_le _,rfl,Za (fun x hx=>by simp[YL]at hx),B2.out,Below.refl _ _⟩
   case round =>
    obtain⟨n,hn,rfl,HNO,hbr,hb2r⟩:=hrel;have HBR:=Za hbr;have HB2R:=Za hb2r
    by_cases hlt1:n≤gn
    ·have hd1:decide ((n:Int)≤(gn:Int))=true:=decide_eq_true Om
     have hd1':(n:Int)≤(gn:Int):=Om;by_cases hlt2:n≤3
     ·have hd2:decide ((n:Int)≤3)=true:=decide_eq_true Om
      have hd2':(n:Int)≤3:=Om;by_cases hlt3:gn≤8
      ·have hd3:decide ((gn:Int)≤8)=true:=decide_eq_true Om
       have hd3':(gn:Int)≤8:=Om;have HLE:Hid (gs.length≤8):=Za (by have:=HG.out;omega);have HLV2:Hid (R=Qh (RU split p) gs):=Za (by rw[HLV.out,if_pos HLE.out]);have HN4:Hid (n < 4):=Za Om;clear hlt1 hlt2 hlt3;have HGV:=Za (G2.out.below hb2r).rep;clear hbr hb2r;go_wp2_with fail
       (with_reducible refine(HSEL.out n _ wr Om HLE.out HGV.out).mono ?_);rintro e w4 ⟨⟨ra,rn,rc⟩,rfl,ou,hb4⟩
       have hrn:rn=(Zn gs n).length:=by
        rcases ou.shape with⟨h1,h2⟩ | ⟨g,cap,h1,-⟩
        ·simp only[Zs.v,Value.slice.injEq]at h1;rw[h1.2.1,h2];rfl
        ·simp only[Zs.v,Value.slice.injEq]at h1;exact h1.2.1
       have HRN:=Za hrn.symm;have HRS:=Za ou;have HB4:=Za (HBR.out.trans (hb4.mono HBR.out.size));have HB24:=Za (HB2R.out.trans (hb4.mono HB2R.out.size))
       have hrs:w.heap.size≤wr.heap.size:=HBR.out.size;have HZ:=Za hrs;have hr256:rn≤256:=by rw[hrn];exact Nat.le_trans (Qr _ n) (Nat.le_trans (Nat.pow_le_pow_right Dc HLE.out) (by decide:2 ^ 8≤256))
       obtain⟨Z0,hZ0⟩:∃ Z0,Z0=wr.heap.size:=⟨_,rfl⟩
       rw[← hZ0]at HRS HZ;clear ou hb4 hrn hrs hZ0;go_wp2_with fail
       go_loopw [9] (fun i wr => ∃ j:Nat,j≤rn∧i = .int .i64 j∧Hid (∀ x∈(Zn gs n).take j,RU split p x=false)∧Below w4.heap.size w4 wr) (fun i _=>rn - (intOf i).toNat)
       case atStart=>exact⟨0,Nat.zero_le _,rfl,Za (fun x hx=>by simp at hx),Below.refl _ _⟩
       case round =>
        obtain⟨j,hj,rfl,HNJ,hbj⟩:=hrel;have HBJ:=Za hbj;by_cases hltj:j < rn
        ·have hltj':=Zh hltj
         obtain⟨L,hLj⟩:=Zd (xs:=Zn gs n) (k:=j) (by rw[HRN.out];exact hltj);obtain⟨⟨sa,sn,sc⟩,gg,hga,hg,g0,hrow⟩:=Y7.row (Qx.below HRS.out hbj) hLj;subst hga;have G0:=Za g0;have HROW:=Za hrow;have HLJ:=Za hLj
         have HPJ:=Za (HP.out.below ((HB4.out.trans (hbj.mono HB4.out.size))));have HBW:=Za (HB4.out.trans (hbj.mono HB4.out.size));have HSUB:Hid (∀ x∈(Zn gs n).take (j+1),x∈(Zn gs n).take j∨x=L):=Za (fun x hx=>by
          rw[List.take_add_one,hLj]at hx;rcases List.mem_append.1 hx with h | h
          ·exact .inl h
          ·simp at h;exact .inr h)
         clear hrow hLj hbj;have HOKL:Hid (RU split p L=(Zg (Y1 (Xo L) p)&&Gl split (Y1 (Xo L) p))):=Za (by rw[HOK.out,HIN.out L n (List.mem_of_getElem? HLJ.out)]);have HC:=Za (HPF.out wr (.slice sa sn sc) L HPJ.out HROW.out.rep);have HVL:=Za (fun W v h=>HVQ.out W v L h);have HRPL:=Za (fun W v h=>HRP.out W v L h);go_wp2_with fail
         (with_reducible refine HC.out.mono ?_);rintro e w5 ⟨v5,rfl,ho5,hb5⟩
         have B5:=Za hb5;have O5:=Za ho5.rep
         clear hb5 ho5;generalize Y1 (Xo L) p=q at *;cases hpo:Zg q
         ·have HNO2:Hid (RU split p L=false):=Za (by rw[HOKL.out,hpo];rfl)
          have HV5:=Za (HVL.out w5 v5 O5.out);rw[hpo]at HV5;go_wp2_with (go_at_call 28;(with_reducible refine HV5.out.mono ?_);rintro e w6 ⟨rfl,hb6⟩;have B6:=Za (B5.out.trans (hb6.mono B5.out.size));clear hb6);go_roundw
          case rel=>exact⟨j+1,Om,Gn,Za (fun x hx=>by rcases HSUB.out x hx with h | rfl;exact HNJ.out x h;exact HNO2.out),HBJ.out.trans (B6.out.mono HBJ.out.size)⟩
          case measure=>simp[intOf];omega
         ·have HPO:=Za hpo
          have HV5:=Za (HVL.out w5 v5 O5.out);rw[hpo]at HV5;clear hpo;go_wp2_with (go_at_call 28;(with_reducible refine HV5.out.mono ?_);rintro e w6 ⟨rfl,hb6⟩;have B6:=Za (B5.out.trans (hb6.mono B5.out.size));have O6:=Za (O5.out.below hb6);clear hb6)
          (with_reducible refine(HRPL.out w6 v5 O6.out).mono ?_);rintro e w7 ⟨b6,rfl,hb6,hbw6⟩
          have B7:=Za (B6.out.trans (hbw6.mono B6.out.size));have HRB:Hid (Gl split q=b6):=Za (CJ (hb6.trans (by rw[HPO.out];simp)));have g1:=(B7.out.cell (p:=⟨gg,j,none⟩) hg).trans G0.out;have hg1:=Zb g1;clear hb6 hbw6;cases b6
          ·have HNO2:Hid (RU split p L=false):=Za (by rw[HOKL.out,HRB.out];simp)
           go_wp2_with fail;go_roundw
           case rel=>exact⟨j+1,Om,Gn,Za (fun x hx=>by rcases HSUB.out x hx with h | rfl;exact HNJ.out x h;exact HNO2.out),HBJ.out.trans (B7.out.mono HBJ.out.size)⟩
           case measure=>simp[intOf];omega
          ·have HYES:Hid (R=some L):=Za (by
            rw[HLV2.out];exact RE HN4.out HNO.out HNJ.out HLJ.out (by rw[HOKL.out,HPO.out,HRB.out];rfl))
           have HF:Hid (Xw R w (.returned (.tuple #[.slice sa sn sc,.bool true])) w7):=Za ⟨⟨sa,sn,sc⟩,by rw[HYES.out];rfl,by rw[HYES.out];exact(HROW.out.mono HZ.out).below B7.out,HBW.out.trans (B7.out.mono HBW.out.size)⟩;go_wp2_with fail;go_ret2;exact HF.out
        ·obtain rfl:j=rn:=Om
         have HNO2:Hid (∀ x∈YL gs (n+1),RU split p x=false):=Za (fun x hx=>by
          rw[Qf]at hx;rcases List.mem_append.1 hx with h | h
          ·exact HNO.out x h
          ·exact HNJ.out x (by rw[List.take_of_length_le (by rw[HRN.out];exact Nat.le_refl _)];exact h))
         clear hbj;go_wp2_with fail;go_roundw
         case rel=>exact⟨n+1,Om,Gn,HNO2,HB4.out.trans (HBJ.out.mono HB4.out.size),HB24.out.trans (HBJ.out.mono HB24.out.size)⟩
         case measure=>simp[intOf];omega
      ·have hd3:decide ((gn:Int)≤8)=false:=decide_eq_false Om
       have hd3':¬ (gn:Int)≤8:=Om;have F2:=Za (FF.out (by rw[HLV.out,if_neg (by have:=HG.out;omega)]) wr HBR.out);clear hbr hb2r FF;go_wp2_with fail;go_ret2;exact F2.out
     ·have hd2:decide ((n:Int)≤3)=false:=decide_eq_false Om
      have hd2':¬ (n:Int)≤3:=Om;obtain rfl:n=4:=Om;have F2:=Za (FF.out (by rw[HLV.out];split <;> first | exact Kv HNO.out | rfl) wr HBR.out);clear hbr hb2r FF;go_wp2_with fail;go_ret2;exact F2.out
    ·have hd1:decide ((n:Int)≤(gn:Int))=false:=decide_eq_false Om
     have hd1':¬ (n:Int)≤(gn:Int):=Om;have F2:=Za (FF.out (by
      rw[HLV.out];split
      ·refine Kv fun x hx=>HNO.out x ?_
       have h4:=F3 (gs:=gs) (n:=n) (by have:=HG.out;omega) (4 - n);rw[show n+(4 - n)=4 by omega]at h4;rw[← h4];exact hx
      ·rfl) wr HBR.out)
     clear hbr hb2r FF;go_wp2_with fail;go_ret2;exact F2.out
end Go.Proofs.YtngekjpklkjnbaaGreat
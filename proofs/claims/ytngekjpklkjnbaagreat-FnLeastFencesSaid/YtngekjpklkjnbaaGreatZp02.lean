/-
  From the form's reading of an argument to what the walks ask of it.
-/
import Derived.Test.YtngekjpklkjnbaaGreatZp00
import Derived.Test.YtngekjpklkjnbaaGreatRows
import Derived.ProofKit
import Derived.Deep.Slices
set_option maxHeartbeats 6400000
set_option maxRecDepth 100000
namespace Go.Proofs.YtngekjpklkjnbaaGreat
open Go.RowKit
def Nc (writes:Bool) (loc:Int) (x:Ins):Bool:=x.loc==loc&&(if writes=true then ZR x.op else ZG x.op)
theorem Ns {b:Bool}{loc:Int}{x:Ins}(h:x.loc=loc):Nc b loc x=(if b=true then ZR x.op else ZG x.op):=by simp[Nc,h]
theorem OG {b:Bool}{loc:Int}{x:Ins}(h:x.loc≠loc):Nc b loc x=false:=by simp[Nc,h]
theorem Jo (v:Value) (p:List (List Ins)) (loc:Int) (wr?:Bool) (w:World) (hp:Z9 w v p) (hl:p.flatten.length≤1048576) (hpl:p.length≤1048576) :
 Calls Tryz.prog 90 #[v,.int .i64 loc,.bool wr?] w fun e w'=>e = .returned (.int .i64 (YO (Nc wr? loc) p:Nat))∧Below w.heap.size w w':=by
 obtain⟨a,c,rfl,hc1,hc2,hc3,hp⟩:=hp.open;have HP:=Za hp;clear hp;have HL:=Za hl;clear hl;generalize hn:p.length=n at *;have H:=Za hn;clear hn;generalize hF:Nc wr? loc=F at *;have HF:=Za hF;clear hF;go_enter Tryz.func90,Tryz.ntmps90;go_wp2_with fail
 go_loopw [7,8] (fun r i wr => ∃ j:Nat,j≤n∧i = .int .i64 j∧r = .int .i64 (YO F (p.take j):Nat)∧Below w.heap.size w wr) (fun _ i _=>n - (intOf i).toNat)
 case atStart=>exact⟨0,Om,rfl,by simp[YO],Below.refl _ _⟩
 case round =>
  obtain⟨j,hj,rfl,rfl,hb2⟩:=hrel;by_cases hlt2:j < n
  ·obtain⟨wm,rfl⟩:∃ wm:World,wm=wr:=⟨_,rfl⟩
   obtain⟨x,hxk⟩:=Zd (xs:=p) (k:=j) (by rw[H.out];exact hlt2);obtain⟨b,o,ra,rc,rfl,hbl,i0,i1⟩:=(HP.out.below hb2).row hxk;have hlt2':=Zh hlt2;obtain⟨_,_,_,_,hr2,_,_⟩:=i1.open;have CR:=Za (YY F hxk);have hbR:=Nat.le_trans (Qs F p j) HL.out;have hxl:=Nat.le_trans (YM hxk) HL.out;have I1:=Za i1;have X:=Za hxk
   clear i1 hxk;generalize hR:YO F (p.take j)=R at *;clear hR;go_wp2_with fail
   go_loopw [7,9] (fun r i wr => ∃ t:Nat,t≤x.length∧i = .int .i64 t∧r = .int .i64 (R+(x.take t).countP F:Nat)∧Below wm.heap.size wm wr) (fun _ i _=>x.length - (intOf i).toNat)
   case atStart=>exact⟨0,Om,rfl,Sm,Below.refl _ _⟩
   case round =>
    obtain⟨t,ht,rfl,rfl,hb3⟩:=hrel;have hbR2:(x.take t).countP F≤1048576:=Nat.le_trans List.countP_le_length So;have i0':wr.cell? ⟨b,o+j,none⟩=some (.slice ra x.length rc):=(hb3.cell (p:=⟨b,o+j,none⟩) hbl).trans i0;by_cases hlt3:t < x.length
    ·obtain⟨y,hyk⟩:=Zd (xs:=x) (k:=t) hlt3
     obtain⟨b',o',rfl,hbl',j0,j1,j2,j3⟩:=(I1.out.below hb3).ins hyk;have hlt3':=Zh hlt3;have CR2:=Za (YJ F hyk);have Y:=Za hyk;clear hyk;generalize hR2:(x.take t).countP F=R2 at *;clear hR2;by_cases hloc:y.loc=loc
     ·have CR3:Hid ((x.take (t+1)).countP F=R2+if (if wr? = true then ZR y.op else ZG y.op)=true then 1 else 0):=by have h:=CR2.out;rwa[← HF.out,Ns hloc,HF.out]at h
      clear CR2;rw[hloc]at j1;clear hloc HF;have hkk:(loc==loc)=true:=by simp
      generalize hro:ZG y.op=ro at *;generalize hwo:ZR y.op=wo at *;have RO:=Za hro;have WO:=Za hwo;clear hro hwo
      cases wr?
      ·cases ro
       all_goals
        go_wp2_with (go_at_call 108;(with_reducible refine(Qu _ _ _ _ _).mono ?_);rw[RO.out];rintro e w3 ⟨rfl,hb4⟩);go_roundw
        case rel=>exact⟨t+1,Om,Gn,by rw[CR3.out];simp;try omega,(hb3.alloc hb3.size _).trans (hb4.mono (by have:=hb3.size;simp;omega))⟩
        case measure=>simp[intOf];omega
      ·cases wo
       all_goals
        go_wp2_with (go_at_call 107;(with_reducible refine(XS _ _ _ _ _).mono ?_);rw[WO.out];rintro e w3 ⟨rfl,hb4⟩);go_roundw
        case rel=>exact⟨t+1,Om,Gn,by rw[CR3.out];simp;try omega,(hb3.alloc hb3.size _).trans (hb4.mono (by have:=hb3.size;simp;omega))⟩
        case measure=>simp[intOf];omega
     ·have CR3:Hid ((x.take (t+1)).countP F=R2):=Za (by have h:=CR2.out;rw[← HF.out,OG hloc,HF.out]at h;simpa using h)
      clear CR2;have hkk:(y.loc==loc)=false:=by simpa using hloc
      clear hloc;go_wp2_with fail;go_roundw
      case rel=>exact⟨t+1,Om,Gn,by rw[CR3.out],hb3.alloc hb3.size _⟩
      case measure=>simp[intOf];omega
    ·have e:t=x.length:=Om
     have CR4:Hid (YO F (p.take (j+1))=R+(x.take t).countP F):=by have h:=CR.out;rwa[e,List.take_length]
     generalize hR2:(x.take t).countP F=R2 at *;clear hR2 e;go_wp2_with fail;go_roundw
     case rel=>exact⟨j+1,Om,Gn,by rw[CR4.out],hb2.trans (hb3.mono hb2.size)⟩
     case measure=>simp[intOf];omega
  ·have e:j=n:=Om
   have hpt:p.take j=p:=List.take_of_length_le (by rw[H.out];omega);rw[hpt];clear hpt;go_wp2_with fail;go_ret;exact⟨rfl,hb2⟩
theorem DP (loc:Int):Nc true loc=fW loc:=by funext x;simp[Nc,fW]
theorem AQ (loc:Int):Nc false loc=fR loc:=by funext x;simp[Nc,fR]
theorem Eh (v:Value) (p:List (List Ins)) (w:World) (hp:Z9 w v p) (hl:p.flatten.length≤1048576) (hpl:p.length≤1048576) :
 Calls Tryz.prog 60 #[v,.int .i64 3000] w fun e w'=>e = .returned (.int .i64 (cap (Xz p):Nat))∧Below w.heap.size w w':=by
 have HP:=Za hp;clear hp;have HL:=Za hl;clear hl;have hPP:Xl p 3=Xz p:=rfl;have PP:=Za hPP;clear hPP;go_enter Tryz.func60,Tryz.ntmps60;go_wp2_with fail
 go_loopw [5,6] (fun q i wr => ∃ k N:Nat,k≤3∧i = .int .i64 k∧q = .int .i64 N∧Hid (cap N=cap (Xl p k))∧N≤3145731000∧Below w.heap.size w wr) (fun _ i _=>3 - (intOf i).toNat)
 case atStart=>exact⟨0,1,Om,rfl,rfl,Za rfl,Om,Below.refl _ _⟩
 case round =>
  obtain⟨k,N,hk,rfl,rfl,hN,hNb,hb⟩:=hrel;by_cases hlt:k < 3
  ·have hlt':(k:Int)≤2:=Om
   have hbR:=Nat.le_trans (Ym (fR k) p) HL.out;have hbW:=Nat.le_trans (Ym (fW k) p) HL.out;have PS:Hid (Xl p (k+1)=Xl p k * ((YO (fW k) p+1) ^ YO (fR k) p * fact (YO (fW k) p))):=Za rfl;have C1:∀ w',Z9 w' v p→Calls Tryz.prog 90 #[v,.int .i64 (k:Int),.bool true] w' fun e w2=>e = .returned (.int .i64 (YO (fW k) p:Nat))∧Below w'.heap.size w' w2:=fun w' h=>by
    have:=Jo v p k true w' h HL.out hpl;rwa[DP]at this
   have C2:∀ w',Z9 w' v p→Calls Tryz.prog 90 #[v,.int .i64 (k:Int),.bool false] w' fun e w2=>e = .returned (.int .i64 (YO (fR k) p:Nat))∧Below w'.heap.size w' w2:=fun w' h=>by
    have:=Jo v p k false w' h HL.out hpl;rwa[AQ]at this
   generalize hR:YO (fR k) p=R at *;generalize hW:YO (fW k) p=W at *;generalize hQ:Xl p k=Q at *;have D1:=Za C1;have D2:=Za C2
   clear hR hW hQ C1 C2;go_wp2_with (go_at_call 90;(with_reducible refine(D1.out _ (HP.out.below hb)).mono ?_);rintro e w1 ⟨rfl,hb1⟩);have hb:=hb.trans (hb1.mono hb.size);clear hb1
   go_loopw [5,8] (fun q i wr => ∃ t M:Nat,t≤R∧i = .int .i64 t∧q = .int .i64 M∧Hid (cap M=cap (Q * (W+1) ^ t))∧M≤3145731000∧Below w.heap.size w wr) (fun _ i _=>R - (intOf i).toNat)
   case atStart=>exact⟨0,N,Om,rfl,rfl,Za (by simpa using hN.out),hNb,hb⟩
   case round =>
    clear hb hN hNb;obtain⟨t,M,ht,rfl,rfl,hM,hMb,hb⟩:=hrel;by_cases hgo:t < R∧M≤3000
    ·obtain⟨hlt3,hM3⟩:=hgo
     have hlt3':=Zh hlt3;have hM3':(M:Int)≤3000:=Om;have hmul:M * (W+1)≤3000 * 1048577:=Nat.mul_le_mul hM3 Om;have e1:((M * (W+1):Nat):Int)=(M:Int) * (W+1):=by simp
     have hmul2:(M:Int) * (W+1)≤3145731000:=Om;have hmul3:0≤(M:Int) * (W+1):=Om;have E:Hid (cap (M * (W+1))=cap (Q * (W+1) ^ (t+1))):=Za (by rw[DE hM.out _ Om,Nat.pow_succ,Nat.mul_assoc]);have E1:=Za e1;clear e1;go_wp2_with (go_at_call 90;(with_reducible refine(D2.out _ (HP.out.below hb)).mono ?_);rintro e w1 ⟨rfl,hb1⟩);go_roundw
     case rel=>exact⟨t+1,M * (W+1),Om,Gn,by rw[E1.out],E,Om,hb.trans (hb1.mono hb.size)⟩
     case measure=>simp[intOf];omega
    ·have hM2:Hid (cap M=cap (Q * (W+1) ^ R)):=Za (by
      by_cases h3:3000 < M
      ·obtain⟨m,h1,h2⟩:=CE (a:=W) ht
       rw[h2,← Nat.mul_assoc];exact GX hM.out h3 m h1
      ·rw[show R=t by omega];exact hM.out)
     have PS2:Hid (Xl p (k+1)=(Q * (W+1) ^ R) * fact W):=Za (by rw[PS.out,Nat.mul_assoc]);by_cases hlt3:t < R
     all_goals
      have hM3:t < R→3000 < (M:Int):=fun h=>by omega
      have HM3:=Za hM3;clear hM3
      try (have hM4:3000 < (M:Int):=HM3.out hlt3)
      go_wp2_with (go_at_call 90;(with_reducible refine(D2.out _ (HP.out.below hb)).mono ?_);rintro e w1 ⟨rfl,hb1⟩);have hb:=hb.trans (hb1.mono hb.size);clear hb1;generalize hQ2:Q * (W+1) ^ R=Q2 at *;clear hQ2
      go_loopw [5,9] (fun q i wr => ∃ s L:Nat,1≤s∧s≤W+1∧i = .int .i64 (s+1)∧q = .int .i64 L∧Hid (cap L=cap (Q2 * fact s))∧L≤3145731000∧Hid (s≤W∨s=1)∧Below w.heap.size w wr) (fun _ i _=>W+1 - (intOf i).toNat)
      case atStart=>exact⟨1,M,Om,Om,rfl,rfl,Za (by simpa[fact] using hM2.out),hMb,Za (.inr rfl),hb⟩
      case round =>
       clear hb;obtain⟨s,L,hs1,hs2,rfl,rfl,hL,hLb,hsW,hb⟩:=hrel;by_cases hgo2:s+1≤W∧L≤3000
       ·obtain⟨hlt5,hL3⟩:=hgo2
        have hlt5':(s:Int)+1≤W:=Om;have hL3':(L:Int)≤3000:=Om;have hmul:L * (s+1)≤3000 * 1048577:=Nat.mul_le_mul hL3 Om;have e1:((L * (s+1):Nat):Int)=(L:Int) * (s+1):=by simp
        have hmul2:(L:Int) * (s+1)≤3145731000:=Om;have hmul3:0≤(L:Int) * (s+1):=Om;have E:Hid (cap (L * (s+1))=cap (Q2 * fact (s+1))):=Za (by rw[DE hL.out _ Om,fact,Nat.mul_assoc]);have E1:=Za e1;clear e1;go_wp2_with fail;go_roundw
        case rel=>exact⟨s+1,L * (s+1),Om,Om,Gn,by rw[E1.out],E,Om,Za (.inl hlt5),hb⟩
        case measure=>simp[intOf];omega
       ·have hL2:Hid (cap L=cap (Xl p (k+1))):=Za (by
         rw[PS2.out];by_cases h3:3000 < L
         ·rcases hsW.out with h | h
          ·obtain⟨m,h1,h2⟩:=LU h
           rw[h2,← Nat.mul_assoc];exact GX hL.out h3 m h1
          ·have hl:=hL.out
           rw[h,show fact 1=1 from rfl,Nat.mul_one]at hl;exact GX hl h3 _ (VV W)
         ·by_cases hs:s=W
          ·rw[← hs];exact hL.out
          ·rcases hsW.out with h | h
           ·omega
           ·have h0:W=0:=Om
            have hl:=hL.out;rw[h]at hl;rw[h0];exact hl)
        by_cases hlt5:s+1≤W
        all_goals
         have hlt5':s+1≤W→3000 < (L:Int):=fun h=>by omega
         have HL3:=Za hlt5';clear hlt5'
         try (have hL4:3000 < (L:Int):=HL3.out hlt5)
         go_wp2_with fail;go_roundw
         case rel=>exact⟨k+1,L,Om,Gn,rfl,hL2,hLb,hb⟩
         case measure=>simp[intOf];omega
  ·have e:k=3:=Om
   subst e;have hN2:Hid (cap N=cap (Xz p)):=Za (by rw[hN.out,PP.out]);by_cases h3:3000 < N
   ·have E:Hid (((cap (Xz p):Nat):Int)=3001):=Za (by rw[← hN2.out];unfold cap;omega)
    have h3':(3000:Int) < N:=Om;go_wp2_with fail;go_ret;rw[E.out];exact⟨rfl,hb⟩
   ·have E:Hid (((cap (Xz p):Nat):Int)=N):=Za (by rw[← hN2.out];unfold cap;omega)
    have h3':(N:Int)≤3000:=Om;go_wp2_with fail;go_ret;rw[E.out];exact⟨rfl,hb⟩
theorem Qz (a b c d:Int) (w:World):Calls Tryz.prog 89 #[.agg #[.int .i64 a,.int .i64 b,.int .i64 c,.int .i64 d]] w fun e w'=>e = .returned (.bool (Zi ⟨a,b,c,d⟩))∧Below w.heap.size w w':=Gr ⟨a,b,c,d⟩ w
theorem QJ (a b c d:Int) (w:World):Calls Tryz.prog 68 #[.agg #[.int .i64 a,.int .i64 b,.int .i64 c,.int .i64 d]] w fun e w'=>e = .returned (.bool (Zi ⟨a,b,c,d⟩))∧Below w.heap.size w w':=GH ⟨a,b,c,d⟩ w
theorem Em (v:Value) (p:List (List Ins)) (w:World) (hp:Z9 w v p) (hl:p.flatten.length≤1048576) :
 Calls Tryz.prog 59 #[v] w fun e w'=>e = .returned (.bool (Yr p))∧Below w.heap.size w w':=by
 obtain⟨a,c,rfl,hc1,hc2,hc3,hp⟩:=hp.open;have HP:=Za hp;clear hp;have HL:=Za hl;clear hl;generalize hn:p.length=n at *;have H:=Za hn;clear hn;by_cases h3:3 < n
 ·have E:Hid (Yr p=false):=Za (by unfold Yr;rw[H.out];simp;omega)
  have h3':(3:Int) < n:=Om;go_enter Tryz.func59,Tryz.ntmps59;go_wp2_with fail;go_ret;rw[E.out];exact⟨rfl,Below.refl _ _⟩
 ·have h3':(n:Int)≤3:=Om
  go_enter Tryz.func59,Tryz.ntmps59;go_wp2_with fail
  go_loopw [3,4] (fun r i wr => ∃ j:Nat,j≤n∧i = .int .i64 j∧r = .int .i64 (YO Zz (p.take j):Nat)∧Hid ((p.take j).all QX=true)∧Below w.heap.size w wr) (fun _ i _=>n - (intOf i).toNat)
  case atStart=>exact⟨0,Om,rfl,by simp[YO],Za Sm,Below.refl _ _⟩
  case round =>
   obtain⟨j,hj,rfl,rfl,hok,hb2⟩:=hrel;by_cases hlt2:j < n
   ·obtain⟨wm,rfl⟩:∃ wm:World,wm=wr:=⟨_,rfl⟩
    obtain⟨x,hxk⟩:=Zd (xs:=p) (k:=j) (by rw[H.out];exact hlt2);obtain⟨b,o,ra,rc,rfl,hbl,i0,i1⟩:=(HP.out.below hb2).row hxk;have hlt2':=Zh hlt2;obtain⟨_,_,_,_,hr2,_,_⟩:=i1.open;have CR:=Za (YY Zz hxk);have hbR:=Nat.le_trans (Qs Zz p j) HL.out;have hxl:=Nat.le_trans (YM hxk) HL.out;have I1:=Za i1;have X:=Za hxk
    clear i1 hxk;generalize hR:YO Zz (p.take j)=R at *;clear hR;by_cases h7:7 < x.length
    ·have E:Hid (Yr p=false):=Za (by
      have:=BM X.out (by unfold QX;simp;omega);unfold Yr;simp[this])
     have h7':(7:Int) < x.length:=Om;go_wp2_with fail;go_ret;rw[E.out];exact⟨rfl,hb2⟩
    ·have h7':(x.length:Int)≤7:=Om
     go_wp2_with fail
     go_loopw [3,5] (fun r i wr => ∃ t:Nat,t≤x.length∧i = .int .i64 t∧r = .int .i64 (R+(x.take t).countP Zz:Nat)∧Hid ((x.take t).all Zi=true)∧Below wm.heap.size wm wr) (fun _ i _=>x.length - (intOf i).toNat)
     case atStart=>exact⟨0,Om,rfl,Sm,Za Sm,Below.refl _ _⟩
     case round =>
      obtain⟨t,ht,rfl,rfl,hok2,hb3⟩:=hrel;have hbR2:(x.take t).countP Zz≤1048576:=Nat.le_trans List.countP_le_length So;have i0':wr.cell? ⟨b,o+j,none⟩=some (.slice ra x.length rc):=(hb3.cell (p:=⟨b,o+j,none⟩) hbl).trans i0;by_cases hlt3:t < x.length
      ·obtain⟨y,hyk⟩:=Zd (xs:=x) (k:=t) hlt3
       obtain⟨b',o',rfl,hbl',j0,j1,j2,j3⟩:=(I1.out.below hb3).ins hyk;have hlt3':=Zh hlt3;have CR2:=Za (YJ Zz hyk);have Y:=Za hyk;clear hyk;have hbl2:b < wr.heap.size:=by have:=hb3.size;omega
       generalize hR2:(x.take t).countP Zz=R2 at *;clear hR2;generalize hv:Zi y=vv at *;have V:=Za hv;clear hv;cases vv
       ·have E:Hid (Yr p=false):=Za (by
         have:=BM X.out (FV Y.out V.out);unfold Yr;simp[this])
        go_wp2_with (go_at_call 89;(with_reducible refine(Qz _ _ _ _ _).mono ?_);rw[V.out];rintro e w3 ⟨rfl,hb4⟩);go_ret;rw[E.out];exact⟨rfl,hb2.trans ((hb3.trans (hb4.mono hb3.size)).mono hb2.size)⟩
       ·have OK3:=Za (Qk hok2.out Y.out V.out)
        have CR3:Hid ((x.take (t+1)).countP Zz=R2+if (y.op != 4)=true then 1 else 0):=CR2;clear CR2;by_cases h4:y.op=4
        ·have g4:(y.op != 4)=false:=by simp[h4]
         have CR4:Hid ((x.take (t+1)).countP Zz=R2):=Za (by have h:=CR3.out;rw[g4]at h;simpa using h);clear h4;go_wp2_with (go_at_call 89;(with_reducible refine(Qz _ _ _ _ _).mono ?_);rw[V.out];rintro e w3 ⟨rfl,hb4⟩;obtain⟨hc4,hf4⟩:=UG hb4);go_roundw
         case rel=>exact⟨t+1,Om,Gn,by rw[CR4.out];simp,OK3,hb3.trans (hb4.mono hb3.size)⟩
         case measure=>simp[intOf];omega
        ·have g4:(y.op != 4)=true:=by simp[h4]
         have CR4:Hid ((x.take (t+1)).countP Zz=R2+1):=Za (by have h:=CR3.out;rw[g4]at h;simpa using h);clear h4;go_wp2_with (go_at_call 89;(with_reducible refine(Qz _ _ _ _ _).mono ?_);rw[V.out];rintro e w3 ⟨rfl,hb4⟩;obtain⟨hc4,hf4⟩:=UG hb4);go_roundw
         case rel=>exact⟨t+1,Om,Gn,by rw[CR4.out];simp;omega,OK3,hb3.trans (hb4.mono hb3.size)⟩
         case measure=>simp[intOf];omega
      ·have e:t=x.length:=Om
       have CR4:Hid (YO Zz (p.take (j+1))=R+(x.take t).countP Zz):=by have h:=CR.out;rwa[e,List.take_length]
       have OK4:Hid ((p.take (j+1)).all QX=true):=Za (Qk hok.out X.out (by
        have h:=hok2.out;rw[e,List.take_length]at h;unfold QX;rw[h];simp;omega))
       generalize hR2:(x.take t).countP Zz=R2 at *;clear hR2 e;go_wp2_with fail;go_roundw
       case rel=>exact⟨j+1,Om,Gn,by rw[CR4.out],OK4,hb2.trans (hb3.mono hb2.size)⟩
       case measure=>simp[intOf];omega
   ·have e:j=n:=Om
    have hpt:p.take j=p:=List.take_of_length_le (by rw[H.out];omega);rw[hpt]at hok ⊢;clear hpt;have E:Hid (Yr p=decide ((YO Zz p:Int)≤12)):=Za (by
     have hle:decide (n≤3)=true:=decide_eq_true Om;unfold Yr;rw[hok.out,H.out,hle,Bool.eq_iff_iff];simp;omega)
    go_wp2_with fail;go_ret;rw[E.out];exact⟨rfl,hb2⟩
theorem ZS (v:Value) (p:List (List Ins)) (w:World) (hp:Z9 w v p) (hl:p.flatten.length≤1048576) (hpl:p.length≤1048576) :
 Calls Tryz.prog 28 #[v] w fun e w'=>e = .returned (.bool (Zg p))∧Below w.heap.size w w':=by
 have PV:Hid (Zg p=(Yr p&&decide (1≤p.length)&&decide (Xz p≤3000))):=Za rfl;have HL:=Za hl;clear hl;obtain⟨a,c,hv,hc1,hc2,hc3,_⟩:=hp.open;have HP:=Za hp;clear hp;have HV:=Za hv;subst hv;generalize hn:p.length=n at *;have H:=Za hn;clear hn;have HS:=Za (fun w' h=>Em (.slice a n c) p w' h HL.out);generalize hs:Yr p=s at *;have S:=Za hs;clear hs;cases s
 ·go_enter Tryz.func28,Tryz.ntmps28
  go_wp2_with (go_at_call 59;(with_reducible refine(HS.out _ HP.out).mono ?_);rintro e w1 ⟨rfl,hb1⟩);go_ret;rw[PV.out];exact⟨rfl,hb1⟩
 ·by_cases h0:0 < n
  ·have h0':(0:Int) < n:=Om
   have HE:=Za (fun w' h=>Eh (.slice a n c) p w' h HL.out (by rw[H.out];omega));have hcap:=BZ (Xz p);have HCP:Hid (decide (((cap (Xz p):Nat):Int)≤3000)=decide (Xz p≤3000)):=Za (by rw[Bool.eq_iff_iff];simp only[decide_eq_true_eq];unfold cap;omega);generalize hC:cap (Xz p)=C at *;clear hC;go_enter Tryz.func28,Tryz.ntmps28;go_wp2_with (first | (go_at_call 59;(with_reducible refine(HS.out _ HP.out).mono ?_);rintro e w1 ⟨rfl,hb1⟩) | (go_at_call 60;(with_reducible refine(HE.out _ (HP.out.below hb1)).mono ?_);rintro e w2 ⟨rfl,hb2⟩));go_ret;rw[PV.out,HCP.out];exact⟨by rw[show decide (1≤n)=true from decide_eq_true h0];simp,hb1.trans (hb2.mono hb1.size)⟩
  ·have h0':decide ((0:Int) < n)=false:=So
   go_enter Tryz.func28,Tryz.ntmps28;go_wp2_with (go_at_call 59;(with_reducible refine(HS.out _ HP.out).mono ?_);rintro e w1 ⟨rfl,hb1⟩);go_ret;rw[PV.out];exact⟨by rw[show decide (1≤n)=false from decide_eq_false Om];simp,hb1⟩
theorem Ue {p:List (List Ins)}(h:Yr p=false):Zg p=false:=by unfold Zg;rw[h];rfl
theorem Yz (v:Value) (p:List (List Ins)) (w:World) (hp:Z9 w v p) (hl:p.flatten.length≤1048576) :
 Calls Tryz.prog 34 #[v] w fun e w'=>e = .returned (.bool (Zg p))∧Below w.heap.size w w':=by
 obtain⟨a,c,rfl,hc1,hc2,hc3,hp⟩:=hp.open;have HP:=Za hp;clear hp;have HL:=Za hl;clear hl;generalize hn:p.length=n at *;have H:=Za hn;clear hn;by_cases h3:1≤n∧n≤3
 ·have E:Hid (VX n 1 3=true):=Za (by unfold VX;simp;omega)
  have h3':(n:Int)≤3:=Om;obtain⟨_,h3n⟩:=h3;go_enter Tryz.func34,Tryz.ntmps34;go_wp2_with (go_at_call 67;(with_reducible refine(XF _ _ _ _).mono ?_);rw[E.out];rintro e w1 ⟨rfl,rfl⟩)
  go_loopw [3,14] (fun r i wr => ∃ j:Nat,j≤n∧i = .int .i64 j∧r = .int .i64 (YO Zz (p.take j):Nat)∧Hid ((p.take j).all QX=true)∧Below w.heap.size w wr) (fun _ i _=>n - (intOf i).toNat)
  case atStart=>exact⟨0,Om,rfl,by simp[YO],Za Sm,Below.refl _ _⟩
  case round =>
   obtain⟨j,hj,rfl,rfl,hok,hb2⟩:=hrel;by_cases hlt2:j < n
   ·obtain⟨wm,rfl⟩:∃ wm:World,wm=wr:=⟨_,rfl⟩
    obtain⟨x,hxk⟩:=Zd (xs:=p) (k:=j) (by rw[H.out];exact hlt2);obtain⟨b,o,ra,rc,rfl,hbl,i0,i1⟩:=(HP.out.below hb2).row hxk;have hlt2':=Zh hlt2;obtain⟨_,_,_,_,hr2,_,_⟩:=i1.open;have CR:=Za (YY Zz hxk);have hbR:=Nat.le_trans (Qs Zz p j) HL.out;have hxl:=Nat.le_trans (YM hxk) HL.out;have I1:=Za i1;have X:=Za hxk
    clear i1 hxk;generalize hR:YO Zz (p.take j)=R at *;clear hR;go_wp2_with fail
    go_loopw [3,20] (fun r i wr => ∃ t:Nat,t≤x.length∧i = .int .i64 t∧r = .int .i64 (R+(x.take t).countP Zz:Nat)∧Hid ((x.take t).all Zi=true)∧Below wm.heap.size wm wr) (fun _ i _=>x.length - (intOf i).toNat)
    case atStart=>exact⟨0,Om,rfl,Sm,Za Sm,Below.refl _ _⟩
    case round =>
     obtain⟨t,ht,rfl,rfl,hok2,hb3⟩:=hrel;have hbR2:(x.take t).countP Zz≤1048576:=Nat.le_trans List.countP_le_length So;by_cases hlt3:t < x.length
     ·obtain⟨y,hyk⟩:=Zd (xs:=x) (k:=t) hlt3
      obtain⟨b',o',rfl,hbl',j0,j1,j2,j3⟩:=(I1.out.below hb3).ins hyk;have hlt3':=Zh hlt3;have CR2:=Za (YJ Zz hyk);have Y:=Za hyk;clear hyk;generalize hR2:(x.take t).countP Zz=R2 at *;clear hR2;generalize hv:Zi y=vv at *;have V:=Za hv;clear hv;cases vv
      ·have E2:Hid (Zg p=false):=Za (Ue (by
        have:=BM X.out (FV Y.out V.out);unfold Yr;simp[this]))
       go_wp2_with (go_at_call 68;(with_reducible refine(QJ _ _ _ _ _).mono ?_);rw[V.out];rintro e w3 ⟨rfl,hb4⟩);go_ret;rw[E2.out];exact⟨rfl,hb2.trans (((hb3.alloc hb3.size _).trans (hb4.mono (by have:=hb3.size;simp;omega))).mono hb2.size)⟩
      ·have OK3:=Za (Qk hok2.out Y.out V.out)
       have CR3:Hid ((x.take (t+1)).countP Zz=R2+if (y.op != 4)=true then 1 else 0):=CR2;clear CR2;by_cases h4:y.op=4
       ·have g4:(y.op != 4)=false:=by simp[h4]
        have CR4:Hid ((x.take (t+1)).countP Zz=R2):=Za (by have h:=CR3.out;rw[g4]at h;simpa using h);clear h4;go_wp2_with (go_at_call 68;(with_reducible refine(QJ _ _ _ _ _).mono ?_);rw[V.out];rintro e w3 ⟨rfl,hb4⟩;obtain⟨hc4,hf4⟩:=UG hb4);go_roundw
        case rel=>exact⟨t+1,Om,Gn,by rw[CR4.out];simp,OK3,(hb3.alloc hb3.size _).trans (hb4.mono (by have:=hb3.size;simp;omega))⟩
        case measure=>simp[intOf];omega
       ·have g4:(y.op != 4)=true:=by simp[h4]
        have CR4:Hid ((x.take (t+1)).countP Zz=R2+1):=Za (by have h:=CR3.out;rw[g4]at h;simpa using h);clear h4;go_wp2_with (go_at_call 68;(with_reducible refine(QJ _ _ _ _ _).mono ?_);rw[V.out];rintro e w3 ⟨rfl,hb4⟩;obtain⟨hc4,hf4⟩:=UG hb4);go_roundw
        case rel=>exact⟨t+1,Om,Gn,by rw[CR4.out];simp;omega,OK3,(hb3.alloc hb3.size _).trans (hb4.mono (by have:=hb3.size;simp;omega))⟩
        case measure=>simp[intOf];omega
     ·by_cases h7:7 < x.length
      ·have E2:Hid (Zg p=false):=Za (Ue (by
        have:=BM X.out (by unfold QX;simp;omega);unfold Yr;simp[this]))
       have h7':(7:Int) < x.length:=Om;go_wp2_with fail;go_ret;rw[E2.out];exact⟨rfl,hb2.trans (hb3.mono hb2.size)⟩
      ·have h7':(x.length:Int)≤7:=Om
       have e:t=x.length:=Om;have CR4:Hid (YO Zz (p.take (j+1))=R+(x.take t).countP Zz):=by have h:=CR.out;rwa[e,List.take_length]
       have OK4:Hid ((p.take (j+1)).all QX=true):=Za (Qk hok.out X.out (by
        have h:=hok2.out;rw[e,List.take_length]at h;unfold QX;rw[h];simp;omega))
       generalize hR2:(x.take t).countP Zz=R2 at *;clear hR2 e;go_wp2_with fail;go_roundw
       case rel=>exact⟨j+1,Om,Gn,by rw[CR4.out],OK4,hb2.trans (hb3.mono hb2.size)⟩
       case measure=>simp[intOf];omega
   ·have e:j=n:=Om
    have hpt:p.take j=p:=List.take_of_length_le (by rw[H.out];omega);rw[hpt]at hok ⊢;clear hpt;have PV:Hid (Zg p=(decide (YO Zz p≤12)&&decide (Xz p≤3000))):=Za (by
     have hle:decide (n≤3)=true:=decide_eq_true Om;have hle2:decide (1≤n)=true:=decide_eq_true Om;unfold Zg Yr;rw[hok.out,H.out,hle,hle2];simp)
    have hcn:=Nat.le_trans (Ym Zz p) HL.out;have HE:=Za (fun w' h=>Ix (.slice a n c) p w' h HL.out (by rw[H.out];omega));have hcap:=BZ (Xz p);have HCP:Hid (decide (((cap (Xz p):Nat):Int)≤3000)=decide (Xz p≤3000)):=Za (by rw[Bool.eq_iff_iff];simp only[decide_eq_true_eq];unfold cap;omega);generalize hC:cap (Xz p)=C at *;generalize hN:YO Zz p=N at *;clear hC hN;by_cases h12:N≤12
    ·have h12':(N:Int)≤12:=Om
     go_wp2_with (go_at_call 69;(with_reducible refine(HE.out _ (HP.out.below hb2)).mono ?_);rintro e w1 ⟨rfl,hb1⟩);go_ret;rw[PV.out,HCP.out];exact⟨by rw[show decide (N≤12)=true from decide_eq_true h12];simp,hb2.trans (hb1.mono hb2.size)⟩
    ·have h12':decide ((N:Int)≤12)=false:=So
     go_wp2_with fail;go_ret;rw[PV.out];exact⟨by rw[show decide (N≤12)=false from decide_eq_false h12];simp,hb2⟩
 ·have E:Hid (VX n 1 3=false):=Za (by unfold VX;simp;omega)
  have E2:Hid (Zg p=false):=Za (by unfold Zg Yr;rw[H.out];simp;omega);go_enter Tryz.func34,Tryz.ntmps34;go_wp2_with (go_at_call 67;(with_reducible refine(XF _ _ _ _).mono ?_);rw[E.out];rintro e w1 ⟨rfl,rfl⟩);go_ret;rw[E2.out];exact⟨rfl,Below.refl _ _⟩
end Go.Proofs.YtngekjpklkjnbaaGreat
namespace Go.Proofs.YtngekjpklkjnbaaGreat
open Go.RowKit Go.Deep Go.ChangeShapes Go.WideShapes Go.ChangeAt
theorem BJ {w:World}{a:Addr}{v:Value}(h:w.cell? a=some v):a.spot=none:=by
 unfold World.cell? at h;split at h
 ·cases hs:a.spot with
  | none=>rfl
  | some x=>simp[hs]at h
 ·cases h
theorem AL {w:World}{base:Nat}{a:Addr}{n:Nat}{cs:List Value}(h:w.cells? base a n=some cs) {j:Nat}{u:Value}(hu:cs[j]? = some u):w.cell? (a.add j)=some u:=by
 unfold World.cells? at h;split at h
 ·have hl:=mapM_some_length h
  have hj:j < n:=by
   have:=(List.getElem?_eq_some_iff.1 hu).1;rw[hl]at this;simpa using this
  have:=mapM_some_get h j j (by simp[hj]);rw[this];exact hu
 ·cases h
theorem Dp (b o j:Nat):(⟨b,o,none⟩:Addr).add j=⟨b,o+j,none⟩:=by unfold Addr.add;split <;> simp_all
section
variable {H : Type} {enc : TypeId × Value → H} {P : Program} {w : World} {base : Nat} {spare : Nat → Bool} {held : Bool} {fuel : Nat} {cs : List Value} {x : DataW H × List MemPlace}
theorem K0 {α:Type} [Inhabited α] (E:El α) {t e:TypeId}(ht:P.underlying t=some (.slice e)) (hc:P.cellsOf e=E.sz) (Q:α→Prop)
 (hel:∀ n cs x,DataW.trod enc P w base spare held n e cs=some x→∃ y,cs=E.c y∧Q y) (h:DataW.trod enc P w base spare held fuel t cs=some x):∃ v xs,cs=[v]∧ZC E w v xs∧∀ y∈xs,Q y:=by
 rcases open_slice ht h with⟨rfl,_⟩ | ⟨a,len,cap,m,n,D,Pl,rfl,hb,hl,hm,hmm,_,hx⟩
 ·exact⟨_,[],rfl,ZC.nil w,fun y h=>by simp at h⟩
 ·have hlm:len≤m:=by rw[hmm];split <;> omega
  have each:∀ i,i < len→∃ y,w.cells? base (a.add (i * E.sz)) E.sz=some (E.c y)∧Q y:=fun i hi=>by
   obtain⟨cs',h1,h2⟩:=hx i Om;obtain⟨y,rfl,hq⟩:=hel n cs' _ h2;rw[hc]at h1;exact⟨y,h1,hq⟩
  obtain⟨f,hf⟩:=choose_lt each;refine⟨_,(List.range len).map f,rfl,⟨some a,cap,Sm,by simpa using hl,hm,fun i y hy => ?_⟩,?_⟩
  ·simp only[List.getElem?_map]at hy
   have hi:i < len:=by
    rcases Nat.lt_or_ge i len with h | h
    ·exact h
    ·rw[List.getElem?_eq_none (by simpa using h)]at hy;simp at hy
   rw[List.getElem?_range hi]at hy;simp at hy;subst hy;have h0:=AL (hf 0 Om).1 (El.first (E:=E) (f 0)).choose_spec;rw[Nat.zero_mul]at h0;have hsp:a.spot=none:=BJ (a:=a) (by simpa[Addr.add] using h0);obtain⟨ab,ao,asp⟩:=a;simp at hsp;subst hsp;refine⟨ab,ao,rfl,fun j u hu => ?_⟩;have:=AL (hf i hi).1 hu;rwa[Dp,Dp]at this
  ·intro y hy
   simp only[List.mem_map,List.mem_range]at hy;obtain⟨i,hi,rfl⟩:=hy;exact(hf i hi).2
theorem Uk {t:TypeId}{k:IntKind}(ht:P.underlying t=some (.int k)) {v:Value}{y:Option (DataW H × List MemPlace)}{n:Nat}(h:DataW.trod enc P w base spare held n t [v]=y) (hy:y≠none):∃ i,v = .int k i:=by
 cases y with
 | none=>exact absurd rfl hy
 | some x =>
  obtain⟨i,h1,_⟩:=DataW.trod_int ht h;exact⟨i,by simpa using h1⟩
theorem UM {α β:Type}{Q:α→β→Prop}:∀ (us:List α),(∀ u∈us,∃ r,Q u r)→∃ p:List β,p.length=us.length∧∀ (i:Nat) (u:α) (r:β),us[i]? = some u→p[i]? = some r→Q u r
 | [],_=>⟨[],rfl,fun i u r h=>by simp at h⟩
 | u :: us,h=>by
  obtain⟨r,hr⟩:=h u (List.mem_cons_self ..);obtain⟨p,h1,h2⟩:=UM us (fun u hu=>h u (List.mem_cons_of_mem _ hu));refine⟨r :: p,by simp[h1],fun i u' r' hu hr' => ?_⟩;cases i with
  | zero=>simp at hu hr';subst hu;subst hr';exact hr
  | succ i=>exact h2 i u' r' (by simpa using hu) (by simpa using hr')
instance:Inhabited Zs:=⟨⟨none,0,0⟩⟩
instance:Inhabited Ins:=⟨⟨0,0,0,0⟩⟩
theorem CH {α:Type} [Inhabited α] (E:El α) {t e q:TypeId}(ht:P.underlying t=some (.slice e)) (he:P.underlying e=some (.slice q)) (hc:P.cellsOf e=1) (hc2:P.cellsOf q=E.sz)
 (hel:∀ n cs x,DataW.trod enc P w base spare held n q cs=some x→∃ y,cs=E.c y) (h:DataW.trod enc P w base spare held fuel t cs=some x):∃ v p,cs=[v]∧YV E w v p:=by
 obtain⟨v,us,rfl,h1,h2⟩:=K0 Z2 ht hc (fun s => ∃ r,ZC E w s.v r) (fun n cs x hx=>by
  obtain⟨v,r,rfl,hr,_⟩:=K0 E he hc2 (fun _=>True) (fun n cs x hx=>by obtain⟨y,hy⟩:=hel n cs x hx;exact⟨y,hy,trivial⟩) hx;obtain⟨a,c,rfl,h1,h2,h3⟩:=hr;exact⟨⟨a,r.length,c⟩,rfl,r,a,c,rfl,h1,h2,h3⟩) h
 obtain⟨p,h3,h4⟩:=UM us h2;exact⟨v,p,rfl,us,h3.symm,h1,h4⟩
end
section
variable {H : Type} {enc : TypeId × Value → H} {P : Program}
theorem Vw (hl:laidOutB P=true) {W W':World}(hb:Below W.heap.size W W'):∀ {ts:List TypeId}{vs:List Value}{ds:List (DataW H)}{ps:List MemPlace},(∀ t∈ts,P.readableRec t=true∧t < P.types.size) →
 DataW.TrodAll enc P W 0 (fun _=>true) true ts vs ds ps→DataW.TrodAll enc P W' 0 (fun b=>decide (b < W.heap.size)) true ts vs ds ps
 | [],[],[],ps,_,h=>h
 | t :: ts,v :: vs,d :: ds,ps,ht,h=>by
  have hlt:=DataW.TrodAll.lt h;obtain⟨p,q,h1,h2,rfl⟩:=h;exact⟨p,q,Below.trod hl (ht t (List.mem_cons_self ..)).1 (ht t (List.mem_cons_self ..)).2 h1 hb (fun x hx=>hlt x (List.mem_append_left _ hx)),Vw hl hb (fun t ht'=>ht t (List.mem_cons_of_mem _ ht')) h2,rfl⟩
 | [],[],_ :: _,_,_,h=>h.elim
 | [],_ :: _,_,_,_,h=>h.elim
 | _ :: _,[],_,_,_,h=>h.elim
 | _ :: _,_ :: _,[],_,_,h=>h.elim
theorem RY {f:Func}{s:ChangeSpec}{apart:Bool}{W W':World}{args:Array Value}{ds:List (DataW H)}{before:List MemPlace}{tb:TypeId}(hl:laidOutB P=true) (hts:∀ t∈f.params.toList,P.readableRec t=true∧t < P.types.size)
 (hv:s.vars=[]) (hs:s.fn H (ds++[]) = { results:=[.lit (.bool true)],args:=ds,vars:=[] }) (hr:f.resultTypes = #[tb]) (htb:P.underlying tb=some .bool)
 (hW:DataW.Whole enc P f.params.toList s.vars apart W args.toList ds [] before) (hb:Below W.heap.size W W'):s.post enc P f apart true false false W args (.bool true) W':=by
 have hW2:=hW;obtain⟨p,q,hA,hV,rfl,hfz,hnd⟩:=hW2;rw[hv]at hV;obtain⟨_,rfl⟩:=trodVars_none hV;refine⟨ds,[],_,[],p,[],hW,?_,?_,?_,hb.frame _,fun h=>by cases h⟩
 ·rw[hs,hr]
  exact trodAll_mk1 (shut_bool htb _)
 ·rw[hs]
  exact Vw hl hb hts hA
 ·rw[hs,hv]
  rfl
end
end Go.Proofs.YtngekjpklkjnbaaGreat
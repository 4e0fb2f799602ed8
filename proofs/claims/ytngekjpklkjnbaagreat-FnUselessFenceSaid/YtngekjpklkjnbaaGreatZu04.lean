/-
  Fences taken away: the outcomes stay (buffers), none is added with one memory (plain law). Condition: valid instructions.
-/
import Derived.Test.YtngekjpklkjnbaaGreatZu00
set_option maxHeartbeats 6400000
set_option maxRecDepth 100000
namespace Go.Proofs.YtngekjpklkjnbaaGreat
open Go.RowKit
theorem XD (a b c d:Int) (w:World):Calls Tryz.prog 89 #[.agg #[.int .i64 a,.int .i64 b,.int .i64 c,.int .i64 d]] w fun e w'=>e = .returned (.bool (Zg ⟨a,b,c,d⟩))∧Below w.heap.size w w':=Vi ⟨a,b,c,d⟩ w
theorem XM (a b c d:Int) (w:World):Calls Tryz.prog 68 #[.agg #[.int .i64 a,.int .i64 b,.int .i64 c,.int .i64 d]] w fun e w'=>e = .returned (.bool (Zg ⟨a,b,c,d⟩))∧Below w.heap.size w w':=Vv ⟨a,b,c,d⟩ w
theorem A5 (v:Value) (p:List (List Ins)) (w:World) (hp:Z5 w v p) (hl:p.flatten.length≤1048576) :
 Calls Tryz.prog 59 #[v] w fun e w'=>e = .returned (.bool (ZS p))∧Below w.heap.size w w':=by
 obtain⟨a,c,rfl,hc1,hc2,hc3,hp⟩:=hp.open;have HP:=Za hp;clear hp;have HL:=Za hl;clear hl;generalize hn:p.length=n at *;have H:=Za hn;clear hn;by_cases h3:3 < n
 ·have E:Hid (ZS p=false):=Za (by unfold ZS;rw[H.out];simp;omega)
  have h3':(3:Int) < n:=Om;go_enter Tryz.func59,Tryz.ntmps59;go_wp2_with fail;go_ret;rw[E.out];exact⟨rfl,Below.refl _ _⟩
 ·have h3':(n:Int)≤3:=Om
  go_enter Tryz.func59,Tryz.ntmps59;go_wp2_with fail
  go_loopw [3,4] (fun r i wr => ∃ j:Nat,j≤n∧i = .int .i64 j∧r = .int .i64 (Y1 Zq (p.take j):Nat)∧Hid ((p.take j).all XF=true)∧Below w.heap.size w wr) (fun _ i _=>n - (intOf i).toNat)
  case atStart=>exact⟨0,Om,rfl,by simp[Y1],Za Sm,Below.refl _ _⟩
  case round =>
   obtain⟨j,hj,rfl,rfl,hok,hb2⟩:=hrel;by_cases hlt2:j < n
   ·obtain⟨wm,rfl⟩:∃ wm:World,wm=wr:=⟨_,rfl⟩
    obtain⟨x,hxk⟩:=Zd (xs:=p) (k:=j) (by rw[H.out];exact hlt2);obtain⟨b,o,ra,rc,rfl,hbl,i0,i1⟩:=(HP.out.below hb2).row hxk;have hlt2':=Zh hlt2;obtain⟨_,_,_,_,hr2,_,_⟩:=i1.open;have CR:=Za (Y9 Zq hxk);have hbR:=Nat.le_trans (Xw Zq p j) HL.out;have hxl:=Nat.le_trans (YJ hxk) HL.out;have I1:=Za i1;have X:=Za hxk
    clear i1 hxk;generalize hR:Y1 Zq (p.take j)=R at *;clear hR;by_cases h7:7 < x.length
    ·have E:Hid (ZS p=false):=Za (by
      have:=Gx X.out (by unfold XF;simp;omega);unfold ZS;simp[this])
     have h7':(7:Int) < x.length:=Om;go_wp2_with fail;go_ret;rw[E.out];exact⟨rfl,hb2⟩
    ·have h7':(x.length:Int)≤7:=Om
     go_wp2_with fail
     go_loopw [3,5] (fun r i wr => ∃ t:Nat,t≤x.length∧i = .int .i64 t∧r = .int .i64 (R+(x.take t).countP Zq:Nat)∧Hid ((x.take t).all Zg=true)∧Below wm.heap.size wm wr) (fun _ i _=>x.length - (intOf i).toNat)
     case atStart=>exact⟨0,Om,rfl,Sm,Za Sm,Below.refl _ _⟩
     case round =>
      obtain⟨t,ht,rfl,rfl,hok2,hb3⟩:=hrel;have hbR2:(x.take t).countP Zq≤1048576:=Nat.le_trans List.countP_le_length So;have i0':wr.cell? ⟨b,o+j,none⟩=some (.slice ra x.length rc):=(hb3.cell (p:=⟨b,o+j,none⟩) hbl).trans i0;by_cases hlt3:t < x.length
      ·obtain⟨y,hyk⟩:=Zd (xs:=x) (k:=t) hlt3
       obtain⟨b',o',rfl,hbl',j0,j1,j2,j3⟩:=(I1.out.below hb3).ins hyk;have hlt3':=Zh hlt3;have CR2:=Za (Y3 Zq hyk);have Y:=Za hyk;clear hyk;have hbl2:b < wr.heap.size:=by have:=hb3.size;omega
       generalize hR2:(x.take t).countP Zq=R2 at *;clear hR2;generalize hv:Zg y=vv at *;have V:=Za hv;clear hv;cases vv
       ·have E:Hid (ZS p=false):=Za (by
         have:=Gx X.out (Ca Y.out V.out);unfold ZS;simp[this])
        go_wp2_with (go_at_call 89;(with_reducible refine(XD _ _ _ _ _).mono ?_);rw[V.out];rintro e w3 ⟨rfl,hb4⟩);go_ret;rw[E.out];exact⟨rfl,hb2.trans ((hb3.trans (hb4.mono hb3.size)).mono hb2.size)⟩
       ·have OK3:=Za (Xp hok2.out Y.out V.out)
        have CR3:Hid ((x.take (t+1)).countP Zq=R2+if (y.op != 4)=true then 1 else 0):=CR2;clear CR2;by_cases h4:y.op=4
        ·have g4:(y.op != 4)=false:=by simp[h4]
         have CR4:Hid ((x.take (t+1)).countP Zq=R2):=Za (by have h:=CR3.out;rw[g4]at h;simpa using h);clear h4;go_wp2_with (go_at_call 89;(with_reducible refine(XD _ _ _ _ _).mono ?_);rw[V.out];rintro e w3 ⟨rfl,hb4⟩;obtain⟨hc4,hf4⟩:=KB hb4);go_roundw
         case rel=>exact⟨t+1,Om,Gn,by rw[CR4.out];simp,OK3,hb3.trans (hb4.mono hb3.size)⟩
         case measure=>simp[intOf];omega
        ·have g4:(y.op != 4)=true:=by simp[h4]
         have CR4:Hid ((x.take (t+1)).countP Zq=R2+1):=Za (by have h:=CR3.out;rw[g4]at h;simpa using h);clear h4;go_wp2_with (go_at_call 89;(with_reducible refine(XD _ _ _ _ _).mono ?_);rw[V.out];rintro e w3 ⟨rfl,hb4⟩;obtain⟨hc4,hf4⟩:=KB hb4);go_roundw
         case rel=>exact⟨t+1,Om,Gn,by rw[CR4.out];simp;omega,OK3,hb3.trans (hb4.mono hb3.size)⟩
         case measure=>simp[intOf];omega
      ·have e:t=x.length:=Om
       have CR4:Hid (Y1 Zq (p.take (j+1))=R+(x.take t).countP Zq):=by have h:=CR.out;rwa[e,List.take_length]
       have OK4:Hid ((p.take (j+1)).all XF=true):=Za (Xp hok.out X.out (by
        have h:=hok2.out;rw[e,List.take_length]at h;unfold XF;rw[h];simp;omega))
       generalize hR2:(x.take t).countP Zq=R2 at *;clear hR2 e;go_wp2_with fail;go_roundw
       case rel=>exact⟨j+1,Om,Gn,by rw[CR4.out],OK4,hb2.trans (hb3.mono hb2.size)⟩
       case measure=>simp[intOf];omega
   ·have e:j=n:=Om
    have hpt:p.take j=p:=List.take_of_length_le (by rw[H.out];omega);rw[hpt]at hok ⊢;clear hpt;have E:Hid (ZS p=decide ((Y1 Zq p:Int)≤12)):=Za (by
     have hle:decide (n≤3)=true:=decide_eq_true Om;unfold ZS;rw[hok.out,H.out,hle,Bool.eq_iff_iff];simp;omega)
    go_wp2_with fail;go_ret;rw[E.out];exact⟨rfl,hb2⟩
theorem Yd (v:Value) (p:List (List Ins)) (w:World) (hp:Z5 w v p) (hl:p.flatten.length≤1048576) (hpl:p.length≤1048576) :
 Calls Tryz.prog 28 #[v] w fun e w'=>e = .returned (.bool (Zi p))∧Below w.heap.size w w':=by
 have PV:Hid (Zi p=(ZS p&&decide (1≤p.length)&&decide (YP p≤3000))):=Za rfl;have HL:=Za hl;clear hl;obtain⟨a,c,hv,hc1,hc2,hc3,_⟩:=hp.open;have HP:=Za hp;clear hp;have HV:=Za hv;subst hv;generalize hn:p.length=n at *;have H:=Za hn;clear hn;have HS:=Za (fun w' h=>A5 (.slice a n c) p w' h HL.out);generalize hs:ZS p=s at *;have S:=Za hs;clear hs;cases s
 ·go_enter Tryz.func28,Tryz.ntmps28
  go_wp2_with (go_at_call 59;(with_reducible refine(HS.out _ HP.out).mono ?_);rintro e w1 ⟨rfl,hb1⟩);go_ret;rw[PV.out];exact⟨rfl,hb1⟩
 ·by_cases h0:0 < n
  ·have h0':(0:Int) < n:=Om
   have HE:=Za (fun w' h=>Ax (.slice a n c) p w' h HL.out (by rw[H.out];omega));have hcap:=GC (YP p);have HCP:Hid (decide (((cap (YP p):Nat):Int)≤3000)=decide (YP p≤3000)):=Za (by rw[Bool.eq_iff_iff];simp only[decide_eq_true_eq];unfold cap;omega);generalize hC:cap (YP p)=C at *;clear hC;go_enter Tryz.func28,Tryz.ntmps28;go_wp2_with (first | (go_at_call 59;(with_reducible refine(HS.out _ HP.out).mono ?_);rintro e w1 ⟨rfl,hb1⟩) | (go_at_call 60;(with_reducible refine(HE.out _ (HP.out.below hb1)).mono ?_);rintro e w2 ⟨rfl,hb2⟩));go_ret;rw[PV.out,HCP.out];exact⟨by rw[show decide (1≤n)=true from decide_eq_true h0];simp,hb1.trans (hb2.mono hb1.size)⟩
  ·have h0':decide ((0:Int) < n)=false:=So
   go_enter Tryz.func28,Tryz.ntmps28;go_wp2_with (go_at_call 59;(with_reducible refine(HS.out _ HP.out).mono ?_);rintro e w1 ⟨rfl,hb1⟩);go_ret;rw[PV.out];exact⟨by rw[show decide (1≤n)=false from decide_eq_false Om];simp,hb1⟩
theorem JZ {p:List (List Ins)}(h:ZS p=false):Zi p=false:=by unfold Zi;rw[h];rfl
theorem Qq (v:Value) (p:List (List Ins)) (w:World) (hp:Z5 w v p) (hl:p.flatten.length≤1048576) :
 Calls Tryz.prog 34 #[v] w fun e w'=>e = .returned (.bool (Zi p))∧Below w.heap.size w w':=by
 obtain⟨a,c,rfl,hc1,hc2,hc3,hp⟩:=hp.open;have HP:=Za hp;clear hp;have HL:=Za hl;clear hl;generalize hn:p.length=n at *;have H:=Za hn;clear hn;by_cases h3:1≤n∧n≤3
 ·have E:Hid (Kj n 1 3=true):=Za (by unfold Kj;simp;omega)
  have h3':(n:Int)≤3:=Om;obtain⟨_,h3n⟩:=h3;go_enter Tryz.func34,Tryz.ntmps34;go_wp2_with (go_at_call 67;(with_reducible refine(YX _ _ _ _).mono ?_);rw[E.out];rintro e w1 ⟨rfl,rfl⟩)
  go_loopw [3,14] (fun r i wr => ∃ j:Nat,j≤n∧i = .int .i64 j∧r = .int .i64 (Y1 Zq (p.take j):Nat)∧Hid ((p.take j).all XF=true)∧Below w.heap.size w wr) (fun _ i _=>n - (intOf i).toNat)
  case atStart=>exact⟨0,Om,rfl,by simp[Y1],Za Sm,Below.refl _ _⟩
  case round =>
   obtain⟨j,hj,rfl,rfl,hok,hb2⟩:=hrel;by_cases hlt2:j < n
   ·obtain⟨wm,rfl⟩:∃ wm:World,wm=wr:=⟨_,rfl⟩
    obtain⟨x,hxk⟩:=Zd (xs:=p) (k:=j) (by rw[H.out];exact hlt2);obtain⟨b,o,ra,rc,rfl,hbl,i0,i1⟩:=(HP.out.below hb2).row hxk;have hlt2':=Zh hlt2;obtain⟨_,_,_,_,hr2,_,_⟩:=i1.open;have CR:=Za (Y9 Zq hxk);have hbR:=Nat.le_trans (Xw Zq p j) HL.out;have hxl:=Nat.le_trans (YJ hxk) HL.out;have I1:=Za i1;have X:=Za hxk
    clear i1 hxk;generalize hR:Y1 Zq (p.take j)=R at *;clear hR;go_wp2_with fail
    go_loopw [3,20] (fun r i wr => ∃ t:Nat,t≤x.length∧i = .int .i64 t∧r = .int .i64 (R+(x.take t).countP Zq:Nat)∧Hid ((x.take t).all Zg=true)∧Below wm.heap.size wm wr) (fun _ i _=>x.length - (intOf i).toNat)
    case atStart=>exact⟨0,Om,rfl,Sm,Za Sm,Below.refl _ _⟩
    case round =>
     obtain⟨t,ht,rfl,rfl,hok2,hb3⟩:=hrel;have hbR2:(x.take t).countP Zq≤1048576:=Nat.le_trans List.countP_le_length So;by_cases hlt3:t < x.length
     ·obtain⟨y,hyk⟩:=Zd (xs:=x) (k:=t) hlt3
      obtain⟨b',o',rfl,hbl',j0,j1,j2,j3⟩:=(I1.out.below hb3).ins hyk;have hlt3':=Zh hlt3;have CR2:=Za (Y3 Zq hyk);have Y:=Za hyk;clear hyk;generalize hR2:(x.take t).countP Zq=R2 at *;clear hR2;generalize hv:Zg y=vv at *;have V:=Za hv;clear hv;cases vv
      ·have E2:Hid (Zi p=false):=Za (JZ (by
        have:=Gx X.out (Ca Y.out V.out);unfold ZS;simp[this]))
       go_wp2_with (go_at_call 68;(with_reducible refine(XM _ _ _ _ _).mono ?_);rw[V.out];rintro e w3 ⟨rfl,hb4⟩);go_ret;rw[E2.out];exact⟨rfl,hb2.trans (((hb3.alloc hb3.size _).trans (hb4.mono (by have:=hb3.size;simp;omega))).mono hb2.size)⟩
      ·have OK3:=Za (Xp hok2.out Y.out V.out)
       have CR3:Hid ((x.take (t+1)).countP Zq=R2+if (y.op != 4)=true then 1 else 0):=CR2;clear CR2;by_cases h4:y.op=4
       ·have g4:(y.op != 4)=false:=by simp[h4]
        have CR4:Hid ((x.take (t+1)).countP Zq=R2):=Za (by have h:=CR3.out;rw[g4]at h;simpa using h);clear h4;go_wp2_with (go_at_call 68;(with_reducible refine(XM _ _ _ _ _).mono ?_);rw[V.out];rintro e w3 ⟨rfl,hb4⟩;obtain⟨hc4,hf4⟩:=KB hb4);go_roundw
        case rel=>exact⟨t+1,Om,Gn,by rw[CR4.out];simp,OK3,(hb3.alloc hb3.size _).trans (hb4.mono (by have:=hb3.size;simp;omega))⟩
        case measure=>simp[intOf];omega
       ·have g4:(y.op != 4)=true:=by simp[h4]
        have CR4:Hid ((x.take (t+1)).countP Zq=R2+1):=Za (by have h:=CR3.out;rw[g4]at h;simpa using h);clear h4;go_wp2_with (go_at_call 68;(with_reducible refine(XM _ _ _ _ _).mono ?_);rw[V.out];rintro e w3 ⟨rfl,hb4⟩;obtain⟨hc4,hf4⟩:=KB hb4);go_roundw
        case rel=>exact⟨t+1,Om,Gn,by rw[CR4.out];simp;omega,OK3,(hb3.alloc hb3.size _).trans (hb4.mono (by have:=hb3.size;simp;omega))⟩
        case measure=>simp[intOf];omega
     ·by_cases h7:7 < x.length
      ·have E2:Hid (Zi p=false):=Za (JZ (by
        have:=Gx X.out (by unfold XF;simp;omega);unfold ZS;simp[this]))
       have h7':(7:Int) < x.length:=Om;go_wp2_with fail;go_ret;rw[E2.out];exact⟨rfl,hb2.trans (hb3.mono hb2.size)⟩
      ·have h7':(x.length:Int)≤7:=Om
       have e:t=x.length:=Om;have CR4:Hid (Y1 Zq (p.take (j+1))=R+(x.take t).countP Zq):=by have h:=CR.out;rwa[e,List.take_length]
       have OK4:Hid ((p.take (j+1)).all XF=true):=Za (Xp hok.out X.out (by
        have h:=hok2.out;rw[e,List.take_length]at h;unfold XF;rw[h];simp;omega))
       generalize hR2:(x.take t).countP Zq=R2 at *;clear hR2 e;go_wp2_with fail;go_roundw
       case rel=>exact⟨j+1,Om,Gn,by rw[CR4.out],OK4,hb2.trans (hb3.mono hb2.size)⟩
       case measure=>simp[intOf];omega
   ·have e:j=n:=Om
    have hpt:p.take j=p:=List.take_of_length_le (by rw[H.out];omega);rw[hpt]at hok ⊢;clear hpt;have PV:Hid (Zi p=(decide (Y1 Zq p≤12)&&decide (YP p≤3000))):=Za (by
     have hle:decide (n≤3)=true:=decide_eq_true Om;have hle2:decide (1≤n)=true:=decide_eq_true Om;unfold Zi ZS;rw[hok.out,H.out,hle,hle2];simp)
    have hcn:=Nat.le_trans (ZU Zq p) HL.out;have HE:=Za (fun w' h=>Dk (.slice a n c) p w' h HL.out (by rw[H.out];omega));have hcap:=GC (YP p);have HCP:Hid (decide (((cap (YP p):Nat):Int)≤3000)=decide (YP p≤3000)):=Za (by rw[Bool.eq_iff_iff];simp only[decide_eq_true_eq];unfold cap;omega);generalize hC:cap (YP p)=C at *;generalize hN:Y1 Zq p=N at *;clear hC hN;by_cases h12:N≤12
    ·have h12':(N:Int)≤12:=Om
     go_wp2_with (go_at_call 69;(with_reducible refine(HE.out _ (HP.out.below hb2)).mono ?_);rintro e w1 ⟨rfl,hb1⟩);go_ret;rw[PV.out,HCP.out];exact⟨by rw[show decide (N≤12)=true from decide_eq_true h12];simp,hb2.trans (hb1.mono hb2.size)⟩
    ·have h12':decide ((N:Int)≤12)=false:=So
     go_wp2_with fail;go_ret;rw[PV.out];exact⟨by rw[show decide (N≤12)=false from decide_eq_false h12];simp,hb2⟩
 ·have E:Hid (Kj n 1 3=false):=Za (by unfold Kj;simp;omega)
  have E2:Hid (Zi p=false):=Za (by unfold Zi ZS;rw[H.out];simp;omega);go_enter Tryz.func34,Tryz.ntmps34;go_wp2_with (go_at_call 67;(with_reducible refine(YX _ _ _ _).mono ?_);rw[E.out];rintro e w1 ⟨rfl,rfl⟩);go_ret;rw[E2.out];exact⟨rfl,Below.refl _ _⟩
theorem ZA {α:Type}(E:El α) {P:Program}{w:World}{ops:Array Oper}{rest:List Oper}{o:Oper}{a:Act}{Q:Exit→Act→World→Prop}
 (T:TypeId) {zv:Value}{bytes:Nat}(hinfo:(P.info? T).map (fun i=>(i.zero,i.size,i.bytes))=some (some zv,E.sz,bytes)) (hz:zv.cells.size=E.sz) {t:TypeId}(h1:P.underlying t=some (.slice T))
 (base:Nat) (v:Value) (xs:List α) (x:α) (hown:Own E T w base v xs) (hby:bytes≤256) (hn:xs.length≤68719476736) (hbase:base≤w.heap.size)
 (hg:o.guard=none) (s y:Operand) (hop:o.op = .call { callee:=.builtin .append,args:=#[s,y],argTypes:=#[t,t] })
 (hs:a.eval s=v) (b off c:Nat) (hy:a.eval y = .slice (some ⟨b,off,none⟩) 1 c) (hnews:∀ j u,(E.c x)[j]? = some u→w.cell? ⟨b,off+j,none⟩=some u)
 (hK:∀ v' w',Own E T w' base v' (xs++[x])→w.grownBy w' v.ownBlock→(v'.ownBlock=v.ownBlock∨∃ q,v'.ownBlock=some q∧w.heap.size≤q)→wpList P ops Q rest (a.put o.dst v') w') :
 wpList P ops Q (o :: rest) a w:=by
 obtain⟨it,hi,hz0,hz1,hz2⟩:=info_parts hinfo;refine wpList_append_own_at w hg s y t hop base T it zv E.sz bytes h1 hi hz0 hz1 hz2 hz E.pos v xs.length _ hs hown ⟨b,off,none⟩ 1 c (E.c x) hy (by rw[E.len,Nat.one_mul]) ?_ (E.one x) (by unfold maxLen;omega) ?_ hbase ?_
 ·intro j u hu
  have hadd:(⟨b,off,none⟩:Addr).add j=⟨b,off+j,none⟩:=by unfold Addr.add;split <;> simp_all
  rw[hadd];exact hnews j u hu
 ·have:=Nat.mul_le_mul (show xs.length+1≤68719476737 by omega) hby
  omega
 ·intro v' w' h2 h3 _ h5
  refine hK v' w' ?_ h3 ?_
  ·unfold Own
   simpa[List.flatMap_append] using h2
  ·rcases h5 with h5 | h5
   ·exact .inl h5
   ·exact .inr ⟨_,h5,Nat.le_refl _⟩
theorem UN {α:Type}(E:El α) {P:Program}{w:World}{ops:Array Oper}{rest:List Oper}{o:Oper}{a:Act}{Q:Exit→Act→World→Prop}
 (T:TypeId) {zv:Value}{bytes:Nat}(hinfo:(P.info? T).map (fun i=>(i.zero,i.size,i.bytes))=some (some zv,E.sz,bytes)) (hz:zv.cells.size=E.sz) {t:TypeId}(h1:P.underlying t=some (.slice T))
 (base:Nat) (v:Value) (xs:List α) (x:α) (hown:Own E T w base v xs) (hbl:(xs.length+1) * bytes≤140737488355328) (hn:xs.length≤140737488355328) (hbase:base≤w.heap.size)
 (hg:o.guard=none) (s y:Operand) (hop:o.op = .call { callee:=.builtin .append,args:=#[s,y],argTypes:=#[t,t] })
 (hs:a.eval s=v) (b off c:Nat) (hy:a.eval y = .slice (some ⟨b,off,none⟩) 1 c) (hnews:∀ j u,(E.c x)[j]? = some u→w.cell? ⟨b,off+j,none⟩=some u)
 (hK:∀ v' w',Own E T w' base v' (xs++[x])→w.grownBy w' v.ownBlock→(v'.ownBlock=v.ownBlock∨∃ q,v'.ownBlock=some q∧w.heap.size≤q)→wpList P ops Q rest (a.put o.dst v') w') :
 wpList P ops Q (o :: rest) a w:=by
 obtain⟨it,hi,hz0,hz1,hz2⟩:=info_parts hinfo;refine wpList_append_own_at w hg s y t hop base T it zv E.sz bytes h1 hi hz0 hz1 hz2 hz E.pos v xs.length _ hs hown ⟨b,off,none⟩ 1 c (E.c x) hy (by rw[E.len,Nat.one_mul]) ?_ (E.one x) (by unfold maxLen;omega) ?_ hbase ?_
 ·intro j u hu
  have hadd:(⟨b,off,none⟩:Addr).add j=⟨b,off+j,none⟩:=by unfold Addr.add;split <;> simp_all
  rw[hadd];exact hnews j u hu
 ·exact hbl
 ·intro v' w' h2 h3 _ h5
  refine hK v' w' ?_ h3 ?_
  ·unfold Own
   simpa[List.flatMap_append] using h2
  ·rcases h5 with h5 | h5
   ·exact .inl h5
   ·exact .inr ⟨_,h5,Nat.le_refl _⟩
theorem AK {w:World}{l:List Value}{T:TypeId}{G:Nat}(hG:w.heap.size=G):∀ (j:Nat) (u:Value),l[j]? = some u→(w.alloc (.cells l.toArray T)).cell? ⟨G,0+j,none⟩=some u:=by
 subst hG;exact Zp
end Go.Proofs.YtngekjpklkjnbaaGreat
namespace Go.Proofs.YtngekjpklkjnbaaGreat
section
variable {S K : Type} (start : S) (next : S → Nat → Option S) (key : S → K)
inductive Zx:S→Prop
 | start:Zx start
 | step {s t:S}{i:Nat}(h:Zx s) (ht:next s i=some t):Zx t
variable {start next key}
def Jw (B:Nat) (rank:S→Nat) (work:List S):Nat:=(work.map fun s=>B ^ rank s).sum
theorem Fs (B:Nat) (rank:S→Nat) (s:S) (work:List S):Jw B rank (s :: work)=B ^ rank s+Jw B rank work:=by simp[Jw]
theorem Uw (B:Nat) (rank:S→Nat) (xs ys:List S):Jw B rank (xs++ys)=Jw B rank xs+Jw B rank ys:=by simp[Jw,List.sum_append]
theorem Ft {B:Nat}{rank:S→Nat}{s:S}{new:List S}(hB:new.length < B) (hr:∀ t∈new,rank t < rank s):Jw B rank new < B ^ rank s:=by
 have h1:∀ (l:List S),(∀ t∈l,rank t < rank s)→Jw B rank l≤l.length * B ^ (rank s - 1):=by
  intro l
  induction l with
  | nil=>intro _;simp[Jw]
  | cons t l ih =>
   intro hl;have h2:=ih fun u hu=>hl u (by simp[hu]);have h3:B ^ rank t≤B ^ (rank s - 1):=Nat.pow_le_pow_right Om (by have:=hl t Sm;omega);rw[Fs,List.length_cons,Nat.add_mul,Nat.one_mul];omega
 cases new with
 | nil=>simp only[Jw,List.map_nil,List.sum_nil];exact Nat.pow_pos Om
 | cons t l =>
  have h2:=hr t Sm;have h3:=h1 (t :: l) hr;have h4:B ^ rank s=B * B ^ (rank s - 1):=by
   conv=>lhs;rw[show rank s=(rank s - 1)+1 by omega,Nat.pow_succ]
   exact Nat.mul_comm _ _
  have h5:0 < B ^ (rank s - 1):=Nat.pow_pos Om;have h6:(t :: l).length * B ^ (rank s - 1) < B * B ^ (rank s - 1):=Nat.mul_lt_mul_of_pos_right hB h5;omega
end
def Ym:List Int→List Int→Int
 | x :: xs,y :: ys=>if x < y then -1 else if y < x then 1 else Ym xs ys
 | _,_=>0
theorem QD (a b:List Int):Ym a b = -1∨Ym a b=0∨Ym a b=1:=by
 induction a generalizing b with
 | nil=>simp[Ym]
 | cons x a ih =>
  cases b with
  | nil=>simp[Ym]
  | cons y b =>
   simp only[Ym];split
   ·simp
   ·split
    ·simp
    ·exact ih b
theorem Vo {a b:List Int}(h:a.length=b.length):Ym a b=0↔a=b:=by
 induction a generalizing b with
 | nil=>cases b <;> simp_all [Ym]
 | cons x a ih =>
  cases b with
  | nil=>simp at h
  | cons y b =>
   have:=ih (b:=b) (by simpa using h);simp only[Ym,List.cons.injEq];split
   ·constructor
    ·intro h;omega
    ·intro h;omega
   ·split
    ·constructor
     ·intro h;omega
     ·intro h;omega
    ·rw[this]
     constructor
     ·intro h;exact⟨Om,h⟩
     ·intro h;exact h.2
theorem Jp (a b:List Int):Ym b a = - Ym a b:=by
 induction a generalizing b with
 | nil=>cases b <;> simp[Ym]
 | cons x a ih =>
  cases b with
  | nil=>simp[Ym]
  | cons y b =>
   simp only[Ym];have:=ih b
   repeat' split
   all_goals omega
theorem Uf {n:Nat}{a b c:List Int}(ha:a.length=n) (hb:b.length=n) (hc:c.length=n) (h1:Ym a b = -1) (h2:Ym b c = -1):Ym a c = -1:=by
 induction a generalizing b c n with
 | nil=>simp[Ym]at h1
 | cons x a ih =>
  match b,c,hb,hc,h1,h2 with
  | [],_,_,_,h1,_=>simp[Ym]at h1
  | _ :: _,[],_,_,_,h2=>simp[Ym]at h2
  | y :: b,z :: c,hb,hc,h1,h2 =>
   simp only[List.length_cons]at ha hb hc;simp only[Ym]at h1 h2 ⊢;have hh:=fun p q=>ih (n:=n - 1) (b:=b) (c:=c) Om Om Om p q;by_cases e1:x < y
   ·by_cases e2:y < z
    ·rw[if_pos Om]
    ·rw[if_neg e2]at h2
     by_cases e3:z < y
     ·rw[if_pos e3]at h2;omega
     ·rw[if_pos Om]
   ·rw[if_neg e1]at h1
    by_cases e4:y < x
    ·rw[if_pos e4]at h1;omega
    ·rw[if_neg e4]at h1
     by_cases e2:y < z
     ·rw[if_pos Om]
     ·rw[if_neg e2]at h2
      by_cases e3:z < y
      ·rw[if_pos e3]at h2;omega
      ·rw[if_neg e3]at h2
       rw[if_neg Om,if_neg Om];exact hh h1 h2
structure YD (n:Nat) (l:List (List Int)):Prop where
 len:∀ o∈l,o.length=n
 pw:l.Pairwise fun a b=>Ym a b = -1
theorem AN {n:Nat}:∀ {xs ys:List (List Int)},YD n xs→YD n ys→(∀ o,o∈xs↔o∈ys)→xs=ys:=by
 have irr:∀ a:List Int,Ym a a≠-1:=fun a h=>by have:=(Vo (a:=a) rfl).2 rfl;omega
 intro xs
 induction xs with
 | nil=>intro ys _ _ h;cases ys with
  | nil=>rfl
  | cons y ys=>have:=(h y).2 Sm;simp at this
 | cons x xs ih =>
  intro ys hx hy h;cases ys with
  | nil=>have:=(h x).1 Sm;simp at this
  | cons y ys =>
   obtain⟨px,pxs⟩:=List.pairwise_cons.1 hx.pw;obtain⟨py,pys⟩:=List.pairwise_cons.1 hy.pw;have e:x=y:=by
    rcases List.mem_cons.1 ((h x).1 Sm) with e | e
    ·exact e
    ·rcases List.mem_cons.1 ((h y).2 Sm) with e2 | e2
     ·exact e2.symm
     ·have h1:=py x e
      have h2:=px y e2;have:=Jp x y;omega
   subst e
   congr 1
   refine ih ⟨fun o ho=>hx.len o (by simp[ho]),pxs⟩ ⟨fun o ho=>hy.len o (by simp[ho]),pys⟩ fun o => ?_;constructor
   ·intro ho
    rcases List.mem_cons.1 ((h o).1 (by simp[ho])) with e | e
    ·subst e;exact absurd (px o ho) (irr o)
    ·exact e
   ·intro ho
    rcases List.mem_cons.1 ((h o).2 (by simp[ho])) with e | e
    ·subst e;exact absurd (py o ho) (irr o)
    ·exact e
def Xz (o:List Int):List (List Int)→List (List Int)
 | []=>[o]
 | x :: xs=>if Ym x o = -1 then x :: Xz o xs else if Ym x o=0 then x :: xs else o :: x :: xs
theorem Ul {n:Nat}{o:List Int}(ho:o.length=n):∀ {l:List (List Int)},(∀ x∈l,x.length=n)→∀ y,y∈Xz o l↔y=o∨y∈l:=by
 intro l
 induction l with
 | nil=>intro _ y;simp[Xz]
 | cons x xs ih =>
  intro hl y;have h1:=ih (fun z hz=>hl z (by simp[hz])) y;unfold Xz;split
  ·rw[List.mem_cons,h1,List.mem_cons]
   constructor
   ·rintro (h | h | h)
    ·exact .inr (.inl h)
    ·exact .inl h
    ·exact .inr (.inr h)
   ·rintro (h | h | h)
    ·exact .inr (.inl h)
    ·exact .inl h
    ·exact .inr (.inr h)
  ·split
   ·rename_i h
    have e:x=o:=(Vo (by rw[hl x Sm,ho])).1 h;subst e;simp
   ·simp[List.mem_cons]
theorem Hb {n:Nat}{o:List Int}(ho:o.length=n):∀ {l:List (List Int)},YD n l→YD n (Xz o l):=by
 intro l
 induction l with
 | nil=>intro _;exact⟨fun x hx=>by simp[Xz]at hx;subst hx;exact ho,by simp[Xz]⟩
 | cons x xs ih =>
  intro hl;obtain⟨px,pxs⟩:=List.pairwise_cons.1 hl.pw;have hxs:YD n xs:=⟨fun z hz=>hl.len z (by simp[hz]),pxs⟩
  have hx:=hl.len x Sm;refine⟨fun y hy => ?_,?_⟩
  ·rcases (Ul ho hl.len y).1 hy with e | e
   ·rw[e];exact ho
   ·exact hl.len y e
  ·unfold Xz
   split
   ·rename_i h
    refine List.pairwise_cons.2 ⟨fun y hy => ?_,(ih hxs).pw⟩;rcases (Ul ho hxs.len y).1 hy with e | e
    ·rw[e];exact h
    ·exact px y e
   ·rename_i h1
    split
    ·exact hl.pw
    ·rename_i h2
     have h3:=QD x o;have h4:=Jp x o;have h5:Ym o x = -1:=Om;refine List.pairwise_cons.2 ⟨fun y hy => ?_,hl.pw⟩;rcases List.mem_cons.1 hy with e | e
     ·rw[e];exact h5
     ·exact Uf ho hx (hxs.len y e) h5 (px y e)
section
variable {S : Type} (mv : S → List Nat) (af : S → Nat → S)
def QU (s:S) (j:Nat):Option S:=((mv s)[j]?).map (af s)
theorem Xy {s t:S}{j:Nat}:QU mv af s j=some t↔∃ m,(mv s)[j]? = some m∧af s m=t:=by
 unfold QU;cases (mv s)[j]? with
 | none=>simp
 | some m=>simp
variable (done : S → Bool) (out : S → List Int) (C R : Nat) (rank : S → Nat) (start : S)
structure PI (work taken:List S) (outs:List (List Int)):Prop where
 nd:(taken++work).Nodup
 rc:∀ s∈taken++work,Zx start (QU mv af) s
 st:start∈taken++work
 cl:∀ s∈taken,∀ j t,QU mv af s j=some t→t∈taken++work
 om:∀ o,o∈outs↔∃ s∈taken,done s=true∧out s=o
 ol:outs.length=(taken.filter done).length
 sk:∀ i s,work[i]? = some s→i+1≤C * (R+1 - rank s)
 rk:∀ s∈work,rank s≤R
structure U0 (s:S) (j:Nat) (init new taken:List S) (outs:List (List Int)):Prop where
 nd:((s :: taken)++(init++new)).Nodup
 rc:∀ u∈(s :: taken)++(init++new),Zx start (QU mv af) u
 st:start∈(s :: taken)++(init++new)
 cl:∀ u∈taken,∀ i t,QU mv af u i=some t→t∈(s :: taken)++(init++new)
 nx:∀ i t,i < j→QU mv af s i=some t→t∈(s :: taken)++(init++new)
 om:∀ o,o∈outs↔∃ u∈s :: taken,done u=true∧out u=o
 ol:outs.length=((s :: taken).filter done).length
 sk:∀ i u,(init++new)[i]? = some u→i+1≤C * (R+1 - rank u)
 rk:∀ u∈init++new,rank u≤R
 rs:rank s≤R
 si:init.length+1≤C * (R+1 - rank s)
 nl:new.length≤j
 nr:∀ t∈new,rank t < rank s
variable {mv af done out C R rank start}
theorem PI.init (hC:1≤C) (hR:rank start≤R):PI mv af done out C R rank start [start] [] []:=by
 refine⟨Sm,fun s hs => ?_,Sm,fun s hs=>by simp at hs,fun o=>by simp,rfl,fun i s hi => ?_,fun s hs => ?_⟩
 ·simp at hs;subst hs;exact .start
 ·cases i with
  | zero =>
   simp at hi;subst hi;have:1≤R+1 - rank start:=Om;exact Nat.mul_le_mul hC this
  | succ i=>simp at hi
 ·simp at hs;subst hs;exact hR
theorem JX {s u:S}{init taken:List S}:u∈taken++(init++[s])↔u∈(s :: taken)++(init++[]):=by
 simp only[List.mem_append,List.mem_cons,List.append_nil,List.not_mem_nil,or_false];constructor
 ·rintro (h | h | h)
  ·exact .inl (.inr h)
  ·exact .inr h
  ·exact .inl (.inl h)
 ·rintro ((h | h) | h)
  ·exact .inr (.inr h)
  ·exact .inl h
  ·exact .inr (.inl h)
theorem PI.AP {init taken:List S}{s:S}{outs outs':List (List Int)}(h:PI mv af done out C R rank start (init++[s]) taken outs)
 (hm:∀ o,o∈outs'↔∃ u∈s :: taken,done u=true∧out u=o) (hl:outs'.length=((s :: taken).filter done).length):U0 mv af done out C R rank start s 0 init [] taken outs':=by
 refine⟨?_,fun u hu=>h.rc u (JX.2 hu),JX.1 h.st,fun u hu i t ht=>JX.1 (h.cl u hu i t ht),fun i t hi=>absurd hi (Nat.not_lt_zero i),hm,hl,fun i u hi => ?_,fun u hu => ?_,h.rk s Sm,?_,Sm,fun t ht=>by simp at ht⟩
 ·have hp:(taken++(init++[s])).Perm ((s :: taken)++(init++[])):=by
   rw[List.append_nil];have h1:(init++[s]).Perm (s :: init):=List.perm_append_comm;have h2:(taken++(s :: init)).Perm (s :: (taken++init)):=List.perm_middle;exact(h1.append_left taken).trans h2
  exact hp.nodup_iff.1 h.nd
 ·rw[List.append_nil]at hi
  have hlt:=(List.getElem?_eq_some_iff.1 hi).1;exact h.sk i u (by rw[List.getElem?_append_left hlt];exact hi)
 ·exact h.rk u (by simp at hu ⊢;exact .inl hu)
 ·exact h.sk init.length s Sm
theorem PI.CG {init taken:List S}{s:S}{outs:List (List Int)}(h:PI mv af done out C R rank start (init++[s]) taken outs) (hd:done s=true):U0 mv af done out C R rank start s 0 init [] taken (outs++[out s]):=by
 refine h.AP (fun o => ?_) ?_
 ·rw[List.mem_append,h.om]
  constructor
  ·rintro (⟨u,h1,h2,h3⟩ | e)
   ·exact⟨u,by simp[h1],h2,h3⟩
   ·exact⟨s,Sm,hd,(List.mem_singleton.1 e).symm⟩
  ·rintro ⟨u,h1,h2,h3⟩
   rcases List.mem_cons.1 h1 with e | e
   ·exact .inr (by simp[← h3,e])
   ·exact .inl ⟨u,e,h2,h3⟩
 ·rw[List.length_append,h.ol,List.filter_cons,if_pos hd];simp
theorem PI.EF {init taken:List S}{s:S}{outs:List (List Int)}(h:PI mv af done out C R rank start (init++[s]) taken outs) (hd:done s=false):U0 mv af done out C R rank start s 0 init [] taken outs:=by
 refine h.AP (fun o => ?_) ?_
 ·rw[h.om]
  constructor
  ·rintro ⟨u,h1,h2,h3⟩
   exact⟨u,by simp[h1],h2,h3⟩
  ·rintro ⟨u,h1,h2,h3⟩
   rcases List.mem_cons.1 h1 with e | e
   ·subst e;rw[hd]at h2;cases h2
   ·exact⟨u,e,h2,h3⟩
 ·rw[h.ol,List.filter_cons,if_neg (by simp[hd])]
theorem U0.Hn {s:S}{j:Nat}{init new taken:List S}{outs:List (List Int)}(_:U0 mv af done out C R rank start s j init new taken outs):s∈(s :: taken)++(init++new):=by simp
theorem U0.IH {s t u:S}{j:Nat}{init new taken:List S}{outs:List (List Int)}{K:Type}{key:S→K}(h:U0 mv af done out C R rank start s j init new taken outs) (ht:QU mv af s j=some t)
 (hu:u∈(s :: taken)++(init++new)) (he:key u=key t) (hk:∀ a b,Zx start (QU mv af) a→Zx start (QU mv af) b→key a=key b→a=b):U0 mv af done out C R rank start s (j+1) init new taken outs:=by
 have hr:Zx start (QU mv af) t:=.step (h.rc s h.Hn) ht;have e:u=t:=hk u t (h.rc u hu) hr he;subst e;refine⟨h.nd,h.rc,h.st,h.cl,fun i x hi hx => ?_,h.om,h.ol,h.sk,h.rk,h.rs,h.si,by have:=h.nl;omega,h.nr⟩;rcases Nat.lt_or_ge i j with hij | hij
 ·exact h.nx i x hij hx
 ·obtain rfl:i=j:=Om
  rw[ht]at hx;simp only[Option.some.injEq]at hx;exact hx ▸ hu
theorem U0.new {s t:S}{j:Nat}{init new taken:List S}{outs:List (List Int)}(h:U0 mv af done out C R rank start s j init new taken outs) (ht:QU mv af s j=some t)
 (hn:t∉(s :: taken)++(init++new)) (hj:j < C) (hr:rank t < rank s):U0 mv af done out C R rank start s (j+1) init (new++[t]) taken outs:=by
 have hreach:Zx start (QU mv af) t:=.step (h.rc s h.Hn) ht;have up:∀ u,u∈(s :: taken)++(init++new)→u∈(s :: taken)++(init++(new++[t])):=fun u hu=>by
  simp only[List.mem_append,List.mem_cons]at hu ⊢;rcases hu with hu | hu | hu
  ·exact .inl hu
  ·exact .inr (.inl hu)
  ·exact .inr (.inr (.inl hu))
 have hasc:(s :: taken)++(init++(new++[t]))=((s :: taken)++(init++new))++[t]:=by simp[List.append_assoc]
 have hnl:=h.nl;have hrs:=h.rs;refine⟨?_,fun u hu => ?_,up _ h.st,fun u hu i x hx=>up x (h.cl u hu i x hx),fun i x hi hx => ?_,h.om,h.ol,fun i u hi => ?_,fun u hu => ?_,h.rs,h.si,So,fun u hu => ?_⟩
 ·rw[hasc]
  exact List.nodup_append.2 ⟨h.nd,Sm,fun a ha b hb=>by simp at hb;subst hb;exact fun e=>hn (e ▸ ha)⟩
 ·rw[hasc]at hu
  rcases List.mem_append.1 hu with e | e
  ·exact h.rc u e
  ·simp at e;subst e;exact hreach
 ·rcases Nat.lt_or_ge i j with hij | hij
  ·exact up x (h.nx i x hij hx)
  ·obtain rfl:i=j:=Om
   rw[ht]at hx;simp only[Option.some.injEq]at hx;subst hx;simp
 ·rw[← List.append_assoc]at hi
  by_cases hlt:i < (init++new).length
  ·rw[List.getElem?_append_left hlt]at hi
   exact h.sk i u hi
  ·rw[List.getElem?_append_right Om]at hi
   have h0:i - (init++new).length=0:=by
    have:=(List.getElem?_eq_some_iff.1 hi).1;simp only[List.length_singleton]at this;omega
   rw[h0]at hi;simp at hi;subst hi;have hi2:i=init.length+new.length:=by simp only[List.length_append]at hlt h0;omega
   have h1:=h.si;have h2:R+1 - rank s+1≤R+1 - rank t:=Om;have h3:=Nat.mul_le_mul_left C h2;rw[Nat.mul_add,Nat.mul_one]at h3;omega
 ·rw[← List.append_assoc]at hu
  rcases List.mem_append.1 hu with e | e
  ·exact h.rk u e
  ·simp at e;subst e;omega
 ·rcases List.mem_append.1 hu with e | e
  ·exact h.nr u e
  ·simp at e;subst e;exact hr
theorem U0.leave {s:S}{j:Nat}{init new taken:List S}{outs:List (List Int)}(h:U0 mv af done out C R rank start s j init new taken outs) (hj:(mv s).length≤j):PI mv af done out C R rank start (init++new) (s :: taken) outs:=
 ⟨h.nd,h.rc,h.st,fun u hu i t ht=>by
  rcases List.mem_cons.1 hu with e | e
  ·subst e
   obtain⟨m,hm,-⟩:=(Xy mv af).1 ht;exact h.nx i t (by have:=(List.getElem?_eq_some_iff.1 hm).1;omega) ht
  ·exact h.cl u e i t ht,h.om,h.ol,h.sk,h.rk⟩
theorem U0.Cz {s:S}{j:Nat}{init new taken:List S}{outs:List (List Int)}(h:U0 mv af done out C R rank start s j init new taken outs) (hj:j≤C):Jw (C+1) rank (init++new) < Jw (C+1) rank (init++[s]):=by
 have h1:=Ft (B:=C+1) (rank:=rank) (s:=s) (new:=new) (by have:=h.nl;omega) h.nr;rw[Uw,Uw];have:Jw (C+1) rank [s]=(C+1) ^ rank s:=by simp[Jw]
 omega
theorem KV {work:List S}(h:∀ i s,work[i]? = some s→i+1≤C * (R+1 - rank s)):work.length≤C * (R+1):=by
 rcases Nat.eq_zero_or_pos work.length with e | e
 ·rw[e];exact Nat.zero_le _
 ·have h1:=h (work.length - 1) (work[work.length - 1]'Om) (List.getElem?_eq_getElem Om)
  have h2:C * (R+1 - rank (work[work.length - 1]'Om))≤C * (R+1):=Nat.mul_le_mul_left C Om;omega
theorem PI.short {work taken:List S}{outs:List (List Int)}(h:PI mv af done out C R rank start work taken outs):work.length≤C * (R+1):=KV h.sk
theorem U0.short {s:S}{j:Nat}{init new taken:List S}{outs:List (List Int)}(h:U0 mv af done out C R rank start s j init new taken outs):(init++new).length≤C * (R+1):=KV h.sk
theorem PI.fin {taken:List S}{outs:List (List Int)}(h:PI mv af done out C R rank start [] taken outs) (o:List Int):o∈outs↔∃ s,Zx start (QU mv af) s∧done s=true∧out s=o:=by
 have hall:∀ s,Zx start (QU mv af) s→s∈taken:=fun s hr=>by
  induction hr with
  | start=>simpa using h.st
  | step _ ht ih=>simpa using h.cl _ ih _ _ ht
 rw[h.om];constructor
 ·rintro ⟨s,h1,h2,h3⟩;exact⟨s,h.rc s (by simp[h1]),h2,h3⟩
 ·rintro ⟨s,h1,h2,h3⟩;exact⟨s,hall s h1,h2,h3⟩
theorem PI.Lk {work taken:List S}{outs:List (List Int)}(h:PI mv af done out C R rank start work taken outs) {N:Nat}(hN:∀ l:List S,l.Nodup→(∀ s∈l,Zx start (QU mv af) s∧done s=true)→l.length≤N):outs.length≤N:=by
 rw[h.ol];refine hN _ ((List.nodup_append.1 h.nd).1.filter _) fun s hs => ?_;rw[List.mem_filter]at hs;exact⟨h.rc s (by simp[hs.1]),hs.2⟩
theorem AS {next:S→Nat→Option S}{ok:S→Prop}(h0:ok start) (h1:∀ s i t,ok s→next s i=some t→ok t) (hm:∀ s,ok s→∀ i,i∈mv s↔(next s i).isSome) (ha:∀ s,ok s→∀ i t,next s i=some t→af s i=t) (s:S) :
 Zx start (QU mv af) s↔Zx start next s:=by
 have e:∀ s,ok s→∀ t,(∃ j,QU mv af s j=some t)↔∃ i,next s i=some t:=fun s hs t=>by
  constructor
  ·rintro ⟨j,hj⟩
   obtain⟨m,h2,h3⟩:=(Xy mv af).1 hj;have h4:=(hm s hs m).1 (List.mem_of_getElem? h2);obtain⟨t',ht'⟩:=Option.isSome_iff_exists.1 h4;exact⟨m,by rw[ht',← ha s hs m t' ht',h3]⟩
  ·rintro ⟨i,hi⟩
   obtain⟨j,hj,e⟩:=List.mem_iff_getElem.1 ((hm s hs i).2 (by simp[hi]));exact⟨j,(Xy mv af).2 ⟨i,by rw[List.getElem?_eq_getElem hj,e],ha s hs i t hi⟩⟩
 constructor
 ·intro h
  have:Zx start next s∧ok s:=by
   induction h with
   | start=>exact⟨.start,h0⟩
   | step _ ht ih =>
    obtain⟨i,hi⟩:=(e _ ih.2 _).1 ⟨_,ht⟩;exact⟨.step ih.1 hi,h1 _ _ _ ih.2 hi⟩
  exact this.1
 ·intro h
  have:Zx start (QU mv af) s∧ok s:=by
   induction h with
   | start=>exact⟨.start,h0⟩
   | step _ ht ih =>
    obtain⟨j,hj⟩:=(e _ ih.2 _).2 ⟨_,ht⟩;exact⟨.step ih.1 hj,h1 _ _ _ ih.2 ht⟩
  exact this.1
end
structure Sq where
 pc:List Int
 rg:List Int
 mm:List Int
def Yo (p:List (List Ins)):Sq:=⟨List.replicate p.length 0,List.replicate (p.length * 3) 0,List.replicate 3 0⟩
def ZL (s:Sq) (t:Nat) (x:Ins):Int:=if x.op=3 then s.rg.getD (t * 3+x.ZQ.toNat) 0 else x.val
def Yy (s:Sq) (t:Nat) (k:Int) (x:Ins):Sq:=
 ⟨s.pc.set t (k+1),if Z8 x.op=true then s.rg.set (t * 3+x.ZQ.toNat) (s.mm.getD x.loc.toNat 0) else s.rg,if ZF x.op=true then s.mm.set x.loc.toNat (ZL s t x) else s.mm⟩
def QH (p:List (List Ins)) (s:Sq) (t:Nat):Option Sq:=
 match p[t]?,s.pc[t]? with
 | some r,some k=>match r[k.toNat]? with
  | some x=>some (Yy s t k x)
  | none=>none
 | _,_=>none
def Kd (s:Sq):List Int:=s.rg++s.mm
structure Xu (p:List (List Ins)) (s:Sq):Prop where
 lp:s.pc.length=p.length
 lr:s.rg.length=p.length * 3
 lm:s.mm.length=3
 pc:∀ (t:Nat) (k:Int) (r:List Ins),s.pc[t]? = some k→p[t]? = some r→0≤k∧k≤r.length
 rg:∀ x∈s.rg,0≤x∧x≤3
 mm:∀ x∈s.mm,0≤x∧x≤3
theorem Xu.start (p:List (List Ins)):Xu p (Yo p):=
 ⟨by simp[Yo],by simp[Yo],by simp[Yo],fun t k r h _=>by
  simp only[Yo,List.getElem?_replicate]at h;split at h
  ·simp at h;subst h;omega
  ·simp at h,fun x hx=>by simp[Yo]at hx;omega,fun x hx=>by simp[Yo]at hx;omega⟩
theorem ZP {l:List Int}(h:∀ x∈l,0≤x∧x≤3) (k:Nat):0≤l.getD k 0∧l.getD k 0≤3:=by
 rw[List.getD_eq_getElem?_getD];cases hk:l[k]? with
 | none=>simp
 | some x=>simpa using h x (List.mem_of_getElem? hk)
theorem Jr {l:List Int}(h:∀ x∈l,0≤x∧x≤3) {v:Int}(hv:0≤v∧v≤3) (k:Nat):∀ x∈l.set k v,0≤x∧x≤3:=fun x hx=>by
 rcases List.mem_or_eq_of_mem_set hx with e | e
 ·exact h x e
 ·rw[e];exact hv
theorem Xo {s:Sq}{t:Nat}{x:Ins}(h:∀ y∈s.rg,0≤y∧y≤3) (hx:Zg x=true) (hw:ZF x.op=true):0≤ZL s t x∧ZL s t x≤3:=by
 unfold ZL;split
 ·exact ZP h _
 ·rename_i h3
  unfold ZF at hw;unfold Zg Kj at hx;simp only[Bool.or_eq_true,beq_iff_eq]at hw;rcases hw with (hw | hw) | hw
  ·simp[hw]at hx;omega
  ·exact absurd hw h3
  ·simp[hw]at hx;omega
theorem Kc {p:List (List Ins)}{s s':Sq}{t:Nat}(h:QH p s t=some s'):∃ r k x,p[t]? = some r∧s.pc[t]? = some k∧r[k.toNat]? = some x∧s'=Yy s t k x:=by
 unfold QH at h;split at h
 ·rename_i r k hr hk
  split at h
  ·rename_i x hx
   simp only[Option.some.injEq]at h;exact⟨r,k,x,hr,hk,hx,h.symm⟩
  ·cases h
 ·cases h
theorem Xu.next {p:List (List Ins)}{s s':Sq}{t:Nat}(h:Xu p s) (hp:∀ r∈p,∀ x∈r,Zg x=true) (hn:QH p s t=some s'):Xu p s':=by
 obtain⟨r,k,x,hr,hk,hx,rfl⟩:=Kc hn;have hv:=hp r (List.mem_of_getElem? hr) x (List.mem_of_getElem? hx);have hk0:=h.pc t k r hk hr;have hlt:=(List.getElem?_eq_some_iff.1 hx).1;refine⟨by simp[Yy,h.lp],?_,?_,?_,?_,?_⟩
 ·unfold Yy;simp only;split
  ·rw[List.length_set];exact h.lr
  ·exact h.lr
 ·unfold Yy;simp only;split
  ·rw[List.length_set];exact h.lm
  ·exact h.lm
 ·intro t' k' r' h1 h2
  simp only[Yy]at h1;rw[List.getElem?_set]at h1;by_cases e:t=t'
  ·subst e
   rw[if_pos rfl]at h1;split at h1
   ·simp only[Option.some.injEq]at h1
    rw[hr]at h2;simp only[Option.some.injEq]at h2;subst h2;omega
   ·cases h1
  ·rw[if_neg e]at h1;exact h.pc t' k' r' h1 h2
 ·unfold Yy;simp only;split
  ·exact Jr h.rg (ZP h.mm _) _
  ·exact h.rg
 ·unfold Yy;simp only;split
  ·rename_i hw;exact Jr h.mm (Xo h.rg hv hw) _
  ·exact h.mm
def Qo (p:List (List Ins)) (s:Sq):Nat:=((List.range p.length).map fun t=>(p.getD t []).length - (s.pc.getD t 0).toNat).sum
theorem I6 {f g:Nat→Nat}{t:Nat}:∀ {n:Nat},t < n→(∀ i,i≠t→f i=g i)→f t < g t→((List.range n).map f).sum < ((List.range n).map g).sum:=by
 intro n
 induction n with
 | zero=>intro h;omega
 | succ n ih =>
  intro ht he hlt;rw[List.range_succ,List.map_append,List.map_append,List.sum_append,List.sum_append];simp only[List.map_cons,List.map_nil,List.sum_cons,List.sum_nil];by_cases e:t=n
  ·subst e
   have:((List.range t).map f)=((List.range t).map g):=List.map_congr_left fun i hi=>he i (by have:=List.mem_range.1 hi;omega);rw[this];omega
  ·have h1:=ih Om he hlt
   have h2:=he n (fun q=>e q.symm);omega
theorem KU {p:List (List Ins)}{s s':Sq}{t:Nat}(h:Xu p s) (hn:QH p s t=some s'):Qo p s' < Qo p s:=by
 obtain⟨r,k,x,hr,hk,hx,rfl⟩:=Kc hn;have ht:=(List.getElem?_eq_some_iff.1 hr).1;have ht2:=(List.getElem?_eq_some_iff.1 hk).1;have hlt:=(List.getElem?_eq_some_iff.1 hx).1;have hk0:=h.pc t k r hk hr;unfold Qo;refine I6 (t:=t) ht (fun i hi => ?_) ?_
 ·simp only[Yy,List.getD_eq_getElem?_getD]
  rw[List.getElem?_set,if_neg (fun e=>hi e.symm)]
 ·simp only[Yy,List.getD_eq_getElem?_getD,hr,hk,Option.getD_some]
  rw[List.getElem?_set,if_pos rfl,if_pos ht2];simp only[Option.getD_some];omega
def KT (s:Sq):List Int:=s.pc++s.rg++s.mm
theorem DE {p:List (List Ins)}{s s':Sq}(h:Xu p s) (h':Xu p s') (e:KT s=KT s'):s=s':=by
 unfold KT at e;have e1:=List.append_inj e (by simp[h.lp,h.lr,h'.lp,h'.lr]);have e2:=List.append_inj e1.1 (by rw[h.lp,h'.lp]);cases s;cases s';simp only at e1 e2;rw[e2.1,e2.2,e1.2]
section
variable {S : Type} {start : S} {next : S → Nat → Option S} (done : S → Bool) (out : S → List Int) (n : Nat)
variable {done out n}
end
def Yi (p:List (List Ins)) (s:Sq):Bool:=(List.range p.length).all fun t=>decide (¬ s.pc.getD t 0 < ((p.getD t []).length:Int))
theorem Ke {p:List (List Ins)}{s:Sq}(h:Xu p s):(Kd s).length=p.length * 3+3:=by
 unfold Kd;rw[List.length_append,h.lr,h.lm]
theorem Ck {f:Nat→Nat}{b:Nat}(h:∀ i,f i≤b):∀ n,((List.range n).map f).sum≤n * b:=by
 intro n
 induction n with
 | zero=>simp
 | succ n ih =>
  rw[List.range_succ,List.map_append,List.sum_append,Nat.add_mul];have:=h n;simp only[List.map_cons,List.map_nil,List.sum_cons,List.sum_nil];omega
theorem DF {p:List (List Ins)}(h:Zi p=true) (s:Sq):Qo p s≤21:=by
 obtain⟨h1,-,h2,-⟩:=Z4 h;unfold Qo;have h3:=Ck (f:=fun t=>(p.getD t []).length - (s.pc.getD t 0).toNat) (b:=7) (fun t=>by
  show (p.getD t []).length - (s.pc.getD t 0).toNat≤7;have h4:(p.getD t []).length≤7:=by
   rw[List.getD_eq_getElem?_getD];cases hr:p[t]? with
   | none=>simp
   | some r=>exact(h2 r (List.mem_of_getElem? hr)).1
  omega) p.length
 have:p.length * 7≤3 * 7:=Nat.mul_le_mul_right _ h1;omega
theorem Z9 {p:List (List Ins)}(h:Zi p=true):∀ r∈p,∀ x∈r,Zg x=true:=fun r hr x hx=>((Z4 h).2.2.1 r hr).2 x hx
def U9:List Int→Nat
 | []=>0
 | x :: xs=>x.toNat * 4 ^ xs.length+U9 xs
theorem Cy {l:List Int}(h:∀ x∈l,0≤x∧x≤3):U9 l < 4 ^ l.length:=by
 induction l with
 | nil=>simp[U9]
 | cons x l ih =>
  have h1:=ih fun y hy=>h y (by simp[hy]);have h2:=h x Sm;have h3:x.toNat * 4 ^ l.length≤3 * 4 ^ l.length:=Nat.mul_le_mul_right _ Om;simp only[U9,List.length_cons,Nat.pow_succ];omega
theorem Ad {a b:List Int}(hl:a.length=b.length) (ha:∀ x∈a,0≤x∧x≤3) (hb:∀ x∈b,0≤x∧x≤3) (h:Ym a b = -1):U9 a < U9 b:=by
 induction a generalizing b with
 | nil=>simp[Ym]at h
 | cons x a ih =>
  cases b with
  | nil=>simp at hl
  | cons y b =>
   have hl':a.length=b.length:=by simpa using hl
   have e1:=Cy (l:=a) fun z hz=>ha z (by simp[hz]);have hx:=ha x Sm;have hy:=hb y Sm;simp only[Ym]at h;simp only[U9];by_cases h1:x < y
   ·have h2:(x.toNat+1) * 4 ^ a.length≤y.toNat * 4 ^ a.length:=Nat.mul_le_mul_right _ Om
    rw[Nat.add_mul,Nat.one_mul]at h2;rw[← hl'];omega
   ·rw[if_neg h1]at h
    by_cases h2:y < x
    ·rw[if_pos h2]at h;omega
    ·rw[if_neg h2]at h
     have e:x=y:=Om;subst e;have:=ih hl' (fun z hz=>ha z (by simp[hz])) (fun z hz=>hb z (by simp[hz])) h;rw[← hl'];omega
structure Bf where
 q:Sq
 bf:List (List (Int × Int))
def Yj (split:Bool):Nat:=if split then 3 else 1
def Zn (p:List (List Ins)) (split:Bool):Bf:=⟨Yo p,List.replicate (p.length * Yj split) []⟩
def Zj (t:Nat) (loc:Int) (split:Bool):Nat:=if split then t * 3+loc.toNat else t
def ZZ (s:Bf) (t:Nat) (split:Bool):Bool:=(List.range (Yj split)).all fun i=>(s.bf.getD (t * Yj split+i) []).isEmpty
def Ys (s:Bf) (t:Nat) (loc:Int) (split:Bool):Int:=
 match (s.bf.getD (Zj t loc split) []).reverse.find? (fun e=>e.1==loc) with
 | some e=>e.2
 | none=>s.q.mm.getD loc.toNat 0
def YR (s:Bf) (split:Bool) (t:Nat) (k:Int) (x:Ins):Option Bf:=
 if x.op=4∨x.op=5 then if ZZ s t split=true then some ⟨Yy s.q t k x,s.bf⟩ else none
 else if x.op=1 then some ⟨⟨s.q.pc.set t (k+1),s.q.rg.set (t * 3+x.ZQ.toNat) (Ys s t x.loc split),s.q.mm⟩,s.bf⟩
 else some ⟨⟨s.q.pc.set t (k+1),s.q.rg,s.q.mm⟩,s.bf.set (Zj t x.loc split) (s.bf.getD (Zj t x.loc split) []++[(x.loc,ZL s.q t x)])⟩
def Zu (p:List (List Ins)) (split:Bool) (s:Bf) (m:Nat):Option Bf:=
 if m < p.length then
  match p[m]?,s.q.pc[m]? with
  | some r,some k=>match r[k.toNat]? with
   | some x=>YR s split m k x
   | none=>none
  | _,_=>none
 else match s.bf[m - p.length]? with
  | some ((l,v) :: rest)=>some ⟨⟨s.q.pc,s.q.rg,s.q.mm.set l.toNat v⟩,s.bf.set (m - p.length) rest⟩
  | _=>none
def Y8 (e:Int × Int):Prop:=(0≤e.1∧e.1≤2)∧0≤e.2∧e.2≤3
structure ZE (p:List (List Ins)) (split:Bool) (s:Bf):Prop where
 q:Xu p s.q
 lb:s.bf.length=p.length * Yj split
 en:∀ l∈s.bf,∀ e∈l,Y8 e
theorem ZE.start (p:List (List Ins)) (split:Bool):ZE p split (Zn p split):=
 ⟨Xu.start p,by simp[Zn],fun l hl=>by simp[Zn]at hl;intro e he;rw[hl.2]at he;simp at he⟩
theorem CE {p:List (List Ins)}{s:Sq}{t:Nat}{k:Int}{r:List Ins}{x:Ins}(h:Xu p s) (hr:p[t]? = some r) (hk:s.pc[t]? = some k) (hx:r[k.toNat]? = some x) {rg mm:List Int}(h1:rg.length=p.length * 3) (h2:mm.length=3) (h3:∀ x∈rg,0≤x∧x≤3) (h4:∀ x∈mm,0≤x∧x≤3):Xu p ⟨s.pc.set t (k+1),rg,mm⟩:=by
 have hk0:=h.pc t k r hk hr;have hlt:=(List.getElem?_eq_some_iff.1 hx).1;refine⟨by simp[h.lp],h1,h2,fun t' k' r' g1 g2 => ?_,h3,h4⟩;simp only at g1;rw[List.getElem?_set]at g1;by_cases e:t=t'
 ·subst e
  rw[if_pos rfl]at g1;split at g1
  ·simp only[Option.some.injEq]at g1
   rw[hr]at g2;simp only[Option.some.injEq]at g2;subst g2;omega
  ·cases g1
 ·rw[if_neg e]at g1;exact h.pc t' k' r' g1 g2
theorem Am {l:List (List (Int × Int))}(h:∀ x∈l,∀ e∈x,Y8 e) (k:Nat):∀ e∈l.getD k [],Y8 e:=by
 rw[List.getD_eq_getElem?_getD];cases hk:l[k]? with
 | none=>simp
 | some x=>simpa using h x (List.mem_of_getElem? hk)
theorem Cg {p:List (List Ins)}{split:Bool}{s:Bf}(h:ZE p split s) (t:Nat) (loc:Int):0≤Ys s t loc split∧Ys s t loc split≤3:=by
 unfold Ys;split
 ·rename_i e he
  exact(Am h.en _ e (List.mem_reverse.1 (List.mem_of_find?_eq_some he))).2
 ·exact ZP h.q.mm _
theorem Yw {p:List (List Ins)}{split:Bool}{s s':Bf}{m:Nat}(h:Zu p split s m=some s') (hm:m < p.length):∃ r k x,p[m]? = some r∧s.q.pc[m]? = some k∧r[k.toNat]? = some x∧YR s split m k x=some s':=by
 unfold Zu at h;rw[if_pos hm]at h;split at h
 ·rename_i r k hr hk
  split at h
  ·rename_i x hx
   exact⟨r,k,x,hr,hk,hx,h⟩
  ·cases h
 ·cases h
theorem Yu {p:List (List Ins)}{split:Bool}{s s':Bf}{m:Nat}(h:Zu p split s m=some s') (hm:¬ m < p.length):∃ l v rest,s.bf[m - p.length]? = some ((l,v) :: rest)∧s'=⟨⟨s.q.pc,s.q.rg,s.q.mm.set l.toNat v⟩,s.bf.set (m - p.length) rest⟩:=by
 unfold Zu at h;rw[if_neg hm]at h;split at h
 ·rename_i l v rest hb
  simp only[Option.some.injEq]at h;exact⟨l,v,rest,hb,h.symm⟩
 ·cases h
theorem ZE.next {p:List (List Ins)}{split:Bool}{s s':Bf}{m:Nat}(h:ZE p split s) (hp:∀ r∈p,∀ x∈r,Zg x=true) (hn:Zu p split s m=some s'):ZE p split s':=by
 by_cases hm:m < p.length
 ·obtain⟨r,k,x,hr,hk,hx,hd⟩:=Yw hn hm
  have hv:=hp r (List.mem_of_getElem? hr) x (List.mem_of_getElem? hx);unfold YR at hd;split at hd
  ·split at hd
   ·simp only[Option.some.injEq]at hd
    subst hd;exact⟨h.q.next (t:=m) hp (by unfold QH;simp[hr,hk,hx]),h.lb,h.en⟩
   ·cases hd
  ·rename_i h45
   split at hd
   ·simp only[Option.some.injEq]at hd
    subst hd;exact⟨CE h.q hr hk hx (by rw[List.length_set];exact h.q.lr) h.q.lm (Jr h.q.rg (Cg h _ _) _) h.q.mm,h.lb,h.en⟩
   ·rename_i h1
    simp only[Option.some.injEq]at hd;subst hd;refine⟨CE h.q hr hk hx h.q.lr h.q.lm h.q.rg h.q.mm,by rw[List.length_set];exact h.lb,fun l hl e he => ?_⟩;rcases List.mem_or_eq_of_mem_set hl with g | g
    ·exact h.en l g e he
    ·rw[g]at he
     rcases List.mem_append.1 he with g2 | g2
     ·exact Am h.en _ e g2
     ·simp only[List.mem_singleton]at g2
      subst g2;have h23:x.op=2∨x.op=3:=by
       unfold Zg at hv;split at hv
       ·omega
       ·split at hv
        ·omega
        ·split at hv
         ·omega
         ·split at hv
          ·omega
          ·cases hv
      have hloc:0≤x.loc∧x.loc≤2:=by
       unfold Zg Kj at hv;rcases h23 with e2 | e2 <;> (simp[e2]at hv;omega)
      exact⟨hloc,Xo h.q.rg hv (by unfold ZF;rcases h23 with e2 | e2 <;> simp[e2])⟩
 ·obtain⟨l,v,rest,hb,rfl⟩:=Yu hn hm
  have he:=h.en _ (List.mem_of_getElem? hb) (l,v) Sm;refine⟨⟨h.q.lp,h.q.lr,by rw[List.length_set];exact h.q.lm,h.q.pc,h.q.rg,Jr h.q.mm he.2 _⟩,by rw[List.length_set];exact h.lb,fun l' hl e he => ?_⟩;rcases List.mem_or_eq_of_mem_set hl with g | g
  ·exact h.en l' g e he
  ·rw[g]at he
   exact h.en _ (List.mem_of_getElem? hb) e (by simp[he])
def Yr (p:List (List Ins)) (s:Bf):Nat:=2 * Qo p s.q+(s.bf.map List.length).sum
theorem CJ {l:List (List (Int × Int))}{k:Nat}{x:List (Int × Int)}(h:l[k]? = some x) (y:List (Int × Int)):((l.set k y).map List.length).sum+x.length=(l.map List.length).sum+y.length:=by
 induction l generalizing k with
 | nil=>simp at h
 | cons z l ih =>
  cases k with
  | zero=>simp at h;subst h;simp;omega
  | succ k =>
   simp only[List.getElem?_cons_succ]at h;have:=ih h;simp only[List.set_cons_succ,List.map_cons,List.sum_cons];omega
theorem EE {p:List (List Ins)}{split:Bool}{t:Nat}{loc:Int}(ht:t < p.length) (h0:0≤loc) (h2:loc≤2):Zj t loc split < p.length * Yj split:=by
 unfold Zj Yj;cases split
 ·simp;exact ht
 ·simp;omega
theorem Gj {p:List (List Ins)}{s:Sq}{t:Nat}{k:Int}{r:List Ins}{x:Ins}(h:Xu p s) (hr:p[t]? = some r) (hk:s.pc[t]? = some k) (hx:r[k.toNat]? = some x) (rg mm:List Int):Qo p ⟨s.pc.set t (k+1),rg,mm⟩ < Qo p s:=by
 have h1:=KU h (show QH p s t=some (Yy s t k x) by unfold QH;simp[hr,hk,hx]);exact h1
theorem Qd {p:List (List Ins)}{split:Bool}{s s':Bf}{m:Nat}(h:ZE p split s) (hn:Zu p split s m=some s'):Yr p s' < Yr p s:=by
 unfold Yr;by_cases hm:m < p.length
 ·obtain⟨r,k,x,hr,hk,hx,hd⟩:=Yw hn hm
  unfold YR at hd;split at hd
  ·split at hd
   ·simp only[Option.some.injEq]at hd
    subst hd;have:=KU h.q (show QH p s.q m=some (Yy s.q m k x) by unfold QH;simp[hr,hk,hx]);simp only;omega
   ·cases hd
  ·split at hd
   ·simp only[Option.some.injEq]at hd
    subst hd;have:=Gj h.q hr hk hx (s.q.rg.set (m * 3+x.ZQ.toNat) (Ys s m x.loc split)) s.q.mm;simp only;omega
   ·simp only[Option.some.injEq]at hd
    subst hd;have h1:=Gj h.q hr hk hx s.q.rg s.q.mm;simp only;cases hb:s.bf[Zj m x.loc split]? with
    | none =>
     have e:s.bf.set (Zj m x.loc split) (s.bf.getD (Zj m x.loc split) []++[(x.loc,ZL s.q m x)])=s.bf:=List.set_eq_of_length_le (by simpa using hb);rw[e];omega
    | some b =>
     have h2:=CJ hb (s.bf.getD (Zj m x.loc split) []++[(x.loc,ZL s.q m x)]);simp only[List.getD_eq_getElem?_getD,hb,Option.getD_some,List.length_append,List.length_singleton]at h2 ⊢;omega
 ·obtain⟨l,v,rest,hb,rfl⟩:=Yu hn hm
  have h2:=CJ hb rest;simp only[List.length_cons]at h2;simp only[show Qo p ⟨s.q.pc,s.q.rg,s.q.mm.set l.toNat v⟩=Qo p s.q from rfl];omega
def Yf (p:List (List Ins)) (s:Bf):Bool:=s.bf.all List.isEmpty&&Yi p s.q
def Yq (s:Bf):List Int:=Kd s.q
def At (p:List (List Ins)) (t i:Nat) (x:Ins):Prop:=∃ r,p[t]? = some r∧r[i]? = some x
theorem At.row {p:List (List Ins)}{t i:Nat}{x:Ins}(h:At p t i x):(p.getD t [])[i]? = some x:=by
 obtain⟨r,h1,h2⟩:=h;rw[List.getD_eq_getElem?_getD,h1];exact h2
theorem At.lt {p:List (List Ins)}{t i:Nat}{x:Ins}(h:At p t i x):t < p.length:=by
 obtain⟨r,h1,h2⟩:=h;exact(List.getElem?_eq_some_iff.1 h1).1
theorem At.Ll {p:List (List Ins)}{t i:Nat}{x:Ins}(h:At p t i x):i < (p.getD t []).length:=(List.getElem?_eq_some_iff.1 h.row).1
theorem At.of {p:List (List Ins)}{t i:Nat}(ht:t < p.length) (hi:i < (p.getD t []).length):∃ x,At p t i x:=by
 obtain⟨r,hr⟩:∃ r,p[t]? = some r:=⟨_,List.getElem?_eq_getElem ht⟩
 rw[List.getD_eq_getElem?_getD,hr]at hi;exact⟨_,r,hr,List.getElem?_eq_getElem hi⟩
def Bd (p:List (List Ins)) (t i:Nat) (x:Ins):Prop:=At p t i x∧x.op≠4
def IQ (x y:Ins):Prop:=x.loc=y.loc∧(IZ x=true∨IZ y=true)
def Cf (p:List (List Ins)) (a b:Nat × Nat):Prop:=a.1≠b.1∧∃ x y,Bd p a.1 a.2 x∧Bd p b.1 b.2 y∧IQ x y
def Po (p:List (List Ins)) (a b:Nat × Nat):Prop:=a.1=b.1∧a.2 < b.2∧(∃ x,Bd p a.1 a.2 x)∧∃ y,Bd p b.1 b.2 y
inductive Vb (p:List (List Ins)):Nat × Nat→Nat × Nat→Prop
 | refl (a:Nat × Nat):Vb p a a
 | cf {a b c:Nat × Nat}(h:Cf p a b) (k:Vb p b c):Vb p a c
 | po {a b c:Nat × Nat}(h:Po p a b) (k:Vb p b c):Vb p a c
theorem Vb.trans {p:List (List Ins)}{a b c:Nat × Nat}(h:Vb p a b) (k:Vb p b c):Vb p a c:=by
 induction h with
 | refl a=>exact k
 | cf h _ ih=>exact .cf h (ih k)
 | po h _ ih=>exact .po h (ih k)
def Way (p:List (List Ins)) (a b:Nat × Nat):Prop:=∃ x y,Cf p a x∧Vb p x y∧Cf p y b
def Sep (p:List (List Ins)) (t i k:Nat):Prop:=∃ m x,i≤m∧m≤k∧At p t m x∧(x.op=4∨x.op=5)
def F3 (p:List (List Ins)) (t i k:Nat):Prop:=i < k∧(∃ x,Bd p t i x)∧(∃ y,Bd p t k y)∧Way p (t,k) (t,i)
theorem Ku {x:Ins}(h:Zg x=true):(x.op=1∨x.op=2∨x.op=3∨x.op=4∨x.op=5)∧(x.op≠4→0≤x.loc∧x.loc≤2)∧0≤x.ZQ∧x.ZQ≤2:=by
 unfold Zg Kj at h;split at h
 ·simp at h;omega
 ·split at h
  ·simp at h;omega
  ·split at h
   ·simp at h;omega
   ·split at h
    ·simp at h;omega
    ·cases h
def rr (r:List Ins) (f:Nat→Int):Nat→Nat→Int
 | 0,_=>0
 | k+1,g=>match r[k]? with
  | some x=>if Z8 x.op=true∧x.ZQ.toNat=g then f k else rr r f k g
  | none=>rr r f k g
def wv (p:List (List Ins)) (rv:Nat→Nat→Int) (t i:Nat):Int:=match (p.getD t [])[i]? with
 | some x=>if x.op=3 then rr (p.getD t []) (rv t) i x.ZQ.toNat else x.val
 | none=>0
def LP (p:List (List Ins)) (rv:Nat→Nat→Int) (key:Nat→Nat→Nat) (P:Nat→Nat→Ins→Prop) (v:Int):Prop:=
 (∃ u j y,Bd p u j y∧IZ y=true∧P u j y∧v=wv p rv u j∧∀ u' j' y',Bd p u' j' y'→IZ y'=true→P u' j' y'→key u' j'≤key u j) ∨
 (v=0∧∀ u j y,Bd p u j y→IZ y=true→P u j y→False)
structure Ord (p:List (List Ins)) (rv:Nat→Nat→Int) (key:Nat→Nat→Nat):Prop where
 inj:∀ t i x u j y,Bd p t i x→Bd p u j y→key t i=key u j→t=u∧i=j
 loc:∀ t i x k y,Bd p t i x→Bd p t k y→i < k→x.loc=y.loc→key t i < key t k
 sep:∀ t i x k y,Bd p t i x→Bd p t k y→i < k→Sep p t i k→key t i < key t k
 rd:∀ t i x,Bd p t i x→LR x=true→LP p rv key (fun u j y=>y.loc=x.loc∧key u j < key t i) (rv t i)
def Qn (s:Sq) (t:Nat):Nat:=(s.pc.getD t 0).toNat
theorem UG {l:List Int}{k:Nat}(h:k < l.length) (v d:Int):(l.set k v).getD k d=v:=by
 rw[List.getD_eq_getElem?_getD,List.getElem?_set,if_pos rfl,if_pos h];rfl
theorem Xf {l:List Int}{k j:Nat}(h:k≠j) (v d:Int):(l.set k v).getD j d=l.getD j d:=by
 rw[List.getD_eq_getElem?_getD,List.getElem?_set,if_neg h,List.getD_eq_getElem?_getD]
theorem Iv {α:Type}(R:α→α→Prop) (tr:∀ a b c,R a b→R b c→R a c) (ir:∀ a,¬ R a a):∀ l:List α,l≠[]→∃ m∈l,∀ x∈l,¬ R m x:=by
 intro l
 induction l with
 | nil=>intro h;exact absurd rfl h
 | cons a l ih =>
  intro _;cases l with
  | nil=>exact⟨a,Sm,fun x hx=>by simp at hx;subst hx;exact ir x⟩
  | cons b l =>
   obtain⟨m,hm,hx⟩:=ih Sm;by_cases e:R m a
   ·refine⟨a,Sm,fun x hx' => ?_⟩
    rcases List.mem_cons.1 hx' with q | q
    ·subst q;exact ir x
    ·intro g;exact hx x q (tr m a x e g)
   ·refine⟨m,List.mem_cons_of_mem _ hm,fun x hx' => ?_⟩
    rcases List.mem_cons.1 hx' with q | q
    ·subst q;exact e
    ·exact hx x q
theorem Iw {α:Type}(P:α→Prop) (f:α→Nat) (h:∃ a,P a):∃ a,P a∧∀ b,P b→f a≤f b:=by
 have key:∀ n a,P a→f a≤n→∃ a,P a∧∀ b,P b→f a≤f b:=by
  intro n
  induction n with
  | zero=>intro a ha hn;exact⟨a,ha,fun b _=>by omega⟩
  | succ n ih =>
   intro a ha hn;by_cases q:∃ b,P b∧f b < f a
   ·obtain⟨b,hb,hlt⟩:=q
    exact ih b hb Om
   ·exact⟨a,ha,fun b hb=>by
     rcases Nat.lt_or_ge (f b) (f a) with g | g
     ·exact absurd ⟨b,hb,g⟩ q
     ·exact g⟩
 obtain⟨a,ha⟩:=h;exact key (f a) a ha (Nat.le_refl _)
section
variable (p : List (List Ins)) (key : Nat → Nat → Nat) (s : Sq)
def Be (t u:Nat):Prop:=∃ j,Qn s u≤j∧Cf p (u,j) (t,Qn s t)∧key u j < key t (Qn s t)
inductive Xr:Nat→Nat→Prop
 | one {t u:Nat}(h:Be p key s t u):Xr t u
 | cons {t u v:Nat}(h:Be p key s t u) (k:Xr u v):Xr t v
end
theorem Xr.trans {p:List (List Ins)}{key:Nat→Nat→Nat}{s:Sq}{t u v:Nat}(h:Xr p key s t u) (k:Xr p key s u v):Xr p key s t v:=by
 induction h with
 | one h=>exact .cons h k
 | cons h _ ih=>exact .cons h (ih k)
theorem Xr.LJ {p:List (List Ins)}{key:Nat→Nat→Nat}{s:Sq}(hh:∀ t x,At p t (Qn s t) x→x.op≠4) {t u:Nat}(h:Xr p key s t u):∃ y,Vb p (u,Qn s u) y∧Cf p y (t,Qn s t):=by
 have first:∀ t u,Be p key s t u→∃ y,Vb p (u,Qn s u) y∧Cf p y (t,Qn s t):=fun t u h=>by
  obtain⟨j,hj,hc,hk⟩:=h;refine⟨(u,j),?_,hc⟩;rcases Nat.lt_or_ge (Qn s u) j with q | q
  ·obtain⟨-,y,-,hy,-,-⟩:=hc
   obtain⟨z,hz⟩:=At.of (p:=p) (t:=u) (i:=Qn s u) hy.1.lt (by have h1:=hy.1.Ll;simp only at h1;omega);exact .po (b:=(u,j)) ⟨rfl,q,⟨z,hz,hh u z hz⟩,y,hy⟩ (.refl _)
  ·obtain rfl:j=Qn s u:=Om
   exact .refl _
 induction h with
 | one h=>exact first _ _ h
 | cons h _ ih =>
  obtain⟨y,h1,h2⟩:=ih;obtain⟨z,h3,h4⟩:=first _ _ h;exact⟨z,h1.trans (.cf h2 h3),h4⟩
theorem source {p:List (List Ins)}{rv:Nat→Nat→Int}{key:Nat→Nat→Nat}{s:Sq}(od:Ord p rv key) (hd:∀ t i k,F3 p t i k→Sep p t i k)
 (hh:∀ t x,At p t (Qn s t) x→x.op≠4) (hne:∃ t x,At p t (Qn s t) x):∃ t x,At p t (Qn s t) x∧∀ u,¬ Be p key s t u:=by
 apply Classical.byContradiction;intro hno;have hb:∀ t x,At p t (Qn s t) x→∃ u,Be p key s t u:=fun t x hx=>Classical.byContradiction fun q=>hno ⟨t,x,hx,fun u g=>q ⟨u,g⟩⟩;have hat:∀ t u,Be p key s t u→∃ x,At p u (Qn s u) x:=fun t u h=>by
  obtain⟨j,hj,⟨-,y,-,hy,-,-⟩,-⟩:=h;exact At.of hy.1.lt (by have h1:=hy.1.Ll;simp only at h1;omega)
 have hcyc:∃ t,Xr p key s t t:=by
  apply Classical.byContradiction;intro hn;obtain⟨t0,x0,h0⟩:=hne;obtain⟨m,hm,hmax⟩:=Iv (Xr p key s) (fun a b c=>Xr.trans) (fun a h=>hn ⟨a,h⟩) ((List.range p.length).filter fun t=>decide (Qn s t < (p.getD t []).length)) (by
   intro e;have:t0∈(List.range p.length).filter fun t=>decide (Qn s t < (p.getD t []).length):=by
    rw[List.mem_filter];exact⟨List.mem_range.2 h0.lt,decide_eq_true h0.Ll⟩
   rw[e]at this;simp at this)
  rw[List.mem_filter]at hm;obtain⟨x,hx⟩:=At.of (List.mem_range.1 hm.1) (of_decide_eq_true hm.2);obtain⟨u,hu⟩:=hb m x hx;obtain⟨y,hy⟩:=hat m u hu;exact hmax u (by rw[List.mem_filter];exact⟨List.mem_range.2 hy.lt,decide_eq_true hy.Ll⟩) (.one hu)
 obtain⟨t,ht,hmin⟩:=Iw (fun t=>Xr p key s t t) (fun t=>key t (Qn s t)) hcyc;have hfin:∀ u,Be p key s t u→Xr p key s u t→False:=fun u h1 h2=>by
  have hu:=hmin u (h2.trans (.one h1));have h0:=h1;obtain⟨j,hj,hc,hk⟩:=h1;obtain⟨z,hz⟩:=hat t u h0;obtain⟨y,g1,g2⟩:=Xr.LJ hh (.one h0:Xr p key s t u);obtain⟨w,k1,k2⟩:=Xr.LJ hh h2;have hway:Way p (u,j) (u,Qn s u):=⟨(t,Qn s t),w,hc,k1,k2⟩
  obtain⟨-,e,-,he,-,-⟩:=hc;simp only at he;rcases Nat.lt_or_ge (Qn s u) j with q | q
  ·have hsep:=hd u (Qn s u) j ⟨q,⟨z,hz,hh u z hz⟩,⟨e,he⟩,hway⟩
   have:=od.sep u (Qn s u) z j e ⟨hz,hh u z hz⟩ he q hsep;omega
  ·obtain rfl:j=Qn s u:=Om
   omega
 cases ht with
 | one h =>
  obtain⟨j,hj,hc,hk⟩:=h;exact hc.1 rfl
 | cons h k=>exact hfin _ h k
theorem ZE.reach {p:List (List Ins)}{split:Bool}(hp:∀ r∈p,∀ x∈r,Zg x=true) {s:Bf}(h:Zx (Zn p split) (Zu p split) s):ZE p split s:=by
 induction h with
 | start=>exact ZE.start p split
 | step _ ht ih=>exact ih.next hp ht
def ZI (l:List (Int × Int)):List Int:=l.flatMap fun e=>[e.1,e.2]
def XO:List (List (Int × Int))→List Int
 | []=>[]
 | l :: ls=>255 :: (ZI l++XO ls)
def JL (s:Bf):List Int:=KT s.q++XO s.bf
theorem KD (ls:List (List (Int × Int))):XO ls=[]∨∃ r,XO ls=255 :: r:=by
 cases ls with
 | nil=>exact .inl rfl
 | cons l ls=>exact .inr ⟨_,rfl⟩
theorem Eu:∀ {l l':List (Int × Int)}{r r':List Int},(∀ e∈l,Y8 e)→(∀ e∈l',Y8 e)→(r=[]∨∃ q,r=255 :: q)→(r'=[]∨∃ q,r'=255 :: q)→ZI l++r=ZI l'++r'→l=l'∧r=r':=by
 intro l
 induction l with
 | nil =>
  intro l' r r' _ h2 hr _ he;cases l' with
  | nil=>exact⟨rfl,by simpa[ZI] using he⟩
  | cons e l' =>
   have h3:=h2 e Sm;simp only[ZI,List.flatMap_nil,List.nil_append,List.flatMap_cons,List.cons_append]at he;rcases hr with hr | ⟨q,hr⟩
   ·rw[hr]at he;cases he
   ·rw[hr]at he
    simp only[List.cons.injEq]at he;unfold Y8 at h3;omega
 | cons e l ih =>
  intro l' r r' h1 h2 hr hr' he;have h3:=h1 e Sm;cases l' with
  | nil =>
   simp only[ZI,List.flatMap_nil,List.nil_append,List.flatMap_cons,List.cons_append]at he;rcases hr' with hr' | ⟨q,hr'⟩
   ·rw[hr']at he;cases he
   ·rw[hr']at he
    simp only[List.cons.injEq]at he;unfold Y8 at h3;omega
  | cons e' l' =>
   simp only[ZI,List.nil_append,List.flatMap_cons,List.cons_append,List.cons.injEq]at he;obtain⟨a,b,c⟩:=he;obtain⟨h4,h5⟩:=ih (l':=l') (fun x hx=>h1 x (by simp[hx])) (fun x hx=>h2 x (by simp[hx])) hr hr' c;exact⟨by rw[h4,show e=e' from Prod.ext a b],h5⟩
theorem Bq:∀ {ls ls':List (List (Int × Int))},(∀ l∈ls,∀ e∈l,Y8 e)→(∀ l∈ls',∀ e∈l,Y8 e)→XO ls=XO ls'→ls=ls':=by
 intro ls
 induction ls with
 | nil =>
  intro ls' _ _ he;cases ls' with
  | nil=>rfl
  | cons l ls'=>simp[XO]at he
 | cons l ls ih =>
  intro ls' h1 h2 he;cases ls' with
  | nil=>simp[XO]at he
  | cons l' ls' =>
   simp only[XO,List.cons.injEq,true_and]at he;obtain⟨h3,h4⟩:=Eu (h1 l Sm) (h2 l' Sm) (KD ls) (KD ls') he;rw[h3,ih (fun x hx=>h1 x (by simp[hx])) (fun x hx=>h2 x (by simp[hx])) h4]
theorem CV {p:List (List Ins)}{split:Bool}{s s':Bf}(h:ZE p split s) (h':ZE p split s') (e:JL s=JL s'):s=s':=by
 unfold JL at e;have hl:(KT s.q).length=(KT s'.q).length:=by simp[KT,h.q.lp,h.q.lr,h.q.lm,h'.q.lp,h'.q.lr,h'.q.lm]
 have e1:=List.append_inj e hl;have h1:=DE h.q h'.q e1.1;have h2:=Bq h.en h'.en e1.2;cases s;cases s';simp only at h1 h2;rw[h1,h2]
theorem RL {p:List (List Ins)}{split:Bool}(hp:∀ r∈p,∀ x∈r,Zg x=true) (a b:Bf) (ha:Zx (Zn p split) (Zu p split) a) (hb:Zx (Zn p split) (Zu p split) b) (e:JL a=JL b):a=b:=
 CV (ZE.reach hp ha) (ZE.reach hp hb) e
theorem Gf {split:Bool}{t:Nat}{loc:Int}(h0:0≤loc) (h2:loc≤2):Zj t loc split / Yj split=t:=by
 cases split
 ·simp[Zj,Yj]
 ·simp only[Zj,Yj,if_true];omega
section
variable {S : Type} (b : Nat) (rank : S → Nat)
end
section
variable {S K : Type} {start : S} {next : S → Nat → Option S} {key : S → K} (done : S → Bool) (out : S → List Int) (n b : Nat) (rank : S → Nat) (tot : Nat)
variable {done out n b rank tot}
end
inductive Fd:List Ins→List Ins→Prop
 | nil:Fd [] []
 | keep {r r':List Ins}(x:Ins) (h:Fd r r'):Fd (x :: r) (x :: r')
 | drop {r r':List Ins}(x:Ins) (h4:x.op=4) (h:Fd r r'):Fd (x :: r) r'
theorem Fd.refl (r:List Ins):Fd r r:=by
 induction r with
 | nil=>exact .nil
 | cons x r ih=>exact .keep x ih
theorem Fd.snoc {r r':List Ins}(h:Fd r r') (x:Ins):Fd (r++[x]) (r'++[x]):=by
 induction h with
 | nil=>exact .keep x .nil
 | keep y _ ih=>exact .keep y ih
 | drop y h4 _ ih=>exact .drop y h4 ih
theorem Fd.Lh {r r':List Ins}(h:Fd r r') (x:Ins) (h4:x.op=4):Fd (r++[x]) r':=by
 induction h with
 | nil=>exact .drop x h4 .nil
 | keep y _ ih=>exact .keep y ih
 | drop y h4 _ ih=>exact .drop y h4 ih
def Gs (r r':List Ins) (k k':Nat):Prop:=∃ a b a' b',r=a++b∧r'=a'++b'∧a.length=k∧a'.length=k'∧Fd a a'∧Fd b b'
theorem Gs.zero {r r':List Ins}(h:Fd r r'):Gs r r' 0 0:=⟨[],r,[],r',rfl,rfl,rfl,rfl,.nil,h⟩
theorem Gs.next {r r':List Ins}{k k':Nat}(h:Gs r r' k k') {x:Ins}(hx:r[k]? = some x):(r'[k']? = some x∧Gs r r' (k+1) (k'+1))∨(x.op=4∧Gs r r' (k+1) k'):=by
 obtain⟨a,b,a',b',rfl,rfl,rfl,rfl,h1,h2⟩:=h;rw[List.getElem?_append_right (Nat.le_refl _),Nat.sub_self]at hx;cases h2 with
 | nil=>simp at hx
 | keep y h3 =>
  simp only[List.getElem?_cons_zero,Option.some.injEq]at hx;subst hx;exact .inl ⟨Sm,_,_,_,_,List.append_cons ..,List.append_cons ..,Sm,Sm,h1.snoc y,h3⟩
 | drop y h4 h3 =>
  simp only[List.getElem?_cons_zero,Option.some.injEq]at hx;subst hx;exact .inr ⟨h4,_,_,_,_,List.append_cons ..,rfl,Sm,rfl,h1.Lh y h4,h3⟩
theorem Fd.EB {r':List Ins}(h:Fd [] r'):r'=[]:=by cases h;rfl
theorem Gs.fin {r r':List Ins}{k':Nat}(h:Gs r r' r.length k'):k'=r'.length:=by
 obtain⟨a,b,a',b',rfl,rfl,h1,rfl,-,h2⟩:=h;rw[List.length_append]at h1;obtain rfl:b=[]:=List.eq_nil_of_length_eq_zero Om;rw[h2.EB];simp
def Hv (p q:List (List Ins)):Prop:=p.length=q.length∧∀ (t:Nat) (r r':List Ins),p[t]? = some r→q[t]? = some r'→Fd r r'
def IC (p q:List (List Ins)) (s s':Sq):Prop:=s'.rg=s.rg∧s'.mm=s.mm∧∀ t,t < p.length→Gs (p.getD t []) (q.getD t []) (Qn s t) (Qn s' t)
theorem getD_some {α:Type}{l:List (List α)}{t:Nat}{r:List α}(h:l[t]? = some r):l.getD t []=r:=by rw[List.getD_eq_getElem?_getD,h];rfl
theorem IC.start {p q:List (List Ins)}(h:Hv p q):IC p q (Yo p) (Yo q):=by
 have hz:∀ p t,Qn (Yo p) t=0:=fun p t=>by
  unfold Qn Yo;rw[List.getD_eq_getElem?_getD,List.getElem?_replicate];split <;> rfl
 refine⟨by simp[Yo,h.1],rfl,fun t ht => ?_⟩;rw[hz,hz];have h1:=List.getElem?_eq_getElem ht;have h2:=List.getElem?_eq_getElem (l:=q) (i:=t) (by rw[← h.1];exact ht);exact .zero (h.2 t _ _ (by rw[getD_some h1];exact h1) (by rw[getD_some h2];exact h2))
theorem Cx {s s1:Bf}{split:Bool}{t:Nat}{k:Int}{x:Ins}(h:YR s split t k x=some s1):s1.q.pc=s.q.pc.set t (k+1):=by
 unfold YR at h;split at h
 ·split at h
  ·cases h;rfl
  ·cases h
 ·split at h
  ·cases h;rfl
  ·cases h;rfl
theorem CT {s s1 s':Bf}{split:Bool}{t:Nat}{k k':Int}{x:Ins}(hb:s'.bf=s.bf) (hr:s'.q.rg=s.q.rg) (hm:s'.q.mm=s.q.mm) (h:YR s split t k x=some s1) :
 ∃ s1',YR s' split t k' x=some s1'∧s1'.bf=s1.bf∧s1'.q.rg=s1.q.rg∧s1'.q.mm=s1.q.mm:=by
 obtain⟨⟨pc,rg,mm⟩,bf⟩:=s;obtain⟨⟨pc',rg',mm'⟩,bf'⟩:=s';simp only at hb hr hm;subst hb;subst hr;subst hm;have e1:ZZ ⟨⟨pc',rg',mm'⟩,bf'⟩ t split=ZZ ⟨⟨pc,rg',mm'⟩,bf'⟩ t split:=rfl;have e2:∀ t l,Ys ⟨⟨pc',rg',mm'⟩,bf'⟩ t l split=Ys ⟨⟨pc,rg',mm'⟩,bf'⟩ t l split:=fun _ _=>rfl;have e3:∀ t x,ZL ⟨pc',rg',mm'⟩ t x=ZL ⟨pc,rg',mm'⟩ t x:=fun _ _=>rfl;unfold YR at h ⊢;by_cases h45:x.op=4∨x.op=5
 ·rw[if_pos h45]at h ⊢
  rw[e1];split at h
  ·rename_i he
   rw[if_pos he];cases h;exact⟨_,rfl,rfl,rfl,rfl⟩
  ·cases h
 ·rw[if_neg h45]at h ⊢
  by_cases h1:x.op=1
  ·rw[if_pos h1]at h ⊢
   cases h;exact⟨_,rfl,rfl,rfl,rfl⟩
  ·rw[if_neg h1]at h ⊢
   cases h;exact⟨_,rfl,rfl,rfl,rfl⟩
theorem CD {s:Sq}{t:Nat}{k:Int}(hk:s.pc[t]? = some k) (h0:0≤k) {s1:Sq}(h1:s1.pc=s.pc.set t (k+1)) (u:Nat):Qn s1 u=if u=t then Qn s t+1 else Qn s u:=by
 have hg:s.pc.getD t 0=k:=by rw[List.getD_eq_getElem?_getD,hk];rfl
 have ht:=(List.getElem?_eq_some_iff.1 hk).1;unfold Qn;rw[h1,hg];by_cases e:u=t
 ·subst e
  rw[if_pos rfl,UG ht];omega
 ·rw[if_neg e,Xf (fun q=>e q.symm)]
theorem F9 {p q:List (List Ins)}{split:Bool}(hp:∀ r∈p,∀ x∈r,Zg x=true) (hq:∀ r∈q,∀ x∈r,Zg x=true) (hpq:Hv p q) {s:Bf}(h:Zx (Zn p split) (Zu p split) s) :
 ∃ s',Zx (Zn q split) (Zu q split) s'∧s'.bf=s.bf∧IC p q s.q s'.q:=by
 induction h with
 | start=>exact⟨_,.start,by simp[Zn,hpq.1],IC.start hpq⟩
 | step hs ht ih =>
  rename_i s s1 m;obtain⟨s',h1,h2,h3,h4,h5⟩:=ih;have ho:=ZE.reach hp hs;have ho':=ZE.reach hq h1;by_cases hm:m < p.length
  ·obtain⟨r,k,x,hr,hk,hx,hd⟩:=Yw ht hm
   obtain⟨r',hr'⟩:∃ r',q[m]? = some r':=⟨_,List.getElem?_eq_getElem (by rw[← hpq.1];exact hm)⟩
   obtain⟨k',hk'⟩:∃ k',s'.q.pc[m]? = some k':=⟨_,List.getElem?_eq_getElem (by rw[ho'.q.lp,← hpq.1];exact hm)⟩
   have hk0:=(ho.q.pc m k r hk hr).1;have hk0':=(ho'.q.pc m k' r' hk' hr').1;have hn:Qn s.q m=k.toNat:=by unfold Qn;rw[List.getD_eq_getElem?_getD,hk];rfl
   have hn':Qn s'.q m=k'.toNat:=by unfold Qn;rw[List.getD_eq_getElem?_getD,hk'];rfl
   have hat:=h5 m hm;rw[getD_some hr,getD_some hr',hn,hn']at hat;have hpc:=CD hk hk0 (Cx hd);rcases hat.next hx with⟨g1,g2⟩ | ⟨g1,g2⟩
   ·obtain⟨s1',f1,f2,f3,f4⟩:=CT (k':=k') h2 h3 h4 hd
    have hpc':=CD hk' hk0' (Cx f1);refine⟨s1',.step (i:=m) h1 ?_,f2,f3,f4,fun t htl => ?_⟩
    ·unfold Zu
     rw[if_pos (by rw[← hpq.1];exact hm),hr',hk'];simp only[g1];exact f1
    ·rw[hpc,hpc']
     by_cases e:t=m
     ·subst e
      rw[if_pos rfl,if_pos rfl,getD_some hr,getD_some hr',hn,hn'];exact g2
     ·rw[if_neg e,if_neg e]
      exact h5 t htl
   ·unfold YR at hd
    rw[if_pos (.inl g1)]at hd;split at hd
    ·simp only[Option.some.injEq]at hd
     subst hd;refine⟨s',h1,h2,?_,?_,fun t htl => ?_⟩
     ·rw[h3];simp[Yy,g1,Z8]
     ·rw[h4];simp[Yy,g1,ZF]
     ·rw[hpc]
      by_cases e:t=m
      ·subst e
       rw[if_pos rfl,getD_some hr,getD_some hr',hn,hn'];exact g2
      ·rw[if_neg e]
       exact h5 t htl
    ·cases hd
  ·obtain⟨l,v,rest,hb,rfl⟩:=Yu ht hm
   refine⟨⟨⟨s'.q.pc,s'.q.rg,s'.q.mm.set l.toNat v⟩,s'.bf.set (m - p.length) rest⟩,.step (i:=m) h1 ?_,by rw[h2],h3,by simp only;rw[h4],h5⟩;unfold Zu;rw[if_neg (by rw[← hpq.1];exact hm),← hpq.1,h2,hb]
theorem IC.done {p q:List (List Ins)}(hpq:Hv p q) {s s':Sq}(h:IC p q s s') (hd:∀ t,t < p.length→Qn s t=(p.getD t []).length):∀ t,t < q.length→Qn s' t=(q.getD t []).length:=fun t ht=>by
 have h1:=h.2.2 t (by rw[hpq.1];exact ht);rw[hd t (by rw[hpq.1];exact ht)]at h1;exact h1.fin
theorem FC {p:List (List Ins)}{s:Sq}(ho:Xu p s) (h:∀ t,t < p.length→Qn s t=(p.getD t []).length):Yi p s=true:=by
 unfold Yi;rw[List.all_eq_true];intro t ht;have htl:=List.mem_range.1 ht;have h1:=h t htl;obtain⟨k,hk⟩:∃ k,s.pc[t]? = some k:=⟨_,List.getElem?_eq_getElem (by rw[ho.lp];exact htl)⟩
 have h0:=(ho.pc t k p[t] hk (List.getElem?_eq_getElem htl)).1;have e:s.pc.getD t 0=k:=by rw[List.getD_eq_getElem?_getD,hk,Option.getD_some]
 unfold Qn at h1;simp only[decide_eq_true_eq];rw[e]at h1 ⊢;omega
theorem Eo {p:List (List Ins)}{s:Sq}(ho:Xu p s) (hd:Yi p s=true) (t:Nat) (ht:t < p.length):Qn s t=(p.getD t []).length:=by
 unfold Yi at hd;have h1:=List.all_eq_true.1 hd t (List.mem_range.2 ht);simp only[decide_eq_true_eq]at h1;obtain⟨k,hk⟩:∃ k,s.pc[t]? = some k:=⟨_,List.getElem?_eq_getElem (by rw[ho.lp];exact ht)⟩
 obtain⟨r,hr⟩:∃ r,p[t]? = some r:=⟨_,List.getElem?_eq_getElem ht⟩
 have h0:=ho.pc t k r hk hr;have e:s.pc.getD t 0=k:=by rw[List.getD_eq_getElem?_getD,hk,Option.getD_some]
 have e2:p.getD t []=r:=getD_some hr;unfold Qn;rw[e]at h1 ⊢;rw[e2]at h1 ⊢;omega
theorem RP {p q:List (List Ins)}{split:Bool}(hp:∀ r∈p,∀ x∈r,Zg x=true) (hq:∀ r∈q,∀ x∈r,Zg x=true) (hpq:Hv p q) {o:List Int}
 (h:∃ s,Zx (Zn p split) (Zu p split) s∧Yf p s=true∧Yq s=o):∃ s,Zx (Zn q split) (Zu q split) s∧Yf q s=true∧Yq s=o:=by
 obtain⟨s,h1,h2,h3⟩:=h;obtain⟨s',k1,k2,k3⟩:=F9 hp hq hpq h1;have ho:=ZE.reach hp h1;have ho':=ZE.reach hq k1;unfold Yf at h2;rw[Bool.and_eq_true]at h2;refine⟨s',k1,?_,?_⟩
 ·unfold Yf
  rw[Bool.and_eq_true,k2];exact⟨h2.1,FC ho'.q (k3.done hpq (Eo ho.q h2.2))⟩
 ·rw[← h3]
  unfold Yq Kd;rw[k3.1,k3.2.1]
end Go.Proofs.YtngekjpklkjnbaaGreat
/-
  The program's lists of so many places. Condition: at most eight places.
-/
import Derived.Test.YtngekjpklkjnbaaGreatZp13
import Derived.Test.YtngekjpklkjnbaaGreatZp12
set_option maxHeartbeats 6400000
set_option maxRecDepth 100000
namespace Go.Proofs.YtngekjpklkjnbaaGreat
open Go.RowKit
def Ie (d:Dd) (W:World) (u:Zs) (x:List Gp):Prop:=Own ZZ 25 W d.lo u.v x∧∀ q,u.v.ownBlock=some q→q < d.hi
abbrev Y7 (w:World) (base:Nat) (v:Value) (L:List (List Gp)):Prop:=Qx Z2 33 Lp Ie w base v L
theorem Ie.loc {w:World}{lo:Nat}{u:Zs}{x:List Gp}(h:Own ZZ 25 w lo u.v x):Jd 33 lo w.heap.size w (fun W=>Ie ⟨lo,w.heap.size,[]⟩ W u x):=
 (Jd.own Dc h).map fun _ k=>⟨k,fun q hq=>(World.ownsRow.lt h q hq).2⟩
theorem Y7.row {w:World}{base:Nat}{a:Option Addr}{n c:Nat}{L:List (List Gp)}(h:Y7 w base (.slice a n c) L) {k:Nat}{r:List Gp}(hr:L[k]? = some r) :
 ∃ (u:Zs) (g:Nat),a=some ⟨g,0,none⟩∧g < w.heap.size∧w.cell? ⟨g,k,none⟩=some (.slice u.a u.n u.cap)∧Own ZZ 25 w base u.v r:=by
 obtain⟨us,ds,h⟩:=h;obtain⟨u,d,g,-,-,h1,-,h2,h3,hd,h4⟩:=h.at hr;have h5:=h3 0 _ rfl;simp only[Z2,Nat.mul_one,Nat.add_zero]at h5;exact⟨u,g,h1,h2,h5,h4.now.1.mono hd⟩
theorem Y7.app {us:List Zs}{ds:List Dd}{w w1 w2:World}{base lo:Nat}{v v':Value}{L:List (List Gp)}(h:Q4 Z2 33 Lp Ie us ds w base v L) (hb:Below w.heap.size w w1) (hbase:base≤w.heap.size) {r:List Gp}{s:Zs}{ob:Obj}
 (hlo:lo=w.heap.size) (hu:Own ZZ 25 w1 lo s.v r) (ho:Own Z2 33 w2 base v' (us++[s])) (hg:(w1.alloc ob).grownBy w2 v.ownBlock):Y7 w2 base v' (L++[r]):=by
 subst hlo;have hba:=(Below.refl w1.heap.size w1).alloc (Nat.le_refl _) ob;have hd:=h.hi;exact⟨us++[s],ds++[⟨w.heap.size,w1.heap.size,[]⟩],Q4.app (d:=⟨w.heap.size,w1.heap.size,[]⟩) ((h.below hb).below hba) ho hg hbase ((Ie.loc hu).below hba) (fun d' h'=>(hd d' h':d'.hi≤w.heap.size))⟩
theorem Y7.one (w:World) (s:Zs) (w1:World) (hb:Below w.heap.size w w1) (h0:Own ZZ 25 w1 w.heap.size s.v []):Y7 (w1.alloc (.cells #[.slice s.a s.n s.cap] 33)) w.heap.size (.slice (some ⟨w1.heap.size,0,none⟩) 1 1) [[]]:=by
 have h1:=Own.Mk (E:=Z2) (T:=33) w1 (base:=w.heap.size) hb.size s;refine⟨[s],[⟨w.heap.size,w1.heap.size,[]⟩],rfl,rfl,Sm,h1,fun i u d x h2 h3 h4 => ?_⟩;cases i with
 | succ i=>simp at h2
 | zero =>
  simp at h2 h3 h4;subst h2;subst h3;subst h4;exact⟨Nat.le_refl _,(Ie.loc h0).below ((Below.refl _ w1).alloc (Nat.le_refl _) (.cells (Z2.c s).toArray 33))⟩
theorem ZC.PE {α:Type}{E:El α}{w:World}{b o n c:Nat}{xs:List α}(h:ZC E w (.slice (some ⟨b,o,none⟩) n c) xs) {k:Nat}(hk:k≤xs.length):ZC E w (.slice (some ⟨b,o+k * E.sz,none⟩) (n - k) (c - k)) (xs.drop k):=by
 obtain⟨a',c',hv,h1,h2,h3⟩:=h;simp only[Value.slice.injEq]at hv;obtain⟨rfl,rfl,rfl⟩:=hv;refine⟨some ⟨b,o+k * E.sz,none⟩,c - k,by rw[List.length_drop],by rw[List.length_drop];omega,Om,fun i x hx => ?_⟩;rw[List.getElem?_drop]at hx;obtain⟨b',o',hb,h4⟩:=h3 (k+i) x hx;simp only[Option.some.injEq,Addr.mk.injEq,and_true]at hb;obtain⟨rfl,rfl⟩:=hb;refine⟨b,o+k * E.sz,rfl,fun j u hu => ?_⟩;have h5:=h4 j u hu;rw[show o+k * E.sz+i * E.sz+j=o+(k+i) * E.sz+j by rw[Nat.add_mul];omega];exact h5
theorem ZC.Fv {α:Type}{E:El α}{w:World}{b o n c:Nat}{xs:List α}(h:ZC E w (.slice (some ⟨b,o,none⟩) n c) xs) {k:Nat}(hk:k≤xs.length):ZC E w (.slice (if c=k then some ⟨b,o,none⟩ else some ⟨b,o+k * E.sz,none⟩) (n - k) (c - k)) (xs.drop k):=by
 split
 ·rename_i hc
  obtain⟨a',c',hv,h1,h2,h3⟩:=h;simp only[Value.slice.injEq]at hv;obtain⟨rfl,rfl,rfl⟩:=hv;refine⟨_,_,by rw[List.length_drop],by rw[List.length_drop];omega,Om,fun i x hx => ?_⟩;rw[List.getElem?_eq_none (by rw[List.length_drop];omega)]at hx;cases hx
 ·exact h.PE hk
theorem Tryz.DZ:(Tryz.prog.info? 33).map (fun i=>(i.zero,i.size,i.bytes))=some (some (.slice none 0 0),1,24):=Kr
theorem Cr (n:Nat):∀ (v:Value) (gs:List Gp) (w:World),n≤1000→gs.length≤8→ZC ZZ w v gs →
 Calls Tryz.prog 41 #[v,.int .i64 (n:Int)] w fun e w' => ∃ u:Zs,e = .returned (.slice u.a u.n u.cap)∧Y7 w' w.heap.size u.v (Zn gs n)∧Below w.heap.size w w':=by
 induction n with
 | zero =>
  intro v gs w _ hl he;obtain⟨a,c,rfl,-,-,-,-⟩:=he.open;rw[YB];go_enter Tryz.func41,Tryz.ntmps41;go_wp2_with fail;go_ret;have hb1:=(Below.refl w.heap.size w).alloc (Nat.le_refl _) (.cells #[] 25);have h0:=Own.empty (E:=ZZ) 25 w (Nat.le_refl _);have h1:=Y7.one w ⟨some ⟨w.heap.size,0,none⟩,0,0⟩ _ hb1 h0;have hz:(w.alloc (.cells #[] 25)).heap.size=w.heap.size+1:=by simp
  rw[hz]at h1;exact⟨⟨some ⟨w.heap.size+1,0,none⟩,1,1⟩,rfl,h1,hb1.alloc Om _⟩
 | succ n ih =>
  intro v gs w hn hl he;have HI:=Za (fun v ys w' h h'=>ih v ys w' Om h h');have HPS:=Za (fun (k:Nat) (g:Gp) (h:gs[k]? = some g)=>Vj (n:=n) h);have HPL:=Za (fun k (hk:k≤gs.length)=>Nat.le_trans (VS (n:=n) hk) (Nat.le_trans (Nat.pow_le_pow_right Dc hl) (by decide:2 ^ 8≤256)));have HP0:Hid (ZQ gs n 0=[]):=Za rfl;have HPE:Hid (Zn gs (n+1)=ZQ gs n gs.length):=Za (JS n gs);have HE:=Za he;obtain⟨a,c,rfl,hnc,-,-,-⟩:=he.open;have HL:=Za hl;have HNN:Hid (n≤1000):=Za Om;clear he ih;have hne:(((n+1:Nat):Int)==0)=false:=So;have HI2:Hid (∀ v ys w',ys.length≤8→ZC ZZ w' v ys→Calls Tryz.prog 41 #[v,.int .i64 (((n+1:Nat):Int) - 1)] w' fun e w'' => ∃ u:Zs,e = .returned (.slice u.a u.n u.cap)∧Y7 w'' w'.heap.size u.v (Zn ys n)∧Below w'.heap.size w' w''):=Za (fun v ys w' h h'=>by
   have e:((n+1:Nat):Int) - 1=(n:Int):=Om;rw[e];exact HI.out v ys w' h h')
  generalize Zn gs (n+1)=R at *;generalize hm:n+1=m at *;have hm1:(1:Int)≤(m:Int):=Om;have hm2:(m:Int)≤1001:=Om;generalize hgl:gs.length=gl at *;have HGL:=Za hgl;clear hm hgl HI;go_enter Tryz.func41,Tryz.ntmps41;go_wp2_with fail
  go_loopw [5,6] (fun s i wr => ∃ k:Nat,k≤gl∧i = .int .i64 k∧Y7 wr w.heap.size s (ZQ gs n k)∧Below w.heap.size w wr) (fun _ i _=>gl - (intOf i).toNat)
  case atStart=>exact⟨0,Nat.zero_le _,rfl,by rw[HP0.out];exact Qx.empty _ w (Nat.le_refl _),(Below.refl _ _).alloc (Nat.le_refl _) _⟩
  case round =>
   obtain⟨k,hk,rfl,hrows,hbr⟩:=hrel;by_cases hlt:k < gl
   ·obtain⟨g,hgk⟩:=Zd (xs:=gs) (k:=k) (by rw[HGL.out];exact hlt)
    have hltk:=Zh hlt;have PS:=Za (HPS.out k g hgk);have PL:=Za (HPL.out k hk);generalize ZQ gs n k=G at *;have HEr:=HE.out.below hbr;obtain⟨b,o,hbo,hbl,f0,f1⟩:=HE.out.I4 hgk;subst hbo;have f0:=(hbr.cell (p:=⟨b,o+k * 2,none⟩) hbl).trans f0;have f1:=(hbr.cell (p:=⟨b,o+k * 2+1,none⟩) hbl).trans f1;have hbf:=Nat.lt_of_lt_of_le hbl hbr.size;have T2:=HEr.Fv (k:=k+1) (by rw[HGL.out];exact hlt);rw[show ZZ.sz=2 from rfl]at T2;have HYL:Hid ((gs.drop (k+1)).length≤8):=Za (by rw[List.length_drop,HGL.out];omega);have hgc:(gl:Int)≤(c:Int):=Om;have hkm:(k:Int)+1≤(gl:Int):=Om;have hk0:(0:Int)≤(k:Int)+1:=Om;have hkt:((k:Int)+1).toNat=k+1:=Om;have hgl8:(gl:Int)≤8:=Om;have HROW:=Za (fun r (hr:r∈Zn (gs.drop (k+1)) n)=>Jl _ n r hr);have HRLN:Hid ((Zn (gs.drop (k+1)) n).length≤256):=Za (Nat.le_trans (Qr _ n) (Nat.le_trans (Nat.pow_le_pow_right Dc HYL.out) (by decide:2 ^ 8≤256)));generalize hys:gs.drop (k+1)=ys at *;clear hys
    go_upto_region 7 with fail
    go_cut [7] (fun s7 W => ∃ f:Zs,s7 = .slice f.a f.n f.cap∧Y7 W wr.heap.size f.v (Zn ys n)∧Below wr.heap.size wr W)
    case first =>
     by_cases hck:c=k+1
     ·rw[if_pos hck]at T2
      subst hck;obtain rfl:gl=k+1:=Om;rw[Nat.sub_self]at T2;have HC:=Za (HI2.out _ ys wr HYL.out T2);clear T2;go_wp2_with fail
      (with_reducible refine HC.out.mono ?_);rintro e w8 ⟨⟨ra,rn,rc⟩,rfl,ou,hb8⟩
      have F:=Za (⟨⟨ra,rn,rc⟩,rfl,ou,hb8⟩:∃ f:Zs,Value.slice ra rn rc = .slice f.a f.n f.cap∧Y7 w8 wr.heap.size f.v (Zn ys n)∧Below wr.heap.size wr w8);clear ou hb8;go_wp2_with fail;go_meet;exact F.out
     ·rw[if_neg hck]at T2
      have HC:=Za (HI2.out _ ys wr HYL.out T2);clear T2;go_wp2_with fail
      (with_reducible refine HC.out.mono ?_);rintro e w8 ⟨⟨ra,rn,rc⟩,rfl,ou,hb8⟩
      have F:=Za (⟨⟨ra,rn,rc⟩,rfl,ou,hb8⟩:∃ f:Zs,Value.slice ra rn rc = .slice f.a f.n f.cap∧Y7 w8 wr.heap.size f.v (Zn ys n)∧Below wr.heap.size wr w8);clear ou hb8;go_wp2_with fail;go_meet;exact F.out
    case rest =>
     obtain⟨⟨ra,rn,rc⟩,rfl,ou,hb8⟩:=hcut;generalize wc=w8 at *;obtain⟨W0,hW0⟩:∃ W0,W0=wr:=⟨_,rfl⟩
     subst hW0;generalize Zn ys n=RR at *;have hrn:rn=RR.length:=by
      rcases ou.shape with⟨h1,h2⟩ | ⟨g,cap,h1,-⟩
      ·simp only[Zs.v,Value.slice.injEq]at h1;rw[h1.2.1,h2];rfl
      ·simp only[Zs.v,Value.slice.injEq]at h1;exact h1.2.1
     have HRN:Hid (RR.length=rn):=Za hrn.symm;have hrb:rn≤256:=by have:=HRLN.out;omega
     have HRS:=Za ou;have HQ8:Hid (∀ q,(Zs.v ⟨ra,rn,rc⟩).ownBlock=some q→W0.heap.size≤q∧q < w8.heap.size):=Za (fun q hq=>by
      obtain⟨us,ds,hU⟩:=ou;exact World.ownsRow.lt hU.own q hq)
     have HR8:=Za (Qx.below hrows hb8);have HB8:=Za (hbr.trans (hb8.mono hbr.size));have hq3:∀ q,u5.ownBlock=some q→q < W0.heap.size:=fun q hq=>by
      obtain⟨us,ds,hU⟩:=hrows;exact(World.ownsRow.lt hU.own q hq).2
     have HQ3:=Za hq3;have F0:=Za ((hb8.cell (p:=⟨b,o+k * 2,none⟩) hbf).trans f0);have F1:=Za ((hb8.cell (p:=⟨b,o+k * 2+1,none⟩) hbf).trans f1);have h78:=hb8.size;have hbl8:=Nat.lt_of_lt_of_le hbf hb8.size;have HZ:=Za hbr.size;clear ou hb8 hrn hq3 f0 f1 T2 hrows hbr HEr hkm hk0 hkt hgc hgl8;go_wp2_with fail
     go_loopw [5,8] (fun s i wr2 => ∃ j:Nat,j≤rn∧i = .int .i64 j∧Y7 wr2 w.heap.size s (G++(RR.take j).map (g :: ·))∧Y7 wr2 W0.heap.size (.slice ra rn rc) RR∧Hid (∀ q,s.ownBlock=some q→q < W0.heap.size∨w8.heap.size≤q)∧Below w.heap.size w wr2∧Hid (wr2.cell? ⟨b,o+k * 2,none⟩=some (.int .i64 g.t)∧wr2.cell? ⟨b,o+k * 2+1,none⟩=some (.int .i64 g.i))∧w8.heap.size≤wr2.heap.size) (fun _ i _=>rn - (intOf i).toNat)
     case atStart=>exact⟨0,Nat.zero_le _,rfl,by rw[List.take_zero,List.map_nil,List.append_nil];exact HR8.out,HRS.out,Za (fun q hq => .inl (HQ3.out q hq)),HB8.out,Za ⟨F0.out,F1.out⟩,Nat.le_refl _⟩
     case round =>
      obtain⟨j,hj,rfl,hrows,hrest,hsq,hbr,hfc,hsz⟩:=hrel;by_cases hltj:j < rn
      ·obtain⟨r,hrj⟩:=Zd (xs:=RR) (k:=j) (by rw[HRN.out];exact hltj)
       have hltj':=Zh hltj;obtain⟨f0,f1⟩:=hfc.out;have hbf:=Zb f0;obtain⟨⟨sa,sn,sc⟩,gg,hga,hg,g0,hrep⟩:=Y7.row hrest hrj;subst hga;have hgq:=HQ8.out gg rfl;have RS:Hid (G++(RR.take (j+1)).map (g :: ·)=(G++(RR.take j).map (g :: ·))++[g :: r]):=Za (by rw[Vq (g :: ·) hrj,List.append_assoc]);have hrl:=HROW.out r (List.mem_of_getElem? hrj);have hlen:(G++(RR.take j).map (g :: ·)).length≤68719476736:=by
        rw[List.length_append,List.length_map,List.length_take];have:=PL.out;have:=HRN.out;omega
       have hn1:([g]:List Gp).length+r.length≤68719476736:=by have:=HNN.out;simp;omega
       obtain⟨gt,gi⟩:=g;simp only at f0 f1;have HRP:=Za (hrep.rep.below ((Below.refl wr.heap.size wr).alloc (Nat.le_refl _) (.cells #[.int .i64 gt,.int .i64 gi] 25)).drew);obtain⟨us,ds,hU⟩:=hrows;have HUL:Hid (us.length≤68719476736):=Za (by rw[hU.lu];exact hlen);have HU:=Za hU;have HBR2:=Za hbr;have HRS2:=Za hrest;have HLT:Hid (Own ZZ 25 (wr.alloc (.cells #[.int .i64 gt,.int .i64 gi] 25)).drew wr.heap.size (.slice (some ⟨wr.heap.size,0,none⟩) 1 1) [⟨gt,gi⟩]):=Za (Own.Mk (E:=ZZ) (T:=25) wr (Nat.le_refl _) ⟨gt,gi⟩);have hbs:w.heap.size≤wr.heap.size:=hbr.size;have HQ7:Hid (∀ q,u5.ownBlock=some q→w.heap.size≤q∧q≠gg∧q < wr.heap.size):=Za (fun q hq=>⟨(World.ownsRow.lt hU.own q hq).1,by have:=hsq.out q hq;omega,(World.ownsRow.lt hU.own q hq).2⟩);generalize G++(RR.take j).map ((⟨gt,gi⟩:Gp) :: ·)=GG at *;clear hrj hrep hbr hrl hU hlen hrest hfc;go_wp2_with fail
       go_region_held3 (fun V=>V.cell? ⟨b,o+k * 2,none⟩=some (.int .i64 gt)∧V.cell? ⟨b,o+k * 2+1,none⟩=some (.int .i64 gi)∧V.cell? ⟨gg,j,none⟩=some (.slice sa sn sc)) ((simp[go_sem, *]))
        (first
         | (refine JN ZZ 25 Tryz.Jn rfl Tryz.underlying33 wr.heap.size _ [⟨gt,gi⟩] r _ HLT.out HRP.out Dc hn1 Sm Rf _ _ Rf Rf Rf ?_;intro v6 w6 hown6 hgr6;obtain⟨⟨a6,n6,c6⟩,rfl,-⟩:=hown6.Yy;have O6:=Za hown6;have hk6:(∀ o,w6.cell? ⟨b,o,none⟩=wr.cell? ⟨b,o,none⟩):=(Cm hgr6 hbf (fun q hq=>by simp[Value.ownBlock]at hq;omega));have hk7:(∀ o,w6.cell? ⟨gg,o,none⟩=wr.cell? ⟨gg,o,none⟩):=(Cm hgr6 hg (fun q hq=>by simp[Value.ownBlock]at hq;omega));have B6:=Za (Un hgr6);have hb6:=B6.out.size;have hz6:b < w6.heap.size:=(Nat.lt_of_lt_of_le hbf hb6);have hz7:gg < w6.heap.size:=(Nat.lt_of_lt_of_le hg hb6);clear hown6 hgr6)
         | (refine Lb Z2 33 Tryz.DZ rfl Tryz.underlying61 w.heap.size _ us ⟨a6,n6,c6⟩ ((HU.out.own.below B6.out).alloc _) Dc HUL.out So Rf _ _ Rf Rf w6.heap.size 0 1 Rf Zk ?_;intro v8 w9 hown8 hgr8 hv8;have hk8:(∀ o,w9.cell? ⟨b,o,none⟩=wr.cell? ⟨b,o,none⟩):=(fun o=>(Uu hgr8 Om (fun q hq=>by have:=HQ7.out q hq;omega) o).trans (hk6 o));have hk9:(∀ o,w9.cell? ⟨gg,o,none⟩=wr.cell? ⟨gg,o,none⟩):=(fun o=>(Uu hgr8 Om (fun q hq=>(HQ7.out q hq).2.1) o).trans (hk7 o))))
       have R8:=Y7.app HU.out B6.out hbs rfl O6.out hown8 hgr8;have B8:=(HBR2.out.trans (B6.out.mono hbs)).alloc Om (.cells #[.slice a6 n6 c6] 33);have B9:=B8.grown hgr8 So (fun q hq=>(HQ7.out q hq).1);have ba:=(Below.refl w6.heap.size w6).alloc (Nat.le_refl _) (.cells #[.slice a6 n6 c6] 33);have S9:=Qx.Xx (Qx.below (Qx.below HRS2.out B6.out) ba) ((HU.out.own.below B6.out).below ba) hgr8 (.inr fun e=>(HQ7.out gg e.symm).2.1 rfl);have hs9:=hgr8.size;simp only[World.size_alloc]at hs9 hv8;have hq9:∀ q,v8.ownBlock=some q→q < W0.heap.size∨w8.heap.size≤q:=fun q hq=>by
        rcases hv8 with h | h
        ·rw[h]at hq;exact hsq.out q hq
        ·rw[h]at hq;simp at hq;omega
       have HQ9:=Za hq9;have HF9:=Za (⟨(hk8 _).trans f0,(hk8 _).trans f1⟩:w9.cell? ⟨b,o+k * 2,none⟩=some (.int .i64 gt)∧w9.cell? ⟨b,o+k * 2+1,none⟩=some (.int .i64 gi));go_wp2_with fail;go_roundw
       case rel=>exact⟨j+1,Om,Gn,by rw[RS.out];exact R8,S9,HQ9,B9,HF9,Om⟩
       case measure=>simp[intOf];omega
      ·obtain rfl:j=rn:=Om
       rw[List.take_of_length_le (by rw[HRN.out];exact Nat.le_refl _),← PS.out]at hrows;go_wp2_with fail;go_roundw
       case rel=>exact⟨k+1,Om,Gn,hrows,hbr⟩
       case measure=>simp[intOf];omega
   ·obtain rfl:k=gl:=Om
    obtain⟨us,ds,hU⟩:=hrows;obtain⟨⟨qa,qn,qc⟩,rfl,-⟩:=hU.own.Yy;have hrows:Y7 _ _ _ _:=⟨us,ds,hU⟩
    clear hU;go_wp2_with fail;go_ret;exact⟨⟨qa,qn,qc⟩,rfl,by rw[HPE.out];exact hrows,hbr⟩
theorem Ah (n:Nat):∀ (v:Value) (gs:List Gp) (w:World),n≤1000→gs.length≤8→ZC ZZ w v gs →
 Calls Tryz.prog 45 #[v,.int .i64 (n:Int)] w fun e w' => ∃ u:Zs,e = .returned (.slice u.a u.n u.cap)∧Y7 w' w.heap.size u.v (Zn gs n)∧Below w.heap.size w w':=by
 induction n with
 | zero =>
  intro v gs w _ hl he;obtain⟨a,c,rfl,-,-,-,-⟩:=he.open;rw[YB];go_enter Tryz.func45,Tryz.ntmps45;go_wp2_with fail;go_ret;exact⟨⟨some ⟨w.heap.size,0,none⟩,1,1⟩,rfl,Y7.one w ⟨none,0,0⟩ w (Below.refl _ _) (Own.nil _ _ _),(Below.refl _ _).alloc (Nat.le_refl _) _⟩
 | succ n ih =>
  intro v gs w hn hl he;have HI:=Za (fun v ys w' h h'=>ih v ys w' Om h h');have HPS:=Za (fun (k:Nat) (g:Gp) (h:gs[k]? = some g)=>Vj (n:=n) h);have HPL:=Za (fun k (hk:k≤gs.length)=>Nat.le_trans (VS (n:=n) hk) (Nat.le_trans (Nat.pow_le_pow_right Dc hl) (by decide:2 ^ 8≤256)));have HP0:Hid (ZQ gs n 0=[]):=Za rfl;have HPE:Hid (Zn gs (n+1)=ZQ gs n gs.length):=Za (JS n gs);have HE:=Za he;obtain⟨a,c,rfl,hnc,-,-,-⟩:=he.open;have HL:=Za hl;have HNN:Hid (n≤1000):=Za Om;clear he ih;have hne:(((n+1:Nat):Int)==0)=false:=So;have HI2:Hid (∀ v ys w',ys.length≤8→ZC ZZ w' v ys→Calls Tryz.prog 45 #[v,.int .i64 (((n+1:Nat):Int) - 1)] w' fun e w'' => ∃ u:Zs,e = .returned (.slice u.a u.n u.cap)∧Y7 w'' w'.heap.size u.v (Zn ys n)∧Below w'.heap.size w' w''):=Za (fun v ys w' h h'=>by
   have e:((n+1:Nat):Int) - 1=(n:Int):=Om;rw[e];exact HI.out v ys w' h h')
  generalize Zn gs (n+1)=R at *;generalize hm:n+1=m at *;have hm1:(1:Int)≤(m:Int):=Om;have hm2:(m:Int)≤1001:=Om;generalize hgl:gs.length=gl at *;have HGL:=Za hgl;clear hm hgl HI;go_enter Tryz.func45,Tryz.ntmps45;go_wp2_with fail
  go_loopw [5,15] (fun s i wr => ∃ k:Nat,k≤gl∧i = .int .i64 k∧Y7 wr w.heap.size s (ZQ gs n k)∧Below w.heap.size w wr) (fun _ i _=>gl - (intOf i).toNat)
  case atStart=>exact⟨0,Nat.zero_le _,rfl,by rw[HP0.out];exact Qx.nil _ w _,Below.refl _ _⟩
  case round =>
   obtain⟨k,hk,rfl,hrows,hbr⟩:=hrel;by_cases hlt:k < gl
   ·obtain⟨g,hgk⟩:=Zd (xs:=gs) (k:=k) (by rw[HGL.out];exact hlt)
    have hltk:=Zh hlt;have PS:=Za (HPS.out k g hgk);have PL:=Za (HPL.out k hk);generalize ZQ gs n k=G at *;have HEr:=HE.out.below hbr;obtain⟨b,o,hbo,hbl,f0,f1⟩:=HE.out.I4 hgk;subst hbo;have f0:=(hbr.cell (p:=⟨b,o+k * 2,none⟩) hbl).trans f0;have f1:=(hbr.cell (p:=⟨b,o+k * 2+1,none⟩) hbl).trans f1;have hbf:=Nat.lt_of_lt_of_le hbl hbr.size;have T2:=HEr.Fv (k:=k+1) (by rw[HGL.out];exact hlt);rw[show ZZ.sz=2 from rfl]at T2;have HYL:Hid ((gs.drop (k+1)).length≤8):=Za (by rw[List.length_drop,HGL.out];omega);have hgc:(gl:Int)≤(c:Int):=Om;have hkm:(k:Int)+1≤(gl:Int):=Om;have hk0:(0:Int)≤(k:Int)+1:=Om;have hkt:((k:Int)+1).toNat=k+1:=Om;have hgl8:(gl:Int)≤8:=Om;have HROW:=Za (fun r (hr:r∈Zn (gs.drop (k+1)) n)=>Jl _ n r hr);have HRLN:Hid ((Zn (gs.drop (k+1)) n).length≤256):=Za (Nat.le_trans (Qr _ n) (Nat.le_trans (Nat.pow_le_pow_right Dc HYL.out) (by decide:2 ^ 8≤256)));generalize hys:gs.drop (k+1)=ys at *;clear hys
    go_upto_region 7 with fail
    obtain⟨g0,g1⟩:=g;simp only at f0 f1;obtain⟨W1,hW1⟩:∃ W1,W1=wr.alloc (.cells #[.int .i64 g0,.int .i64 g1] 25):=⟨_,rfl⟩
    have hb01:Below wr.heap.size wr W1:=by rw[hW1];exact(Below.refl _ _).alloc (Nat.le_refl _) _
    have hS1:W1.heap.size=wr.heap.size+1:=by rw[hW1];simp
    obtain⟨S,hS⟩:∃ S,S=wr.heap.size:=⟨_,rfl⟩
    have hgS:W1.cell? ⟨S,0,none⟩=some (.int .i64 g0)∧W1.cell? ⟨S,1,none⟩=some (.int .i64 g1):=by rw[hW1,hS];constructor <;> simp[go_sem]
    simp only[← hW1];rw[← hS];have HW1:=Za hW1;have HS:=Za hS;have HS1:=Za hS1;have HGS:=Za hgS;have HB01:=Za hb01
    have T2:=T2.below hb01;clear hW1 hS hS1 hgS hb01
    go_cut [26,27,28] (fun s7 s8 s9 W => ∃ f:Zs,s7 = .slice f.a f.n f.cap∧s8 = .int .i64 f.n∧s9 = .int .i64 0∧Y7 W W1.heap.size f.v (Zn ys n)∧Below W1.heap.size W1 W)
    case first =>
     by_cases hck:c=k+1
     ·rw[if_pos hck]at T2
      subst hck;rw[Nat.sub_self,Nat.sub_eq_zero_of_le (show gl≤k+1 by omega)]at T2;have HC:=Za (HI2.out _ ys W1 HYL.out T2);clear T2;go_wp2_with fail
      (with_reducible refine HC.out.mono ?_);rintro e w8 ⟨⟨ra,rn,rc⟩,rfl,ou,hb8⟩
      have OU:=Za ou;have HB8:=Za hb8
      clear ou hb8;go_wp2_with fail;go_meet;exact⟨⟨ra,rn,rc⟩,rfl,rfl,rfl,OU.out,HB8.out⟩
     ·rw[if_neg hck]at T2
      have HC:=Za (HI2.out _ ys W1 HYL.out T2);clear T2;go_wp2_with fail
      (with_reducible refine HC.out.mono ?_);rintro e w8 ⟨⟨ra,rn,rc⟩,rfl,ou,hb8⟩
      have OU:=Za ou;have HB8:=Za hb8
      clear ou hb8;go_wp2_with fail;go_meet;exact⟨⟨ra,rn,rc⟩,rfl,rfl,rfl,OU.out,HB8.out⟩
    case rest =>
     obtain⟨⟨ra,rn,rc⟩,rfl,rfl,rfl,ou,hb8⟩:=hcut;simp only;generalize wc=w8 at *;obtain⟨W0,hW0⟩:∃ W0,W0=wr:=⟨_,rfl⟩
     subst hW0;generalize Zn ys n=RR at *;have hrn:rn=RR.length:=by
      rcases ou.shape with⟨h1,h2⟩ | ⟨g,cap,h1,-⟩
      ·simp only[Zs.v,Value.slice.injEq]at h1;rw[h1.2.1,h2];rfl
      ·simp only[Zs.v,Value.slice.injEq]at h1;exact h1.2.1
     have HRN:Hid (RR.length=rn):=Za hrn.symm;have hrb:rn≤256:=by have:=HRLN.out;omega
     have HRS:=Za ou;have HQ8:Hid (∀ q,(Zs.v ⟨ra,rn,rc⟩).ownBlock=some q→W1.heap.size≤q∧q < w8.heap.size):=Za (fun q hq=>by
      obtain⟨us,ds,hU⟩:=ou;exact World.ownsRow.lt hU.own q hq)
     have HB8:=Za (hbr.trans ((HB01.out.trans (hb8.mono HB01.out.size)).mono hbr.size));have HR8:=Za ((Qx.below hrows HB01.out).below hb8);have hq3:∀ q,u5.ownBlock=some q→q < W0.heap.size:=fun q hq=>by
      obtain⟨us,ds,hU⟩:=hrows;exact(World.ownsRow.lt hU.own q hq).2
     have HQ3:=Za hq3;have hS8:S < W1.heap.size:=by have:=HS.out;have:=HS1.out;omega
     have F0:=Za ((hb8.cell (p:=⟨S,0,none⟩) hS8).trans HGS.out.1);have F1:=Za ((hb8.cell (p:=⟨S,1,none⟩) hS8).trans HGS.out.2);have h78:=hb8.size;have HZ:=Za hbr.size;have HSW:Hid (W0.heap.size=S∧W1.heap.size=S+1∧w.heap.size≤S):=Za ⟨HS.out.symm,by have:=HS.out;have:=HS1.out;omega,by have:=HS.out;have:=hbr.size;omega⟩;clear ou hb8 hrn hq3 f0 f1 T2 hrows hbr HEr hkm hk0 hkt hgc hgl8 HS HS1 HGS HB01;go_wp2_with fail
     go_loopw [5,28] (fun s i wr2 => ∃ j:Nat,j≤rn∧i = .int .i64 j∧Y7 wr2 w.heap.size s (G++(RR.take j).map ((⟨g0,g1⟩:Gp) :: ·))∧Y7 wr2 W1.heap.size (.slice ra rn rc) RR∧Hid (∀ q,s.ownBlock=some q→q < S∨w8.heap.size≤q)∧Below w.heap.size w wr2∧Hid (wr2.cell? ⟨S,0,none⟩=some (.int .i64 g0)∧wr2.cell? ⟨S,1,none⟩=some (.int .i64 g1))∧w8.heap.size≤wr2.heap.size) (fun _ i _=>rn - (intOf i).toNat)
     case atStart=>exact⟨0,Nat.zero_le _,rfl,by rw[List.take_zero,List.map_nil,List.append_nil];exact HR8.out,HRS.out,Za (fun q hq => .inl (by have:=HQ3.out q hq;have:=HSW.out;omega)),HB8.out,Za ⟨F0.out,F1.out⟩,Nat.le_refl _⟩
     case round =>
      obtain⟨j,hj,rfl,hrows,hrest,hsq,hbr,hfc,hsz⟩:=hrel;by_cases hltj:j < rn
      ·obtain⟨r,hrj⟩:=Zd (xs:=RR) (k:=j) (by rw[HRN.out];exact hltj)
       have hltj':=Zh hltj;obtain⟨f0,f1⟩:=hfc.out;have hbf:=Zb f0;obtain⟨⟨sa,sn,sc⟩,gg,hga,hg,g0',hrep⟩:=Y7.row hrest hrj;subst hga;have hgq:=HQ8.out gg rfl;have RS:Hid (G++(RR.take (j+1)).map ((⟨g0,g1⟩:Gp) :: ·)=(G++(RR.take j).map ((⟨g0,g1⟩:Gp) :: ·))++[⟨g0,g1⟩ :: r]):=Za (by rw[Vq ((⟨g0,g1⟩:Gp) :: ·) hrj,List.append_assoc]);have hrl:=HROW.out r (List.mem_of_getElem? hrj);have hlen:(G++(RR.take j).map ((⟨g0,g1⟩:Gp) :: ·)).length≤68719476736:=by
        rw[List.length_append,List.length_map,List.length_take];have:=PL.out;have:=HRN.out;omega
       have hn1:([⟨g0,g1⟩]:List Gp).length+r.length≤68719476736:=by have:=HNN.out;simp;omega
       have HRP:=Za (hrep.rep.below ((Below.refl wr.heap.size wr).alloc (Nat.le_refl _) (.cells #[.int .i64 g0,.int .i64 g1] 25)));obtain⟨us,ds,hU⟩:=hrows;have HUL:Hid (us.length≤68719476736):=Za (by rw[hU.lu];exact hlen);have HU:=Za hU;have HBR2:=Za hbr;have HRS2:=Za hrest;have HLT:Hid (Own ZZ 25 (wr.alloc (.cells #[.int .i64 g0,.int .i64 g1] 25)) wr.heap.size (.slice (some ⟨wr.heap.size,0,none⟩) 1 1) [⟨g0,g1⟩]):=Za (Own.Mk (E:=ZZ) (T:=25) wr (Nat.le_refl _) ⟨g0,g1⟩);have hbs:w.heap.size≤wr.heap.size:=hbr.size;have HQ7:Hid (∀ q,u5.ownBlock=some q→w.heap.size≤q∧q≠gg∧q≠S∧q < wr.heap.size):=Za (fun q hq=>⟨(World.ownsRow.lt hU.own q hq).1,by have:=hsq.out q hq;have:=HSW.out;omega,by have:=hsq.out q hq;have:=HSW.out;omega,(World.ownsRow.lt hU.own q hq).2⟩);generalize G++(RR.take j).map ((⟨g0,g1⟩:Gp) :: ·)=GG at *;clear hrj hrep hbr hrl hU hlen hrest hfc;go_wp2_with (first
        | (at_builtin;refine ZJ ZZ 25 Tryz.Jn rfl Tryz.underlying33 wr.heap.size _ [⟨g0,g1⟩] r _ HLT.out HRP.out Dc hn1 Sm Rf _ _ Rf Rf Rf ?_;intro v6 w6 hown6 hgr6;obtain⟨⟨a6,n6,c6⟩,rfl,-⟩:=hown6.Yy;have O6:=Za hown6;have B6:=Za (((Below.refl wr.heap.size wr).alloc (Nat.le_refl _) (.cells #[.int .i64 g0,.int .i64 g1] 25)).grown hgr6 Sm (fun q hq=>by simp[Value.ownBlock]at hq;omega));have hb6:=B6.out.size;clear hown6 hgr6)
        | (at_builtin;refine Z8 Z2 33 Tryz.DZ rfl Tryz.underlying61 w.heap.size _ us ⟨a6,n6,c6⟩ ((HU.out.own.below B6.out).alloc _) Dc HUL.out So Rf _ _ Rf Rf w6.heap.size 0 1 Rf Zk ?_;intro v8 w9 hown8 hgr8 hv8))
       have R8:=Y7.app HU.out B6.out hbs rfl O6.out hown8 hgr8;have B8:=(HBR2.out.trans (B6.out.mono hbs)).alloc Om (.cells #[.slice a6 n6 c6] 33);have B9:=B8.grown hgr8 So (fun q hq=>(HQ7.out q hq).1);have ba:=(Below.refl w6.heap.size w6).alloc (Nat.le_refl _) (.cells #[.slice a6 n6 c6] 33);have S9:=Qx.Xx (Qx.below (Qx.below HRS2.out B6.out) ba) ((HU.out.own.below B6.out).below ba) hgr8 (.inr fun e=>(HQ7.out gg e.symm).2.1 rfl);have hs9:=hgr8.size;simp only[World.size_alloc]at hs9 hv8;have hq9:∀ q,v8.ownBlock=some q→q < S∨w8.heap.size≤q:=fun q hq=>by
        rcases hv8 with h | ⟨q',h,h2⟩
        ·rw[h]at hq;exact hsq.out q hq
        ·rw[h]at hq;simp at hq;omega
       have HQ9:=Za hq9;have hcl:∀ o,w9.cell? ⟨S,o,none⟩=wr.cell? ⟨S,o,none⟩:=fun o=>(XP (hgr8.block S So (fun e=>(HQ7.out S e.symm).2.2.1 rfl)) o).trans ((ba.cell (p:=⟨S,o,none⟩) (by show S < _;omega)).trans (B6.out.cell (p:=⟨S,o,none⟩) hbf));have HF9:=Za (⟨(hcl _).trans f0,(hcl _).trans f1⟩:w9.cell? ⟨S,0,none⟩=some (.int .i64 g0)∧w9.cell? ⟨S,1,none⟩=some (.int .i64 g1));clear hcl;go_wp2_with fail;go_roundw
       case rel=>exact⟨j+1,Om,Gn,by rw[RS.out];exact R8,S9,HQ9,B9,HF9,Om⟩
       case measure=>simp[intOf];omega
      ·obtain rfl:j=rn:=Om
       rw[List.take_of_length_le (by rw[HRN.out];exact Nat.le_refl _),← PS.out]at hrows;go_wp2_with fail;go_roundw
       case rel=>exact⟨k+1,Om,Gn,hrows,hbr⟩
       case measure=>simp[intOf];omega
   ·obtain rfl:k=gl:=Om
    obtain⟨us,ds,hU⟩:=hrows;obtain⟨⟨qa,qn,qc⟩,rfl,-⟩:=hU.own.Yy;have hrows:Y7 _ _ _ _:=⟨us,ds,hU⟩
    clear hU;go_wp2_with fail;go_ret;exact⟨⟨qa,qn,qc⟩,rfl,by rw[HPE.out];exact hrows,hbr⟩
end Go.Proofs.YtngekjpklkjnbaaGreat
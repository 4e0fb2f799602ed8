/-
  The reference's step with buffers. Condition: bounds on lengths and numbers.
-/
import Derived.Test.YtngekjpklkjnbaaGreatZu20
import Derived.Test.YtngekjpklkjnbaaGreatZu18
import Derived.Test.YtngekjpklkjnbaaGreatZu15
set_option maxHeartbeats 6400000
set_option maxRecDepth 100000
namespace Go.Proofs.YtngekjpklkjnbaaGreat
open Go.RowKit
theorem E6 (a b:List Int):Ub a b=Ym a b:=by
 induction a generalizing b with
 | nil=>cases b <;> rfl
 | cons x a ih =>
  cases b with
  | nil=>rfl
  | cons y b=>simp only[Ub,Ym,ih]
theorem Kz {o:List Int}{L:List (List Int)}{k:Nat}(h:∀ x∈L.take k,Ym x o = -1):Xz o L=L.take k++Xz o (L.drop k):=by
 induction L generalizing k with
 | nil=>simp
 | cons x L ih =>
  cases k with
  | zero=>simp
  | succ k =>
   have h1:=h x Sm;have h2:=ih (k:=k) fun y hy=>h y (by simp[hy]);rw[List.take_succ_cons,List.drop_succ_cons,List.cons_append,← h2];simp[Xz,h1]
theorem FY {o x:List Int}{L:List (List Int)}{k:Nat}(h:∀ x∈L.take k,Ym x o = -1) (hx:L[k]? = some x) (he:Ym x o=0):Xz o L=L:=by
 obtain⟨hk,rfl⟩:=List.getElem?_eq_some_iff.1 hx;rw[Kz h,List.drop_eq_getElem_cons hk];simp only[Xz,he,if_true,if_neg (show ¬ (0:Int) = -1 by decide)];rw[← List.drop_eq_getElem_cons hk,List.take_append_drop]
theorem FZ {o x:List Int}{L:List (List Int)}{k:Nat}(h:∀ x∈L.take k,Ym x o = -1) (hx:L[k]? = some x) (he:Ym x o=1):Xz o L=L.take k++[o]++L.drop k:=by
 obtain⟨hk,rfl⟩:=List.getElem?_eq_some_iff.1 hx;rw[Kz h,List.drop_eq_getElem_cons hk];simp[Xz,he]
theorem EJ {o:List Int}{L:List (List Int)}{k:Nat}(h:∀ x∈L.take k,Ym x o = -1) (hk:L.length≤k):Xz o L=L.take k++[o]++L.drop k:=by
 rw[Kz h,List.drop_of_length_le hk];simp[Xz]
def Qk (Ls:List TypeId) (B:Nat) (w:World) (base:Nat) (v:Value) (L:List (List Int)):Prop:=
 v≠.slice none 0 0∧∃ us:List Zt,us.length=L.length∧Own Zw 66 w base v us∧∀ (i:Nat) (u:Zt) (r:List Int),us[i]? = some u→L[i]? = some r→Yn Ls B w (fun W=>Own Zo 3 W base u.v r)
theorem Qk.step {Ls:List TypeId}{B:Nat}{w w':World}{base:Nat}{v:Value}{L:List (List Int)}(h:Qk Ls B w base v L) (k:YS Ls B w w') (hT:66∉Ls):Qk Ls B w' base v L:=by
 obtain⟨h0,us,h1,h2,h3⟩:=h;exact⟨h0,us,h1,(Yn.own h2 hT).keep w' k,fun i u r hu hr=>(h3 i u r hu hr).step k⟩
theorem Qk.Uo {Ls:List TypeId}{B:Nat}{w:World}{base:Nat}{v:Value}{L:List (List Int)}(h:Qk Ls B w base v L):Yv Zo w v L:=by
 obtain⟨-,us,h1,h2,h3⟩:=h;exact⟨us,h1,h2.rep,fun i u r hu hr=>(h3 i u r hu hr).now.rep⟩
theorem Qk.empty {Ls:List TypeId}{B:Nat}{w:World}{base:Nat}(hb:base≤w.heap.size):Qk Ls B (w.alloc (.cells #[] 66)) base (.slice (some ⟨w.heap.size,0,none⟩) 0 0) []:=
 ⟨Sm,[],rfl,Own.empty _ _ hb,fun i u r h=>by simp at h⟩
def DU (Ls:List TypeId) (B:Nat) (w:World) (base:Nat) (L:List (List Int)) (e:Ending) (w':World):Prop:=∃ v,e = .returned v∧Qk Ls B w' base v L∧Below w.heap.size w w'
theorem Z7.Fi {α:Type}{E:El α}{w:World}{a:Option Addr}{n c:Nat}{xs:List α}(h:Z7 E w (.slice a n c) xs) {k:Nat}(hk:k≤n):Z7 E w (.slice a k c) (xs.take k):=by
 obtain⟨a',c',hv,h1,h2,h3⟩:=h;simp only[Value.slice.injEq]at hv;obtain⟨rfl,rfl,rfl⟩:=hv;have hl:(xs.take k).length=k:=by rw[List.length_take];omega
 exact⟨a,c,by rw[hl],Om,h2,fun i x hx=>h3 i x (by
  rw[List.getElem?_take]at hx;split at hx
  ·exact hx
  ·cases hx)⟩
theorem Z7.IV {α:Type}{E:El α}{w:World}{g o n c:Nat}{xs:List α}(h:Z7 E w (.slice (some ⟨g,o,none⟩) n c) xs) {k:Nat}(hk:k≤n):Z7 E w (.slice (some ⟨g,o+k * E.sz,none⟩) (n - k) (c - k)) (xs.drop k):=by
 obtain⟨a',c',hv,h1,h2,h3⟩:=h;simp only[Value.slice.injEq]at hv;obtain⟨rfl,rfl,rfl⟩:=hv;refine⟨_,c - k,by rw[List.length_drop],by rw[List.length_drop];omega,Om,fun i x hx => ?_⟩;rw[List.getElem?_drop]at hx;obtain⟨b,o',hb,hi⟩:=h3 (k+i) x hx;simp only[Option.some.injEq,Addr.mk.injEq,and_true]at hb;obtain⟨rfl,rfl⟩:=hb;refine⟨g,o+k * E.sz,rfl,fun j u hu => ?_⟩;have:=hi j u hu;rw[Nat.add_mul]at this;rw[← this]
 congr 2
 omega
theorem Z7.Ht {α:Type}{E:El α}{w:World}{a:Option Addr}{n c k:Nat}{xs:List α}(h:Z7 E w (.slice a n c) xs) (hk:n≤k) {a':Option Addr}{c':Nat}(hc:c'≤maxLen):Z7 E w (.slice a' 0 c') (xs.drop k):=by
 obtain⟨a2,c2,hv,h1,h2,h3⟩:=h;simp only[Value.slice.injEq]at hv;obtain⟨rfl,rfl,rfl⟩:=hv;rw[List.drop_of_length_le hk];exact⟨a',c',rfl,Nat.zero_le _,hc,fun i x hx=>by simp at hx⟩
theorem BX {Ls:List TypeId}{B base:Nat}{w w8:World}{us:List Zt}{L R:List (List Int)}{u:Zt}{o:List Int}{v8:Value}{k:Nat}(hul:us.length=L.length)
 (hrows:∀ (i:Nat) (u:Zt) (r:List Int),us[i]? = some u→L[i]? = some r→Yn Ls B w (fun W=>Own Zo 3 W base u.v r)) (ho:Yn Ls B w (fun W=>Own Zo 3 W base u.v o)) (hR:R=L.take k++[o]++L.drop k)
 (h8:Own Zw 66 w8 w.heap.size v8 (us.take k++[u]++us.drop k)) (hb:Below w.heap.size w w8) (hbase:base≤w.heap.size):DU Ls B w base R (.returned v8) w8:=by
 refine⟨v8,rfl,⟨?_,us.take k++[u]++us.drop k,by rw[hR];simp[hul],h8.mono hbase,fun i u' r hu hr => ?_⟩,hb⟩
 ·rintro rfl
  have:=h8.len;simp at this
 ·rw[hR]at hr
  have key:∀ (i:Nat) (u':Zt) (r:List Int),us[i]? = some u'→L[i]? = some r→Yn Ls B w8 (fun W=>Own Zo 3 W base u'.v r):=fun i u' r h1 h2=>(hrows i u' r h1 h2).step (.Zf hb);have hlk:(us.take k).length=(L.take k).length:=by simp[hul]
  rw[List.append_assoc]at hu hr;rcases Nat.lt_or_ge i (us.take k).length with hi | hi
  ·rw[List.getElem?_append_left hi]at hu
   rw[List.getElem?_append_left Om]at hr;rw[List.getElem?_take]at hu hr;split at hu
   ·rename_i hik
    rw[if_pos hik]at hr;exact key i u' r hu hr
   ·cases hu
  ·rw[List.getElem?_append_right hi]at hu
   rw[List.getElem?_append_right Om,← hlk]at hr;generalize i - (us.take k).length=j at *;cases j with
   | zero =>
    simp at hu hr;subst hu;subst hr;exact ho.step (.Zf hb)
   | succ j =>
    simp only[List.singleton_append,List.getElem?_cons_succ,List.getElem?_drop]at hu hr;exact key _ u' r hu hr
theorem Dr (Ls:List TypeId) (B base:Nat) (vl:Value) (u:Zt) (L:List (List Int)) (o:List Int) (w:World) (hL:Qk Ls B w base vl L) (ho:Yn Ls B w (fun W=>Own Zo 3 W base u.v o)) (hT:66∉Ls) (hb:base≤w.heap.size) (hl:L.length≤68719476000) :
 Calls Tryz.prog 113 #[vl,.slice u.a u.n u.cap] w (DU Ls B w base (Xz o L)):=by
 obtain⟨hne,us,hul,hown,hrows⟩:=hL;rcases hown.shape with⟨e,_⟩ | ⟨g,lc,rfl,hg1,hg2,hg3,hg4⟩
 ·exact absurd e hne
 have HO:=Za ho;have HT:=Za hT;have HUL:=Za hul;have HOW:=Za hown;have HRW:=Za hrows
 have HREP:=Za hown.rep;have HLE:=Za (fun w' v (x:List Int) (h:Z7 Zo w' v x) (h2:Z7 Zo w' u.v o)=>(E6 x o) ▸ (JE v u.v x o w' h h2));obtain⟨ua,un,uc⟩:=u;have hn:us.length=L.length:=hul;generalize hN:us.length=n at *;have HN:=Za hN;have hnl:n≤68719476000:=Om;clear hul hown hrows ho hT hn hN hne;go_enter Tryz.func113,Tryz.ntmps113;go_wp2_with fail
 go_loopw [5] (fun i wr => ∃ k:Nat,k≤n∧i = .int .i64 k∧Hid (∀ x∈L.take k,Ym x o = -1)∧Below w.heap.size w wr) (fun i _=>n - (intOf i).toNat)
 case atStart=>exact⟨0,Nat.zero_le _,rfl,Za Sm,Below.refl _ _⟩
 case round =>
  obtain⟨k,hk,rfl,hlo,hbr⟩:=hrel;have HBR:=Za hbr;have hbs:=hbr.size;clear hbr;by_cases hlt:k < n
  ·have hlt':=Zh hlt
   obtain⟨x,hx⟩:=Zd (xs:=L) (k:=k) (by rw[← HUL.out];exact hlt);obtain⟨⟨xa,xn,xc⟩,hux⟩:=Zd (xs:=us) (k:=k) (by rw[HN.out];exact hlt);obtain⟨b,q,hbq,hbl,i0⟩:=(HREP.out.below HBR.out).Hf hux;simp only[Option.some.injEq,Addr.mk.injEq,and_true]at hbq;obtain⟨rfl,rfl⟩:=hbq;simp only[Nat.zero_add]at i0;have hrx:=(HRW.out k _ x hux hx).step (.Zf HBR.out);have ho2:=HO.out.step (.Zf HBR.out);have HC:=Za (HLE.out wr (.slice xa xn xc) x hrx.now.rep ho2.now.rep);have HRX:=Za hrx;have HO2:=Za ho2
   have X:=Za hx;clear hx hux hrx ho2;rcases QD x o with e | e | e
   ·rw[e]at HC
    have NO:Hid (∀ y∈L.take (k+1),Ym y o = -1):=Za fun y hy=>by
     rw[List.take_add_one,X.out]at hy;rcases List.mem_append.1 hy with h | h
     ·exact hlo.out y h
     ·simp at h;rw[h];exact e
    clear e;go_wp2_with (first | (go_at_call 94;(with_reducible refine HC.out.mono ?_);rintro e w1 ⟨rfl,hb1⟩));go_roundw
    case rel=>exact⟨k+1,Om,Gn,NO,HBR.out.trans (hb1.mono hbs)⟩
    case measure=>simp[intOf];omega
   ·have HE:=Za (FY hlo.out X.out e)
    rw[e]at HC;have E0:=Za e;clear e;go_wp2_with (first
     | (go_at_call 94;(with_reducible refine HC.out.mono ?_);rintro e w1 ⟨rfl,hb1⟩;have B1:=Za hb1;have j0:w1.cell? ⟨g,k,none⟩=some (.slice xa xn xc):=(hb1.cell (p:=⟨g,k,none⟩) hbl).trans i0;have jl:=Zb j0;have HC2:=Za (HLE.out w1 (.slice xa xn xc) x (HRX.out.step (.Zf hb1)).now.rep (HO2.out.step (.Zf hb1)).now.rep);rw[E0.out]at HC2;clear hb1)
     | (go_at_call 94;(with_reducible refine HC2.out.mono ?_);rintro e w2 ⟨rfl,hb2⟩))
    go_ret;rw[HE.out];have hb9:=(HBR.out.trans (B1.out.mono hbs)).trans (hb2.mono (Nat.le_trans hbs B1.out.size));exact⟨_,rfl,Qk.step (w:=w) ⟨Sm,us,HN.out.trans HUL.out,HOW.out,HRW.out⟩ (.Zf hb9) HT.out,hb9⟩
   ·have HE:=Za (FZ hlo.out X.out e)
    rw[e]at HC;have E0:=Za e;clear e;go_wp2_with (first
     | (go_at_call 94;(with_reducible refine HC.out.mono ?_);rintro e w1 ⟨rfl,hb1⟩;have B1:=Za hb1;have j0:w1.cell? ⟨g,k,none⟩=some (.slice xa xn xc):=(hb1.cell (p:=⟨g,k,none⟩) hbl).trans i0;have jl:=Zb j0;have HC2:=Za (HLE.out w1 (.slice xa xn xc) x (HRX.out.step (.Zf hb1)).now.rep (HO2.out.step (.Zf hb1)).now.rep);rw[E0.out]at HC2;clear hb1)
     | (go_at_call 94;(with_reducible refine HC2.out.mono ?_);rintro e w2 ⟨rfl,hb2⟩;have HBE:=Za ((HBR.out.trans (B1.out.mono hbs)).trans (hb2.mono (Nat.le_trans hbs B1.out.size)));have hbe:=HBE.out.size;clear hb2)
     | (at_builtin;refine ZC Zw 66 Tryz.Yl rfl Tryz.underlying46 w.heap.size _ [] (us.take k) _ (Own.empty _ _ hbe) (((HREP.out.Fi (k:=k) Om).below HBE.out).below (Ze _ _)) Dc So So rfl _ _ rfl rfl rfl ?_;intro v4 w4 hown4 hgr4;obtain⟨⟨a4,n4,c4⟩,rfl,-⟩:=hown4.YL;rw[List.nil_append]at hown4;have O4:=Za hown4;have B4:=Za (HBE.out.trans ((((Below.refl _ _).alloc (Nat.le_refl _) (.cells #[] 66)).grown hgr4 Sm (fun q hq=>by simp[Value.ownBlock]at hq;omega)).mono hbe));have hb4:=B4.out.size;clear hown4 hgr4)
     | (at_builtin;refine Z3 Zw 66 Tryz.Yl rfl Tryz.underlying46 w.heap.size _ (us.take k) ⟨ua,un,uc⟩ (O4.out.alloc _) Dc (by rw[List.length_take];omega) So rfl _ _ rfl rfl _ 0 1 rfl Zp ?_;intro v6 w6 hown6 hgr6;obtain⟨⟨a6,n6,c6⟩,rfl,-⟩:=hown6.YL;have O6:=Za hown6;have B6:=Za (ZM B4.out O4.out hgr6);have hb6:=B6.out.size;clear hown6 hgr6)
     | (at_builtin;refine ZC Zw 66 Tryz.Yl rfl Tryz.underlying46 w.heap.size _ (us.take k++[⟨ua,un,uc⟩]) (us.drop k) _ O6.out (by have h:=HREP.out.IV (k:=k) Om;simp only[Zw,Nat.mul_one,Nat.zero_add]at h;exact h.below B6.out) Dc (by have:=HN.out;simp;omega) hb6 rfl _ _ rfl rfl rfl ?_;intro v8 w8 hown8 hgr8;have O8:=Za hown8;have B8:=Za (B6.out.grown hgr8 hb6 (fun q hq=>(World.ownsRow.lt O6.out q hq).1));clear hown8 hgr8))
    go_ret;exact BX (HN.out.trans HUL.out) HRW.out HO.out HE.out O8.out B8.out hb
  ·obtain rfl:k=n:=Om
   have HE:=Za (EJ hlo.out (show L.length≤k by rw[← HUL.out];exact Nat.le_refl _));by_cases hcn:k=lc
   ·subst hcn
    go_wp2_with (first
     | (at_builtin;refine ZC Zw 66 Tryz.Yl rfl Tryz.underlying46 w.heap.size _ [] (us.take k) _ (Own.empty _ _ hbs) (((HREP.out.Fi (k:=k) Om).below HBR.out).below (Ze _ _)) Dc So So rfl _ _ rfl rfl rfl ?_;intro v4 w4 hown4 hgr4;obtain⟨⟨a4,n4,c4⟩,rfl,-⟩:=hown4.YL;rw[List.nil_append]at hown4;have O4:=Za hown4;have B4:=Za (HBR.out.trans ((((Below.refl _ _).alloc (Nat.le_refl _) (.cells #[] 66)).grown hgr4 Sm (fun q hq=>by simp[Value.ownBlock]at hq;omega)).mono hbs));have hb4:=B4.out.size;clear hown4 hgr4)
     | (at_builtin;refine Z3 Zw 66 Tryz.Yl rfl Tryz.underlying46 w.heap.size _ (us.take k) ⟨ua,un,uc⟩ (O4.out.alloc _) Dc (by rw[List.length_take];omega) So rfl _ _ rfl rfl _ 0 1 rfl Zp ?_;intro v6 w6 hown6 hgr6;obtain⟨⟨a6,n6,c6⟩,rfl,-⟩:=hown6.YL;have O6:=Za hown6;have B6:=Za (ZM B4.out O4.out hgr6);have hb6:=B6.out.size;clear hown6 hgr6)
     | (at_builtin;refine ZC Zw 66 Tryz.Yl rfl Tryz.underlying46 w.heap.size _ (us.take k++[⟨ua,un,uc⟩]) (us.drop k) _ O6.out ((HREP.out.Ht (Nat.le_refl _) (Nat.zero_le _)).below B6.out) Dc (by have:=HN.out;simp;omega) hb6 rfl _ _ rfl rfl rfl ?_;intro v8 w8 hown8 hgr8;have O8:=Za hown8;have B8:=Za (B6.out.grown hgr8 hb6 (fun q hq=>(World.ownsRow.lt O6.out q hq).1));clear hown8 hgr8))
    go_ret;exact BX (HN.out.trans HUL.out) HRW.out HO.out HE.out O8.out B8.out hb
   ·go_wp2_with (first
     | (at_builtin;refine ZC Zw 66 Tryz.Yl rfl Tryz.underlying46 w.heap.size _ [] (us.take k) _ (Own.empty _ _ hbs) (((HREP.out.Fi (k:=k) Om).below HBR.out).below (Ze _ _)) Dc So So rfl _ _ rfl rfl rfl ?_;intro v4 w4 hown4 hgr4;obtain⟨⟨a4,n4,c4⟩,rfl,-⟩:=hown4.YL;rw[List.nil_append]at hown4;have O4:=Za hown4;have B4:=Za (HBR.out.trans ((((Below.refl _ _).alloc (Nat.le_refl _) (.cells #[] 66)).grown hgr4 Sm (fun q hq=>by simp[Value.ownBlock]at hq;omega)).mono hbs));have hb4:=B4.out.size;clear hown4 hgr4)
     | (at_builtin;refine Z3 Zw 66 Tryz.Yl rfl Tryz.underlying46 w.heap.size _ (us.take k) ⟨ua,un,uc⟩ (O4.out.alloc _) Dc (by rw[List.length_take];omega) So rfl _ _ rfl rfl _ 0 1 rfl Zp ?_;intro v6 w6 hown6 hgr6;obtain⟨⟨a6,n6,c6⟩,rfl,-⟩:=hown6.YL;have O6:=Za hown6;have B6:=Za (ZM B4.out O4.out hgr6);have hb6:=B6.out.size;clear hown6 hgr6)
     | (at_builtin;refine ZC Zw 66 Tryz.Yl rfl Tryz.underlying46 w.heap.size _ (us.take k++[⟨ua,un,uc⟩]) (us.drop k) _ O6.out ((HREP.out.Ht (Nat.le_refl _) Om).below B6.out) Dc (by have:=HN.out;simp;omega) hb6 rfl _ _ rfl rfl rfl ?_;intro v8 w8 hown8 hgr8;have O8:=Za hown8;have B8:=Za (B6.out.grown hgr8 hb6 (fun q hq=>(World.ownsRow.lt O6.out q hq).1));clear hown8 hgr8))
    go_ret;exact BX (HN.out.trans HUL.out) HRW.out HO.out HE.out O8.out B8.out hb
theorem Dp {x:Ins}(h:Zg x=true):(0≤x.loc∧x.loc≤2)∧(0≤x.ZQ∧x.ZQ≤2):=by
 unfold Zg Kj at h;split at h
 ·simp at h;omega
 ·split at h
  ·simp at h;omega
  ·split at h
   ·simp at h;omega
   ·split at h
    ·simp at h;omega
    ·cases h
theorem E4 (vp:Value) (p:List (List Ins)) (x:SV) (s:St) (t kn:Nat) (i:Ins) (r:List Ins) (w:World) (hp:Z5 w vp p) (hx:ZB w x s) (hpc:s.pc[t]? = some (kn:Int)) (hrow:p[t]? = some r) (hins:r[kn]? = some i)
 (hv:Zg i=true) (ht:t≤2) (h1:s.pc.length≤1000) (h2:s.rg.length=s.pc.length * 3) (h3:s.mm.length=3) (h4:s.bf.length≤100) (h5:∀ o∈s.bf,o.length≤1000) (hrl:r.length≤1000) :
 Calls Tryz.prog 115 #[vp,.agg #[.slice x.p.a x.p.n x.p.cap,.slice x.r.a x.r.n x.r.cap,.slice x.m.a x.m.n x.m.cap,.slice x.b.a x.b.n x.b.cap],.int .i64 (t:Int)] w
  (Xt w ⟨(Yy s.q t kn i).pc,(Yy s.q t kn i).rg,(Yy s.q t kn i).mm,s.bf⟩):=by
 have hr:=Dp hv;obtain⟨op,loc,ZQ,val⟩:=i;simp only at hr;obtain⟨lc,rfl⟩:∃ lc:Nat,loc=lc:=⟨loc.toNat,Om⟩
 obtain⟨rc,rfl⟩:∃ rc:Nat,ZQ=rc:=⟨ZQ.toNat,Om⟩
 cases h6:Z8 op
 ·cases h7:ZF op
  ·exact Im vp p x s t kn lc rc op val r w hp hx hpc hrow hins h6 h7 ht Om Om h1 h2 h3 h4 h5 hrl
  ·exact Ip vp p x s t kn lc rc op val r w hp hx hpc hrow hins h6 h7 ht Om Om h1 h2 h3 h4 h5 hrl
 ·cases h7:ZF op
  ·exact Io vp p x s t kn lc rc op val r w hp hx hpc hrow hins h6 h7 ht Om Om h1 h2 h3 h4 h5 hrl
  ·exact Il vp p x s t kn lc rc op val r w hp hx hpc hrow hins h6 h7 ht Om Om h1 h2 h3 h4 h5 hrl
def LS:List TypeId:=[90,9,141,103]
def Qs (w:World) (B:Nat) (v:Value) (work:List St):Prop:=
 ∃ xs:List SV,xs.length=work.length∧Own IE 141 w B v xs∧∀ (i:Nat) (x:SV) (s:St),xs[i]? = some x→work[i]? = some s→Yn LS B w (fun W=>ZB W x s)
theorem Qs.kp {L:List TypeId}{w w':World}{B:Nat}{v:Value}{work:List St}(h:Qs w B v work) (k:YS L B w w') (hL:∀ T∈L,T∈LS) (hT:141∉L):Qs w' B v work:=by
 obtain⟨xs,h1,h2,h3⟩:=h;exact⟨xs,h1,(Yn.own h2 hT).keep w' k,fun i x s hx hs=>(h3 i x s hx hs).step (k.more hL (Nat.le_refl _))⟩
theorem F8.kp {L:List TypeId}{w w':World}{B:Nat}{v:Value}{ks:List ByteArray}(h:F8 w B v ks) (k:YS L B w w') (h1:90∉L) (h2:9∉L):F8 w' B v ks:=(Yn.FT h h1 h2).keep w' k
structure QO (B N O:Nat) (vt v:Value) (work:List St) (ks:List ByteArray) (cn:Nat) (vo:Zt) (outs:List (List Int)) (wr:World):Prop where
 wk:Qs wr B v work
 tb:F8 wr B vt ks
 bn:wr.heap[N]? = some (.cells #[.int .i64 0,.slice none 0 0] 103 (0,0))
 bo:wr.heap[O]? = some (.cells #[.int .i64 (cn:Int),.slice vo.a vo.n vo.cap] 103 (0,0))
 ol:Qk LS B wr B vo.v outs
 lN:B≤N
 lO:N < O
 sz:B≤wr.heap.size
section
variable {B N O cn cn' : Nat} {vt v v' : Value} {work work' : List St} {ks ks' : List ByteArray} {vo vo' : Zt} {outs outs' : List (List Int)} {w w' : World} {L : List TypeId}
theorem QO.below (h:QO B N O vt v work ks cn vo outs w) (hb:Below w.heap.size w w'):QO B N O vt v work ks cn vo outs w':=
 have k:YS [] B w w':=.Zf hb
 ⟨h.wk.kp k Sm Sm,h.tb.kp k Sm Sm,k.same h.bn Sm,k.same h.bo Sm,h.ol.step (k.more Sm (Nat.le_refl _)) Dc,h.lN,h.lO,Nat.le_trans h.sz hb.size⟩
theorem QO.mark (h:QO B N O vt v work ks cn vo outs w) (ht:F8 w' B vt ks') (k:YS [90,9] B w w'):QO B N O vt v work ks' cn vo outs w':=
 have hL:∀ T∈[90,9],T∈LS:=Dc
 ⟨h.wk.kp k hL Dc,ht,k.same h.bn Dc,k.same h.bo Dc,h.ol.step (k.more hL (Nat.le_refl _)) Dc,h.lN,h.lO,Nat.le_trans h.sz k.size⟩
theorem QO.L9 (h:QO B N O vt v work ks cn vo outs w) (hw:Qs w' B v' work') (k:YS [141] B w w'):QO B N O vt v' work' ks cn vo outs w':=
 have hL:∀ T∈[141],T∈LS:=Dc
 ⟨hw,h.tb.kp k Dc Dc,k.same h.bn Dc,k.same h.bo Dc,h.ol.step (k.more hL (Nat.le_refl _)) Dc,h.lN,h.lO,Nat.le_trans h.sz k.size⟩
theorem QO.Y1 (h:QO B N O vt v work ks cn vo outs w) (cn':Nat):QO B N O vt v work ks cn' vo outs (w.setCell ⟨O,0,none⟩ (.int .i64 (cn':Int))):=by
 have k:YS [103] B w (w.setCell ⟨O,0,none⟩ (.int .i64 (cn':Int))):=.set h.bo Sm (by have:=h.lN;have:=h.lO;omega) _;have hL:∀ T∈[103],T∈LS:=Dc;exact⟨h.wk.kp k hL Dc,h.tb.kp k Dc Dc,(heap_setCell_other w ⟨O,0,none⟩ N _ (show N≠O by have:=h.lO;omega)).trans h.bn,heap_setCell_same w O 0 _ _ _ h.bo,h.ol.step (k.more hL (Nat.le_refl _)) Dc,h.lN,h.lO,by simpa using h.sz⟩
theorem QO.out (h:QO B N O vt v work ks cn vo outs w) (ho:Qk LS B w B vo'.v outs'):QO B N O vt v work ks cn vo' outs' (w.setCell ⟨O,1,none⟩ (.slice vo'.a vo'.n vo'.cap)):=by
 have k:YS [103] B w (w.setCell ⟨O,1,none⟩ (.slice vo'.a vo'.n vo'.cap)):=.set h.bo Sm (by have:=h.lN;have:=h.lO;omega) _;have hL:∀ T∈[103],T∈LS:=Dc;exact⟨h.wk.kp k hL Dc,h.tb.kp k Dc Dc,(heap_setCell_other w ⟨O,1,none⟩ N _ (show N≠O by have:=h.lO;omega)).trans h.bn,heap_setCell_same w O 1 _ _ _ h.bo,ho.step (k.more hL (Nat.le_refl _)) Dc,h.lN,h.lO,by simpa using h.sz⟩
end
theorem Qs.pop {w:World}{B g n cap:Nat}{work:List St}{s:St}(h:Qs w B (.slice (some ⟨g,0,none⟩) n cap) (work++[s])):n=work.length+1∧g < w.heap.size∧B≤g∧n≤cap∧Qs w B (.slice (some ⟨g,0,none⟩) work.length cap) work∧∃ x:SV,Yn LS B w (fun W=>ZB W x s) ∧
 (w.cell? ⟨g,work.length * 4,none⟩=some (.slice x.p.a x.p.n x.p.cap)∧w.cell? ⟨g,work.length * 4+1,none⟩=some (.slice x.r.a x.r.n x.r.cap)∧w.cell? ⟨g,work.length * 4+2,none⟩=some (.slice x.m.a x.m.n x.m.cap)∧w.cell? ⟨g,work.length * 4+3,none⟩=some (.slice x.b.a x.b.n x.b.cap)):=by
 obtain⟨xs,h1,h2,h3⟩:=h;have hn:=h2.len;simp only[List.length_append,List.length_singleton]at h1;obtain⟨x,hx⟩:=Zd (xs:=xs) (k:=work.length) Om;have hl:=World.ownsRow.lt h2 g rfl;have hcap:n≤cap:=by
  rcases h2.shape with⟨e,_⟩ | ⟨g',cap',e,_,_,h5,_⟩
  ·simp at e
  ·simp only[Value.slice.injEq]at e;omega
 refine⟨Om,hl.2,hl.1,hcap,⟨xs.take work.length,by rw[List.length_take];omega,h2.cut Om,fun i x s hx hs=>h3 i x s ?_ ?_⟩,x,h3 _ x s hx Sm,h2.cell hx (j:=0) rfl,h2.cell hx (j:=1) rfl,h2.cell hx (j:=2) rfl,h2.cell hx (j:=3) rfl⟩
 ·rw[List.getElem?_take]at hx
  split at hx
  ·exact hx
  ·cases hx
 ·rw[List.getElem?_append_left (List.getElem?_eq_some_iff.1 hs).1];exact hs
theorem Qs.push {w w':World}{B:Nat}{v v':Value}{work:List St}{s:St}{x:SV}{xs:List SV}(h1:xs.length=work.length) (h2:Own IE 141 w B v xs) (h3:∀ (i:Nat) (x:SV) (s:St),xs[i]? = some x→work[i]? = some s→Yn LS B w (fun W=>ZB W x s))
 (hx:Yn LS B w (fun W=>ZB W x s)) (ho:Own IE 141 w' B v' (xs++[x])) (hg:w.grownBy w' v.ownBlock):Qs w' B v' (work++[s]):=by
 have k:YS LS B w w':=.grown h2 Dc (Nat.le_refl _) hg;refine⟨xs++[x],by simp[h1],ho,fun i y u hy hu => ?_⟩;rcases Nat.lt_or_ge i xs.length with hi | hi
 ·rw[List.getElem?_append_left hi]at hy
  rw[List.getElem?_append_left Om]at hu;exact(h3 i y u hy hu).step k
 ·rw[List.getElem?_append_right hi]at hy
  rw[List.getElem?_append_right Om,← h1]at hu;generalize i - xs.length=j at *;cases j with
  | zero =>
   simp at hy hu;subst hy;subst hu;exact hx.step k
  | succ j=>simp at hy
theorem Tryz.C4:(Tryz.prog.info? 141).map (fun i=>(i.zero,i.size,i.bytes))=some (some (.agg #[.slice none 0 0,.slice none 0 0,.slice none 0 0,.slice none 0 0]),4,96):=Kr
theorem Tryz.Dn:(Tryz.prog.info? 90).map (fun i=>(i.zero,i.size,i.bytes))=some (some (.slice none 0 0),1,24):=Kr
theorem Ha {o:List Int}(l:List (List Int)):(Xz o l).length≤l.length+1:=by
 induction l with
 | nil=>simp[Xz]
 | cons x l ih =>
  unfold Xz;split
  ·simp;exact ih
  ·split <;> simp
end Go.Proofs.YtngekjpklkjnbaaGreat
namespace Go.Proofs.YtngekjpklkjnbaaGreat
abbrev Xk (s:Bf):St:=⟨s.q.pc,s.q.rg,s.q.mm,s.bf.map ZI⟩
abbrev Au (s:Bf):ByteArray:=Ik (JL s)
theorem Eb (ls:List (List (Int × Int))):Gz (ls.map ZI)=XO ls:=by
 induction ls with
 | nil=>rfl
 | cons l ls ih =>
  simp only[Gz,List.map_cons,List.flatMap_cons,XO]at ih ⊢;rw[ih];rfl
theorem Rq (s:Bf):Gk (Xk s)=JL s:=by
 unfold Gk JL KT;rw[Eb]
theorem Xn (l:List (Int × Int)):(ZI l).length=2 * l.length:=by
 induction l with
 | nil=>rfl
 | cons x l ih=>simp only[ZI,List.flatMap_cons,List.length_append,List.length_cons,List.length_nil]at ih ⊢;omega
theorem Dl (l l':List (Int × Int)):ZI (l++l')=ZI l++ZI l':=by simp[ZI]
theorem Dm {l:List (Int × Int)}{k:Nat}{e:Int × Int}(h:l[k]? = some e):(ZI l)[2 * k]? = some e.1∧(ZI l)[2 * k+1]? = some e.2:=by
 induction l generalizing k with
 | nil=>simp at h
 | cons x l ih =>
  cases k with
  | zero=>simp at h;subst h;simp[ZI]
  | succ k =>
   have:=ih (k:=k) (by simpa using h);have e1:ZI (x :: l)=x.1 :: x.2 :: ZI l:=by simp[ZI]
   rw[e1,show 2 * (k+1)=2 * k+1+1 by omega,show 2 * k+1+1+1=(2 * k+1)+1+1 by omega];simpa using this
theorem VP {l:List (Int × Int)}(h:∀ e∈l,Y8 e):QY (ZI l):=by
 intro x hx;obtain⟨e,he,hm⟩:=List.mem_flatMap.1 hx;have h1:=h e he;unfold Y8 at h1;simp only[List.mem_cons,List.not_mem_nil,or_false]at hm;rcases hm with rfl | rfl <;> omega
def GV (p:List (List Ins)) (split:Bool) (s:Bf):List Nat:=(List.range (p.length+s.bf.length)).filter fun m=>(Zu p split s m).isSome
theorem FK {p:List (List Ins)}{split:Bool}{s:Bf}(m:Nat):m∈GV p split s↔(Zu p split s m).isSome:=by
 unfold GV;rw[List.mem_filter,List.mem_range];refine⟨fun h=>h.2,fun h=>⟨?_,h⟩⟩;by_cases hm:m < p.length
 ·omega
 ·obtain⟨s',hs'⟩:=Option.isSome_iff_exists.1 h
  obtain⟨l,v,rest,hb,-⟩:=Yu hs' hm;have:=(List.getElem?_eq_some_iff.1 hb).1;omega
theorem YZ {p:List (List Ins)}{split:Bool}(hv:Zi p=true) (s:Bf):Zx (Zn p split) (QU (GV p split) (QR p split)) s↔Zx (Zn p split) (Zu p split) s:=
 AS (ok:=ZE p split) (ZE.start p split) (fun _ _ _ h hn=>h.next (Z9 hv) hn) (fun _ _ i=>FK i) (fun _ _ _ _ h=>Qu h) s
theorem Vp {p:List (List Ins)}{split:Bool}{s:Bf}(h:ZE p split s) (hp:p.length≤3):(GV p split s).length≤12:=by
 have h1:(GV p split s).length≤p.length+s.bf.length:=Nat.le_trans (List.length_filter_le _ _) Sm;have h3:=h.lb;have h4:Yj split≤3:=by cases split <;> simp[Yj]
 have h5:=Nat.mul_le_mul hp h4;omega
def QT (p:List (List Ins)) (split:Bool) (s:Bf) (m:Nat):Nat:=((List.range m).filter fun m=>(Zu p split s m).isSome).length
theorem Gc {p:List (List Ins)}{split:Bool}{s:Bf}{m:Nat}(h:Zu p split s m=none):QT p split s (m+1)=QT p split s m:=by
 unfold QT;rw[List.range_succ,List.filter_append];simp[h]
theorem AH {p:List (List Ins)}{split:Bool}{s s':Bf}{m:Nat}(h:Zu p split s m=some s'):QT p split s (m+1)=QT p split s m+1:=by
 unfold QT;rw[List.range_succ,List.filter_append];simp[h]
theorem AI {p:List (List Ins)}{split:Bool}{s s':Bf}{m:Nat}(h:Zu p split s m=some s') (hm:m < p.length+s.bf.length):QU (GV p split) (QR p split) s (QT p split s m)=some s':=by
 refine(Xy _ _).2 ⟨m,?_,Qu h⟩;unfold GV QT;have e:List.range (p.length+s.bf.length)=List.range m++(m :: (List.range (p.length+s.bf.length)).drop (m+1)):=by
  conv=>lhs;rw[← List.take_append_drop m (List.range (p.length+s.bf.length))]
  congr 1
  ·rw[List.take_range,Nat.min_eq_left Om]
  ·rw[List.drop_eq_getElem_cons (by simpa using hm)];simp
 rw[e,List.filter_append,List.getElem?_append_right (Nat.le_refl _),Nat.sub_self];simp[h]
theorem JY (p:List (List Ins)) (split:Bool) (s:Bf):QT p split s (p.length+s.bf.length)=(GV p split s).length:=rfl
end Go.Proofs.YtngekjpklkjnbaaGreat
namespace Go.Proofs.YtngekjpklkjnbaaGreat
open Go.RowKit
theorem KQ (t loc:Nat) (split:Bool) (w:World) (ht:t≤2) (hl:loc≤2) :
 Calls Tryz.prog 143 #[.int .i64 (t:Int),.int .i64 (loc:Int),.bool split] w fun e w'=>e = .returned (.int .i64 ((Zj t (loc:Int) split:Nat):Int))∧w=w':=by
 cases split
 ·go_enter Tryz.func143,Tryz.ntmps143
  go_wp2_with fail;go_ret;exact⟨rfl,rfl⟩
 ·have E:Zj t (loc:Int) true=t * 3+loc:=by simp[Zj]
  have HE:=Za E;clear E;go_enter Tryz.func143,Tryz.ntmps143;go_wp2_with fail;go_ret;rw[HE.out];exact⟨congrArg Ending.returned (congrArg (Value.int .i64) Om),rfl⟩
theorem J3 (split:Bool) (w:World) :
 Calls Tryz.prog 140 #[.bool split] w fun e w'=>e = .returned (.int .i64 ((Yj split:Nat):Int))∧w=w':=by
 cases split
 ·go_enter Tryz.func140,Tryz.ntmps140
  go_wp2_with fail;go_ret;exact⟨rfl,rfl⟩
 ·go_enter Tryz.func140,Tryz.ntmps140
  go_wp2_with fail;go_ret;exact⟨rfl,rfl⟩
theorem Qv {s:Bf}{q:Nat}{row:List (Int × Int)}(h:s.bf[q]? = some row):(s.bf.map ZI)[q]? = some (ZI row):=by rw[List.getElem?_map,h];rfl
theorem AA (x:SV) (p:List (List Ins)) (split:Bool) (s:Bf) (t:Nat) (w:World) (hx:ZB w x (Xk s)) (hok:ZE p split s) (ht:t < p.length) (hpl:p.length≤3) :
 Calls Tryz.prog 141 #[.agg #[.slice x.p.a x.p.n x.p.cap,.slice x.r.a x.r.n x.r.cap,.slice x.m.a x.m.n x.m.cap,.slice x.b.a x.b.n x.b.cap],.int .i64 (t:Int),.bool split] w
  fun e w'=>e = .returned (.bool (ZZ s t split))∧Below w.heap.size w w':=by
 obtain⟨⟨pa,pn,pk⟩,⟨ra,rn,rk⟩,⟨ma,mn,mk⟩,⟨ba,bn,bk⟩⟩:=x;obtain⟨_,_,hv2,-,-,-,-⟩:=hx.bf.open;simp only[Zt.v,Value.slice.injEq]at hv2;obtain⟨rfl,hn2,rfl⟩:=hv2;rw[List.length_map]at hn2;have HX:Hid (Yv Zo w (.slice ba bn bk) (s.bf.map ZI)):=Za hx.bf;have HLB:=Za hok.lb;obtain⟨A0,hA0⟩:∃ A0,A0=w.alloc (.cells #[.slice pa pn pk,.slice ra rn rk,.slice ma mn mk,.slice ba bn bk] 141):=⟨_,rfl⟩
 have HB:Hid (Below w.heap.size w A0):=Za (by rw[hA0];exact Ze _ _);have hz:A0.heap.size=w.heap.size+1:=by rw[hA0];simp
 have HX2:Hid (A0.heap[w.heap.size]? = some (.cells #[.slice pa pn pk,.slice ra rn rk,.slice ma mn mk,.slice ba bn bk] 141 (0,0))):=Za (by rw[hA0];exact heap_alloc_new w _);have HA0:=Za hA0;have HQ:Hid (∀ i,i < Yj split→t * Yj split+i < s.bf.length):=Za fun i hi=>by
  rw[hok.lb];have:=Nat.mul_le_mul_right (Yj split) (show t+1≤p.length by omega);rw[Nat.add_mul,Nat.one_mul]at this;omega
 have hN3:Yj split≤3:=by cases split <;> simp[Yj]
 have ht2:t≤2:=Om;have HBN:=Za hn2;have HE:Hid (ZZ s t split=(List.range (Yj split)).all fun i=>(s.bf.getD (t * Yj split+i) []).isEmpty):=Za rfl;have HBU:=Za (fun W=>J3 split W);clear hA0 hx hn2 hok;generalize ZZ s t split=R at *;generalize Yj split=N at *;go_enter Tryz.func141,Tryz.ntmps141;go_wp2_with (go_at_call 140;(with_reducible refine(HBU.out _).mono ?_);rintro e w1 ⟨rfl,rfl⟩);rw[← HA0.out]
 go_loopw [8] (fun i wr => ∃ k:Nat,k≤N∧i = .int .i64 k∧Hid (∀ j < k,(s.bf.getD (t * N+j) []).isEmpty=true)∧Below A0.heap.size A0 wr) (fun i _=>N - (intOf i).toNat)
 case atStart=>exact⟨0,Nat.zero_le _,rfl,Za (fun t h=>absurd h (Nat.not_lt_zero t)),Below.refl _ _⟩
 case round =>
  obtain⟨k,hk,rfl,hno,hb⟩:=hrel;have HBR:=Za hb;by_cases hlt:k < N
  ·have hlt':=Zh hlt
   have hbw:=HB.out.trans (hb.mono HB.out.size);have d0:wr.cell? ⟨w.heap.size,3,none⟩=some (.slice ba bn bk):=Zc ((hb.block w.heap.size Om).trans HX2.out) (k:=3) rfl;have dl:=Zb d0;obtain⟨q,hq⟩:∃ q,q=t * N+k:=⟨_,rfl⟩
   have hqs:q < s.bf.length:=by rw[hq];exact HQ.out k hlt
   obtain⟨row,hrow⟩:=Zd (xs:=s.bf) (k:=q) hqs;obtain⟨b2,o2,qa,qc,hbe,hbl2,q0,-⟩:=(HX.out.below hbw).row (Qv hrow);subst hbe;rw[Xn]at q0;have htn:t * N≤6:=Nat.mul_le_mul ht2 hN3;obtain⟨T,hT⟩:∃ T,T=t * N:=⟨_,rfl⟩
   have hm6:(t:Int) * (N:Int)=(T:Int):=by rw[hT];push_cast;rfl
   have hsum:(T:Int)+(k:Int)=(q:Int):=by rw[hq,← hT];push_cast;rfl
   rw[← hT]at htn;clear hT;have hqn:(q:Int) < (bn:Int):=by have:=HBN.out;omega
   have HROW:=Za hrow;have HQE:=Za hq
   clear hrow hq hb hbw;by_cases hne:row.length > 0
   ·have hne':((2 * row.length:Nat):Int) > 0:=Om
    have E:Hid (R=false):=Za (by
     rw[HE.out,List.all_eq_false];refine⟨k,List.mem_range.2 hlt,?_⟩;rw[← HQE.out,List.getD_eq_getElem?_getD,HROW.out];cases row with
     | nil=>simp at hne
     | cons x r=>simp)
    go_wp2_with fail;go_ret;rw[E.out];exact⟨rfl,HB.out.trans (HBR.out.mono HB.out.size)⟩
   ·have hne':¬ ((2 * row.length:Nat):Int) > 0:=Om
    have NO:Hid (∀ j < k+1,(s.bf.getD (t * N+j) []).isEmpty=true):=Za fun j hj=>by
     by_cases e:j=k
     ·subst e
      rw[← HQE.out,List.getD_eq_getElem?_getD,HROW.out];cases row with
      | nil=>rfl
      | cons x r=>simp at hne
     ·exact hno.out j Om
    go_wp2_with fail;go_roundw
    case rel=>exact⟨k+1,Om,Gn,NO,HBR.out⟩
    case measure=>simp[intOf];omega
  ·obtain rfl:k=N:=Om
   have E:Hid (R=true):=Za (by
    rw[HE.out,List.all_eq_true];exact fun j hj=>hno.out j (List.mem_range.1 hj))
   clear hb;go_wp2_with fail;go_ret;rw[E.out];exact⟨rfl,HB.out.trans (HBR.out.mono HB.out.size)⟩
theorem DB {row:List (Int × Int)}{loc:Int}{j:Nat}{e:Int × Int}(h:row[j]? = some e) (he:e.1=loc) (hn:∀ (i:Nat) (x:Int × Int),j < i→row[i]? = some x→x.1≠loc):row.reverse.find? (fun e=>e.1==loc)=some e:=by
 have hj:=(List.getElem?_eq_some_iff.1 h).1;have e1:row=row.take j++e :: row.drop (j+1):=by
  conv=>lhs;rw[← List.take_append_drop j row]
  congr 1
  rw[List.drop_eq_getElem_cons hj]
  congr 1
  exact(List.getElem?_eq_some_iff.1 h).2
 rw[e1,List.reverse_append,List.reverse_cons,List.append_assoc,List.find?_append,List.find?_eq_none.2,Option.none_or,List.singleton_append,List.find?_cons,he]
 ·simp
 ·intro x hx
  rw[List.mem_reverse]at hx;obtain⟨i,hi⟩:=List.mem_iff_getElem?.1 hx;rw[List.getElem?_drop]at hi;have:=hn _ _ Om hi;simpa using this
theorem EP {row:List (Int × Int)}{loc:Int}(hn:∀ (i:Nat) (x:Int × Int),row[i]? = some x→x.1≠loc):row.reverse.find? (fun e=>e.1==loc)=none:=by
 rw[List.find?_eq_none];intro x hx;obtain⟨i,hi⟩:=List.mem_iff_getElem?.1 (List.mem_reverse.1 hx);have:=hn i x hi;simpa using this
theorem BM (x:SV) (p:List (List Ins)) (split:Bool) (s:Bf) (t loc:Nat) (w:World) (hx:ZB w x (Xk s)) (hok:ZE p split s) (ht:t < p.length) (hpl:p.length≤3) (hl:loc≤2) (hlen:∀ r∈s.bf,r.length≤1000) :
 Calls Tryz.prog 142 #[.agg #[.slice x.p.a x.p.n x.p.cap,.slice x.r.a x.r.n x.r.cap,.slice x.m.a x.m.n x.m.cap,.slice x.b.a x.b.n x.b.cap],.int .i64 (t:Int),.int .i64 (loc:Int),.bool split] w
  fun e w'=>e = .returned (.int .i64 (Ys s t (loc:Int) split))∧Below w.heap.size w w':=by
 obtain⟨⟨pa,pn,pk⟩,⟨ra,rn,rk⟩,⟨ma,mn,mk⟩,⟨ba,bn,bk⟩⟩:=x;obtain⟨_,_,hv2,-,-,-,-⟩:=hx.bf.open;obtain⟨_,_,hv3,-,-,-,-⟩:=hx.mm.open;simp only[Zt.v,Value.slice.injEq]at hv2 hv3;obtain⟨rfl,hnb,rfl⟩:=hv2;obtain⟨rfl,hn3,rfl⟩:=hv3;rw[List.length_map]at hnb;have HX:Hid (Yv Zo w (.slice ba bn bk) (s.bf.map ZI)):=Za hx.bf;have hqs:Zj t (loc:Int) split < s.bf.length:=by rw[hok.lb];exact Xi ht Om
 obtain⟨row,hrow⟩:=Zd (xs:=s.bf) (k:=Zj t (loc:Int) split) hqs;obtain⟨b2,o2,qa,qc,hbe,hbl2,q0,q1⟩:=HX.out.row (Qv hrow);subst hbe;rw[Xn]at q0 q1;obtain⟨n2,hn2⟩:∃ n2,n2=2 * row.length:=⟨_,rfl⟩
 rw[← hn2]at q0 q1;have HN2:=Za hn2;clear hn2;obtain⟨m0,hm0⟩:=Zd (xs:=s.q.mm) (k:=loc) (by rw[hok.q.lm];omega);obtain⟨bm,om,rfl,hblm,i0⟩:=(show Z7 Zo w (.slice ma mn mk) s.q.mm from hx.mm).int hm0;have hml:s.q.mm.length=3:=hok.q.lm;have hmn:(loc:Int) < (mn:Int):=by have:mn=s.q.mm.length:=hn3;omega
 obtain⟨A0,hA0⟩:∃ A0,A0=w.alloc (.cells #[.slice pa pn pk,.slice ra rn rk,.slice (some ⟨bm,om,none⟩) mn mk,.slice (some ⟨b2,o2,none⟩) bn bk] 141):=⟨_,rfl⟩
 have HB:Hid (Below w.heap.size w A0):=Za (by rw[hA0];exact Ze _ _);have hz:A0.heap.size=w.heap.size+1:=by rw[hA0];simp
 have HX2:Hid (A0.heap[w.heap.size]? = some (.cells #[.slice pa pn pk,.slice ra rn rk,.slice (some ⟨bm,om,none⟩) mn mk,.slice (some ⟨b2,o2,none⟩) bn bk] 141 (0,0))):=Za (by rw[hA0];exact heap_alloc_new w _);have HA0:=Za hA0;have HPL:=Za (fun W=>KQ t loc split W Om hl);have hrl:row.length≤1000:=hlen row (List.mem_of_getElem? hrow);have hn2b:n2≤2000:=by have:=HN2.out;omega
 have HSE:Hid (Ys s t (loc:Int) split=match row.reverse.find? (fun e=>e.1==(loc:Int)) with | some e=>e.2 | none=>m0):=Za (by
  unfold Ys;rw[List.getD_eq_getElem?_getD,hrow,Option.getD_some,Int.toNat_natCast,List.getD_eq_getElem?_getD,hm0];rfl)
 have q0':=(HB.out.cell (p:=⟨b2,o2+Zj t (loc:Int) split,none⟩) hbl2).trans q0;have ql:=Zb q0';have hqn:((Zj t (loc:Int) split:Nat):Int) < (bn:Int):=Om;have a3:A0.cell? ⟨w.heap.size,3,none⟩=some (.slice (some ⟨b2,o2,none⟩) bn bk):=Zc HX2.out (k:=3) rfl;have al:=Zb a3;have Q1:=Za q1;have I0:=Za i0
 clear hA0 hz hx hok hrow hm0 hqs q0 q1 hnb hn3 hlen i0 hbl2;generalize Zj t (loc:Int) split=q at *;generalize Ys s t (loc:Int) split=R at *;generalize hn:row.length=n at *;have HN:=Za hn;clear hn;go_enter Tryz.func142,Tryz.ntmps142;go_wp2_with fail;rw[← HA0.out];refine Zs Kr Kr ?_
 repeat (go_big_quiet_step ((go_at_call 143;(with_reducible exact Calls.Vk (HPL.out _)))))
 refine wpQuiet_nil ?_;intro w1 hw1;have B1:=Za (HB.out.trans (hw1.mono HB.out.size));have a2:w1.cell? ⟨w.heap.size,2,none⟩=some (.slice (some ⟨bm,om,none⟩) mn mk):=Zc ((hw1.block w.heap.size al).trans HX2.out) (k:=2) rfl;have al1:=Zb a2;clear hw1 q0' ql a3 al hqn;go_wp2_with fail
 go_loopw [10] (fun v wr => ∃ (j:Nat) (z:Int),j≤n∧v = .int .i64 z∧z=2 * (j:Int) - 2∧Hid (∀ i x,j≤i→row[i]? = some x→x.1≠(loc:Int))∧Below w1.heap.size w1 wr) (fun v _=>(intOf v+2).toNat)
 case atStart=>exact⟨n,_,Nat.le_refl _,Gn,by have:=HN2.out;have:=HN.out;omega,Za (fun i x hi hx=>by have:=(List.getElem?_eq_some_iff.1 hx).1;have:=HN.out;omega),Below.refl _ _⟩
 case round =>
  obtain⟨j,z,hj,rfl,hzz,hno,hb⟩:=hrel;have HBR:=Za hb;cases j with
  | zero =>
   obtain rfl:z = -2:=Om;clear hzz;have E:Hid (R=m0):=Za (by rw[HSE.out,EP (fun i x hx=>hno.out i x (Nat.zero_le _) hx)]);have d2:=(hb.cell (p:=⟨w.heap.size,2,none⟩) al1).trans a2;have dl:=Zb d2;have m2:=((B1.out.trans (hb.mono B1.out.size)).cell (p:=⟨bm,om+loc,none⟩) hblm).trans I0.out;have mml:=Zb m2;clear hb;go_wp2_with fail;go_ret;rw[E.out];exact⟨rfl,B1.out.trans (HBR.out.mono B1.out.size)⟩
  | succ k =>
   obtain⟨k2,hk2e⟩:∃ k2,k2=2 * k:=⟨_,rfl⟩
   obtain rfl:z=(k2:Int):=Om;clear hzz;obtain⟨e,he⟩:=Zd (xs:=row) (k:=k) (by rw[HN.out];omega);obtain⟨f0,f1⟩:=Dm he;rw[← hk2e]at f0 f1;obtain⟨bq,oq,rfl,hblq,g0⟩:=(Q1.out.below (B1.out.trans (hb.mono B1.out.size))).int f0;obtain⟨bq',oq',hae,hblq',g1⟩:=(Q1.out.below (B1.out.trans (hb.mono B1.out.size))).int f1;simp only[Option.some.injEq,Addr.mk.injEq,and_true]at hae;obtain⟨rfl,rfl⟩:=hae;have E0:=Za he;have hk1:(k2:Int) < (n2:Int):=by have:=HN2.out;have:=HN.out;omega
   have hk2:(k2:Int)+1 < (n2:Int):=by have:=HN2.out;have:=HN.out;omega
   have hge:(k2:Int)≥0:=Om;have HK2:=Za hk2e;clear hk2e;clear hb f0 f1 he;by_cases hel:e.1=(loc:Int)
   ·have E:Hid (R=e.2):=Za (by rw[HSE.out,DB E0.out hel (fun i x hi hx=>hno.out i x Om hx)])
    have hbe:(e.1==(loc:Int))=true:=by simp[hel]
    clear hel;go_wp2_with fail;go_ret;rw[E.out];exact⟨rfl,B1.out.trans (HBR.out.mono B1.out.size)⟩
   ·have NO:Hid (∀ i x,k≤i→row[i]? = some x→x.1≠(loc:Int)):=Za fun i x hi hx=>by
     by_cases ei:i=k
     ·subst ei
      rw[E0.out]at hx;simp only[Option.some.injEq]at hx;exact hx ▸ hel
     ·exact hno.out i x Om hx
    have hbe:(e.1==(loc:Int))=false:=by simpa using hel
    clear hel;go_wp2_with fail;go_roundw
    case rel=>exact⟨k,_,Om,Gn,by have:=HK2.out;omega,NO,HBR.out⟩
    case measure=>simp[intOf];omega
theorem DH (p:List (List Ins)) (split:Bool):Xk (Zn p split)=⟨List.replicate p.length 0,List.replicate (p.length * 3) 0,List.replicate 3 0,List.replicate (p.length * Yj split) []⟩:=by
 unfold Xk Zn Yo;simp[ZI]
theorem AB (pa:Option Addr) (pk:Nat) (p:List (List Ins)) (split:Bool) (w:World) (hpl:p.length≤3) :
 Calls Tryz.prog 117 #[.slice pa p.length pk,.bool split] w (Xt w (Xk (Zn p split))):=by
 have hb3:Yj split≤3:=by cases split <;> simp[Yj]
 have hnn:p.length * Yj split≤9:=Nat.mul_le_mul hpl hb3;have HS:=Za (fun W=>A8 pa pk p.length (p.length * Yj split) W Om Om);have HBU:=Za (fun W=>J3 split W);have HST:=Za (DH p split);rw[← HST.out]at HS;generalize Xk (Zn p split)=st at *;generalize p.length=n at *;generalize Yj split=N at *;obtain⟨T,hT⟩:∃ T,T=n * N:=⟨_,rfl⟩
 have hmul:(n:Int) * (N:Int)=(T:Int):=by rw[hT];push_cast;rfl
 rw[← hT]at HS hnn;clear hT;obtain⟨A0,hA0⟩:∃ A0,A0=w.alloc (.cells #[.slice none 0 0,.slice none 0 0,.slice none 0 0,.slice none 0 0] 141):=⟨_,rfl⟩
 have HB:Hid (Below w.heap.size w A0):=Za (by rw[hA0];exact Ze _ _);have hz:A0.heap.size=w.heap.size+1:=by rw[hA0];simp
 have HX2:Hid (A0.heap[w.heap.size]? = some (.cells #[.slice none 0 0,.slice none 0 0,.slice none 0 0,.slice none 0 0] 141 (0,0))):=Za (by rw[hA0];exact heap_alloc_new w _);have HA0:=Za hA0;clear hA0;go_enter Tryz.func117,Tryz.ntmps117;go_wp2_with (first
  | (go_at_call 140;(with_reducible refine(HBU.out _).mono ?_);rintro e w1 ⟨rfl,rfl⟩)
  | (go_at_call 109;rw[← HA0.out];(with_reducible refine(HS.out A0).mono ?_);rintro e w2 ⟨x,m,rfl,hs2,hb2⟩;have S2:=Za hs2;have B2:=Za hb2;have hbk:=(hb2.block w.heap.size Om).trans HX2.out;have r0:w2.cell? ⟨w.heap.size,0,none⟩=some (.slice none 0 0):=Zc hbk (k:=0) rfl;have r1:w2.cell? ⟨w.heap.size,1,none⟩=some (.slice none 0 0):=Zc hbk (k:=1) rfl;have r2:w2.cell? ⟨w.heap.size,2,none⟩=some (.slice none 0 0):=Zc hbk (k:=2) rfl;have r3:w2.cell? ⟨w.heap.size,3,none⟩=some (.slice none 0 0):=Zc hbk (k:=3) rfl;have rfz:=Z6 hbk;have rl:=Zb r0;have T0:Hid (Ry 141 w2 w.heap.size):=Za ⟨_,hbk⟩;clear hs2 hb2 hbk))
 have hS:=S2.out.mono (show w.heap.size≤A0.heap.size by omega);have t0:=T0.out;refine bodyPost_ret (v:=.agg #[.slice x.p.a x.p.n x.p.cap,.slice x.r.a x.r.n x.r.cap,.slice x.m.a x.m.n x.m.cap,.slice x.b.a x.b.n x.b.cap]) (by simp[results,Tryz.results117,go_sem, *]) rfl ⟨x,m,rfl,?_,?_⟩
 ·exact(((hS.Yh Dc Dc t0).Yh Dc Dc (t0.set _ _ _)).Yh Dc Dc ((t0.set _ _ _).set _ _ _)).Yh Dc Dc (((t0.set _ _ _).set _ _ _).set _ _ _)
 ·exact((((HB.out.trans (B2.out.mono HB.out.size)).setCell (p:=⟨w.heap.size,0,none⟩) (Nat.le_refl _) _).setCell (p:=⟨w.heap.size,1,none⟩) (Nat.le_refl _) _).setCell (p:=⟨w.heap.size,2,none⟩) (Nat.le_refl _) _).setCell (p:=⟨w.heap.size,3,none⟩) (Nat.le_refl _) _
theorem BK (vp:Value) (p:List (List Ins)) (x:SV) (s:Bf) (w:World) (hp:Z5 w vp p) (hx:ZB w x (Xk s)) (hl:s.q.pc.length=p.length) (hpl:p.length≤1048576) :
 Calls Tryz.prog 118 #[vp,.agg #[.slice x.p.a x.p.n x.p.cap,.slice x.r.a x.r.n x.r.cap,.slice x.m.a x.m.n x.m.cap,.slice x.b.a x.b.n x.b.cap]] w
  fun e w'=>e = .returned (.bool (Yf p s))∧Below w.heap.size w w':=by
 have HX0:=Za hx;have HP:=Za hp
 have HD:=Za (fun W (h1:Z5 W vp p) h2=>BJ vp p x (Xk s) W h1 h2 hl hpl);obtain⟨va,vc,rfl,-,-,-,-⟩:=hp.open;obtain⟨⟨pa,pn,pk⟩,⟨ra,rn,rk⟩,⟨ma,mn,mk⟩,⟨ba,bn,bk⟩⟩:=x;obtain⟨_,_,hv2,-,-,-,-⟩:=hx.bf.open;simp only[Zt.v,Value.slice.injEq]at hv2;obtain⟨rfl,hn2,rfl⟩:=hv2;rw[List.length_map]at hn2;have HX:Hid (Yv Zo w (.slice ba bn bk) (s.bf.map ZI)):=Za hx.bf;obtain⟨A0,hA0⟩:∃ A0,A0=w.alloc (.cells #[.slice pa pn pk,.slice ra rn rk,.slice ma mn mk,.slice ba bn bk] 141):=⟨_,rfl⟩
 have HB:Hid (Below w.heap.size w A0):=Za (by rw[hA0];exact Ze _ _);have hz:A0.heap.size=w.heap.size+1:=by rw[hA0];simp
 have HX2:Hid (A0.heap[w.heap.size]? = some (.cells #[.slice pa pn pk,.slice ra rn rk,.slice ma mn mk,.slice ba bn bk] 141 (0,0))):=Za (by rw[hA0];exact heap_alloc_new w _);have HA0:=Za hA0;have HBN:=Za hn2;have HE:Hid (Yf p s=((s.bf.all List.isEmpty)&&Yi p s.q)):=Za rfl;have hcap:bn≤9223372036854775807:=by
  obtain⟨_,_,_,_,h,_,_⟩:=hx.bf.open;have e:(Xk s).bf.length=s.bf.length:=by simp
  omega
 clear hA0 hx hn2 hp hl;generalize Yf p s=R at *;simp only[St.q]at HD;generalize Yi p s.q=D at *;generalize p.length=n at *;go_enter Tryz.func118,Tryz.ntmps118;go_wp2_with fail;rw[← HA0.out]
 go_loopw [5] (fun i wr => ∃ k:Nat,k≤bn∧i = .int .i64 k∧Hid (∀ j < k,(s.bf.getD j []).isEmpty=true)∧Below A0.heap.size A0 wr) (fun i _=>bn - (intOf i).toNat)
 case atStart=>exact⟨0,Nat.zero_le _,rfl,Za (fun t h=>absurd h (Nat.not_lt_zero t)),Below.refl _ _⟩
 case round =>
  obtain⟨k,hk,rfl,hno,hb⟩:=hrel;have HBR:=Za hb;have d3:wr.cell? ⟨w.heap.size,3,none⟩=some (.slice ba bn bk):=Zc ((hb.block w.heap.size Om).trans HX2.out) (k:=3) rfl;have dl:=Zb d3;have hbw:=HB.out.trans (hb.mono HB.out.size);by_cases hlt:k < bn
  ·have hlt':=Zh hlt
   obtain⟨row,hrow⟩:=Zd (xs:=s.bf) (k:=k) (by rw[← HBN.out];exact hlt);obtain⟨b2,o2,qa,qc,hbe,hbl2,q0,-⟩:=(HX.out.below hbw).row (Qv hrow);subst hbe;rw[Xn]at q0;have HROW:=Za hrow;clear hrow hb hbw;by_cases hne:row.length > 0
   ·have hne':((2 * row.length:Nat):Int) > 0:=Om
    have E:Hid (R=false):=Za (by
     rw[HE.out];have:s.bf.all List.isEmpty=false:=by
      rw[List.all_eq_false];refine⟨row,List.mem_of_getElem? HROW.out,?_⟩;cases row with
      | nil=>simp at hne
      | cons x r=>simp
     rw[this];rfl)
    go_wp2_with fail;go_ret;rw[E.out];exact⟨rfl,HB.out.trans (HBR.out.mono HB.out.size)⟩
   ·have hne':¬ ((2 * row.length:Nat):Int) > 0:=Om
    have NO:Hid (∀ j < k+1,(s.bf.getD j []).isEmpty=true):=Za fun j hj=>by
     by_cases e:j=k
     ·subst e
      rw[List.getD_eq_getElem?_getD,HROW.out];cases row with
      | nil=>rfl
      | cons x r=>simp at hne
     ·exact hno.out j Om
    go_wp2_with fail;go_roundw
    case rel=>exact⟨k+1,Om,Gn,NO,HBR.out⟩
    case measure=>simp[intOf];omega
  ·obtain rfl:k=bn:=Om
   have E:Hid (R=D):=Za (by
    rw[HE.out];have:s.bf.all List.isEmpty=true:=by
     rw[List.all_eq_true];intro r hr;obtain⟨j,hj⟩:=List.mem_iff_getElem?.1 hr;have:=hno.out j (by rw[HBN.out];exact(List.getElem?_eq_some_iff.1 hj).1);rwa[List.getD_eq_getElem?_getD,hj]at this
    rw[this];rfl)
   have d0:wr.cell? ⟨w.heap.size,0,none⟩=some (.slice pa pn pk):=Zc ((hb.block w.heap.size Om).trans HX2.out) (k:=0) rfl;have d1:wr.cell? ⟨w.heap.size,1,none⟩=some (.slice ra rn rk):=Zc ((hb.block w.heap.size Om).trans HX2.out) (k:=1) rfl;have d2:wr.cell? ⟨w.heap.size,2,none⟩=some (.slice ma mn mk):=Zc ((hb.block w.heap.size Om).trans HX2.out) (k:=2) rfl;have BW:=Za hbw;clear hb hbw;go_wp2_with (go_at_call 112;(with_reducible refine(HD.out _ (HP.out.below BW.out) (HX0.out.below BW.out)).mono ?_);rintro e w5 ⟨rfl,hb5⟩);go_ret;rw[E.out];exact⟨rfl,BW.out.trans (hb5.mono BW.out.size)⟩
theorem Yt.ET {α:Type}{E:El α}{T1 T2:TypeId}{us:List Zt}{w w':World}{base g n cap:Nat}{p:List (List α)}(h:Yt E T1 T2 us w base (.slice (some ⟨g,0,none⟩) n cap) p) {k:Nat}{s s':Zt}(hs:us[k]? = some s) {r':List α}
 (ho:Own E T2 w' base s'.v r') (hg:w.grownBy w' s.v.ownBlock) (hb:∀ q,s'.v.ownBlock=some q→s.v.ownBlock=some q∨w.heap.size≤q):Yt E T1 T2 (us.set k s') (w'.setCell ⟨g,k,none⟩ s'.v) base (.slice (some ⟨g,0,none⟩) n cap) (p.set k r'):=by
 obtain⟨h1,h2,h3,h4,h5⟩:=h;have hk:=(List.getElem?_eq_some_iff.1 hs).1;have hglt:=(World.ownsRow.lt h2 g rfl).2;have h2':=h2.grown hg (.inr (fun e=>h5 k s hs g (by rw[← e];rfl) rfl));have h2s:=h2'.set (i:=k) (j:=0) s' (u:=s'.v) Dc hs rfl;simp only[Zw,Nat.mul_one,Nat.add_zero]at h2s;have hgs:w'.grownBy (w'.setCell ⟨g,k,none⟩ s'.v) (some g):=Qx (World.grownBy.refl _ _) _ _;have hlt:∀ (i:Nat) (u:Zt),us[i]? = some u→∀ q,u.v.ownBlock=some q→q < w.heap.size:=fun i u hi q hq=>by
  obtain⟨r,hr⟩:=Zd (xs:=p) (k:=i) (by have:=(List.getElem?_eq_some_iff.1 hi).1;omega);exact(World.ownsRow.lt (h3 i u r hi hr) q hq).2
 have hs5:∀ q,s'.v.ownBlock=some q→q≠g:=fun q hq e=>by
  subst e;rcases hb q hq with hb | h7
  ·exact h5 k s hs q hb rfl
  ·omega
 have hs4:∀ (i:Nat) (u:Zt),us[i]? = some u→i≠k→∀ q,u.v.ownBlock=some q→s'.v.ownBlock≠some q:=fun i u hi hne q hq hq'=>by
  rcases hb q hq' with hb | h7
  ·exact h4 i k u s hi hs hne q hq hb
  ·have:=hlt i u hi q hq;omega
 have split:∀ (i:Nat) (u:Zt),(us.set k s')[i]? = some u→(i=k∧u=s')∨(i≠k∧us[i]? = some u):=fun i u hi=>by
  rw[List.getElem?_set]at hi;by_cases e:k=i
  ·subst e;rw[if_pos rfl,if_pos hk]at hi;simp at hi;exact .inl ⟨rfl,hi.symm⟩
  ·rw[if_neg e]at hi;exact .inr ⟨fun h=>e h.symm,hi⟩
 refine⟨by simp[h1],h2s,?_,?_,?_⟩
 ·intro i u r hi hr
  rcases split i u hi with⟨e1,e2⟩ | ⟨hne,hi'⟩
  ·rw[e1,List.getElem?_set,if_pos rfl,if_pos Om]at hr
   simp at hr;subst hr;rw[e2];refine ho.grown hgs ?_;rcases hq:s'.v.ownBlock with _ | q
   ·exact .inl rfl
   ·exact .inr (fun e=>hs5 q hq (by simpa using e))
  ·rw[List.getElem?_set,if_neg (fun e=>hne e.symm)]at hr
   refine((h3 i u r hi' hr).grown hg ?_).grown hgs ?_
   ·rcases hq:u.v.ownBlock with _ | q
    ·exact .inl rfl
    ·exact .inr (fun e=>h4 i k u s hi' hs hne q hq e.symm)
   ·rcases hq:u.v.ownBlock with _ | q
    ·exact .inl rfl
    ·exact .inr (fun e=>h5 i u hi' q hq (by rw[e];rfl))
 ·intro i j u u' hi hj hij q hq hq'
  rcases split i u hi with⟨e1,e2⟩ | ⟨hne,hi'⟩
  ·rcases split j u' hj with⟨e3,e4⟩ | ⟨hne',hj'⟩
   ·omega
   ·rw[e2]at hq;exact hs4 j u' hj' hne' q hq' hq
  ·rcases split j u' hj with⟨e3,e4⟩ | ⟨hne',hj'⟩
   ·rw[e4]at hq';exact hs4 i u hi' hne q hq hq'
   ·exact h4 i j u u' hi' hj' hij q hq hq'
 ·intro i u hi q hq hq'
  rcases split i u hi with⟨e1,e2⟩ | ⟨hne,hi'⟩
  ·rw[e2]at hq;exact hs5 q hq (by simp[Value.ownBlock]at hq';exact hq'.symm)
  ·exact h5 i u hi' q hq hq'
structure DS (w:World) (O m:Nat) (xs:List Value) (y:SV) (s:St) (V:World):Prop where
 bx:V.heap[w.heap.size]? = some (.cells xs.toArray 141 (0,0))
 br:V.heap[w.heap.size+1]? = some (.cells #[.slice none 0 0,.slice none 0 0,.slice none 0 0,.slice none 0 0] 141 (0,0))
 bo:V.heap[O]? = some (.cells #[.slice y.p.a y.p.n y.p.cap,.slice y.r.a y.r.n y.r.cap,.slice y.m.a y.m.n y.m.cap,.slice y.b.a y.b.n y.b.cap] 141 (0,0))
 st:Y0 V (w.heap.size+2) m y s
 bl:Below w.heap.size w V
 n1:w.heap.size+1 < O
 n3:m≤O
theorem Vt.f {w V:World}{O I m:Nat}{xs i:List Value}{y:SV}{s:St}(h:Vt w O I m xs y i s V):DS w O m xs y s V:=⟨h.bx,h.br,h.bo,h.st,h.bl,h.n1,h.n3⟩
section
variable {w V V' : World} {O m g k : Nat} {xs : List Value} {y : SV} {s : St} {v : Int}
theorem DS.below (h:DS w O m xs y s V) (hb:Below V.heap.size V V'):DS w O m xs y s V':=
 have e:∀ {q ob},V.heap[q]? = some ob→V'.heap[q]? = some ob:=fun hq=>(hb.block _ (Array.getElem?_eq_some_iff.1 hq).1).trans hq
 ⟨e h.bx,e h.br,e h.bo,h.st.below hb,h.bl.trans (hb.mono h.bl.size),h.n1,h.n3⟩
theorem DS.mm (h:DS w O m xs y s V) (hg:y.m.a=some ⟨g,0,none⟩) (hk:k < s.mm.length) (v:Int):DS w O m xs y { s with mm:=s.mm.set k v } (V.setCell ⟨g,k,none⟩ (.int .i64 v))∧g < V.heap.size∧(∃ x,V.cell? ⟨g,k,none⟩=some (.int .i64 x))∧V.frozen? ⟨g,k,none⟩=false:=by
 obtain⟨y1,y2,⟨a,n,c⟩,y4⟩:=y;subst hg;obtain⟨x,hx⟩:=Zd hk;obtain⟨k1,k2,k3,k4,k5⟩:=h.st.ln.o3.FI hx v;have e:∀ (q:Nat) (a:Array Value) (T:TypeId),V.heap[q]? = some (Obj.cells a T (0,0))→T≠3→(V.setCell ⟨g,k,none⟩ (.int .i64 v)).heap[q]? = some (Obj.cells a T (0,0)):=fun q a T hq hT =>
  (heap_setCell_other V ⟨g,k,none⟩ q _ (show q≠g by
   rintro rfl;obtain⟨a',ha⟩:=h.st.ln.o3.Xa rfl;rw[hq]at ha;simp at ha;exact hT ha.2)).trans hq
 exact⟨⟨e _ _ _ h.bx Dc,e _ _ _ h.br Dc,e _ _ _ h.bo Dc,⟨h.st.ln.EI k4 k5 (.inl rfl),h.st.bf.Ro (h.st.p3 g rfl),h.st.p1,h.st.p2,h.st.p3,h.st.le,by simpa using h.st.lh⟩,h.bl.setCell (p:=⟨g,k,none⟩) (by have:=(World.ownsRow.lt h.st.ln.o3 g rfl).1;show _≤g;omega) _,h.n1,h.n3⟩,k1,⟨x,k2⟩,k3 k⟩
theorem DS.Hl (h:DS w O m xs y s V) {us:List Zt}{gb nb cb q:Nat}(hyb:y.b=⟨some ⟨gb,0,none⟩,nb,cb⟩) (hU:Yt Zo 66 3 us V m (.slice (some ⟨gb,0,none⟩) nb cb) s.bf) {u f:Zt}(hs:us[q]? = some u) {W:World}{r':List Int}(ho:Own Zo 3 W m f.v r') (hg:V.grownBy W u.v.ownBlock)
 (hat:∀ k,f.v.ownBlock=some k→u.v.ownBlock=some k∨V.heap.size≤k):DS w O m xs y { s with bf:=s.bf.set q r' } (W.setCell ⟨gb,q,none⟩ (.slice f.a f.n f.cap)):=by
 have hN:=hU.ET hs ho hg hat;have hgb:=World.ownsRow.lt hU.2.1 gb rfl;obtain⟨r,hr⟩:=Zd (xs:=s.bf) (k:=q) (by have:=hU.1;have:=(List.getElem?_eq_some_iff.1 hs).1;omega);have hrow:=hU.2.2.1 q u r hs hr;have hum:∀ k,u.v.ownBlock=some k→m≤k:=fun k hk=>(World.ownsRow.lt hrow k hk).1;obtain⟨ab,hab⟩:=hU.2.1.Xa (g:=gb) rfl;have kT:∀ {k:Nat}{a:Array Value}{fz:Nat × Nat},V.heap[k]? = some (Obj.cells a 141 fz)→(W.setCell ⟨gb,q,none⟩ (.slice f.a f.n f.cap)).heap[k]? = some (Obj.cells a 141 fz):=fun {k a fz} hk =>
  (heap_setCell_other W ⟨gb,q,none⟩ k _ (show k≠gb by rintro rfl;rw[hk]at hab;simp at hab)).trans ((hg.block k (Array.getElem?_eq_some_iff.1 hk).1 (fun e=>by
   obtain⟨a',ha⟩:=hrow.Xa e.symm;rw[hk]at ha;simp at ha)).trans hk)
 have kL:∀ {k:Nat},k < m→(W.setCell ⟨gb,q,none⟩ (.slice f.a f.n f.cap)).heap[k]? = V.heap[k]?:=fun {k} hk =>
  (heap_setCell_other W ⟨gb,q,none⟩ k _ (show k≠gb by have:=hgb.1;omega)).trans (hg.block k (by have:=h.st.lh;omega) (fun e=>by have:=hum k e.symm;omega))
 refine⟨kT h.bx,kT h.br,kT h.bo,⟨⟨h.st.ln.o1.J6 fun k hk=>kL (h.st.p1 k hk),h.st.ln.o2.J6 fun k hk=>kL (h.st.p2 k hk),h.st.ln.o3.J6 fun k hk=>kL (h.st.p3 k hk),h.st.ln.d12,h.st.ln.d13,h.st.ln.d23⟩,?_,h.st.p1,h.st.p2,h.st.p3,h.st.le,?_⟩,?_,h.n1,h.n3⟩
 ·rw[hyb];exact hN.own
 ·have h1:=hg.size;have h2:=h.st.lh;simp;omega
 ·have hle:=h.st.le
  exact(h.bl.grown hg h.bl.size (fun k hk=>by have:=hum k hk;omega)).setCell (p:=⟨gb,q,none⟩) (by show _≤gb;have:=hgb.1;omega) _
end
structure JW (V:World) (B m:Nat) (u:Zt) (row:List Int) (a b:Int) (c0 c1 c2:Bool) (O2:Nat) (g:Zt) (W:World):Prop where
 k:YS [3] B V W
 lo:c2=false→Below V.heap.size V W
 lit:c1=true→c2=false→W.heap[O2]? = some (.cells #[.int .i64 a,.int .i64 b] 3 (0,0))
 ap:c2=true→∃ W0,Below V.heap.size V W0∧W0.grownBy W u.v.ownBlock∧Own Zo 3 W m g.v (row++[a,b])∧∀ k,g.v.ownBlock=some k→u.v.ownBlock=some k∨W0.heap.size≤k
 i1:c1=true→c0=true
 i2:c2=true→c1=true
section
variable {V W W' : World} {B m : Nat} {u g : Zt} {row : List Int} {a b : Int} {c0 c1 c2 : Bool} {O2 : Nat}
theorem JW.start (h:Below V.heap.size V W):JW V B m u row a b false false false O2 g W:=⟨.Zf h,fun _=>h,fun h=>(by cases h),fun h=>(by cases h),fun h=>(by cases h),fun h=>(by cases h)⟩
theorem JW.call (h:JW V B m u row a b false c1 c2 O2 g W) (hb:Below W.heap.size W W'):JW V B m u row a b true c1 c2 O2 g W':=by
 have h1:c1=false:=by cases hc:c1 with
  | false=>rfl
  | true=>exact(nomatch h.i1 hc)
 have h2:c2=false:=by cases hc:c2 with
  | false=>rfl
  | true=>have:=h.i2 hc;rw[h1]at this;cases this
 subst h1;subst h2;exact⟨h.k.trans (.Zf hb),fun _=>(h.lo rfl).trans (hb.mono (h.lo rfl).size),fun e=>(by cases e),fun e=>(by cases e),fun e=>(by cases e),fun e=>(by cases e)⟩
theorem JW.Iu (h:JW V B m u row a b true false c2 O2 g W):JW V B m u row a b true true c2 W.heap.size g (W.alloc (.cells #[.int .i64 a,.int .i64 b] 3)):=by
 have h2:c2=false:=by cases hc:c2 with
  | false=>rfl
  | true=>exact(nomatch h.i2 hc)
 subst h2;have hb:=(Below.refl W.heap.size W).alloc (Nat.le_refl _) (.cells #[.int .i64 a,.int .i64 b] 3);exact⟨h.k.trans (.Zf hb),fun _=>(h.lo rfl).trans (hb.mono (h.lo rfl).size),fun _ _=>heap_alloc_new W _,fun e=>(by cases e),fun _=>rfl,fun e=>(by cases e)⟩
theorem JW.app (h:JW V B m u row a b c0 true false O2 g W) (hBm:B≤m) (hu:Own Zo 3 V m u.v row) {g':Zt}(ho:Own Zo 3 W' m g'.v (row++[a,b])) (hg:W.grownBy W' u.v.ownBlock) (hat:g'.v.ownBlock=u.v.ownBlock∨∀ q,g'.v.ownBlock=some q→W.heap.size≤q):JW V B m u row a b c0 true true O2 g' W':=
 ⟨h.k.trans (YS.grown (hu.below (h.lo rfl)) Sm hBm hg),fun e=>(by cases e),fun _ e=>(by cases e),fun _=>⟨W,h.lo rfl,hg,ho,fun k hk=>by
  rcases hat with e | e
  ·exact .inl (by rw[← e];exact hk)
  ·exact .inr (e k hk)⟩,h.i1,fun _=>rfl⟩
end
structure Hz (V:World) (B:Nat) (o:List Int) (L:List (List Int)) (c1 c2:Bool) (u pv:Zt) (W:World):Prop where
 out:Below V.heap.size V W
 o1:c1=true→Own Zo 3 W B u.v o
 o2:c2=true→Qk LS B W B pv.v L
 i2:c2=true→c1=true
theorem Hz.IN {V W W':World}{B:Nat}{o:List Int}{L:List (List Int)}{c2:Bool}{u u' pv:Zt}(h:Hz V B o L false c2 u pv W) (ho:Own Zo 3 W' W.heap.size u'.v o) (hb:Below W.heap.size W W') (hB:B≤W.heap.size):Hz V B o L true c2 u' pv W':=by
 cases hc:c2 with
 | true=>exact(nomatch h.i2 hc)
 | false=>exact⟨h.out.trans (hb.mono h.out.size),fun _=>ho.mono hB,fun e=>(nomatch e),fun e=>(nomatch e)⟩
theorem Hz.call2 {V W W':World}{B:Nat}{o:List Int}{L:List (List Int)}{u pv pv':Zt}(h:Hz V B o L true false u pv W) (ho:Qk LS B W' B pv'.v L) (hb:Below W.heap.size W W'):Hz V B o L true true u pv' W':=
 ⟨h.out.trans (hb.mono h.out.size),fun _=>(h.o1 rfl).below hb,fun _=>ho,fun _=>rfl⟩
theorem Qk.own {Ls:List TypeId}{B:Nat}{w:World}{base:Nat}{v:Value}{L:List (List Int)}(h:Qk Ls B w base v L):∃ u:Zt,v=u.v∧True:=by
 obtain⟨-,us,h1,h2,h3⟩:=h;obtain⟨u,hu,-⟩:=h2.YL;exact⟨u,hu,trivial⟩
theorem Uq {p:List (List Ins)}{s:Sq}(h:Xu p s) (hrow:∀ r∈p,r.length≤7):QY s.pc∧QY s.rg∧QY s.mm:=by
 refine⟨fun x hx => ?_,fun x hx=>by have:=h.rg x hx;omega,fun x hx=>by have:=h.mm x hx;omega⟩;obtain⟨t,ht,rfl⟩:=List.mem_iff_getElem.1 hx;obtain⟨r,hr⟩:=Zd (xs:=p) (k:=t) (by rw[← h.lp];exact ht);have h1:=h.pc t s.pc[t] r (List.getElem?_eq_getElem ht) hr;have h2:=hrow r (List.mem_of_getElem? hr);omega
theorem Own.Lb (w:World) {base:Nat}(hb:base≤w.heap.size) (x:SV):Own IE 141 (w.alloc (.cells #[.slice x.p.a x.p.n x.p.cap,.slice x.r.a x.r.n x.r.cap,.slice x.m.a x.m.n x.m.cap,.slice x.b.a x.b.n x.b.cap] 141)) base (.slice (some ⟨w.heap.size,0,none⟩) 1 1) [x]:=by
 refine⟨rfl,.inr ⟨w.heap.size,1,#[.slice x.p.a x.p.n x.p.cap,.slice x.r.a x.r.n x.r.cap,.slice x.m.a x.m.n x.m.cap,.slice x.b.a x.b.n x.b.cap],rfl,hb,heap_alloc_new w _,Nat.le_refl _,by unfold maxLen;omega,rfl,rfl⟩⟩
theorem DA {W:World}{lb lo n c:Nat}{a b:Int}{rest:List Int}(h:Z7 Zo W (.slice (some ⟨lb,lo,none⟩) n c) (a :: b :: rest)):Z7 Zo W (.slice (if c=2 then some ⟨lb,lo,none⟩ else some ⟨lb,lo+2,none⟩) (n - 2) (c - 2)) rest:=by
 obtain⟨ad,c',hv,h1,h2,h3⟩:=h;simp only[Value.slice.injEq,List.length_cons]at hv h1;obtain⟨rfl,rfl,rfl⟩:=hv;refine⟨if c=2 then some ⟨lb,lo,none⟩ else some ⟨lb,lo+2,none⟩,c - 2,by congr 1,Om,Om,fun i x hx => ?_⟩;obtain⟨bb,oo,hb,hc⟩:=h3 (i+2) x (by simpa using hx);simp only[Option.some.injEq,Addr.mk.injEq,and_true]at hb;obtain⟨rfl,rfl⟩:=hb;have hlt:=(List.getElem?_eq_some_iff.1 hx).1;rw[if_neg Om];refine⟨lb,lo+2,rfl,fun j u hu => ?_⟩;have:=hc j u hu;rw[← this]
 congr 2
 simp only[Zo];omega
structure JF (V:World) (rest:List Int) (c1 c2:Bool) (O2:Nat) (g:Zt) (W:World):Prop where
 bl:Below V.heap.size V W
 lit:c1=true→c2=false→Own Zo 3 W V.heap.size (.slice (some ⟨O2,0,none⟩) 0 0) []
 ap:c2=true→Own Zo 3 W V.heap.size g.v rest
 i:c2=true→c1=true
theorem JF.start {V W:World}(rest:List Int) (O2:Nat) (g:Zt) (h:Below V.heap.size V W):JF V rest false false O2 g W:=⟨h,fun h=>(by cases h),fun h=>(by cases h),fun h=>(by cases h)⟩
theorem JF.Lx {V W:World}{rest:List Int}{c2:Bool}{O2:Nat}{g:Zt}(h:JF V rest false c2 O2 g W):JF V rest true c2 W.heap.size g (W.alloc (.cells #[] 3)):=by
 have h2:c2=false:=by cases hc:c2 with
  | false=>rfl
  | true=>exact(nomatch h.i hc)
 subst h2;exact⟨h.bl.alloc h.bl.size _,fun _ _=>Own.empty 3 W h.bl.size,fun e=>(by cases e),fun _=>rfl⟩
theorem JF.app {V W W':World}{rest:List Int}{O2:Nat}{g g':Zt}(h:JF V rest true false O2 g W) (ho:Own Zo 3 W' V.heap.size g'.v ([]++rest)) (hg:W.grownBy W' (Zt.v ⟨some ⟨O2,0,none⟩,0,0⟩).ownBlock):JF V rest true true O2 g' W':=
 ⟨h.bl.grown hg h.bl.size (fun q hq=>(World.ownsRow.lt (h.lit rfl rfl) q hq).1),fun _ e=>(by cases e),fun _=>ho,fun _=>rfl⟩
theorem Iq (vp:Value) (p:List (List Ins)) (x:SV) (s:St) (mv k ln:Nat) (v:Int) (rest:List Int) (split:Bool) (w:World) (hp:Z5 w vp p) (hx:ZB w x s) (hmv:mv=p.length+k) (hk:s.bf[k]? = some ((ln:Int) :: v :: rest)) (hln:ln < 3)
 (h1:s.pc.length≤1000) (h2:s.rg.length≤1000) (h3:s.mm.length=3) (h4:s.bf.length≤100) (h5:∀ o∈s.bf,o.length≤1000) :
 Calls Tryz.prog 120 #[vp,.agg #[.slice x.p.a x.p.n x.p.cap,.slice x.r.a x.r.n x.r.cap,.slice x.m.a x.m.n x.m.cap,.slice x.b.a x.b.n x.b.cap],.bool split,.int .i64 (mv:Int)] w
  (Xt w ⟨s.pc,s.rg,s.mm.set ln v,s.bf.set k rest⟩):=by
 obtain⟨⟨pa,pn,pk⟩,⟨ra,rn,rk⟩,⟨ma,mn,mk⟩,⟨ba,bn,bk⟩⟩:=x;obtain⟨va,vc,rfl,hc1,hc2,hc3,hp⟩:=hp.open;obtain⟨_,_,hv4,-,-,-,-⟩:=hx.bf.open;simp only[Zt.v,Value.slice.injEq]at hv4;obtain⟨rfl,hn4,rfl⟩:=hv4;obtain⟨b2,o2,qa,qc,rfl,hbl2,q0,q1⟩:=(show Yv Zo w (.slice ba bn bk) s.bf from hx.bf).row hk;obtain⟨lb,lo,rfl,hlb,l0⟩:=q1.int (k:=0) rfl;obtain⟨lb',lo',hle,hlb',l1⟩:=q1.int (k:=1) rfl;simp only[Option.some.injEq,Addr.mk.injEq,and_true]at hle;obtain⟨rfl,rfl⟩:=hle;simp only[Nat.add_zero]at l0;have hrow5:=h5 _ (List.mem_of_getElem? hk);obtain⟨n2,hn2⟩:∃ n2,n2=((ln:Int) :: v :: rest).length:=⟨_,rfl⟩
 rw[← hn2]at q0 q1 hrow5;simp only[List.length_cons]at hn2;have hkl:=(List.getElem?_eq_some_iff.1 hk).1;have hsub:IntKind.i64.wrap ((mv:Int) - (p.length:Int))=(k:Int):=by rw[IntKind.wrap_i64];omega
 have hge:(p.length:Int)≤(mv:Int):=Om;have hkn:(k:Int) < (bn:Int):=Om;have hl0:(0:Int) < (n2:Int):=Om;have hl1:(1:Int) < (n2:Int):=Om;have hl2:(2:Int)≤(n2:Int):=Om;have hl2n:2≤n2:=Om;have hl0n:0 < n2:=Om;have hl0e:¬ n2=0:=Om;have hl0l:¬ (n2:Int)≤0:=Om;have hqc:n2≤qc:=by obtain⟨_,_,hv,h,_,_⟩:=q1;simp only[Value.slice.injEq]at hv;omega
 have HX:=Za hx;have HK:=Za hk;have HMM:=Za (show ln < s.mm.length by omega)
 have HRD:=Za (fun W (hW:Below w.heap.size w W)=>DA (q1.below hW));have HRL:=Za (show rest.length≤1000 by omega);have HCP:=Za (fun w' (h:ZB w' ⟨⟨pa,pn,pk⟩,⟨ra,rn,rk⟩,⟨ma,mn,mk⟩,⟨some ⟨b2,o2,none⟩,bn,bk⟩⟩ s)=>YG _ s w' h Om Om Om Om (fun o ho=>by have:=h5 o ho;omega));obtain⟨A0,hA0⟩:∃ A0,A0=(w.alloc (.cells #[.slice pa pn pk,.slice ra rn rk,.slice ma mn mk,.slice (some ⟨b2,o2,none⟩) bn bk] 141)).alloc (.cells #[.slice none 0 0,.slice none 0 0,.slice none 0 0,.slice none 0 0] 141):=⟨_,rfl⟩
 have hz:A0.heap.size=w.heap.size+2:=by rw[hA0];simp
 have HX2:Hid (A0.heap[w.heap.size]? = some (.cells #[.slice pa pn pk,.slice ra rn rk,.slice ma mn mk,.slice (some ⟨b2,o2,none⟩) bn bk] 141 (0,0))):=Za (by
  rw[hA0,heap_alloc_old _ _ Sm];exact heap_alloc_new w _)
 have HR2:Hid (A0.heap[w.heap.size+1]? = some (.cells #[.slice none 0 0,.slice none 0 0,.slice none 0 0,.slice none 0 0] 141 (0,0))):=Za (by
  have h:=heap_alloc_new (w.alloc (.cells #[.slice pa pn pk,.slice ra rn rk,.slice ma mn mk,.slice (some ⟨b2,o2,none⟩) bn bk] 141)) (.cells #[.slice none 0 0,.slice none 0 0,.slice none 0 0,.slice none 0 0] 141);rw[hA0];simpa using h)
 have HB:Hid (Below w.heap.size w A0):=Za (by rw[hA0];exact(Ze w _).alloc Sm _);have a0:A0.cell? ⟨w.heap.size,0,none⟩=some (.slice pa pn pk):=Zc HX2.out (k:=0) rfl;have a1:A0.cell? ⟨w.heap.size,1,none⟩=some (.slice ra rn rk):=Zc HX2.out (k:=1) rfl;have a2:A0.cell? ⟨w.heap.size,2,none⟩=some (.slice ma mn mk):=Zc HX2.out (k:=2) rfl;have a3:A0.cell? ⟨w.heap.size,3,none⟩=some (.slice (some ⟨b2,o2,none⟩) bn bk):=Zc HX2.out (k:=3) rfl;have al:=Zb a0;have HA0:=Za hA0;have Q0:=Za q0;have L0:=Za l0;have L1:=Za l1;have HMV:=Za hmv
 have HZ:=Za hz;clear hn4 hx hp q1 hA0 hk h1 h2 h3 h4 h5 q0 l0 l1 hlb' hmv hn2 hkl hrow5 hz;generalize hpn:p.length=n at *;clear hpn;go_enter Tryz.func120,Tryz.ntmps120;go_wp2_with fail;rw[← HA0.out]
 go_wp2_with (go_at_call 137;(with_reducible refine(HCP.out _ (HX.out.below HB.out)).mono ?_);rintro e w1 ⟨y,m,rfl,hs1,hb1⟩;have S1:=Za hs1;have B1:=Za hb1;have hsz1:=hb1.size;have c3:=(hb1.cell (p:=⟨w.heap.size,3,none⟩) al).trans a3;have c3w:(w1.alloc (.cells #[.slice y.p.a y.p.n y.p.cap,.slice y.r.a y.r.n y.r.cap,.slice y.m.a y.m.n y.m.cap,.slice y.b.a y.b.n y.b.cap] 141)).cell? ⟨w.heap.size,3,none⟩=some (.slice (some ⟨b2,o2,none⟩) bn bk):=((Ze w1 (.cells #[.slice y.p.a y.p.n y.p.cap,.slice y.r.a y.r.n y.r.cap,.slice y.m.a y.m.n y.m.cap,.slice y.b.a y.b.n y.b.cap] 141)).cell (p:=⟨w.heap.size,3,none⟩) (Zb c3)).trans c3;have c3l:=Zb c3w;have qw:(w1.alloc (.cells #[.slice y.p.a y.p.n y.p.cap,.slice y.r.a y.r.n y.r.cap,.slice y.m.a y.m.n y.m.cap,.slice y.b.a y.b.n y.b.cap] 141)).cell? ⟨b2,o2+k,none⟩=some (.slice (some ⟨lb,lo,none⟩) n2 qc):=(((HB.out.trans (hb1.mono HB.out.size)).alloc (HB.out.trans (hb1.mono HB.out.size)).size (.cells #[.slice y.p.a y.p.n y.p.cap,.slice y.r.a y.r.n y.r.cap,.slice y.m.a y.m.n y.m.cap,.slice y.b.a y.b.n y.b.cap] 141)).cell (p:=⟨b2,o2+k,none⟩) hbl2).trans Q0.out;have qwl:=Zb qw;clear hs1 hb1 c3)
 clear c3w c3l qw qwl a0 a1 a2 a3 al;obtain⟨V,hV⟩:∃ V,V=w1.alloc (.cells #[.slice y.p.a y.p.n y.p.cap,.slice y.r.a y.r.n y.r.cap,.slice y.m.a y.m.n y.m.cap,.slice y.b.a y.b.n y.b.cap] 141):=⟨_,rfl⟩
 have hz:=HZ.out;have BV:Hid (Below A0.heap.size A0 V):=Za (by rw[hV];exact B1.out.alloc B1.out.size _);have HD1:Hid (DS w w1.heap.size m [.slice pa pn pk,.slice ra rn rk,.slice ma mn mk,.slice (some ⟨b2,o2,none⟩) bn bk] y s V):=Za (by
  refine⟨(BV.out.block w.heap.size Om).trans HX2.out,(BV.out.block (w.heap.size+1) Om).trans HR2.out,?_,?_,HB.out.trans (BV.out.mono HB.out.size),Om,S1.out.lh⟩
  ·rw[hV];exact heap_alloc_new w1 _
  ·have h:=S1.out.below (Ze w1 (.cells #[.slice y.p.a y.p.n y.p.cap,.slice y.r.a y.r.n y.r.cap,.slice y.m.a y.m.n y.m.cap,.slice y.b.a y.b.n y.b.cap] 141));rw[hz]at h;rw[hV];exact h)
 rw[← hV];clear hV S1 B1 hz hsz1 BV;obtain⟨gm,hgm,-⟩:=HD1.out.st.ln.o3.QN (Zd HMM.out).choose_spec;obtain⟨⟨yp1,yp2,yp3⟩,⟨yr1,yr2,yr3⟩,⟨ym1,ym2,ym3⟩,⟨yb1,yb2,yb3⟩⟩:=y;subst hgm;have hym2:(ln:Int) < (ym2:Int):=by have:=(show ym2=s.mm.length from HD1.out.st.ln.o3.len);have:=HMM.out;omega
 -- ZQ r4f
 refine Zl (n:=9) Kr rfl Kr Kr (fun A ls a' W => ∃ (x27 x28 x29 x30 x31 x32 x33 x34 x35:Value),a'=Zk A [(27,x27),(28,x28),(29,x29),(30,x30),(31,x31),(32,x32),(33,x33),(34,x34),(35,x35)]∧Vd ls 0 [] x27 (.pointer (some ⟨w1.heap.size,2,none⟩))∧Vd ls 1 [] x28 (.slice (some ⟨gm,0,none⟩) ym2 ym3)∧Vd ls 2 [] x29 (.slice (some ⟨lb,lo,none⟩) n2 qc)∧Vd ls 3 [] x30 (.pointer (some ⟨lb,lo,none⟩))∧Vd ls 4 [] x31 (.int .i64 (ln:Int))∧Vd ls 5 [] x32 (.slice (some ⟨lb,lo,none⟩) n2 qc)∧Vd ls 6 [] x33 (.pointer (some ⟨lb,lo+1,none⟩))∧Vd ls 7 [] x34 (.int .i64 v)∧Vd ls 8 [] x35 (.pointer (some ⟨gm,ln,none⟩))∧Below V.heap.size V W) ?r0 ?rs ?re
 case r0 =>
  exact⟨undef,undef,undef,undef,undef,undef,undef,undef,undef,pA,Vs,Vs,Vs,Vs,Vs,Vs,Vs,Vs,Vs,by exact(Below.refl _ _).drew⟩
 case rs =>
  rintro ls a' W hs hnl ⟨x27,x28,x29,x30,x31,x32,x33,x34,x35,ha,cv0,cv1,cv2,cv3,cv4,cv5,cv6,cv7,cv8,hJ⟩ k o hkn mc K hK;simp only[Zk,Act.put,List.setIfInBounds_toArray,List.set_cons_succ,List.set_cons_zero]at ha;subst ha;have hkc:k=0∨k=1∨k=2∨k=3∨k=4∨k=5∨k=6∨k=7∨k=8:=Om;have hop:=mc.op;have haf:=mc.after;rcases hkc with rfl | rfl | rfl | rfl | rfl | rfl | rfl | rfl | rfl
  ·simp at hop;subst hop;simp[Region.binds]at haf
   go_simp;exact hK _ _ ⟨_,_,_,_,_,_,_,_,_,pA,Ve,cv1.s,cv2.s,cv3.s,cv4.s,cv5.s,cv6.s,cv7.s,cv8.s,by exact hJ⟩
  ·simp at hop;subst hop;simp[Region.binds]at haf
   obtain rfl:=(cv0.get (by simp[haf])).symm;have d2:W.cell? ⟨w1.heap.size,2,none⟩=some (.slice (some ⟨gm,0,none⟩) ym2 ym3):=Zc ((hJ.block w1.heap.size (Array.getElem?_eq_some_iff.1 HD1.out.bo).1).trans HD1.out.bo) (k:=2) rfl;have dl:=Zb d2;go_simp;exact hK _ _ ⟨_,_,_,_,_,_,_,_,_,pA,cv0.s,Ve,cv2.s,cv3.s,cv4.s,cv5.s,cv6.s,cv7.s,cv8.s,by exact hJ⟩
  ·simp at hop;subst hop;simp[Region.binds]at haf
   go_simp;exact hK _ _ ⟨_,_,_,_,_,_,_,_,_,pA,cv0.s,cv1.s,Ve,cv3.s,cv4.s,cv5.s,cv6.s,cv7.s,cv8.s,by exact hJ⟩
  ·simp at hop;subst hop;simp[Region.binds]at haf
   obtain rfl:=(cv2.get (by simp[haf])).symm;go_simp;exact hK _ _ ⟨_,_,_,_,_,_,_,_,_,pA,cv0.s,cv1.s,cv2.s,Ve,cv4.s,cv5.s,cv6.s,cv7.s,cv8.s,by exact hJ⟩
  ·simp at hop;subst hop;simp[Region.binds]at haf
   obtain rfl:=(cv3.get (by simp[haf])).symm;have hbw:=HD1.out.bl.trans (hJ.mono HD1.out.bl.size);have q2:=(hbw.cell (p:=⟨lb,lo,none⟩) hlb).trans L0.out;have ql:=Zb q2;go_simp;exact hK _ _ ⟨_,_,_,_,_,_,_,_,_,pA,cv0.s,cv1.s,cv2.s,cv3.s,Ve,cv5.s,cv6.s,cv7.s,cv8.s,by exact hJ⟩
  ·simp at hop;subst hop;simp[Region.binds]at haf
   go_simp;exact hK _ _ ⟨_,_,_,_,_,_,_,_,_,pA,cv0.s,cv1.s,cv2.s,cv3.s,cv4.s,Ve,cv6.s,cv7.s,cv8.s,by exact hJ⟩
  ·simp at hop;subst hop;simp[Region.binds]at haf
   obtain rfl:=(cv5.get (by simp[haf])).symm;go_simp;exact hK _ _ ⟨_,_,_,_,_,_,_,_,_,pA,cv0.s,cv1.s,cv2.s,cv3.s,cv4.s,cv5.s,Ve,cv7.s,cv8.s,by exact hJ⟩
  ·simp at hop;subst hop;simp[Region.binds]at haf
   obtain rfl:=(cv6.get (by simp[haf])).symm;have hbw:=HD1.out.bl.trans (hJ.mono HD1.out.bl.size);have q2:=(hbw.cell (p:=⟨lb,lo+1,none⟩) hlb).trans L1.out;have ql:=Zb q2;go_simp;exact hK _ _ ⟨_,_,_,_,_,_,_,_,_,pA,cv0.s,cv1.s,cv2.s,cv3.s,cv4.s,cv5.s,cv6.s,Ve,cv8.s,by exact hJ⟩
  ·simp at hop;subst hop;simp[Region.binds]at haf
   obtain rfl:=(cv1.get (by simp[haf])).symm;obtain rfl:=(cv4.get (by simp[haf])).symm;go_simp;exact hK _ _ ⟨_,_,_,_,_,_,_,_,_,pA,cv0.s,cv1.s,cv2.s,cv3.s,cv4.s,cv5.s,cv6.s,cv7.s,Ve,by exact hJ⟩
 case re =>
  rintro ls a' W hall ⟨x27,x28,x29,x30,x31,x32,x33,x34,x35,ha,cv0,cv1,cv2,cv3,cv4,cv5,cv6,cv7,cv8,hJ⟩ o hop;simp only[Zk,Act.put,List.setIfInBounds_toArray,List.set_cons_succ,List.set_cons_zero]at ha;subst ha;simp at hop;subst hop;obtain rfl:=cv0.ga hall;obtain rfl:=cv1.ga hall;obtain rfl:=cv2.ga hall;obtain rfl:=cv3.ga hall;obtain rfl:=cv4.ga hall;obtain rfl:=cv5.ga hall;obtain rfl:=cv6.ga hall;obtain rfl:=cv7.ga hall;obtain rfl:=cv8.ga hall;obtain⟨hD,hgl,⟨z,hz0⟩,hfz⟩:=(HD1.out.below hJ).mm (k:=ln) rfl HMM.out (v);go_simp;have HD2:=Za hD;obtain⟨V2,hV2⟩:∃ V2,V2=W.setCell ⟨gm,ln,none⟩ (.int .i64 (v)):=⟨_,rfl⟩
  rw[← hV2]at HD2;simp only[← hV2];clear hD hgl hz0 hfz hJ hV2;go_wp2_with fail;obtain⟨us,hU,-⟩:=HD2.out.st.bf.told;rcases hU.2.1.shape with⟨_,hn⟩ | ⟨gb,cb,hyb,-⟩
  ·exfalso
   have h1:=hU.1;have h2:=(List.getElem?_eq_some_iff.1 HK.out).1;rw[hn]at h1;simp at h1;have h3:s.bf.length=0:=by first | exact h1.symm | simpa using h1.symm | (rw[← h1];rfl)
   omega
  simp only[Zt.v,Value.slice.injEq]at hyb;obtain⟨rfl,rfl,rfl⟩:=hyb;obtain⟨u,hu,hgl,hcell,hrow,-⟩:=hU.row HK.out;have HCELL:=Za hcell;have HUU:=Za hu;have HFZ:Hid (V2.frozen? ⟨gb,k,none⟩=false):=Za (hU.2.1.frozen _)
  have HU:=Za hU;have HGL:=Za hgl
  have hku:(k:Int) < (us.length:Int):=by have:=(List.getElem?_eq_some_iff.1 hu).1;omega
  clear hU hu hcell hrow hgl
  -- ZQ r5f
  refine Zl (n:=11) Kr rfl Kr Kr (fun A ls a' W => ∃ (O2:Nat) (g:Zt) (x36 x37 x38 x39 x40 x41 x42 x43 x44 x45 x46:Value),a'=Zk A [(36,x36),(37,x37),(38,x38),(39,x39),(40,x40),(41,x41),(42,x42),(43,x43),(44,x44),(45,x45),(46,x46)]∧Vd ls 0 [] x36 (.pointer (some ⟨w1.heap.size,3,none⟩))∧Vd ls 1 [] x37 (.slice (some ⟨gb,0,none⟩) us.length yb3)∧Vd ls 2 [] x38 (.int .i64 (mv:Int))∧Vd ls 3 [] x39 (.slice va n vc)∧Vd ls 4 [] x40 (.int .i64 (n:Int))∧Vd ls 5 [] x41 (.int .i64 (k:Int))∧Vd ls 6 [] x42 (.slice (some ⟨O2,0,none⟩) 0 0)∧Vd ls 7 [] x43 (.slice (some ⟨lb,lo,none⟩) n2 qc)∧Vd ls 8 [] x44 (.slice (if qc=2 then some ⟨lb,lo,none⟩ else some ⟨lb,lo+2,none⟩) (n2 - 2) (qc - 2))∧Vd ls 9 [6] x45 (.slice g.a g.n g.cap)∧Vd ls 10 [] x46 (.pointer (some ⟨gb,k,none⟩))∧JF V2 rest (fl ls 6) (fl ls 9) O2 g W) ?r0 ?rs ?re
  case r0 =>
   exact⟨0,⟨none,0,0⟩,undef,undef,undef,undef,undef,undef,undef,undef,undef,undef,undef,pA,Vs,Vs,Vs,Vs,Vs,Vs,Vs,Vs,Vs,Vs,Vs,by simp only[Ye];exact JF.start rest _ _ (Below.refl _ _).drew⟩
  case rs =>
   rintro ls a' W hs hnl ⟨O2,g,x36,x37,x38,x39,x40,x41,x42,x43,x44,x45,x46,ha,cv0,cv1,cv2,cv3,cv4,cv5,cv6,cv7,cv8,cv9,cv10,hJ⟩ k o hkn mc K hK;simp only[Zk,Act.put,List.setIfInBounds_toArray,List.set_cons_succ,List.set_cons_zero]at ha;subst ha;have hkc:k=0∨k=1∨k=2∨k=3∨k=4∨k=5∨k=6∨k=7∨k=8∨k=9∨k=10:=Om;have hop:=mc.op;have haf:=mc.after;rcases hkc with rfl | rfl | rfl | rfl | rfl | rfl | rfl | rfl | rfl | rfl | rfl
   ·simp at hop;subst hop;simp[Region.binds]at haf
    go_simp;exact hK _ _ ⟨O2,g,_,_,_,_,_,_,_,_,_,_,_,pA,Ve,cv1.s,cv2.s,cv3.s,cv4.s,cv5.s,cv6.s,cv7.s,cv8.s,cv9.s,cv10.s,by rw[fs 0 6,fs 0 9];exact hJ⟩
   ·simp at hop;subst hop;simp[Region.binds]at haf
    obtain rfl:=(cv0.get (by simp[haf])).symm;have d3:W.cell? ⟨w1.heap.size,3,none⟩=some (.slice (some ⟨gb,0,none⟩) us.length yb3):=Zc ((hJ.bl.block w1.heap.size (Array.getElem?_eq_some_iff.1 HD2.out.bo).1).trans HD2.out.bo) (k:=3) rfl;have dl:=Zb d3;go_simp;exact hK _ _ ⟨O2,g,_,_,_,_,_,_,_,_,_,_,_,pA,cv0.s,Ve,cv2.s,cv3.s,cv4.s,cv5.s,cv6.s,cv7.s,cv8.s,cv9.s,cv10.s,by rw[fs 1 6,fs 1 9];exact hJ⟩
   ·simp at hop;subst hop;simp[Region.binds]at haf
    go_simp;exact hK _ _ ⟨O2,g,_,_,_,_,_,_,_,_,_,_,_,pA,cv0.s,cv1.s,Ve,cv3.s,cv4.s,cv5.s,cv6.s,cv7.s,cv8.s,cv9.s,cv10.s,by rw[fs 2 6,fs 2 9];exact hJ⟩
   ·simp at hop;subst hop;simp[Region.binds]at haf
    go_simp;exact hK _ _ ⟨O2,g,_,_,_,_,_,_,_,_,_,_,_,pA,cv0.s,cv1.s,cv2.s,Ve,cv4.s,cv5.s,cv6.s,cv7.s,cv8.s,cv9.s,cv10.s,by rw[fs 3 6,fs 3 9];exact hJ⟩
   ·simp at hop;subst hop;simp[Region.binds]at haf
    obtain rfl:=(cv3.get (by simp[haf])).symm;go_simp;exact hK _ _ ⟨O2,g,_,_,_,_,_,_,_,_,_,_,_,pA,cv0.s,cv1.s,cv2.s,cv3.s,Ve,cv5.s,cv6.s,cv7.s,cv8.s,cv9.s,cv10.s,by rw[fs 4 6,fs 4 9];exact hJ⟩
   ·simp at hop;subst hop;simp[Region.binds]at haf
    obtain rfl:=(cv2.get (by simp[haf])).symm;obtain rfl:=(cv4.get (by simp[haf])).symm;go_simp;exact hK _ _ ⟨O2,g,_,_,_,_,_,_,_,_,_,_,_,pA,cv0.s,cv1.s,cv2.s,cv3.s,cv4.s,Ve,cv6.s,cv7.s,cv8.s,cv9.s,cv10.s,by rw[fs 5 6,fs 5 9];exact hJ⟩
   ·simp at hop;subst hop;simp[Region.binds]at haf
    have f6:=ZV mc.new;rw[f6]at hJ;go_simp;exact hK _ _ ⟨W.heap.size,g,_,_,_,_,_,_,_,_,_,_,_,pA,cv0.s,cv1.s,cv2.s,cv3.s,cv4.s,cv5.s,Ve,cv7.s,cv8.s,cv9.void Dc Dc mc.new,cv10.s,by rw[ZD hs Dc,fs 6 9];exact hJ.Lx⟩
   ·simp at hop;subst hop;simp[Region.binds]at haf
    go_simp;exact hK _ _ ⟨O2,g,_,_,_,_,_,_,_,_,_,_,_,pA,cv0.s,cv1.s,cv2.s,cv3.s,cv4.s,cv5.s,cv6.s,Ve,cv8.s,cv9.s,cv10.s,by rw[fs 7 6,fs 7 9];exact hJ⟩
   ·simp at hop;subst hop;simp[Region.binds]at haf
    obtain rfl:=(cv7.get (by simp[haf])).symm;go_simp;exact hK _ _ ⟨O2,g,_,_,_,_,_,_,_,_,_,_,_,pA,cv0.s,cv1.s,cv2.s,cv3.s,cv4.s,cv5.s,cv6.s,cv7.s,Ve,cv9.s,cv10.s,by rw[fs 8 6,fs 8 9];exact hJ⟩
   ·simp at hop;subst hop;simp[Region.binds]at haf
    obtain rfl:=(cv6.get (by simp[haf])).symm;obtain rfl:=(cv8.get (by simp[haf])).symm;have f9:=ZV mc.new;rw[f9]at hJ;have f6:=Zz (show ls[6]? = some true by simp[haf]);rw[f6]at hJ;refine ZT Zo 3 Tryz.Yb rfl Tryz.underlying66 V2.heap.size ⟨some ⟨O2,0,none⟩,0,0⟩ [] rest _ (hJ.lit rfl rfl) (HRD.out W (HD2.out.bl.trans (hJ.bl.mono HD2.out.bl.size))) Dc (by have:=HRL.out;simp;omega) hJ.bl.size Rf _ _ Rf Rf Rf ?_;intro g6 w6 hown6 hgr6 hat6;exact hK _ _ ⟨O2,g6,_,_,_,_,_,_,_,_,_,_,_,pA,cv0.s,cv1.s,cv2.s,cv3.s,cv4.s,cv5.s,cv6.s,cv7.s,cv8.s,Vd.same (by simp[haf]),cv10.s,by rw[fs 9 6,ZD hs Dc,f6];exact hJ.app hown6 hgr6⟩
   ·simp at hop;subst hop;simp[Region.binds]at haf
    obtain rfl:=(cv1.get (by simp[haf])).symm;obtain rfl:=(cv5.get (by simp[haf])).symm;go_simp;exact hK _ _ ⟨O2,g,_,_,_,_,_,_,_,_,_,_,_,pA,cv0.s,cv1.s,cv2.s,cv3.s,cv4.s,cv5.s,cv6.s,cv7.s,cv8.s,cv9.s,Ve,by rw[fs 10 6,fs 10 9];exact hJ⟩
  case re =>
   rintro ls a' W hall ⟨O2,g,x36,x37,x38,x39,x40,x41,x42,x43,x44,x45,x46,ha,cv0,cv1,cv2,cv3,cv4,cv5,cv6,cv7,cv8,cv9,cv10,hJ⟩ o hop;simp only[Zk,Act.put,List.setIfInBounds_toArray,List.set_cons_succ,List.set_cons_zero]at ha;subst ha;simp at hop;subst hop;obtain rfl:=cv0.ga hall;obtain rfl:=cv1.ga hall;obtain rfl:=cv2.ga hall;obtain rfl:=cv3.ga hall;obtain rfl:=cv4.ga hall;obtain rfl:=cv5.ga hall;obtain rfl:=cv6.ga hall;obtain rfl:=cv7.ga hall;obtain rfl:=cv8.ga hall;obtain rfl:=cv9.ga hall;obtain rfl:=cv10.ga hall;rw[Zz (hall 6 Dc)]at hJ;rw[Zz (hall 9 Dc)]at hJ;have dg:W.cell? ⟨gb,k,none⟩=some (.slice u.a u.n u.cap):=(hJ.bl.cell (p:=⟨gb,k,none⟩) HGL.out).trans HCELL.out;have dgl:=Zb dg;have dfz:W.frozen? ⟨gb,k,none⟩=false:=(World.frozen?_of_block (a:=⟨gb,k,none⟩) (hJ.bl.block gb HGL.out)).trans HFZ.out;go_simp;have ho:=hJ.ap rfl
   have hD:=HD2.out.Hl rfl HU.out HUU.out (ho.mono HD2.out.st.lh) ⟨hJ.bl.os,hJ.bl.tape,hJ.bl.output,hJ.bl.size,fun q hq _=>hJ.bl.block q hq⟩ (fun q hq => .inr (World.ownsRow.lt ho q hq).1);obtain⟨V3,hV3⟩:∃ V3,V3=W.setCell ⟨gb,k,none⟩ (.slice g.a g.n g.cap):=⟨_,rfl⟩
   rw[← hV3]at hD;have HD3:=Za hD;simp only[← hV3];clear hD ho dg dgl dfz hJ hV3;have hD:=HD3.out;have g0:V3.cell? ⟨w1.heap.size,0,none⟩=some (.slice yp1 yp2 yp3):=Zc hD.bo (k:=0) rfl;have g1:V3.cell? ⟨w1.heap.size,1,none⟩=some (.slice yr1 yr2 yr3):=Zc hD.bo (k:=1) rfl;have g2:V3.cell? ⟨w1.heap.size,2,none⟩=some (.slice (some ⟨gm,0,none⟩) ym2 ym3):=Zc hD.bo (k:=2) rfl;have g3:V3.cell? ⟨w1.heap.size,3,none⟩=some (.slice (some ⟨gb,0,none⟩) us.length yb3):=Zc hD.bo (k:=3) rfl;have gl:=Zb g0;have r0:V3.cell? ⟨w.heap.size+1,0,none⟩=some (.slice none 0 0):=Zc hD.br (k:=0) rfl;have r1:V3.cell? ⟨w.heap.size+1,1,none⟩=some (.slice none 0 0):=Zc hD.br (k:=1) rfl;have r2:V3.cell? ⟨w.heap.size+1,2,none⟩=some (.slice none 0 0):=Zc hD.br (k:=2) rfl;have r3:V3.cell? ⟨w.heap.size+1,3,none⟩=some (.slice none 0 0):=Zc hD.br (k:=3) rfl;have rfz:=Z6 hD.br;have rl:=Zb r0;clear hD;go_wp2_with fail
   all_goals
    have hS:=HD3.out.st.mono (show w.heap.size≤w.heap.size+2 by omega);have t0:Ry 141 V3 (w.heap.size+1):=⟨_,HD3.out.br⟩
    refine bodyPost_ret (v:=.agg #[.slice yp1 yp2 yp3,.slice yr1 yr2 yr3,.slice (some ⟨gm,0,none⟩) ym2 ym3,.slice (some ⟨gb,0,none⟩) us.length yb3]) (by simp[results,Tryz.results120,go_sem, *]) rfl ⟨⟨⟨yp1,yp2,yp3⟩,⟨yr1,yr2,yr3⟩,⟨some ⟨gm,0,none⟩,ym2,ym3⟩,⟨some ⟨gb,0,none⟩,us.length,yb3⟩⟩,m,rfl,?_,?_⟩
    ·exact(((hS.Yh Dc Dc t0).Yh Dc Dc (t0.set _ _ _)).Yh Dc Dc ((t0.set _ _ _).set _ _ _)).Yh Dc Dc (((t0.set _ _ _).set _ _ _).set _ _ _)
    ·exact(((HD3.out.bl.setCell (p:=⟨w.heap.size+1,0,none⟩) (show w.heap.size≤w.heap.size+1 by omega) _).setCell (p:=⟨w.heap.size+1,1,none⟩) (show w.heap.size≤w.heap.size+1 by omega) _).setCell (p:=⟨w.heap.size+1,2,none⟩) (show w.heap.size≤w.heap.size+1 by omega) _).setCell (p:=⟨w.heap.size+1,3,none⟩) (show w.heap.size≤w.heap.size+1 by omega) _
  -- end r5f
 -- end r4f
end Go.Proofs.YtngekjpklkjnbaaGreat
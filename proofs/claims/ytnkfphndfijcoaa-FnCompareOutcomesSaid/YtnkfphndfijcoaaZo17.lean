/-
  The outcome of a state with views. Condition: what the state reads as, bounds on lengths.
-/
import Derived.Test.YtnkfphndfijcoaaZo16
import Derived.Test.YtnkfphndfijcoaaZo03
import Derived.Test.YtnkfphndfijcoaaZo14
import Derived.Test.YtnkfphndfijcoaaZo07
import Derived.Test.YtnkfphndfijcoaaZo02
import Derived.Test.YtnkfphndfijcoaaZo15
import Derived.Test.YtnkfphndfijcoaaZo10
import Derived.Test.YtnkfphndfijcoaaZo08
import Derived.Test.YtnkfphndfijcoaaZo13
set_option maxHeartbeats 6400000
set_option maxRecDepth 100000
namespace Go.Proofs.Ytnkfphndfijcoaa
open Go.RowKit
theorem l3L_lexO (a b:List Int):l3L a b=lexO a b:=by
 induction a generalizing b with
 | nil=>cases b <;> rfl
 | cons x a ih =>
  cases b with
  | nil=>rfl
  | cons y b=>simp only[l3L,lexO,ih]
theorem putO_take {o:List Int}{L:List (List Int)}{k:Nat}(h:∀ x∈L.take k,lexO x o = -1):putO o L=L.take k++putO o (L.drop k):=by
 induction L generalizing k with
 | nil=>simp
 | cons x L ih =>
  cases k with
  | zero=>simp
  | succ k =>
   have h1:=h x (by simp);have h2:=ih (k:=k) fun y hy=>h y (by simp[hy]);rw[List.take_succ_cons,List.drop_succ_cons,List.cons_append,← h2];simp[putO,h1]
theorem putO_eq {o x:List Int}{L:List (List Int)}{k:Nat}(h:∀ x∈L.take k,lexO x o = -1) (hx:L[k]? = some x) (he:lexO x o=0):putO o L=L:=by
 obtain⟨hk,rfl⟩:=List.getElem?_eq_some_iff.1 hx;rw[putO_take h,List.drop_eq_getElem_cons hk];simp only[putO,he,if_true,if_neg (show ¬ (0:Int) = -1 by decide)];rw[← List.drop_eq_getElem_cons hk,List.take_append_drop]
theorem putO_in {o x:List Int}{L:List (List Int)}{k:Nat}(h:∀ x∈L.take k,lexO x o = -1) (hx:L[k]? = some x) (he:lexO x o=1):putO o L=L.take k++[o]++L.drop k:=by
 obtain⟨hk,rfl⟩:=List.getElem?_eq_some_iff.1 hx;rw[putO_take h,List.drop_eq_getElem_cons hk];simp[putO,he]
theorem putO_end {o:List Int}{L:List (List Int)}{k:Nat}(h:∀ x∈L.take k,lexO x o = -1) (hk:L.length≤k):putO o L=L.take k++[o]++L.drop k:=by
 rw[putO_take h,List.drop_of_length_le hk];simp[putO]
def OutL (Ls:List TypeId) (B:Nat) (w:World) (base:Nat) (v:Value) (L:List (List Int)):Prop:=
 v≠.slice none 0 0∧∃ us:List Slc,us.length=L.length∧Own SlcE 34 w base v us∧∀ (i:Nat) (u:Slc) (r:List Int),us[i]? = some u→L[i]? = some r→LocT Ls B w (fun W=>Own IntE 3 W base u.v r)
theorem OutL.step {Ls:List TypeId}{B:Nat}{w w':World}{base:Nat}{v:Value}{L:List (List Int)}(h:OutL Ls B w base v L) (k:KpT Ls B w w') (hT:34∉Ls):OutL Ls B w' base v L:=by
 obtain⟨h0,us,h1,h2,h3⟩:=h;exact⟨h0,us,h1,(LocT.own h2 hT).keep w' k,fun i u r hu hr=>(h3 i u r hu hr).step k⟩
theorem OutL.empty {Ls:List TypeId}{B:Nat}{w:World}{base:Nat}(hb:base≤w.heap.size):OutL Ls B (w.alloc (.cells #[] 34)) base (.slice (some ⟨w.heap.size,0,none⟩) 0 0) []:=
 ⟨by simp,[],rfl,Own.empty _ _ hb,fun i u r h=>by simp at h⟩
def RetOut (Ls:List TypeId) (B:Nat) (w:World) (base:Nat) (L:List (List Int)) (e:Ending) (w':World):Prop:=∃ v,e = .returned v∧OutL Ls B w' base v L∧Below w.heap.size w w'
theorem Rep.takeM {α:Type}{E:El α}{w:World}{a:Option Addr}{n c:Nat}{xs:List α}(h:Rep E w (.slice a n c) xs) {k:Nat}(hk:k≤n):Rep E w (.slice a k c) (xs.take k):=by
 obtain⟨a',c',hv,h1,h2,h3⟩:=h;simp only[Value.slice.injEq]at hv;obtain⟨rfl,rfl,rfl⟩:=hv;have hl:(xs.take k).length=k:=by rw[List.length_take];omega
 exact⟨a,c,by rw[hl],by omega,h2,fun i x hx=>h3 i x (by
  rw[List.getElem?_take]at hx;split at hx
  ·exact hx
  ·cases hx)⟩
theorem Rep.dropM {α:Type}{E:El α}{w:World}{g o n c:Nat}{xs:List α}(h:Rep E w (.slice (some ⟨g,o,none⟩) n c) xs) {k:Nat}(hk:k≤n):Rep E w (.slice (some ⟨g,o+k * E.sz,none⟩) (n - k) (c - k)) (xs.drop k):=by
 obtain⟨a',c',hv,h1,h2,h3⟩:=h;simp only[Value.slice.injEq]at hv;obtain⟨rfl,rfl,rfl⟩:=hv;refine⟨_,c - k,by rw[List.length_drop],by rw[List.length_drop];omega,by omega,fun i x hx => ?_⟩;rw[List.getElem?_drop]at hx;obtain⟨b,o',hb,hi⟩:=h3 (k+i) x hx;simp only[Option.some.injEq,Addr.mk.injEq,and_true]at hb;obtain⟨rfl,rfl⟩:=hb;refine⟨g,o+k * E.sz,rfl,fun j u hu => ?_⟩;have:=hi j u hu;rw[Nat.add_mul]at this;rw[← this]
 congr 2
 omega
theorem Rep.tail0 {α:Type}{E:El α}{w:World}{a:Option Addr}{n c k:Nat}{xs:List α}(h:Rep E w (.slice a n c) xs) (hk:n≤k) {a':Option Addr}{c':Nat}(hc:c'≤maxLen):Rep E w (.slice a' 0 c') (xs.drop k):=by
 obtain⟨a2,c2,hv,h1,h2,h3⟩:=h;simp only[Value.slice.injEq]at hv;obtain⟨rfl,rfl,rfl⟩:=hv;rw[List.drop_of_length_le hk];exact⟨a',c',rfl,Nat.zero_le _,hc,fun i x hx=>by simp at hx⟩
theorem out_in {Ls:List TypeId}{B base:Nat}{w w8:World}{us:List Slc}{L R:List (List Int)}{u:Slc}{o:List Int}{v8:Value}{k:Nat}(hul:us.length=L.length)
 (hrows:∀ (i:Nat) (u:Slc) (r:List Int),us[i]? = some u→L[i]? = some r→LocT Ls B w (fun W=>Own IntE 3 W base u.v r)) (ho:LocT Ls B w (fun W=>Own IntE 3 W base u.v o)) (hR:R=L.take k++[o]++L.drop k)
 (h8:Own SlcE 34 w8 w.heap.size v8 (us.take k++[u]++us.drop k)) (hb:Below w.heap.size w w8) (hbase:base≤w.heap.size):RetOut Ls B w base R (.returned v8) w8:=by
 refine⟨v8,rfl,⟨?_,us.take k++[u]++us.drop k,by rw[hR];simp[hul],h8.mono hbase,fun i u' r hu hr => ?_⟩,hb⟩
 ·rintro rfl
  have:=h8.len;simp at this
 ·rw[hR]at hr
  have key:∀ (i:Nat) (u':Slc) (r:List Int),us[i]? = some u'→L[i]? = some r→LocT Ls B w8 (fun W=>Own IntE 3 W base u'.v r):=fun i u' r h1 h2=>(hrows i u' r h1 h2).step (.of_below hb);have hlk:(us.take k).length=(L.take k).length:=by simp[hul]
  rw[List.append_assoc]at hu hr;rcases Nat.lt_or_ge i (us.take k).length with hi | hi
  ·rw[List.getElem?_append_left hi]at hu
   rw[List.getElem?_append_left (by omega)]at hr;rw[List.getElem?_take]at hu hr;split at hu
   ·rename_i hik
    rw[if_pos hik]at hr;exact key i u' r hu hr
   ·cases hu
  ·rw[List.getElem?_append_right hi]at hu
   rw[List.getElem?_append_right (by omega),← hlk]at hr;generalize i - (us.take k).length=j at *;cases j with
   | zero =>
    simp at hu hr;subst hu;subst hr;exact ho.step (.of_below hb)
   | succ j =>
    simp only[List.singleton_append,List.getElem?_cons_succ,List.getElem?_drop]at hu hr;exact key _ u' r hu hr
theorem l3Put_any (Ls:List TypeId) (B base:Nat) (vl:Value) (u:Slc) (L:List (List Int)) (o:List Int) (w:World) (hL:OutL Ls B w base vl L) (ho:LocT Ls B w (fun W=>Own IntE 3 W base u.v o)) (hT:34∉Ls) (hb:base≤w.heap.size) (hl:L.length≤68719476000) :
 Calls Try.prog 41 #[vl,.slice u.a u.n u.cap] w (RetOut Ls B w base (putO o L)):=by
 obtain⟨hne,us,hul,hown,hrows⟩:=hL;rcases hown.shape with⟨e,_⟩ | ⟨g,lc,rfl,hg1,hg2,hg3,hg4⟩
 ·exact absurd e hne
 have HO:=hide ho;have HT:=hide hT;have HUL:=hide hul;have HOW:=hide hown;have HRW:=hide hrows
 have HREP:=hide hown.rep;have HLE:=hide (fun w' v (x:List Int) (h:Rep IntE w' v x) (h2:Rep IntE w' u.v o)=>(l3L_lexO x o) ▸ (l3Less_any v u.v x o w' h h2));obtain⟨ua,un,uc⟩:=u;have hn:us.length=L.length:=hul;generalize hN:us.length=n at *;have HN:=hide hN;have hnl:n≤68719476000:=by omega
 clear hul hown hrows ho hT hn hN hne;go_enter Try.func41,Try.ntmps41;go_wp2_with fail
 go_loopw [5] (fun i wr => ∃ k:Nat,k≤n∧i = .int .i64 k∧Hid (∀ x∈L.take k,lexO x o = -1)∧Below w.heap.size w wr) (fun i _=>n - (intOf i).toNat)
 case atStart=>exact⟨0,Nat.zero_le _,rfl,hide (by simp),Below.refl _ _⟩
 case round =>
  obtain⟨k,hk,rfl,hlo,hbr⟩:=hrel;have HBR:=hide hbr;have hbs:=hbr.size;clear hbr;by_cases hlt:k < n
  ·have hlt':=nat_of_lt hlt
   obtain⟨x,hx⟩:=get_of_lt (xs:=L) (k:=k) (by rw[← HUL.out];exact hlt);obtain⟨⟨xa,xn,xc⟩,hux⟩:=get_of_lt (xs:=us) (k:=k) (by rw[HN.out];exact hlt);obtain⟨b,q,hbq,hbl,i0⟩:=(HREP.out.below HBR.out).slc hux;simp only[Option.some.injEq,Addr.mk.injEq,and_true]at hbq;obtain⟨rfl,rfl⟩:=hbq;simp only[Nat.zero_add]at i0;have hrx:=(HRW.out k _ x hux hx).step (.of_below HBR.out);have ho2:=HO.out.step (.of_below HBR.out);have HC:=hide (HLE.out wr (.slice xa xn xc) x hrx.now.rep ho2.now.rep);have HRX:=hide hrx;have HO2:=hide ho2
   have X:=hide hx;clear hx hux hrx ho2;rcases lexO_three x o with e | e | e
   ·rw[e]at HC
    have NO:Hid (∀ y∈L.take (k+1),lexO y o = -1):=hide fun y hy=>by
     rw[List.take_add_one,X.out]at hy;rcases List.mem_append.1 hy with h | h
     ·exact hlo.out y h
     ·simp at h;rw[h];exact e
    clear e;go_wp2_with (first | (go_at_call 56;(with_reducible refine HC.out.mono ?_);rintro e w1 ⟨rfl,hb1⟩));go_roundw
    case rel=>exact⟨k+1,by omega,by go_num,NO,HBR.out.trans (hb1.mono hbs)⟩
    case measure=>simp[intOf];omega
   ·have HE:=hide (putO_eq hlo.out X.out e)
    rw[e]at HC;have E0:=hide e;clear e;go_wp2_with (first
     | (go_at_call 56;(with_reducible refine HC.out.mono ?_);rintro e w1 ⟨rfl,hb1⟩;have B1:=hide hb1;have j0:w1.cell? ⟨g,k,none⟩=some (.slice xa xn xc):=(hb1.cell (p:=⟨g,k,none⟩) hbl).trans i0;have jl:=lt_of_cell j0;have HC2:=hide (HLE.out w1 (.slice xa xn xc) x (HRX.out.step (.of_below hb1)).now.rep (HO2.out.step (.of_below hb1)).now.rep);rw[E0.out]at HC2;clear hb1)
     | (go_at_call 56;(with_reducible refine HC2.out.mono ?_);rintro e w2 ⟨rfl,hb2⟩))
    go_ret;rw[HE.out];have hb9:=(HBR.out.trans (B1.out.mono hbs)).trans (hb2.mono (Nat.le_trans hbs B1.out.size));exact⟨_,rfl,OutL.step (w:=w) ⟨by simp,us,HN.out.trans HUL.out,HOW.out,HRW.out⟩ (.of_below hb9) HT.out,hb9⟩
   ·have HE:=hide (putO_in hlo.out X.out e)
    rw[e]at HC;have E0:=hide e;clear e;go_wp2_with (first
     | (go_at_call 56;(with_reducible refine HC.out.mono ?_);rintro e w1 ⟨rfl,hb1⟩;have B1:=hide hb1;have j0:w1.cell? ⟨g,k,none⟩=some (.slice xa xn xc):=(hb1.cell (p:=⟨g,k,none⟩) hbl).trans i0;have jl:=lt_of_cell j0;have HC2:=hide (HLE.out w1 (.slice xa xn xc) x (HRX.out.step (.of_below hb1)).now.rep (HO2.out.step (.of_below hb1)).now.rep);rw[E0.out]at HC2;clear hb1)
     | (go_at_call 56;(with_reducible refine HC2.out.mono ?_);rintro e w2 ⟨rfl,hb2⟩;have HBE:=hide ((HBR.out.trans (B1.out.mono hbs)).trans (hb2.mono (Nat.le_trans hbs B1.out.size)));have hbe:=HBE.out.size;clear hb2)
     | (at_builtin;refine wpList_appS SlcE 34 Try.infoIntSM rfl Try.underlying23 w.heap.size _ [] (us.take k) _ (Own.empty _ _ hbe) (((HREP.out.takeM (k:=k) (by omega)).below HBE.out).below (belowAlloc _ _)) (by decide) (by simp;omega) (by simp;omega) rfl _ _ rfl rfl rfl ?_;intro v4 w4 hown4 hgr4;obtain⟨⟨a4,n4,c4⟩,rfl,-⟩:=hown4.toSlc;rw[List.nil_append]at hown4;have O4:=hide hown4;have B4:=hide (HBE.out.trans ((((Below.refl _ _).alloc (Nat.le_refl _) (.cells #[] 34)).grown hgr4 (by simp) (fun q hq=>by simp[Value.ownBlock]at hq;omega)).mono hbe));have hb4:=B4.out.size;clear hown4 hgr4)
     | (at_builtin;refine wpList_app SlcE 34 Try.infoIntSM rfl Try.underlying23 w.heap.size _ (us.take k) ⟨ua,un,uc⟩ (O4.out.alloc _) (by decide) (by rw[List.length_take];omega) (by simp;omega) rfl _ _ rfl rfl _ 0 1 rfl news_alloc ?_;intro v6 w6 hown6 hgr6;obtain⟨⟨a6,n6,c6⟩,rfl,-⟩:=hown6.toSlc;have O6:=hide hown6;have B6:=hide (below_app B4.out O4.out hgr6);have hb6:=B6.out.size;clear hown6 hgr6)
     | (at_builtin;refine wpList_appS SlcE 34 Try.infoIntSM rfl Try.underlying23 w.heap.size _ (us.take k++[⟨ua,un,uc⟩]) (us.drop k) _ O6.out (by have h:=HREP.out.dropM (k:=k) (by omega);simp only[SlcE,Nat.mul_one,Nat.zero_add]at h;exact h.below B6.out) (by decide) (by have:=HN.out;simp;omega) hb6 rfl _ _ rfl rfl rfl ?_;intro v8 w8 hown8 hgr8;have O8:=hide hown8;have B8:=hide (B6.out.grown hgr8 hb6 (fun q hq=>(World.ownsRow.lt O6.out q hq).1));clear hown8 hgr8))
    go_ret;exact out_in (HN.out.trans HUL.out) HRW.out HO.out HE.out O8.out B8.out hb
  ·obtain rfl:k=n:=by omega
   have HE:=hide (putO_end hlo.out (show L.length≤k by rw[← HUL.out];exact Nat.le_refl _));by_cases hcn:k=lc
   ·subst hcn
    go_wp2_with (first
     | (at_builtin;refine wpList_appS SlcE 34 Try.infoIntSM rfl Try.underlying23 w.heap.size _ [] (us.take k) _ (Own.empty _ _ hbs) (((HREP.out.takeM (k:=k) (by omega)).below HBR.out).below (belowAlloc _ _)) (by decide) (by simp;omega) (by simp;omega) rfl _ _ rfl rfl rfl ?_;intro v4 w4 hown4 hgr4;obtain⟨⟨a4,n4,c4⟩,rfl,-⟩:=hown4.toSlc;rw[List.nil_append]at hown4;have O4:=hide hown4;have B4:=hide (HBR.out.trans ((((Below.refl _ _).alloc (Nat.le_refl _) (.cells #[] 34)).grown hgr4 (by simp) (fun q hq=>by simp[Value.ownBlock]at hq;omega)).mono hbs));have hb4:=B4.out.size;clear hown4 hgr4)
     | (at_builtin;refine wpList_app SlcE 34 Try.infoIntSM rfl Try.underlying23 w.heap.size _ (us.take k) ⟨ua,un,uc⟩ (O4.out.alloc _) (by decide) (by rw[List.length_take];omega) (by simp;omega) rfl _ _ rfl rfl _ 0 1 rfl news_alloc ?_;intro v6 w6 hown6 hgr6;obtain⟨⟨a6,n6,c6⟩,rfl,-⟩:=hown6.toSlc;have O6:=hide hown6;have B6:=hide (below_app B4.out O4.out hgr6);have hb6:=B6.out.size;clear hown6 hgr6)
     | (at_builtin;refine wpList_appS SlcE 34 Try.infoIntSM rfl Try.underlying23 w.heap.size _ (us.take k++[⟨ua,un,uc⟩]) (us.drop k) _ O6.out ((HREP.out.tail0 (Nat.le_refl _) (Nat.zero_le _)).below B6.out) (by decide) (by have:=HN.out;simp;omega) hb6 rfl _ _ rfl rfl rfl ?_;intro v8 w8 hown8 hgr8;have O8:=hide hown8;have B8:=hide (B6.out.grown hgr8 hb6 (fun q hq=>(World.ownsRow.lt O6.out q hq).1));clear hown8 hgr8))
    go_ret;exact out_in (HN.out.trans HUL.out) HRW.out HO.out HE.out O8.out B8.out hb
   ·go_wp2_with (first
     | (at_builtin;refine wpList_appS SlcE 34 Try.infoIntSM rfl Try.underlying23 w.heap.size _ [] (us.take k) _ (Own.empty _ _ hbs) (((HREP.out.takeM (k:=k) (by omega)).below HBR.out).below (belowAlloc _ _)) (by decide) (by simp;omega) (by simp;omega) rfl _ _ rfl rfl rfl ?_;intro v4 w4 hown4 hgr4;obtain⟨⟨a4,n4,c4⟩,rfl,-⟩:=hown4.toSlc;rw[List.nil_append]at hown4;have O4:=hide hown4;have B4:=hide (HBR.out.trans ((((Below.refl _ _).alloc (Nat.le_refl _) (.cells #[] 34)).grown hgr4 (by simp) (fun q hq=>by simp[Value.ownBlock]at hq;omega)).mono hbs));have hb4:=B4.out.size;clear hown4 hgr4)
     | (at_builtin;refine wpList_app SlcE 34 Try.infoIntSM rfl Try.underlying23 w.heap.size _ (us.take k) ⟨ua,un,uc⟩ (O4.out.alloc _) (by decide) (by rw[List.length_take];omega) (by simp;omega) rfl _ _ rfl rfl _ 0 1 rfl news_alloc ?_;intro v6 w6 hown6 hgr6;obtain⟨⟨a6,n6,c6⟩,rfl,-⟩:=hown6.toSlc;have O6:=hide hown6;have B6:=hide (below_app B4.out O4.out hgr6);have hb6:=B6.out.size;clear hown6 hgr6)
     | (at_builtin;refine wpList_appS SlcE 34 Try.infoIntSM rfl Try.underlying23 w.heap.size _ (us.take k++[⟨ua,un,uc⟩]) (us.drop k) _ O6.out ((HREP.out.tail0 (Nat.le_refl _) (by omega)).below B6.out) (by decide) (by have:=HN.out;simp;omega) hb6 rfl _ _ rfl rfl rfl ?_;intro v8 w8 hown8 hgr8;have O8:=hide hown8;have B8:=hide (B6.out.grown hgr8 hb6 (fun q hq=>(World.ownsRow.lt O6.out q hq).1));clear hown8 hgr8))
    go_ret;exact out_in (HN.out.trans HUL.out) HRW.out HO.out HE.out O8.out B8.out hb
end Go.Proofs.Ytnkfphndfijcoaa
namespace Go.Proofs.Ytnkfphndfijcoaa
open Go.RowKit
theorem ins_range {x:Ins}(h:insValid x=true):(0≤x.loc∧x.loc≤2)∧(0≤x.reg∧x.reg≤2):=by
 unfold insValid inB at h;split at h
 ·simp at h;omega
 ·split at h
  ·simp at h;omega
  ·split at h
   ·simp at h;omega
   ·split at h
    ·simp at h;omega
    ·cases h
theorem l3Do_any (vp:Value) (p:List (List Ins)) (x:SV) (s:St) (t kn:Nat) (i:Ins) (r:List Ins) (w:World) (hp:RepP w vp p) (hx:RepSt w x s) (hpc:s.pc[t]? = some (kn:Int)) (hrow:p[t]? = some r) (hins:r[kn]? = some i)
 (hv:insValid i=true) (ht:t≤2) (h1:s.pc.length≤1000) (h2:s.rg.length=s.pc.length * 3) (h3:s.mm.length=3) (h4:s.bf.length≤100) (h5:∀ o∈s.bf,o.length≤1000) (hrl:r.length≤1000) :
 Calls Try.prog 43 #[vp,.agg #[.slice x.p.a x.p.n x.p.cap,.slice x.r.a x.r.n x.r.cap,.slice x.m.a x.m.n x.m.cap,.slice x.b.a x.b.n x.b.cap],.int .i64 (t:Int)] w
  (RetSt w ⟨(sqDo s.q t kn i).pc,(sqDo s.q t kn i).rg,(sqDo s.q t kn i).mm,s.bf⟩):=by
 have hr:=ins_range hv;obtain⟨op,loc,reg,val⟩:=i;simp only at hr;obtain⟨lc,rfl⟩:∃ lc:Nat,loc=lc:=⟨loc.toNat,by omega⟩
 obtain⟨rc,rfl⟩:∃ rc:Nat,reg=rc:=⟨reg.toNat,by omega⟩
 cases h6:isRop op
 ·cases h7:isWop op
  ·exact l3Do_n vp p x s t kn lc rc op val r w hp hx hpc hrow hins h6 h7 ht (by omega) (by omega) h1 h2 h3 h4 h5 hrl
  ·exact l3Do_w vp p x s t kn lc rc op val r w hp hx hpc hrow hins h6 h7 ht (by omega) (by omega) h1 h2 h3 h4 h5 hrl
 ·cases h7:isWop op
  ·exact l3Do_r vp p x s t kn lc rc op val r w hp hx hpc hrow hins h6 h7 ht (by omega) (by omega) h1 h2 h3 h4 h5 hrl
  ·exact l3Do_b vp p x s t kn lc rc op val r w hp hx hpc hrow hins h6 h7 ht (by omega) (by omega) h1 h2 h3 h4 h5 hrl
def LS:List TypeId:=[51,9,64,45]
abbrev stQ (s:Sq):St:=⟨s.pc,s.rg,s.mm,[]⟩
abbrev kyS (s:Sq):ByteArray:=keyB (sqKey s)
theorem stKey_q (s:Sq):stKey (stQ s)=sqKey s:=by simp[stKey,sqKey,bfT]
def WorkL (w:World) (B:Nat) (v:Value) (work:List St):Prop:=
 ∃ xs:List SV,xs.length=work.length∧Own StE 64 w B v xs∧∀ (i:Nat) (x:SV) (s:St),xs[i]? = some x→work[i]? = some s→LocT LS B w (fun W=>RepSt W x s)
theorem WorkL.kp {L:List TypeId}{w w':World}{B:Nat}{v:Value}{work:List St}(h:WorkL w B v work) (k:KpT L B w w') (hL:∀ T∈L,T∈LS) (hT:64∉L):WorkL w' B v work:=by
 obtain⟨xs,h1,h2,h3⟩:=h;exact⟨xs,h1,(LocT.own h2 hT).keep w' k,fun i x s hx hs=>(h3 i x s hx hs).step (k.more hL (Nat.le_refl _))⟩
theorem Tab.kp {L:List TypeId}{w w':World}{B:Nat}{v:Value}{ks:List ByteArray}(h:Tab w B v ks) (k:KpT L B w w') (h1:51∉L) (h2:9∉L):Tab w' B v ks:=(LocT.own2 h h1 h2).keep w' k
structure SeaL (B N O:Nat) (vt v:Value) (work:List St) (ks:List ByteArray) (cn:Nat) (vo:Slc) (outs:List (List Int)) (wr:World):Prop where
 wk:WorkL wr B v work
 tb:Tab wr B vt ks
 bn:wr.heap[N]? = some (.cells #[.int .i64 0,.slice none 0 0] 45 (0,0))
 bo:wr.heap[O]? = some (.cells #[.int .i64 (cn:Int),.slice vo.a vo.n vo.cap] 45 (0,0))
 ol:OutL LS B wr B vo.v outs
 lN:B≤N
 lO:N < O
 sz:B≤wr.heap.size
section
variable {B N O cn cn' : Nat} {vt v v' : Value} {work work' : List St} {ks ks' : List ByteArray} {vo vo' : Slc} {outs outs' : List (List Int)} {w w' : World} {L : List TypeId}
theorem SeaL.below (h:SeaL B N O vt v work ks cn vo outs w) (hb:Below w.heap.size w w'):SeaL B N O vt v work ks cn vo outs w':=
 have k:KpT [] B w w':=.of_below hb
 ⟨h.wk.kp k (by simp) (by simp),h.tb.kp k (by simp) (by simp),k.same h.bn (by simp),k.same h.bo (by simp),h.ol.step (k.more (by simp) (Nat.le_refl _)) (by decide),h.lN,h.lO,Nat.le_trans h.sz hb.size⟩
theorem SeaL.mark (h:SeaL B N O vt v work ks cn vo outs w) (ht:Tab w' B vt ks') (k:KpT [51,9] B w w'):SeaL B N O vt v work ks' cn vo outs w':=
 have hL:∀ T∈[51,9],T∈LS:=by decide
 ⟨h.wk.kp k hL (by decide),ht,k.same h.bn (by decide),k.same h.bo (by decide),h.ol.step (k.more hL (Nat.le_refl _)) (by decide),h.lN,h.lO,Nat.le_trans h.sz k.size⟩
theorem SeaL.wkS (h:SeaL B N O vt v work ks cn vo outs w) (hw:WorkL w' B v' work') (k:KpT [64] B w w'):SeaL B N O vt v' work' ks cn vo outs w':=
 have hL:∀ T∈[64],T∈LS:=by decide
 ⟨hw,h.tb.kp k (by decide) (by decide),k.same h.bn (by decide),k.same h.bo (by decide),h.ol.step (k.more hL (Nat.le_refl _)) (by decide),h.lN,h.lO,Nat.le_trans h.sz k.size⟩
theorem SeaL.cnt (h:SeaL B N O vt v work ks cn vo outs w) (cn':Nat):SeaL B N O vt v work ks cn' vo outs (w.setCell ⟨O,0,none⟩ (.int .i64 (cn':Int))):=by
 have k:KpT [45] B w (w.setCell ⟨O,0,none⟩ (.int .i64 (cn':Int))):=.set h.bo (by simp) (by have:=h.lN;have:=h.lO;omega) _;have hL:∀ T∈[45],T∈LS:=by decide
 exact⟨h.wk.kp k hL (by decide),h.tb.kp k (by decide) (by decide),(heap_setCell_other w ⟨O,0,none⟩ N _ (show N≠O by have:=h.lO;omega)).trans h.bn,heap_setCell_same w O 0 _ _ _ h.bo,h.ol.step (k.more hL (Nat.le_refl _)) (by decide),h.lN,h.lO,by simpa using h.sz⟩
theorem SeaL.out (h:SeaL B N O vt v work ks cn vo outs w) (ho:OutL LS B w B vo'.v outs'):SeaL B N O vt v work ks cn vo' outs' (w.setCell ⟨O,1,none⟩ (.slice vo'.a vo'.n vo'.cap)):=by
 have k:KpT [45] B w (w.setCell ⟨O,1,none⟩ (.slice vo'.a vo'.n vo'.cap)):=.set h.bo (by simp) (by have:=h.lN;have:=h.lO;omega) _;have hL:∀ T∈[45],T∈LS:=by decide
 exact⟨h.wk.kp k hL (by decide),h.tb.kp k (by decide) (by decide),(heap_setCell_other w ⟨O,1,none⟩ N _ (show N≠O by have:=h.lO;omega)).trans h.bn,heap_setCell_same w O 1 _ _ _ h.bo,ho.step (k.more hL (Nat.le_refl _)) (by decide),h.lN,h.lO,by simpa using h.sz⟩
end
theorem WorkL.pop {w:World}{B g n cap:Nat}{work:List St}{s:St}(h:WorkL w B (.slice (some ⟨g,0,none⟩) n cap) (work++[s])):n=work.length+1∧g < w.heap.size∧B≤g∧n≤cap∧WorkL w B (.slice (some ⟨g,0,none⟩) work.length cap) work∧∃ x:SV,LocT LS B w (fun W=>RepSt W x s) ∧
 (w.cell? ⟨g,work.length * 4,none⟩=some (.slice x.p.a x.p.n x.p.cap)∧w.cell? ⟨g,work.length * 4+1,none⟩=some (.slice x.r.a x.r.n x.r.cap)∧w.cell? ⟨g,work.length * 4+2,none⟩=some (.slice x.m.a x.m.n x.m.cap)∧w.cell? ⟨g,work.length * 4+3,none⟩=some (.slice x.b.a x.b.n x.b.cap)):=by
 obtain⟨xs,h1,h2,h3⟩:=h;have hn:=h2.len;simp only[List.length_append,List.length_singleton]at h1;obtain⟨x,hx⟩:=get_of_lt (xs:=xs) (k:=work.length) (by omega);have hl:=World.ownsRow.lt h2 g rfl;have hcap:n≤cap:=by
  rcases h2.shape with⟨e,_⟩ | ⟨g',cap',e,_,_,h5,_⟩
  ·simp at e
  ·simp only[Value.slice.injEq]at e;omega
 refine⟨by omega,hl.2,hl.1,hcap,⟨xs.take work.length,by rw[List.length_take];omega,h2.cut (by omega),fun i x s hx hs=>h3 i x s ?_ ?_⟩,x,h3 _ x s hx (by simp),h2.cell hx (j:=0) rfl,h2.cell hx (j:=1) rfl,h2.cell hx (j:=2) rfl,h2.cell hx (j:=3) rfl⟩
 ·rw[List.getElem?_take]at hx
  split at hx
  ·exact hx
  ·cases hx
 ·rw[List.getElem?_append_left (List.getElem?_eq_some_iff.1 hs).1];exact hs
theorem WorkL.push {w w':World}{B:Nat}{v v':Value}{work:List St}{s:St}{x:SV}{xs:List SV}(h1:xs.length=work.length) (h2:Own StE 64 w B v xs) (h3:∀ (i:Nat) (x:SV) (s:St),xs[i]? = some x→work[i]? = some s→LocT LS B w (fun W=>RepSt W x s))
 (hx:LocT LS B w (fun W=>RepSt W x s)) (ho:Own StE 64 w' B v' (xs++[x])) (hg:w.grownBy w' v.ownBlock):WorkL w' B v' (work++[s]):=by
 have k:KpT LS B w w':=.grown h2 (by decide) (Nat.le_refl _) hg;refine⟨xs++[x],by simp[h1],ho,fun i y u hy hu => ?_⟩;rcases Nat.lt_or_ge i xs.length with hi | hi
 ·rw[List.getElem?_append_left hi]at hy
  rw[List.getElem?_append_left (by omega)]at hu;exact(h3 i y u hy hu).step k
 ·rw[List.getElem?_append_right hi]at hy
  rw[List.getElem?_append_right (by omega),← h1]at hu;generalize i - xs.length=j at *;cases j with
  | zero =>
   simp at hy hu;subst hy;subst hu;exact hx.step k
  | succ j=>simp at hy
theorem Try.infoStM:(Try.prog.info? 64).map (fun i=>(i.zero,i.size,i.bytes))=some (some (.agg #[.slice none 0 0,.slice none 0 0,.slice none 0 0,.slice none 0 0]),4,96):=by kernel_rfl
theorem Try.infoStrSM:(Try.prog.info? 51).map (fun i=>(i.zero,i.size,i.bytes))=some (some (.slice none 0 0),1,24):=by kernel_rfl
theorem putO_le {o:List Int}(l:List (List Int)):(putO o l).length≤l.length+1:=by
 induction l with
 | nil=>simp[putO]
 | cons x l ih =>
  unfold putO;split
  ·simp;exact ih
  ·split <;> simp
end Go.Proofs.Ytnkfphndfijcoaa
namespace Go.Proofs.Ytnkfphndfijcoaa
abbrev stF (s:Bf):St:=⟨s.q.pc,s.q.rg,s.q.mm,s.bf.map flatE⟩
abbrev kyF (s:Bf):ByteArray:=keyB (bfKey s)
theorem bfT_flat (ls:List (List (Int × Int))):bfT (ls.map flatE)=bfText ls:=by
 induction ls with
 | nil=>rfl
 | cons l ls ih =>
  simp only[bfT,List.map_cons,List.flatMap_cons,bfText]at ih ⊢;rw[ih];rfl
theorem stKey_f (s:Bf):stKey (stF s)=bfKey s:=by
 unfold stKey bfKey sqKey;rw[bfT_flat]
theorem flatE_len (l:List (Int × Int)):(flatE l).length=2 * l.length:=by
 induction l with
 | nil=>rfl
 | cons x l ih=>simp only[flatE,List.flatMap_cons,List.length_append,List.length_cons,List.length_nil]at ih ⊢;omega
theorem flatE_app (l l':List (Int × Int)):flatE (l++l')=flatE l++flatE l':=by simp[flatE]
theorem flatE_get {l:List (Int × Int)}{k:Nat}{e:Int × Int}(h:l[k]? = some e):(flatE l)[2 * k]? = some e.1∧(flatE l)[2 * k+1]? = some e.2:=by
 induction l generalizing k with
 | nil=>simp at h
 | cons x l ih =>
  cases k with
  | zero=>simp at h;subst h;simp[flatE]
  | succ k =>
   have:=ih (k:=k) (by simpa using h);have e1:flatE (x :: l)=x.1 :: x.2 :: flatE l:=by simp[flatE]
   rw[e1,show 2 * (k+1)=2 * k+1+1 by omega,show 2 * k+1+1+1=(2 * k+1)+1+1 by omega];simpa using this
theorem flatE_byte {l:List (Int × Int)}(h:∀ e∈l,entOk e):byteR (flatE l):=by
 intro x hx;obtain⟨e,he,hm⟩:=List.mem_flatMap.1 hx;have h1:=h e he;unfold entOk at h1;simp only[List.mem_cons,List.not_mem_nil,or_false]at hm;rcases hm with rfl | rfl <;> omega
def mvF (p:List (List Ins)) (split:Bool) (s:Bf):List Nat:=(List.range (p.length+s.bf.length)).filter fun m=>(bfNext p split s m).isSome
theorem mem_mvF {p:List (List Ins)}{split:Bool}{s:Bf}(m:Nat):m∈mvF p split s↔(bfNext p split s m).isSome:=by
 unfold mvF;rw[List.mem_filter,List.mem_range];refine⟨fun h=>h.2,fun h=>⟨?_,h⟩⟩;by_cases hm:m < p.length
 ·omega
 ·obtain⟨s',hs'⟩:=Option.isSome_iff_exists.1 h
  obtain⟨l,v,rest,hb,-⟩:=bfNext_flush hs' hm;have:=(List.getElem?_eq_some_iff.1 hb).1;omega
theorem mvF_reach {p:List (List Ins)}{split:Bool}(hv:progValid p=true) (s:Bf):ReachM (bfStart p split) (nxM (mvF p split) (bfAf p split)) s↔ReachM (bfStart p split) (bfNext p split) s:=
 reach_mv (ok:=BfOk p split) (BfOk.start p split) (fun _ _ _ h hn=>h.next (valid_ins hv) hn) (fun _ _ i=>mem_mvF i) (fun _ _ _ _ h=>bfAf_next h) s
theorem mvF_few {p:List (List Ins)}{split:Bool}{s:Bf}(h:BfOk p split s) (hp:p.length≤3):(mvF p split s).length≤12:=by
 have h1:(mvF p split s).length≤p.length+s.bf.length:=Nat.le_trans (List.length_filter_le _ _) (by simp);have h3:=h.lb;have h4:bfN split≤3:=by cases split <;> simp[bfN]
 have h5:=Nat.mul_le_mul hp h4;omega
def mvTo (p:List (List Ins)) (split:Bool) (s:Bf) (m:Nat):Nat:=((List.range m).filter fun m=>(bfNext p split s m).isSome).length
theorem mvTo_skip {p:List (List Ins)}{split:Bool}{s:Bf}{m:Nat}(h:bfNext p split s m=none):mvTo p split s (m+1)=mvTo p split s m:=by
 unfold mvTo;rw[List.range_succ,List.filter_append];simp[h]
theorem mvTo_can {p:List (List Ins)}{split:Bool}{s s':Bf}{m:Nat}(h:bfNext p split s m=some s'):mvTo p split s (m+1)=mvTo p split s m+1:=by
 unfold mvTo;rw[List.range_succ,List.filter_append];simp[h]
theorem mvTo_get {p:List (List Ins)}{split:Bool}{s s':Bf}{m:Nat}(h:bfNext p split s m=some s') (hm:m < p.length+s.bf.length):nxM (mvF p split) (bfAf p split) s (mvTo p split s m)=some s':=by
 refine(nxM_some _ _).2 ⟨m,?_,bfAf_next h⟩;unfold mvF mvTo;have e:List.range (p.length+s.bf.length)=List.range m++(m :: (List.range (p.length+s.bf.length)).drop (m+1)):=by
  conv=>lhs;rw[← List.take_append_drop m (List.range (p.length+s.bf.length))]
  congr 1
  ·rw[List.take_range,Nat.min_eq_left (by omega)]
  ·rw[List.drop_eq_getElem_cons (by simpa using hm)];simp
 rw[e,List.filter_append,List.getElem?_append_right (Nat.le_refl _),Nat.sub_self];simp[h]
theorem mvTo_all (p:List (List Ins)) (split:Bool) (s:Bf):mvTo p split s (p.length+s.bf.length)=(mvF p split s).length:=rfl
end Go.Proofs.Ytnkfphndfijcoaa
namespace Go.Proofs.Ytnkfphndfijcoaa
open Go.RowKit
theorem l4Place_any (t loc:Nat) (split:Bool) (w:World) (ht:t≤2) (hl:loc≤2) :
 Calls Try.prog 69 #[.int .i64 (t:Int),.int .i64 (loc:Int),.bool split] w fun e w'=>e = .returned (.int .i64 ((bfPlace t (loc:Int) split:Nat):Int))∧w=w':=by
 cases split
 ·go_enter Try.func69,Try.ntmps69
  go_wp2_with fail;go_ret;exact⟨rfl,rfl⟩
 ·have E:bfPlace t (loc:Int) true=t * 3+loc:=by simp[bfPlace]
  have HE:=hide E;clear E;go_enter Try.func69,Try.ntmps69;go_wp2_with fail;go_ret;rw[HE.out];exact⟨congrArg Ending.returned (congrArg (Value.int .i64) (by omega)),rfl⟩
theorem l4Buffers_any (split:Bool) (w:World) :
 Calls Try.prog 66 #[.bool split] w fun e w'=>e = .returned (.int .i64 ((bfN split:Nat):Int))∧w=w':=by
 cases split
 ·go_enter Try.func66,Try.ntmps66
  go_wp2_with fail;go_ret;exact⟨rfl,rfl⟩
 ·go_enter Try.func66,Try.ntmps66
  go_wp2_with fail;go_ret;exact⟨rfl,rfl⟩
theorem flat_row {s:Bf}{q:Nat}{row:List (Int × Int)}(h:s.bf[q]? = some row):(s.bf.map flatE)[q]? = some (flatE row):=by rw[List.getElem?_map,h];rfl
theorem l4Empty_any (x:SV) (p:List (List Ins)) (split:Bool) (s:Bf) (t:Nat) (w:World) (hx:RepSt w x (stF s)) (hok:BfOk p split s) (ht:t < p.length) (hpl:p.length≤3) :
 Calls Try.prog 67 #[.agg #[.slice x.p.a x.p.n x.p.cap,.slice x.r.a x.r.n x.r.cap,.slice x.m.a x.m.n x.m.cap,.slice x.b.a x.b.n x.b.cap],.int .i64 (t:Int),.bool split] w
  fun e w'=>e = .returned (.bool (bfEmpty s t split))∧Below w.heap.size w w':=by
 obtain⟨⟨pa,pn,pk⟩,⟨ra,rn,rk⟩,⟨ma,mn,mk⟩,⟨ba,bn,bk⟩⟩:=x;obtain⟨_,_,hv2,-,-,-,-⟩:=hx.bf.open;simp only[Slc.v,Value.slice.injEq]at hv2;obtain⟨rfl,hn2,rfl⟩:=hv2;rw[List.length_map]at hn2;have HX:Hid (Rep2 IntE w (.slice ba bn bk) (s.bf.map flatE)):=hide hx.bf;have HLB:=hide hok.lb;obtain⟨A0,hA0⟩:∃ A0,A0=w.alloc (.cells #[.slice pa pn pk,.slice ra rn rk,.slice ma mn mk,.slice ba bn bk] 64):=⟨_,rfl⟩
 have HB:Hid (Below w.heap.size w A0):=hide (by rw[hA0];exact belowAlloc _ _);have hz:A0.heap.size=w.heap.size+1:=by rw[hA0];simp
 have HX2:Hid (A0.heap[w.heap.size]? = some (.cells #[.slice pa pn pk,.slice ra rn rk,.slice ma mn mk,.slice ba bn bk] 64 (0,0))):=hide (by rw[hA0];exact heap_alloc_new w _);have HA0:=hide hA0;have HQ:Hid (∀ i,i < bfN split→t * bfN split+i < s.bf.length):=hide fun i hi=>by
  rw[hok.lb];have:=Nat.mul_le_mul_right (bfN split) (show t+1≤p.length by omega);rw[Nat.add_mul,Nat.one_mul]at this;omega
 have hN3:bfN split≤3:=by cases split <;> simp[bfN]
 have ht2:t≤2:=by omega
 have HBN:=hide hn2;have HE:Hid (bfEmpty s t split=(List.range (bfN split)).all fun i=>(s.bf.getD (t * bfN split+i) []).isEmpty):=hide rfl;have HBU:=hide (fun W=>l4Buffers_any split W);clear hA0 hx hn2 hok;generalize bfEmpty s t split=R at *;generalize bfN split=N at *;go_enter Try.func67,Try.ntmps67;go_wp2_with (go_at_call 66;(with_reducible refine(HBU.out _).mono ?_);rintro e w1 ⟨rfl,rfl⟩);rw[← HA0.out]
 go_loopw [8] (fun i wr => ∃ k:Nat,k≤N∧i = .int .i64 k∧Hid (∀ j < k,(s.bf.getD (t * N+j) []).isEmpty=true)∧Below A0.heap.size A0 wr) (fun i _=>N - (intOf i).toNat)
 case atStart=>exact⟨0,Nat.zero_le _,rfl,hide (fun t h=>absurd h (Nat.not_lt_zero t)),Below.refl _ _⟩
 case round =>
  obtain⟨k,hk,rfl,hno,hb⟩:=hrel;have HBR:=hide hb;by_cases hlt:k < N
  ·have hlt':=nat_of_lt hlt
   have hbw:=HB.out.trans (hb.mono HB.out.size);have d0:wr.cell? ⟨w.heap.size,3,none⟩=some (.slice ba bn bk):=cellH ((hb.block w.heap.size (by omega)).trans HX2.out) (k:=3) rfl;have dl:=lt_of_cell d0;obtain⟨q,hq⟩:∃ q,q=t * N+k:=⟨_,rfl⟩
   have hqs:q < s.bf.length:=by rw[hq];exact HQ.out k hlt
   obtain⟨row,hrow⟩:=get_of_lt (xs:=s.bf) (k:=q) hqs;obtain⟨b2,o2,qa,qc,hbe,hbl2,q0,-⟩:=(HX.out.below hbw).row (flat_row hrow);subst hbe;rw[flatE_len]at q0;have htn:t * N≤6:=Nat.mul_le_mul ht2 hN3;obtain⟨T,hT⟩:∃ T,T=t * N:=⟨_,rfl⟩
   have hm6:(t:Int) * (N:Int)=(T:Int):=by rw[hT];push_cast;rfl
   have hsum:(T:Int)+(k:Int)=(q:Int):=by rw[hq,← hT];push_cast;rfl
   rw[← hT]at htn;clear hT;have hqn:(q:Int) < (bn:Int):=by have:=HBN.out;omega
   have HROW:=hide hrow;have HQE:=hide hq
   clear hrow hq hb hbw;by_cases hne:row.length > 0
   ·have hne':((2 * row.length:Nat):Int) > 0:=by omega
    have E:Hid (R=false):=hide (by
     rw[HE.out,List.all_eq_false];refine⟨k,List.mem_range.2 hlt,?_⟩;rw[← HQE.out,List.getD_eq_getElem?_getD,HROW.out];cases row with
     | nil=>simp at hne
     | cons x r=>simp)
    go_wp2_with fail;go_ret;rw[E.out];exact⟨rfl,HB.out.trans (HBR.out.mono HB.out.size)⟩
   ·have hne':¬ ((2 * row.length:Nat):Int) > 0:=by omega
    have NO:Hid (∀ j < k+1,(s.bf.getD (t * N+j) []).isEmpty=true):=hide fun j hj=>by
     by_cases e:j=k
     ·subst e
      rw[← HQE.out,List.getD_eq_getElem?_getD,HROW.out];cases row with
      | nil=>rfl
      | cons x r=>simp at hne
     ·exact hno.out j (by omega)
    go_wp2_with fail;go_roundw
    case rel=>exact⟨k+1,by omega,by go_num,NO,HBR.out⟩
    case measure=>simp[intOf];omega
  ·obtain rfl:k=N:=by omega
   have E:Hid (R=true):=hide (by
    rw[HE.out,List.all_eq_true];exact fun j hj=>hno.out j (List.mem_range.1 hj))
   clear hb;go_wp2_with fail;go_ret;rw[E.out];exact⟨rfl,HB.out.trans (HBR.out.mono HB.out.size)⟩
theorem rfind_hit {row:List (Int × Int)}{loc:Int}{j:Nat}{e:Int × Int}(h:row[j]? = some e) (he:e.1=loc) (hn:∀ (i:Nat) (x:Int × Int),j < i→row[i]? = some x→x.1≠loc):row.reverse.find? (fun e=>e.1==loc)=some e:=by
 have hj:=(List.getElem?_eq_some_iff.1 h).1;have e1:row=row.take j++e :: row.drop (j+1):=by
  conv=>lhs;rw[← List.take_append_drop j row]
  congr 1
  rw[List.drop_eq_getElem_cons hj]
  congr 1
  exact(List.getElem?_eq_some_iff.1 h).2
 rw[e1,List.reverse_append,List.reverse_cons,List.append_assoc,List.find?_append,List.find?_eq_none.2,Option.none_or,List.singleton_append,List.find?_cons,he]
 ·simp
 ·intro x hx
  rw[List.mem_reverse]at hx;obtain⟨i,hi⟩:=List.mem_iff_getElem?.1 hx;rw[List.getElem?_drop]at hi;have:=hn _ _ (by omega) hi;simpa using this
theorem rfind_no {row:List (Int × Int)}{loc:Int}(hn:∀ (i:Nat) (x:Int × Int),row[i]? = some x→x.1≠loc):row.reverse.find? (fun e=>e.1==loc)=none:=by
 rw[List.find?_eq_none];intro x hx;obtain⟨i,hi⟩:=List.mem_iff_getElem?.1 (List.mem_reverse.1 hx);have:=hn i x hi;simpa using this
theorem l4Seen_any (x:SV) (p:List (List Ins)) (split:Bool) (s:Bf) (t loc:Nat) (w:World) (hx:RepSt w x (stF s)) (hok:BfOk p split s) (ht:t < p.length) (hpl:p.length≤3) (hl:loc≤2) (hlen:∀ r∈s.bf,r.length≤1000) :
 Calls Try.prog 68 #[.agg #[.slice x.p.a x.p.n x.p.cap,.slice x.r.a x.r.n x.r.cap,.slice x.m.a x.m.n x.m.cap,.slice x.b.a x.b.n x.b.cap],.int .i64 (t:Int),.int .i64 (loc:Int),.bool split] w
  fun e w'=>e = .returned (.int .i64 (bfSeen s t (loc:Int) split))∧Below w.heap.size w w':=by
 obtain⟨⟨pa,pn,pk⟩,⟨ra,rn,rk⟩,⟨ma,mn,mk⟩,⟨ba,bn,bk⟩⟩:=x;obtain⟨_,_,hv2,-,-,-,-⟩:=hx.bf.open;obtain⟨_,_,hv3,-,-,-,-⟩:=hx.mm.open;simp only[Slc.v,Value.slice.injEq]at hv2 hv3;obtain⟨rfl,hnb,rfl⟩:=hv2;obtain⟨rfl,hn3,rfl⟩:=hv3;rw[List.length_map]at hnb;have HX:Hid (Rep2 IntE w (.slice ba bn bk) (s.bf.map flatE)):=hide hx.bf;have hqs:bfPlace t (loc:Int) split < s.bf.length:=by rw[hok.lb];exact place_in ht (by omega)
 obtain⟨row,hrow⟩:=get_of_lt (xs:=s.bf) (k:=bfPlace t (loc:Int) split) hqs;obtain⟨b2,o2,qa,qc,hbe,hbl2,q0,q1⟩:=HX.out.row (flat_row hrow);subst hbe;rw[flatE_len]at q0 q1;obtain⟨n2,hn2⟩:∃ n2,n2=2 * row.length:=⟨_,rfl⟩
 rw[← hn2]at q0 q1;have HN2:=hide hn2;clear hn2;obtain⟨m0,hm0⟩:=get_of_lt (xs:=s.q.mm) (k:=loc) (by rw[hok.q.lm];omega);obtain⟨bm,om,rfl,hblm,i0⟩:=(show Rep IntE w (.slice ma mn mk) s.q.mm from hx.mm).int hm0;have hml:s.q.mm.length=3:=hok.q.lm;have hmn:(loc:Int) < (mn:Int):=by have:mn=s.q.mm.length:=hn3;omega
 obtain⟨A0,hA0⟩:∃ A0,A0=w.alloc (.cells #[.slice pa pn pk,.slice ra rn rk,.slice (some ⟨bm,om,none⟩) mn mk,.slice (some ⟨b2,o2,none⟩) bn bk] 64):=⟨_,rfl⟩
 have HB:Hid (Below w.heap.size w A0):=hide (by rw[hA0];exact belowAlloc _ _);have hz:A0.heap.size=w.heap.size+1:=by rw[hA0];simp
 have HX2:Hid (A0.heap[w.heap.size]? = some (.cells #[.slice pa pn pk,.slice ra rn rk,.slice (some ⟨bm,om,none⟩) mn mk,.slice (some ⟨b2,o2,none⟩) bn bk] 64 (0,0))):=hide (by rw[hA0];exact heap_alloc_new w _);have HA0:=hide hA0;have HPL:=hide (fun W=>l4Place_any t loc split W (by omega) hl);have hrl:row.length≤1000:=hlen row (List.mem_of_getElem? hrow);have hn2b:n2≤2000:=by have:=HN2.out;omega
 have HSE:Hid (bfSeen s t (loc:Int) split=match row.reverse.find? (fun e=>e.1==(loc:Int)) with | some e=>e.2 | none=>m0):=hide (by
  unfold bfSeen;rw[List.getD_eq_getElem?_getD,hrow,Option.getD_some,Int.toNat_natCast,List.getD_eq_getElem?_getD,hm0];rfl)
 have q0':=(HB.out.cell (p:=⟨b2,o2+bfPlace t (loc:Int) split,none⟩) hbl2).trans q0;have ql:=lt_of_cell q0';have hqn:((bfPlace t (loc:Int) split:Nat):Int) < (bn:Int):=by omega
 have a3:A0.cell? ⟨w.heap.size,3,none⟩=some (.slice (some ⟨b2,o2,none⟩) bn bk):=cellH HX2.out (k:=3) rfl;have al:=lt_of_cell a3;have Q1:=hide q1;have I0:=hide i0
 clear hA0 hz hx hok hrow hm0 hqs q0 q1 hnb hn3 hlen i0 hbl2;generalize bfPlace t (loc:Int) split=q at *;generalize bfSeen s t (loc:Int) split=R at *;generalize hn:row.length=n at *;have HN:=hide hn;clear hn;go_enter Try.func68,Try.ntmps68;go_wp2_with fail;rw[← HA0.out];refine wp_region_bw (by kernel_rfl) (by kernel_rfl) ?_
 repeat (go_big_quiet_step ((go_at_call 69;(with_reducible exact Calls.bw_same (HPL.out _)))))
 refine wpQuiet_nil ?_;intro w1 hw1;have B1:=hide (HB.out.trans (hw1.mono HB.out.size));have a2:w1.cell? ⟨w.heap.size,2,none⟩=some (.slice (some ⟨bm,om,none⟩) mn mk):=cellH ((hw1.block w.heap.size al).trans HX2.out) (k:=2) rfl;have al1:=lt_of_cell a2;clear hw1 q0' ql a3 al hqn;go_wp2_with fail
 go_loopw [10] (fun v wr => ∃ (j:Nat) (z:Int),j≤n∧v = .int .i64 z∧z=2 * (j:Int) - 2∧Hid (∀ i x,j≤i→row[i]? = some x→x.1≠(loc:Int))∧Below w1.heap.size w1 wr) (fun v _=>(intOf v+2).toNat)
 case atStart=>exact⟨n,_,Nat.le_refl _,by go_num,by have:=HN2.out;have:=HN.out;omega,hide (fun i x hi hx=>by have:=(List.getElem?_eq_some_iff.1 hx).1;have:=HN.out;omega),Below.refl _ _⟩
 case round =>
  obtain⟨j,z,hj,rfl,hzz,hno,hb⟩:=hrel;have HBR:=hide hb;cases j with
  | zero =>
   obtain rfl:z = -2:=by omega
   clear hzz;have E:Hid (R=m0):=hide (by rw[HSE.out,rfind_no (fun i x hx=>hno.out i x (Nat.zero_le _) hx)]);have d2:=(hb.cell (p:=⟨w.heap.size,2,none⟩) al1).trans a2;have dl:=lt_of_cell d2;have m2:=((B1.out.trans (hb.mono B1.out.size)).cell (p:=⟨bm,om+loc,none⟩) hblm).trans I0.out;have mml:=lt_of_cell m2;clear hb;go_wp2_with fail;go_ret;rw[E.out];exact⟨rfl,B1.out.trans (HBR.out.mono B1.out.size)⟩
  | succ k =>
   obtain⟨k2,hk2e⟩:∃ k2,k2=2 * k:=⟨_,rfl⟩
   obtain rfl:z=(k2:Int):=by omega
   clear hzz;obtain⟨e,he⟩:=get_of_lt (xs:=row) (k:=k) (by rw[HN.out];omega);obtain⟨f0,f1⟩:=flatE_get he;rw[← hk2e]at f0 f1;obtain⟨bq,oq,rfl,hblq,g0⟩:=(Q1.out.below (B1.out.trans (hb.mono B1.out.size))).int f0;obtain⟨bq',oq',hae,hblq',g1⟩:=(Q1.out.below (B1.out.trans (hb.mono B1.out.size))).int f1;simp only[Option.some.injEq,Addr.mk.injEq,and_true]at hae;obtain⟨rfl,rfl⟩:=hae;have E0:=hide he;have hk1:(k2:Int) < (n2:Int):=by have:=HN2.out;have:=HN.out;omega
   have hk2:(k2:Int)+1 < (n2:Int):=by have:=HN2.out;have:=HN.out;omega
   have hge:(k2:Int)≥0:=by omega
   have HK2:=hide hk2e;clear hk2e;clear hb f0 f1 he;by_cases hel:e.1=(loc:Int)
   ·have E:Hid (R=e.2):=hide (by rw[HSE.out,rfind_hit E0.out hel (fun i x hi hx=>hno.out i x (by omega) hx)])
    have hbe:(e.1==(loc:Int))=true:=by simp[hel]
    clear hel;go_wp2_with fail;go_ret;rw[E.out];exact⟨rfl,B1.out.trans (HBR.out.mono B1.out.size)⟩
   ·have NO:Hid (∀ i x,k≤i→row[i]? = some x→x.1≠(loc:Int)):=hide fun i x hi hx=>by
     by_cases ei:i=k
     ·subst ei
      rw[E0.out]at hx;simp only[Option.some.injEq]at hx;exact hx ▸ hel
     ·exact hno.out i x (by omega) hx
    have hbe:(e.1==(loc:Int))=false:=by simpa using hel
    clear hel;go_wp2_with fail;go_roundw
    case rel=>exact⟨k,_,by omega,by go_num,by have:=HK2.out;omega,NO,HBR.out⟩
    case measure=>simp[intOf];omega
end Go.Proofs.Ytnkfphndfijcoaa
namespace Go.Proofs.Ytnkfphndfijcoaa
open Go.RowKit
theorem stF_start (p:List (List Ins)) (split:Bool):stF (bfStart p split)=⟨List.replicate p.length 0,List.replicate (p.length * 3) 0,List.replicate 3 0,List.replicate (p.length * bfN split) []⟩:=by
 unfold stF bfStart sqStart;simp[flatE]
theorem l4Start_any (pa:Option Addr) (pk:Nat) (p:List (List Ins)) (split:Bool) (w:World) (hpl:p.length≤3) :
 Calls Try.prog 45 #[.slice pa p.length pk,.bool split] w (RetSt w (stF (bfStart p split))):=by
 have hb3:bfN split≤3:=by cases split <;> simp[bfN]
 have hnn:p.length * bfN split≤9:=Nat.mul_le_mul hpl hb3;have HS:=hide (fun W=>l3Start_any pa pk p.length (p.length * bfN split) W (by omega) (by omega));have HBU:=hide (fun W=>l4Buffers_any split W);have HST:=hide (stF_start p split);rw[← HST.out]at HS;generalize stF (bfStart p split)=st at *;generalize p.length=n at *;generalize bfN split=N at *;obtain⟨T,hT⟩:∃ T,T=n * N:=⟨_,rfl⟩
 have hmul:(n:Int) * (N:Int)=(T:Int):=by rw[hT];push_cast;rfl
 rw[← hT]at HS hnn;clear hT;obtain⟨A0,hA0⟩:∃ A0,A0=w.alloc (.cells #[.slice none 0 0,.slice none 0 0,.slice none 0 0,.slice none 0 0] 64):=⟨_,rfl⟩
 have HB:Hid (Below w.heap.size w A0):=hide (by rw[hA0];exact belowAlloc _ _);have hz:A0.heap.size=w.heap.size+1:=by rw[hA0];simp
 have HX2:Hid (A0.heap[w.heap.size]? = some (.cells #[.slice none 0 0,.slice none 0 0,.slice none 0 0,.slice none 0 0] 64 (0,0))):=hide (by rw[hA0];exact heap_alloc_new w _);have HA0:=hide hA0;clear hA0;go_enter Try.func45,Try.ntmps45;go_wp2_with (first
  | (go_at_call 66;(with_reducible refine(HBU.out _).mono ?_);rintro e w1 ⟨rfl,rfl⟩)
  | (go_at_call 37;rw[← HA0.out];(with_reducible refine(HS.out A0).mono ?_);rintro e w2 ⟨x,m,rfl,hs2,hb2⟩;have S2:=hide hs2;have B2:=hide hb2;have hbk:=(hb2.block w.heap.size (by omega)).trans HX2.out;have r0:w2.cell? ⟨w.heap.size,0,none⟩=some (.slice none 0 0):=cellH hbk (k:=0) rfl;have r1:w2.cell? ⟨w.heap.size,1,none⟩=some (.slice none 0 0):=cellH hbk (k:=1) rfl;have r2:w2.cell? ⟨w.heap.size,2,none⟩=some (.slice none 0 0):=cellH hbk (k:=2) rfl;have r3:w2.cell? ⟨w.heap.size,3,none⟩=some (.slice none 0 0):=cellH hbk (k:=3) rfl;have rfz:=frozH hbk;have rl:=lt_of_cell r0;have T0:Hid (TyB 64 w2 w.heap.size):=hide ⟨_,hbk⟩;clear hs2 hb2 hbk))
 have hS:=S2.out.mono (show w.heap.size≤A0.heap.size by omega);have t0:=T0.out;refine bodyPost_ret (v:=.agg #[.slice x.p.a x.p.n x.p.cap,.slice x.r.a x.r.n x.r.cap,.slice x.m.a x.m.n x.m.cap,.slice x.b.a x.b.n x.b.cap]) (by simp[results,Try.results45,go_sem, *]) rfl ⟨x,m,rfl,?_,?_⟩
 ·exact(((hS.setT (by decide) (by decide) t0).setT (by decide) (by decide) (t0.set _ _ _)).setT (by decide) (by decide) ((t0.set _ _ _).set _ _ _)).setT (by decide) (by decide) (((t0.set _ _ _).set _ _ _).set _ _ _)
 ·exact((((HB.out.trans (B2.out.mono HB.out.size)).setCell (p:=⟨w.heap.size,0,none⟩) (Nat.le_refl _) _).setCell (p:=⟨w.heap.size,1,none⟩) (Nat.le_refl _) _).setCell (p:=⟨w.heap.size,2,none⟩) (Nat.le_refl _) _).setCell (p:=⟨w.heap.size,3,none⟩) (Nat.le_refl _) _
theorem l4Done_any (vp:Value) (p:List (List Ins)) (x:SV) (s:Bf) (w:World) (hp:RepP w vp p) (hx:RepSt w x (stF s)) (hl:s.q.pc.length=p.length) (hpl:p.length≤1048576) :
 Calls Try.prog 46 #[vp,.agg #[.slice x.p.a x.p.n x.p.cap,.slice x.r.a x.r.n x.r.cap,.slice x.m.a x.m.n x.m.cap,.slice x.b.a x.b.n x.b.cap]] w
  fun e w'=>e = .returned (.bool (bfDone p s))∧Below w.heap.size w w':=by
 have HX0:=hide hx;have HP:=hide hp
 have HD:=hide (fun W (h1:RepP W vp p) h2=>l3Done_any vp p x (stF s) W h1 h2 hl hpl);obtain⟨va,vc,rfl,-,-,-,-⟩:=hp.open;obtain⟨⟨pa,pn,pk⟩,⟨ra,rn,rk⟩,⟨ma,mn,mk⟩,⟨ba,bn,bk⟩⟩:=x;obtain⟨_,_,hv2,-,-,-,-⟩:=hx.bf.open;simp only[Slc.v,Value.slice.injEq]at hv2;obtain⟨rfl,hn2,rfl⟩:=hv2;rw[List.length_map]at hn2;have HX:Hid (Rep2 IntE w (.slice ba bn bk) (s.bf.map flatE)):=hide hx.bf;obtain⟨A0,hA0⟩:∃ A0,A0=w.alloc (.cells #[.slice pa pn pk,.slice ra rn rk,.slice ma mn mk,.slice ba bn bk] 64):=⟨_,rfl⟩
 have HB:Hid (Below w.heap.size w A0):=hide (by rw[hA0];exact belowAlloc _ _);have hz:A0.heap.size=w.heap.size+1:=by rw[hA0];simp
 have HX2:Hid (A0.heap[w.heap.size]? = some (.cells #[.slice pa pn pk,.slice ra rn rk,.slice ma mn mk,.slice ba bn bk] 64 (0,0))):=hide (by rw[hA0];exact heap_alloc_new w _);have HA0:=hide hA0;have HBN:=hide hn2;have HE:Hid (bfDone p s=((s.bf.all List.isEmpty)&&sqDone p s.q)):=hide rfl;have hcap:bn≤9223372036854775807:=by
  obtain⟨_,_,_,_,h,_,_⟩:=hx.bf.open;have e:(stF s).bf.length=s.bf.length:=by simp
  omega
 clear hA0 hx hn2 hp hl;generalize bfDone p s=R at *;simp only[St.q]at HD;generalize sqDone p s.q=D at *;generalize p.length=n at *;go_enter Try.func46,Try.ntmps46;go_wp2_with fail;rw[← HA0.out]
 go_loopw [5] (fun i wr => ∃ k:Nat,k≤bn∧i = .int .i64 k∧Hid (∀ j < k,(s.bf.getD j []).isEmpty=true)∧Below A0.heap.size A0 wr) (fun i _=>bn - (intOf i).toNat)
 case atStart=>exact⟨0,Nat.zero_le _,rfl,hide (fun t h=>absurd h (Nat.not_lt_zero t)),Below.refl _ _⟩
 case round =>
  obtain⟨k,hk,rfl,hno,hb⟩:=hrel;have HBR:=hide hb;have d3:wr.cell? ⟨w.heap.size,3,none⟩=some (.slice ba bn bk):=cellH ((hb.block w.heap.size (by omega)).trans HX2.out) (k:=3) rfl;have dl:=lt_of_cell d3;have hbw:=HB.out.trans (hb.mono HB.out.size);by_cases hlt:k < bn
  ·have hlt':=nat_of_lt hlt
   obtain⟨row,hrow⟩:=get_of_lt (xs:=s.bf) (k:=k) (by rw[← HBN.out];exact hlt);obtain⟨b2,o2,qa,qc,hbe,hbl2,q0,-⟩:=(HX.out.below hbw).row (flat_row hrow);subst hbe;rw[flatE_len]at q0;have HROW:=hide hrow;clear hrow hb hbw;by_cases hne:row.length > 0
   ·have hne':((2 * row.length:Nat):Int) > 0:=by omega
    have E:Hid (R=false):=hide (by
     rw[HE.out];have:s.bf.all List.isEmpty=false:=by
      rw[List.all_eq_false];refine⟨row,List.mem_of_getElem? HROW.out,?_⟩;cases row with
      | nil=>simp at hne
      | cons x r=>simp
     rw[this];rfl)
    go_wp2_with fail;go_ret;rw[E.out];exact⟨rfl,HB.out.trans (HBR.out.mono HB.out.size)⟩
   ·have hne':¬ ((2 * row.length:Nat):Int) > 0:=by omega
    have NO:Hid (∀ j < k+1,(s.bf.getD j []).isEmpty=true):=hide fun j hj=>by
     by_cases e:j=k
     ·subst e
      rw[List.getD_eq_getElem?_getD,HROW.out];cases row with
      | nil=>rfl
      | cons x r=>simp at hne
     ·exact hno.out j (by omega)
    go_wp2_with fail;go_roundw
    case rel=>exact⟨k+1,by omega,by go_num,NO,HBR.out⟩
    case measure=>simp[intOf];omega
  ·obtain rfl:k=bn:=by omega
   have E:Hid (R=D):=hide (by
    rw[HE.out];have:s.bf.all List.isEmpty=true:=by
     rw[List.all_eq_true];intro r hr;obtain⟨j,hj⟩:=List.mem_iff_getElem?.1 hr;have:=hno.out j (by rw[HBN.out];exact(List.getElem?_eq_some_iff.1 hj).1);rwa[List.getD_eq_getElem?_getD,hj]at this
    rw[this];rfl)
   have d0:wr.cell? ⟨w.heap.size,0,none⟩=some (.slice pa pn pk):=cellH ((hb.block w.heap.size (by omega)).trans HX2.out) (k:=0) rfl;have d1:wr.cell? ⟨w.heap.size,1,none⟩=some (.slice ra rn rk):=cellH ((hb.block w.heap.size (by omega)).trans HX2.out) (k:=1) rfl;have d2:wr.cell? ⟨w.heap.size,2,none⟩=some (.slice ma mn mk):=cellH ((hb.block w.heap.size (by omega)).trans HX2.out) (k:=2) rfl;have BW:=hide hbw;clear hb hbw;go_wp2_with (go_at_call 40;(with_reducible refine(HD.out _ (HP.out.below BW.out) (HX0.out.below BW.out)).mono ?_);rintro e w5 ⟨rfl,hb5⟩);go_ret;rw[E.out];exact⟨rfl,BW.out.trans (hb5.mono BW.out.size)⟩
end Go.Proofs.Ytnkfphndfijcoaa
namespace Go.Proofs.Ytnkfphndfijcoaa
open Go.RowKit
theorem Own2U.rowput3R {α:Type}{E:El α}{T1 T2:TypeId}{us:List Slc}{w w':World}{base g n cap:Nat}{p:List (List α)}(h:Own2U E T1 T2 us w base (.slice (some ⟨g,0,none⟩) n cap) p) {k:Nat}{s s':Slc}(hs:us[k]? = some s) {r':List α}
 (ho:Own E T2 w' base s'.v r') (hg:w.grownBy w' s.v.ownBlock) (hb:∀ q,s'.v.ownBlock=some q→s.v.ownBlock=some q∨w.heap.size≤q):Own2U E T1 T2 (us.set k s') (w'.setCell ⟨g,k,none⟩ s'.v) base (.slice (some ⟨g,0,none⟩) n cap) (p.set k r'):=by
 obtain⟨h1,h2,h3,h4,h5⟩:=h;have hk:=(List.getElem?_eq_some_iff.1 hs).1;have hglt:=(World.ownsRow.lt h2 g rfl).2;have h2':=h2.grown hg (.inr (fun e=>h5 k s hs g (by rw[← e];rfl) rfl));have h2s:=h2'.set (i:=k) (j:=0) s' (u:=s'.v) (by decide) hs rfl;simp only[SlcE,Nat.mul_one,Nat.add_zero]at h2s;have hgs:w'.grownBy (w'.setCell ⟨g,k,none⟩ s'.v) (some g):=grown_set (World.grownBy.refl _ _) _ _;have hlt:∀ (i:Nat) (u:Slc),us[i]? = some u→∀ q,u.v.ownBlock=some q→q < w.heap.size:=fun i u hi q hq=>by
  obtain⟨r,hr⟩:=get_of_lt (xs:=p) (k:=i) (by have:=(List.getElem?_eq_some_iff.1 hi).1;omega);exact(World.ownsRow.lt (h3 i u r hi hr) q hq).2
 have hs5:∀ q,s'.v.ownBlock=some q→q≠g:=fun q hq e=>by
  subst e;rcases hb q hq with hb | h7
  ·exact h5 k s hs q hb rfl
  ·omega
 have hs4:∀ (i:Nat) (u:Slc),us[i]? = some u→i≠k→∀ q,u.v.ownBlock=some q→s'.v.ownBlock≠some q:=fun i u hi hne q hq hq'=>by
  rcases hb q hq' with hb | h7
  ·exact h4 i k u s hi hs hne q hq hb
  ·have:=hlt i u hi q hq;omega
 have split:∀ (i:Nat) (u:Slc),(us.set k s')[i]? = some u→(i=k∧u=s')∨(i≠k∧us[i]? = some u):=fun i u hi=>by
  rw[List.getElem?_set]at hi;by_cases e:k=i
  ·subst e;rw[if_pos rfl,if_pos hk]at hi;simp at hi;exact .inl ⟨rfl,hi.symm⟩
  ·rw[if_neg e]at hi;exact .inr ⟨fun h=>e h.symm,hi⟩
 refine⟨by simp[h1],h2s,?_,?_,?_⟩
 ·intro i u r hi hr
  rcases split i u hi with⟨e1,e2⟩ | ⟨hne,hi'⟩
  ·rw[e1,List.getElem?_set,if_pos rfl,if_pos (by omega)]at hr
   simp at hr;subst hr;rw[e2];refine ho.grown hgs ?_;rcases hq:s'.v.ownBlock with _ | q
   ·exact .inl rfl
   ·exact .inr (fun e=>hs5 q hq (by simpa using e))
  ·rw[List.getElem?_set,if_neg (fun e=>hne e.symm)]at hr
   refine((h3 i u r hi' hr).grown hg ?_).grown hgs ?_
   ·rcases hq:u.v.ownBlock with _ | q
    ·exact .inl rfl
    ·exact .inr (fun e=>h4 i k u s hi' hs hne q hq e.symm)
   ·rcases hq:u.v.ownBlock with _ | q
    ·exact .inl rfl
    ·exact .inr (fun e=>h5 i u hi' q hq (by rw[e];rfl))
 ·intro i j u u' hi hj hij q hq hq'
  rcases split i u hi with⟨e1,e2⟩ | ⟨hne,hi'⟩
  ·rcases split j u' hj with⟨e3,e4⟩ | ⟨hne',hj'⟩
   ·omega
   ·rw[e2]at hq;exact hs4 j u' hj' hne' q hq' hq
  ·rcases split j u' hj with⟨e3,e4⟩ | ⟨hne',hj'⟩
   ·rw[e4]at hq';exact hs4 i u hi' hne q hq hq'
   ·exact h4 i j u u' hi' hj' hij q hq hq'
 ·intro i u hi q hq hq'
  rcases split i u hi with⟨e1,e2⟩ | ⟨hne,hi'⟩
  ·rw[e2]at hq;exact hs5 q hq (by simp[Value.ownBlock]at hq';exact hq'.symm)
  ·exact h5 i u hi' q hq hq'
structure DoF (w:World) (O m:Nat) (xs:List Value) (y:SV) (s:St) (V:World):Prop where
 bx:V.heap[w.heap.size]? = some (.cells xs.toArray 64 (0,0))
 br:V.heap[w.heap.size+1]? = some (.cells #[.slice none 0 0,.slice none 0 0,.slice none 0 0,.slice none 0 0] 64 (0,0))
 bo:V.heap[O]? = some (.cells #[.slice y.p.a y.p.n y.p.cap,.slice y.r.a y.r.n y.r.cap,.slice y.m.a y.m.n y.m.cap,.slice y.b.a y.b.n y.b.cap] 64 (0,0))
 st:OwnSt V (w.heap.size+2) m y s
 bl:Below w.heap.size w V
 n1:w.heap.size+1 < O
 n3:m≤O
theorem DoS.f {w V:World}{O I m:Nat}{xs i:List Value}{y:SV}{s:St}(h:DoS w O I m xs y i s V):DoF w O m xs y s V:=⟨h.bx,h.br,h.bo,h.st,h.bl,h.n1,h.n3⟩
section
variable {w V V' : World} {O m g k : Nat} {xs : List Value} {y : SV} {s : St} {v : Int}
theorem DoF.below (h:DoF w O m xs y s V) (hb:Below V.heap.size V V'):DoF w O m xs y s V':=
 have e:∀ {q ob},V.heap[q]? = some ob→V'.heap[q]? = some ob:=fun hq=>(hb.block _ (Array.getElem?_eq_some_iff.1 hq).1).trans hq
 ⟨e h.bx,e h.br,e h.bo,h.st.below hb,h.bl.trans (hb.mono h.bl.size),h.n1,h.n3⟩
theorem DoF.mm (h:DoF w O m xs y s V) (hg:y.m.a=some ⟨g,0,none⟩) (hk:k < s.mm.length) (v:Int):DoF w O m xs y { s with mm:=s.mm.set k v } (V.setCell ⟨g,k,none⟩ (.int .i64 v))∧g < V.heap.size∧(∃ x,V.cell? ⟨g,k,none⟩=some (.int .i64 x))∧V.frozen? ⟨g,k,none⟩=false:=by
 obtain⟨y1,y2,⟨a,n,c⟩,y4⟩:=y;subst hg;obtain⟨x,hx⟩:=get_of_lt hk;obtain⟨k1,k2,k3,k4,k5⟩:=h.st.ln.o3.int1 hx v;have e:∀ (q:Nat) (a:Array Value) (T:TypeId),V.heap[q]? = some (Obj.cells a T (0,0))→T≠3→(V.setCell ⟨g,k,none⟩ (.int .i64 v)).heap[q]? = some (Obj.cells a T (0,0)):=fun q a T hq hT =>
  (heap_setCell_other V ⟨g,k,none⟩ q _ (show q≠g by
   rintro rfl;obtain⟨a',ha⟩:=h.st.ln.o3.typeT rfl;rw[hq]at ha;simp at ha;exact hT ha.2)).trans hq
 exact⟨⟨e _ _ _ h.bx (by decide),e _ _ _ h.br (by decide),e _ _ _ h.bo (by decide),⟨h.st.ln.put3 k4 k5 (.inl rfl),h.st.bf.setLow (h.st.p3 g rfl),h.st.p1,h.st.p2,h.st.p3,h.st.le,by simpa using h.st.lh⟩,h.bl.setCell (p:=⟨g,k,none⟩) (by have:=(World.ownsRow.lt h.st.ln.o3 g rfl).1;show _≤g;omega) _,h.n1,h.n3⟩,k1,⟨x,k2⟩,k3 k⟩
theorem DoF.bfput (h:DoF w O m xs y s V) {us:List Slc}{gb nb cb q:Nat}(hyb:y.b=⟨some ⟨gb,0,none⟩,nb,cb⟩) (hU:Own2U IntE 34 3 us V m (.slice (some ⟨gb,0,none⟩) nb cb) s.bf) {u f:Slc}(hs:us[q]? = some u) {W:World}{r':List Int}(ho:Own IntE 3 W m f.v r') (hg:V.grownBy W u.v.ownBlock)
 (hat:∀ k,f.v.ownBlock=some k→u.v.ownBlock=some k∨V.heap.size≤k):DoF w O m xs y { s with bf:=s.bf.set q r' } (W.setCell ⟨gb,q,none⟩ (.slice f.a f.n f.cap)):=by
 have hN:=hU.rowput3R hs ho hg hat;have hgb:=World.ownsRow.lt hU.2.1 gb rfl;obtain⟨r,hr⟩:=get_of_lt (xs:=s.bf) (k:=q) (by have:=hU.1;have:=(List.getElem?_eq_some_iff.1 hs).1;omega);have hrow:=hU.2.2.1 q u r hs hr;have hum:∀ k,u.v.ownBlock=some k→m≤k:=fun k hk=>(World.ownsRow.lt hrow k hk).1;obtain⟨ab,hab⟩:=hU.2.1.typeT (g:=gb) rfl;have kT:∀ {k:Nat}{a:Array Value}{fz:Nat × Nat},V.heap[k]? = some (Obj.cells a 64 fz)→(W.setCell ⟨gb,q,none⟩ (.slice f.a f.n f.cap)).heap[k]? = some (Obj.cells a 64 fz):=fun {k a fz} hk =>
  (heap_setCell_other W ⟨gb,q,none⟩ k _ (show k≠gb by rintro rfl;rw[hk]at hab;simp at hab)).trans ((hg.block k (Array.getElem?_eq_some_iff.1 hk).1 (fun e=>by
   obtain⟨a',ha⟩:=hrow.typeT e.symm;rw[hk]at ha;simp at ha)).trans hk)
 have kL:∀ {k:Nat},k < m→(W.setCell ⟨gb,q,none⟩ (.slice f.a f.n f.cap)).heap[k]? = V.heap[k]?:=fun {k} hk =>
  (heap_setCell_other W ⟨gb,q,none⟩ k _ (show k≠gb by have:=hgb.1;omega)).trans (hg.block k (by have:=h.st.lh;omega) (fun e=>by have:=hum k e.symm;omega))
 refine⟨kT h.bx,kT h.br,kT h.bo,⟨⟨h.st.ln.o1.sameT fun k hk=>kL (h.st.p1 k hk),h.st.ln.o2.sameT fun k hk=>kL (h.st.p2 k hk),h.st.ln.o3.sameT fun k hk=>kL (h.st.p3 k hk),h.st.ln.d12,h.st.ln.d13,h.st.ln.d23⟩,?_,h.st.p1,h.st.p2,h.st.p3,h.st.le,?_⟩,?_,h.n1,h.n3⟩
 ·rw[hyb];exact hN.own
 ·have h1:=hg.size;have h2:=h.st.lh;simp;omega
 ·have hle:=h.st.le
  exact(h.bl.grown hg h.bl.size (fun k hk=>by have:=hum k hk;omega)).setCell (p:=⟨gb,q,none⟩) (by show _≤gb;have:=hgb.1;omega) _
end
structure JW (V:World) (B m:Nat) (u:Slc) (row:List Int) (a b:Int) (c0 c1 c2:Bool) (O2:Nat) (g:Slc) (W:World):Prop where
 k:KpT [3] B V W
 lo:c2=false→Below V.heap.size V W
 lit:c1=true→c2=false→W.heap[O2]? = some (.cells #[.int .i64 a,.int .i64 b] 3 (0,0))
 ap:c2=true→∃ W0,Below V.heap.size V W0∧W0.grownBy W u.v.ownBlock∧Own IntE 3 W m g.v (row++[a,b])∧∀ k,g.v.ownBlock=some k→u.v.ownBlock=some k∨W0.heap.size≤k
 i1:c1=true→c0=true
 i2:c2=true→c1=true
section
variable {V W W' : World} {B m : Nat} {u g : Slc} {row : List Int} {a b : Int} {c0 c1 c2 : Bool} {O2 : Nat}
theorem JW.start (h:Below V.heap.size V W):JW V B m u row a b false false false O2 g W:=⟨.of_below h,fun _=>h,fun h=>(by cases h),fun h=>(by cases h),fun h=>(by cases h),fun h=>(by cases h)⟩
theorem JW.call (h:JW V B m u row a b false c1 c2 O2 g W) (hb:Below W.heap.size W W'):JW V B m u row a b true c1 c2 O2 g W':=by
 have h1:c1=false:=by cases hc:c1 with
  | false=>rfl
  | true=>exact(nomatch h.i1 hc)
 have h2:c2=false:=by cases hc:c2 with
  | false=>rfl
  | true=>have:=h.i2 hc;rw[h1]at this;cases this
 subst h1;subst h2;exact⟨h.k.trans (.of_below hb),fun _=>(h.lo rfl).trans (hb.mono (h.lo rfl).size),fun e=>(by cases e),fun e=>(by cases e),fun e=>(by cases e),fun e=>(by cases e)⟩
theorem JW.lit2 (h:JW V B m u row a b true false c2 O2 g W):JW V B m u row a b true true c2 W.heap.size g (W.alloc (.cells #[.int .i64 a,.int .i64 b] 3)):=by
 have h2:c2=false:=by cases hc:c2 with
  | false=>rfl
  | true=>exact(nomatch h.i2 hc)
 subst h2;have hb:=(Below.refl W.heap.size W).alloc (Nat.le_refl _) (.cells #[.int .i64 a,.int .i64 b] 3);exact⟨h.k.trans (.of_below hb),fun _=>(h.lo rfl).trans (hb.mono (h.lo rfl).size),fun _ _=>heap_alloc_new W _,fun e=>(by cases e),fun _=>rfl,fun e=>(by cases e)⟩
theorem JW.app (h:JW V B m u row a b c0 true false O2 g W) (hBm:B≤m) (hu:Own IntE 3 V m u.v row) {g':Slc}(ho:Own IntE 3 W' m g'.v (row++[a,b])) (hg:W.grownBy W' u.v.ownBlock) (hat:g'.v.ownBlock=u.v.ownBlock∨∀ q,g'.v.ownBlock=some q→W.heap.size≤q):JW V B m u row a b c0 true true O2 g' W':=
 ⟨h.k.trans (KpT.grown (hu.below (h.lo rfl)) (by simp) hBm hg),fun e=>(by cases e),fun _ e=>(by cases e),fun _=>⟨W,h.lo rfl,hg,ho,fun k hk=>by
  rcases hat with e | e
  ·exact .inl (by rw[← e];exact hk)
  ·exact .inr (e k hk)⟩,h.i1,fun _=>rfl⟩
end
end Go.Proofs.Ytnkfphndfijcoaa
namespace Go.Proofs.Ytnkfphndfijcoaa
open Go.RowKit
structure MV where
 val:Int
 lock:Bool
 s:Slc
def MgE:El MV:=⟨3,by decide,fun m=>[.int .i64 m.val,.bool m.lock,m.s.v],fun _=>rfl,fun x u h=>by simp at h;rcases h with rfl | rfl | rfl <;> rfl⟩
def RepMs (w:World) (v:Value) (l:List Mg):Prop:=
 ∃ ms:List MV,ms.length=l.length∧Rep MgE w v ms∧∀ (k:Nat) (m:MV) (g:Mg),ms[k]? = some m→l[k]? = some g→m.val=g.val∧m.lock=g.lock∧Rep IntE w m.s.v g.view
def RepLs (w:World) (v:Value) (ls:List (List Mg)):Prop:=
 ∃ us:List Slc,us.length=ls.length∧Rep SlcE w v us∧∀ (i:Nat) (u:Slc) (l:List Mg),us[i]? = some u→ls[i]? = some l→RepMs w u.v l
theorem RepMs.below {w w':World}{v:Value}{l:List Mg}(h:RepMs w v l) (hb:Below w.heap.size w w'):RepMs w' v l:=by
 obtain⟨ms,h1,h2,h3⟩:=h;exact⟨ms,h1,h2.below hb,fun k m g hm hg=>⟨(h3 k m g hm hg).1,(h3 k m g hm hg).2.1,(h3 k m g hm hg).2.2.below hb⟩⟩
theorem RepLs.below {w w':World}{v:Value}{ls:List (List Mg)}(h:RepLs w v ls) (hb:Below w.heap.size w w'):RepLs w' v ls:=by
 obtain⟨us,h1,h2,h3⟩:=h;exact⟨us,h1,h2.below hb,fun i u l hu hl=>(h3 i u l hu hl).below hb⟩
theorem RepMs.msg {w:World}{a:Option Addr}{n c:Nat}{l:List Mg}(h:RepMs w (.slice a n c) l) {k:Nat}{g:Mg}(hg:l[k]? = some g) :
 ∃ b o va vc,a=some ⟨b,o,none⟩∧b < w.heap.size∧w.cell? ⟨b,o+k * 3,none⟩=some (.int .i64 g.val)∧w.cell? ⟨b,o+k * 3+1,none⟩=some (.bool g.lock) ∧
  w.cell? ⟨b,o+k * 3+2,none⟩=some (.slice va g.view.length vc)∧Rep IntE w (.slice va g.view.length vc) g.view:=by
 obtain⟨ms,h1,h2,h3⟩:=h;obtain⟨m,hm⟩:=get_of_lt (xs:=ms) (k:=k) (by rw[h1];exact(List.getElem?_eq_some_iff.1 hg).1);obtain⟨a',c',hv,_,_,h4⟩:=h2;simp only[Value.slice.injEq]at hv;obtain⟨rfl,rfl,rfl⟩:=hv;obtain⟨b,o,rfl,h'⟩:=h4 k m hm;obtain⟨e1,e2,e3⟩:=h3 k m g hm hg;obtain⟨va,vc,hv,-⟩:=e3.open;have hv':=hv;simp only[Slc.v,Value.slice.injEq]at hv;obtain⟨q1,q2,q3⟩:=hv;have c0:=h' 0 _ rfl;have c1:=h' 1 _ rfl;have c2:=h' 2 _ rfl
 exact⟨b,o,va,vc,rfl,lt_of_cell c0,by rw[← e1];exact c0,by rw[← e2];exact c1,by rw[← hv'];exact c2,by rw[← hv'];exact e3⟩
theorem RepLs.row {w:World}{a:Option Addr}{n c:Nat}{ls:List (List Mg)}(h:RepLs w (.slice a n c) ls) {i:Nat}{l:List Mg}(hl:ls[i]? = some l) :
 ∃ b o ra rc,a=some ⟨b,o,none⟩∧b < w.heap.size∧w.cell? ⟨b,o+i,none⟩=some (.slice ra l.length rc)∧RepMs w (.slice ra l.length rc) l∧l.length≤9223372036854775807:=by
 obtain⟨us,h1,h2,h3⟩:=h;obtain⟨u,hu⟩:=get_of_lt (xs:=us) (k:=i) (by rw[h1];exact(List.getElem?_eq_some_iff.1 hl).1);obtain⟨b,o,rfl,hb,hc⟩:=h2.slc hu;have hrow:=h3 i u l hu hl;have hrow2:=hrow;obtain⟨ms,g1,g2,-⟩:=hrow2;obtain⟨ra,rc,hv,q4,q5,-⟩:=g2.open;rw[g1]at hv q5;exact⟨b,o,ra,rc,rfl,hb,by rw[hc];exact congrArg some hv,by rw[← hv];exact hrow,q5⟩
theorem RepLs.open {w:World}{v:Value}{ls:List (List Mg)}(h:RepLs w v ls):∃ a c,v = .slice a ls.length c∧ls.length≤c∧c≤maxLen:=by
 obtain⟨us,h1,h2,h3⟩:=h;obtain⟨a,c,rfl,h4,h5,h6,h7⟩:=h2.open;rw[h1]at h4 ⊢;exact⟨a,c,rfl,h4,h6⟩
structure RepVw (w:World) (x:SV) (s:Vw):Prop where
 pc:Rep IntE w x.p.v s.pc
 rg:Rep IntE w x.r.v s.rg
 vw:Rep2 IntE w x.m.v s.vw
 ls:RepLs w x.b.v s.ls
theorem RepVw.below {w w':World}{x:SV}{s:Vw}(h:RepVw w x s) (hb:Below w.heap.size w w'):RepVw w' x s:=⟨h.pc.below hb,h.rg.below hb,h.vw.below hb,h.ls.below hb⟩
end Go.Proofs.Ytnkfphndfijcoaa
namespace Go.Proofs.Ytnkfphndfijcoaa
open Go.RowKit
theorem l5Done_any (vp:Value) (p:List (List Ins)) (x:SV) (s:Vw) (w:World) (hp:RepP w vp p) (hx:RepVw w x s) (hl:s.pc.length=p.length) (hpl:p.length≤1048576) :
 Calls Try.prog 51 #[vp,.agg #[.slice x.p.a x.p.n x.p.cap,.slice x.r.a x.r.n x.r.cap,.slice x.m.a x.m.n x.m.cap,.slice x.b.a x.b.n x.b.cap]] w
  fun e w'=>e = .returned (.bool (vwDone p s))∧Below w.heap.size w w':=by
 obtain⟨⟨pa,pn,pk⟩,⟨ra,rn,rk⟩,⟨ma,mn,mk⟩,⟨ba,bn,bk⟩⟩:=x;obtain⟨va,vc,rfl,hc1,hc2,hc3,hp⟩:=hp.open;obtain⟨_,_,hv2,-,-,-,-⟩:=hx.pc.open;simp only[Slc.v,Value.slice.injEq]at hv2;obtain⟨rfl,hn2,rfl⟩:=hv2;have HX:Hid (Rep IntE w (.slice pa pn pk) s.pc):=hide hx.pc;have HP:=hide hp;have HL:=hide hl;obtain⟨A0,hA0⟩:∃ A0,A0=w.alloc (.cells #[.slice pa pn pk,.slice ra rn rk,.slice ma mn mk,.slice ba bn bk] 79):=⟨_,rfl⟩
 have HB:Hid (Below w.heap.size w A0):=hide (by rw[hA0];exact belowAlloc _ _);have hz:A0.heap.size=w.heap.size+1:=by rw[hA0];simp
 have HX2:Hid (A0.heap[w.heap.size]? = some (.cells #[.slice pa pn pk,.slice ra rn rk,.slice ma mn mk,.slice ba bn bk] 79 (0,0))):=hide (by rw[hA0];exact heap_alloc_new w _);have HA0:=hide hA0;have hpn:pn=p.length:=by omega
 generalize hn:p.length=n at *;have HN:=hide hn;clear hA0 hx hp hl hn2 hn;subst hpn;go_enter Try.func51,Try.ntmps51;go_wp2_with fail;rw[← HA0.out]
 go_loopw [5] (fun i wr => ∃ k:Nat,k≤pn∧i = .int .i64 k∧Hid (∀ t < k,∃ c r,s.pc[t]? = some c∧p[t]? = some r∧(r.length:Int)≤c)∧Below A0.heap.size A0 wr) (fun i _=>pn - (intOf i).toNat)
 case atStart=>exact⟨0,Nat.zero_le _,rfl,hide (fun t h=>absurd h (Nat.not_lt_zero t)),Below.refl _ _⟩
 case round =>
  obtain⟨k,hk,rfl,hno,hb⟩:=hrel;by_cases hlt:k < pn
  ·have hlt':=nat_of_lt hlt
   have hbw:=HB.out.trans (hb.mono HB.out.size);have d0:wr.cell? ⟨w.heap.size,0,none⟩=some (.slice pa pn pk):=cellH ((hb.block w.heap.size (by omega)).trans HX2.out) (k:=0) rfl;have dl:=lt_of_cell d0;obtain⟨y,hy⟩:=get_of_lt (xs:=s.pc) (k:=k) (by rw[HL.out];exact hlt);obtain⟨r,hrk⟩:=get_of_lt (xs:=p) (k:=k) (by rw[HN.out];exact hlt);obtain⟨b,o,rfl,hbl,i0⟩:=(HX.out.below hbw).int hy;obtain⟨b2,o2,qa,qc,rfl,hbl2,q0,q1⟩:=(HP.out.below hbw).row hrk;obtain⟨_,_,_,_,hrl,_,_⟩:=q1.open;have HBR:=hide hb;have HBS:=hide hb.size;have Y:=hide hy;have RK:=hide hrk
   clear hy hrk q1 hb hbw;by_cases hlt2:y < (r.length:Int)
   ·have E:Hid (vwDone p s=false):=hide (doneF (s:=(⟨s.pc,s.rg,[]⟩:Sq)) Y.out RK.out hlt2)
    go_wp2_with fail;refine wp_region_bw (by kernel_rfl) (by kernel_rfl) ?_
    repeat (go_big_quiet_step (fail))
    refine wpQuiet_nil ?_;intro w1 hw1;go_wp2_with fail;go_ret;rw[E.out];exact⟨rfl,HB.out.trans ((HBR.out.trans (hw1.mono HBS.out)).mono HB.out.size)⟩
   ·have NO:Hid (∀ t < k+1,∃ c r,s.pc[t]? = some c∧p[t]? = some r∧(r.length:Int)≤c):=hide fun t ht=>by
     by_cases e:t=k
     ·subst e;exact⟨y,r,Y.out,RK.out,Int.not_lt.1 hlt2⟩
     ·exact hno.out t (by omega)
    have hlt3:(r.length:Int)≤y:=Int.not_lt.1 hlt2;clear hlt2;go_wp2_with fail;refine wp_region_bw (by kernel_rfl) (by kernel_rfl) ?_
    repeat (go_big_quiet_step (fail))
    refine wpQuiet_nil ?_;intro w1 hw1;go_wp2_with fail;go_roundw
    case rel=>exact⟨k+1,by omega,by go_num,NO,HBR.out.trans (hw1.mono HBS.out)⟩
    case measure=>simp[intOf];omega
  ·obtain rfl:k=pn:=by omega
   have E:Hid (vwDone p s=true):=hide (doneT (s:=(⟨s.pc,s.rg,[]⟩:Sq)) (fun t ht=>hno.out t (by rw[HN.out]at ht;exact ht)));go_wp2_with fail;go_ret;rw[E.out];exact⟨rfl,HB.out.trans (hb.mono HB.out.size)⟩
end Go.Proofs.Ytnkfphndfijcoaa
namespace Go.Proofs.Ytnkfphndfijcoaa
open Go.RowKit
def mostL (ls:List (List Mg)):Nat:=ls.foldl (fun n l=>if n≤l.length then l.length+1 else n) 1
theorem mostL_succ {ls:List (List Mg)}{i:Nat}{l:List Mg}(h:ls[i]? = some l):mostL (ls.take (i+1))=if mostL (ls.take i)≤l.length then l.length+1 else mostL (ls.take i):=by
 rw[List.take_add_one,h];unfold mostL;rw[List.foldl_append];rfl
theorem mostL_le {B:Nat}:∀ (ls:List (List Mg)) (n:Nat),n≤B+1→(∀ l∈ls,l.length≤B)→ls.foldl (fun n l=>if n≤l.length then l.length+1 else n) n≤B+1
 | [],n,hn,_=>hn
 | l :: ls,n,hn,h=>by
  rw[List.foldl_cons];refine mostL_le ls _ ?_ (fun x hx=>h x (List.mem_cons_of_mem _ hx));have:=h l (List.mem_cons_self ..);split <;> omega
theorem l5Most_any (x:SV) (s:Vw) (w:World) (hx:RepVw w x s) (hl:s.ls.length≤1000) (hb:∀ l∈s.ls,l.length≤1000) :
 Calls Try.prog 70 #[.agg #[.slice x.p.a x.p.n x.p.cap,.slice x.r.a x.r.n x.r.cap,.slice x.m.a x.m.n x.m.cap,.slice x.b.a x.b.n x.b.cap]] w
  fun e w'=>e = .returned (.int .i64 (mostL s.ls:Nat))∧Below w.heap.size w w':=by
 obtain⟨⟨pa,pn,pk⟩,⟨ra,rn,rk⟩,⟨ma,mn,mk⟩,⟨ba,bn,bk⟩⟩:=x;obtain⟨_,_,hv2,-,-⟩:=hx.ls.open;simp only[Slc.v,Value.slice.injEq]at hv2;obtain⟨rfl,hn2,rfl⟩:=hv2;have HX:Hid (RepLs w (.slice ba bn bk) s.ls):=hide hx.ls;obtain⟨A0,hA0⟩:∃ A0,A0=w.alloc (.cells #[.slice pa pn pk,.slice ra rn rk,.slice ma mn mk,.slice ba bn bk] 79):=⟨_,rfl⟩
 have HB:Hid (Below w.heap.size w A0):=hide (by rw[hA0];exact belowAlloc _ _);have hz:A0.heap.size=w.heap.size+1:=by rw[hA0];simp
 have HX2:Hid (A0.heap[w.heap.size]? = some (.cells #[.slice pa pn pk,.slice ra rn rk,.slice ma mn mk,.slice ba bn bk] 79 (0,0))):=hide (by rw[hA0];exact heap_alloc_new w _);have HA0:=hide hA0;have HN:Hid (s.ls.length=bn):=hide hn2.symm;have HBB:=hide hb;have hbn:bn≤1000:=by omega
 clear hA0 hx hn2 hl hb;generalize s.ls=ls at *;go_enter Try.func70,Try.ntmps70;go_wp2_with fail;rw[← HA0.out]
 go_loopw [3,4] (fun vn i wr => ∃ k:Nat,k≤bn∧i = .int .i64 k∧vn = .int .i64 (mostL (ls.take k):Nat)∧Below A0.heap.size A0 wr) (fun _ i _=>bn - (intOf i).toNat)
 case atStart=>exact⟨0,Nat.zero_le _,rfl,rfl,Below.refl _ _⟩
 case round =>
  obtain⟨k,hk,rfl,rfl,hb⟩:=hrel;have hbw:=HB.out.trans (hb.mono HB.out.size);have d3:wr.cell? ⟨w.heap.size,3,none⟩=some (.slice ba bn bk):=cellH ((hb.block w.heap.size (by omega)).trans HX2.out) (k:=3) rfl;have dl:=lt_of_cell d3;by_cases hlt:k < bn
  ·have hlt':=nat_of_lt hlt
   obtain⟨l,hlk⟩:=get_of_lt (xs:=ls) (k:=k) (by rw[HN.out];exact hlt);obtain⟨b,o,la,lc,rfl,hbl,i0,-,hl63⟩:=(HX.out.below hbw).row hlk;have hl1000:=HBB.out l (List.mem_of_getElem? hlk);have MS:=hide (mostL_succ hlk);clear hlk;generalize mostL (ls.take k)=m at *;generalize l.length=ln at *;by_cases hge:m≤ln
   ·have MS2:Hid (mostL (ls.take (k+1))=ln+1):=hide (by rw[MS.out,if_pos hge])
    have hge':decide ((ln:Int)≥(m:Int))=true:=decide_eq_true (Int.ofNat_le.2 hge);have hgi:(m:Int)≤(ln:Int):=Int.ofNat_le.2 hge;have hw1:IntKind.i64.wrap ((ln:Int)+1)=((ln+1:Nat):Int):=by rw[IntKind.wrap_i64];omega
    clear hge MS;go_wp2_with fail;go_roundw
    case rel=>exact⟨k+1,by omega,by go_num,by rw[MS2.out];go_num,hb⟩
    case measure=>simp[intOf];omega
   ·have MS2:Hid (mostL (ls.take (k+1))=m):=hide (by rw[MS.out,if_neg hge])
    have hgi:(ln:Int) < (m:Int):=by omega
    clear hge MS;go_wp2_with fail;go_roundw
    case rel=>exact⟨k+1,by omega,by go_num,by rw[MS2.out],hb⟩
    case measure=>simp[intOf];omega
  ·obtain rfl:k=bn:=by omega
   have E:Hid (ls.take k=ls):=hide (List.take_of_length_le (by rw[HN.out];exact Nat.le_refl _));go_wp2_with fail;go_ret;rw[E.out];exact⟨rfl,hbw⟩
end Go.Proofs.Ytnkfphndfijcoaa
namespace Go.Proofs.Ytnkfphndfijcoaa
open Go.RowKit
theorem wrapN {j:Nat}(h:j≤1000000):wrap64 (j:Int)=(j:Int)∧IntKind.i64.wrap (j:Int)=(j:Int):=by
 have h1:wrap64 (j:Int)=(j:Int):=by unfold wrap64;omega
 exact⟨h1,by rw[IntKind.wrap_i64];omega⟩
theorem last_of {l:List Mg}{j:Nat}{m:Mg}(hl:l.length=j+1) (h:l[j]? = some m):(l.getLast?.map Mg.val).getD 0=m.val:=by
 rw[List.getLast?_eq_getElem?,hl,Nat.add_sub_cancel,h];rfl
theorem l5Outcome_any (x:SV) (s:Vw) (w:World) (hx:RepVw w x s) (h1:s.rg.length≤1000) (h2:s.ls.length≤1000) (h3:∀ l∈s.ls,0 < l.length∧l.length≤1000) :
 Calls Try.prog 52 #[.agg #[.slice x.p.a x.p.n x.p.cap,.slice x.r.a x.r.n x.r.cap,.slice x.m.a x.m.n x.m.cap,.slice x.b.a x.b.n x.b.cap]] w (RetOwn IntE 3 w (vwOut s)):=by
 obtain⟨⟨pa,pn,pk⟩,⟨ra,rn,rk⟩,⟨ma,mn,mk⟩,⟨ba,bn,bk⟩⟩:=x;obtain⟨_,_,hv2,-,-⟩:=hx.ls.open;simp only[Slc.v,Value.slice.injEq]at hv2;obtain⟨rfl,hn2,rfl⟩:=hv2;have HX:Hid (RepLs w (.slice ba bn bk) s.ls):=hide hx.ls;have HR:Hid (Rep IntE w (.slice ra rn rk) s.rg):=hide hx.rg;obtain⟨A0,hA0⟩:∃ A0,A0=w.alloc (.cells #[.slice pa pn pk,.slice ra rn rk,.slice ma mn mk,.slice ba bn bk] 79):=⟨_,rfl⟩
 have HB:Hid (Below w.heap.size w A0):=hide (by rw[hA0];exact belowAlloc _ _);have hz:A0.heap.size=w.heap.size+1:=by rw[hA0];simp
 have HX2:Hid (A0.heap[w.heap.size]? = some (.cells #[.slice pa pn pk,.slice ra rn rk,.slice ma mn mk,.slice ba bn bk] 79 (0,0))):=hide (by rw[hA0];exact heap_alloc_new w _);have d1:A0.cell? ⟨w.heap.size,1,none⟩=some (.slice ra rn rk):=cellH HX2.out (k:=1) rfl;have dl0:=lt_of_cell d1;have HA0:=hide hA0;have HN:Hid (s.ls.length=bn):=hide hn2.symm;have H3:=hide h3;have H1:=hide h1
 have hbn:bn≤1000:=by omega
 have HO:Hid (vwOut s=s.rg++s.ls.map fun l=>(l.getLast?.map Mg.val).getD 0):=hide rfl;have OE:Hid (Own IntE 3 (A0.alloc (.cells #[] 3)) A0.heap.size (.slice (some ⟨w.heap.size+1,0,none⟩) 0 0) []):=hide (by rw[← hz];exact Own.empty (E:=IntE) 3 A0 (Nat.le_refl _));have RR:=hide ((HR.out.below HB.out).below (belowAlloc A0 (.cells #[] 3)));clear hA0 hx hn2 h1 h2 h3;go_enter Try.func52,Try.ntmps52;go_wp2_with (at_builtin;rw[← HA0.out];refine wpList_appS IntE 3 Try.infoInt rfl Try.underlying34 A0.heap.size _ [] s.rg _ OE.out RR.out (by decide) (by have:=H1.out;simp;omega) (by simp) rfl _ _ rfl rfl rfl ?_;intro v1 w1 hown1 hgr1;have O1:=hide hown1;have B1:=hide ((belowAlloc A0 (.cells #[] 3)).grown hgr1 (by simp) (fun q hq=>by simp[Value.ownBlock]at hq;omega));clear hown1 hgr1);clear d1 dl0
 go_loopw [3,4] (fun v i wr => ∃ k:Nat,k≤bn∧i = .int .i64 k∧Own IntE 3 wr A0.heap.size v (s.rg++(s.ls.take k).map fun l=>(l.getLast?.map Mg.val).getD 0)∧Below A0.heap.size A0 wr) (fun _ i _=>bn - (intOf i).toNat)
 case atStart=>exact⟨0,Nat.zero_le _,rfl,by simpa using O1.out,B1.out⟩
 case round =>
  obtain⟨k,hk,rfl,ho,hb⟩:=hrel;have hbw:=HB.out.trans (hb.mono HB.out.size);have d3:wr.cell? ⟨w.heap.size,3,none⟩=some (.slice ba bn bk):=cellH ((hb.block w.heap.size (by omega)).trans HX2.out) (k:=3) rfl;have dl:=lt_of_cell d3;by_cases hlt:k < bn
  ·have hlt':=nat_of_lt hlt
   obtain⟨l,hlk⟩:=get_of_lt (xs:=s.ls) (k:=k) (by rw[HN.out];exact hlt);obtain⟨hl0,hl1⟩:=H3.out l (List.mem_of_getElem? hlk);obtain⟨j,hj⟩:∃ j,l.length=j+1:=⟨l.length - 1,by omega⟩
   obtain⟨m,hmj⟩:=get_of_lt (xs:=l) (k:=j) (by omega);obtain⟨b,o,la,lc,rfl,hbl,i0A,i1,-⟩:=(HX.out.below HB.out).row hlk;obtain⟨b2,o2,va,vc,rfl,hbl2,j0A,-,-,-⟩:=i1.msg hmj;rw[hj]at i0A;have i0:=(hb.cell (p:=⟨b,o+k,none⟩) hbl).trans i0A;have j0:=(hb.cell (p:=⟨b2,o2+j * 3,none⟩) hbl2).trans j0A;have I0:=hide i0A;have J0:=hide j0A
   have d3A:A0.cell? ⟨w.heap.size,3,none⟩=some (.slice (some ⟨b,o,none⟩) bn bk):=cellH HX2.out (k:=3) rfl;have D3:=hide d3A;have hwz:w.heap.size < A0.heap.size:=by omega
   clear i0A j0A d3A;have RS:Hid ((s.rg++(s.ls.take (k+1)).map fun l=>(l.getLast?.map Mg.val).getD 0)=(s.rg++(s.ls.take k).map fun l=>(l.getLast?.map Mg.val).getD 0)++[m.val]):=hide (by rw[List.take_add_one,hlk];simp[last_of hj hmj]);have hlen:(s.rg++(s.ls.take k).map fun l=>(l.getLast?.map Mg.val).getD 0).length≤68719476736:=by have:=H1.out;simp only[List.length_append,List.length_map,List.length_take];omega
   obtain⟨hw4,hw3⟩:=wrapN (j:=j) (by omega);have hj0:(0:Int)≤(j:Int):=Int.natCast_nonneg _;have hj1:(j:Int) < (j:Int)+1:=Int.lt_add_one_of_le (Int.le_refl _);have hblr:=Nat.lt_of_lt_of_le hbl hb.size;have hblr2:=Nat.lt_of_lt_of_le hbl2 hb.size;have HOW:=hide (ho.below (Below.refl _ _).drew);have HBR:=hide hb.drew;have hbs:=hb.size;clear ho hb hbw i1 hlk hmj hj hl0;generalize (s.rg++(s.ls.take k).map fun l=>(l.getLast?.map Mg.val).getD 0)=PP at *;generalize m.val=y at *;go_wp2_with fail
   go_region_held3 (fun V=>V.cell? ⟨w.heap.size,3,none⟩=some (.slice (some ⟨b,o,none⟩) bn bk)∧V.cell? ⟨b,o+k,none⟩=some (.slice (some ⟨b2,o2,none⟩) (j+1) lc)∧V.cell? ⟨b2,o2+j * 3,none⟩=some (.int .i64 y)) ((simp[go_sem, *]))
    ((refine step_app IntE 3 Try.infoInt rfl Try.underlying34 A0.heap.size _ PP y (HOW.out.alloc _) (by decide) hlen (by simp;omega) (by rfl) _ _ (by rfl) (by rfl) wr.heap.size 0 1 (by rfl) news_alloc ?_;intro v6 w6 hown6 hgr6;have O6:=hide hown6;have B6:=hide (below_app HBR.out HOW.out hgr6);have d36:=(B6.out.cell (p:=⟨w.heap.size,3,none⟩) hwz).trans D3.out;have i06:=(B6.out.cell (p:=⟨b,o+k,none⟩) hbl).trans I0.out;have j06:=(B6.out.cell (p:=⟨b2,o2+j * 3,none⟩) hbl2).trans J0.out;clear hown6 hgr6))
   go_wp2_with fail;go_roundw
   case rel=>exact⟨k+1,by omega,by go_num,by rw[RS.out];exact O6.out,B6.out⟩
   case measure=>simp[intOf];omega
  ·obtain rfl:k=bn:=by omega
   rw[List.take_of_length_le (by rw[HN.out];exact Nat.le_refl _),← HO.out]at ho;have HOW:=hide ho;clear ho;go_wp2_with fail;go_ret;exact⟨_,rfl,HOW.out.mono HB.out.size,hbw⟩
end Go.Proofs.Ytnkfphndfijcoaa
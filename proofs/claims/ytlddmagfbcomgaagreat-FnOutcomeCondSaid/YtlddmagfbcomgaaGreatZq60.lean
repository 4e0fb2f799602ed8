/-
  The reference's search through all states with one memory. Condition: a valid program.
-/
import Derived.Test.YtlddmagfbcomgaaGreatZq58
import Derived.Test.YtlddmagfbcomgaaGreatZq51
import Derived.Test.YtlddmagfbcomgaaGreatZq57
import Derived.Test.YtlddmagfbcomgaaGreatZq52
import Derived.Test.YtlddmagfbcomgaaGreatZq05
import Derived.Deep.LoopGhost
set_option maxHeartbeats 6400000
set_option maxRecDepth 100000
namespace Go.Proofs.YtlddmagfbcomgaaGreat
open Go.RowKit
theorem l3L_lexO (a b:List Int):l3L a b=lexO a b:=by
 induction a generalizing b with
 | nil=>cases b <;> rfl
 | cons x a ih =>
  cases b with
  | nil=>rfl
  | cons y b=>simp only [l3L,lexO,ih]
theorem putO_take {o:List Int} {L:List (List Int)} {k:Nat} (h:∀ x∈L.take k,lexO x o = -1):putO o L=L.take k++putO o (L.drop k):=by
 induction L generalizing k with
 | nil=>simp
 | cons x L ih =>
  cases k with
  | zero=>simp
  | succ k =>
   have h1:=h x (by simp)
   have h2:=ih (k:=k) fun y hy=>h y (by simp [hy])
   rw [List.take_succ_cons,List.drop_succ_cons,List.cons_append,← h2]
   simp [putO,h1]
theorem putO_eq {o x:List Int} {L:List (List Int)} {k:Nat} (h:∀ x∈L.take k,lexO x o = -1) (hx:L[k]? = some x) (he:lexO x o=0):putO o L=L:=by
 obtain ⟨hk,rfl⟩:=List.getElem?_eq_some_iff.1 hx
 rw [putO_take h,List.drop_eq_getElem_cons hk]
 simp only [putO,he,if_true,if_neg (show ¬ (0:Int) = -1 by decide)]
 rw [← List.drop_eq_getElem_cons hk,List.take_append_drop]
theorem putO_in {o x:List Int} {L:List (List Int)} {k:Nat} (h:∀ x∈L.take k,lexO x o = -1) (hx:L[k]? = some x) (he:lexO x o=1):putO o L=L.take k++[o]++L.drop k:=by
 obtain ⟨hk,rfl⟩:=List.getElem?_eq_some_iff.1 hx
 rw [putO_take h,List.drop_eq_getElem_cons hk]
 simp [putO,he]
theorem putO_end {o:List Int} {L:List (List Int)} {k:Nat} (h:∀ x∈L.take k,lexO x o = -1) (hk:L.length≤k):putO o L=L.take k++[o]++L.drop k:=by
 rw [putO_take h,List.drop_of_length_le hk]
 simp [putO]
def OutL (Ls:List TypeId) (B:Nat) (w:World) (base:Nat) (v:Value) (L:List (List Int)):Prop:=
 v≠.slice none 0 0∧∃ us:List Slc,us.length=L.length∧Own SlcE 40 w base v us∧∀ (i:Nat) (u:Slc) (r:List Int),us[i]? = some u→L[i]? = some r→LocT Ls B w (fun W=>Own IntE 3 W base u.v r)
theorem OutL.step {Ls:List TypeId} {B:Nat} {w w':World} {base:Nat} {v:Value} {L:List (List Int)} (h:OutL Ls B w base v L) (k:KpT Ls B w w') (hT:40∉Ls):OutL Ls B w' base v L:=by
 obtain ⟨h0,us,h1,h2,h3⟩:=h
 exact ⟨h0,us,h1,(LocT.own h2 hT).keep w' k,fun i u r hu hr=>(h3 i u r hu hr).step k⟩
theorem OutL.empty {Ls:List TypeId} {B:Nat} {w:World} {base:Nat} (hb:base≤w.heap.size):OutL Ls B (w.alloc (.cells #[] 40)) base (.slice (some ⟨w.heap.size,0,none⟩) 0 0) []:=
 ⟨by simp,[],rfl,Own.empty _ _ hb,fun i u r h=>by simp at h⟩
def RetOut (Ls:List TypeId) (B:Nat) (w:World) (base:Nat) (L:List (List Int)) (e:Ending) (w':World):Prop:=∃ v,e = .returned v∧OutL Ls B w' base v L∧Below w.heap.size w w'
theorem Rep.takeM {α:Type} {E:El α} {w:World} {a:Option Addr} {n c:Nat} {xs:List α} (h:Rep E w (.slice a n c) xs) {k:Nat} (hk:k≤n):Rep E w (.slice a k c) (xs.take k):=by
 obtain ⟨a',c',hv,h1,h2,h3⟩:=h
 simp only [Value.slice.injEq] at hv
 obtain ⟨rfl,rfl,rfl⟩:=hv
 have hl:(xs.take k).length=k:=by rw [List.length_take];omega
 exact ⟨a,c,by rw [hl],by omega,h2,fun i x hx=>h3 i x (by
  rw [List.getElem?_take] at hx
  split at hx
  ·exact hx
  ·cases hx)⟩
theorem Rep.dropM {α:Type} {E:El α} {w:World} {g o n c:Nat} {xs:List α} (h:Rep E w (.slice (some ⟨g,o,none⟩) n c) xs) {k:Nat} (hk:k≤n):Rep E w (.slice (some ⟨g,o+k * E.sz,none⟩) (n - k) (c - k)) (xs.drop k):=by
 obtain ⟨a',c',hv,h1,h2,h3⟩:=h
 simp only [Value.slice.injEq] at hv
 obtain ⟨rfl,rfl,rfl⟩:=hv
 refine ⟨_,c - k,by rw [List.length_drop],by rw [List.length_drop];omega,by omega,fun i x hx => ?_⟩
 rw [List.getElem?_drop] at hx
 obtain ⟨b,o',hb,hi⟩:=h3 (k+i) x hx
 simp only [Option.some.injEq,Addr.mk.injEq,and_true] at hb
 obtain ⟨rfl,rfl⟩:=hb
 refine ⟨g,o+k * E.sz,rfl,fun j u hu => ?_⟩
 have:=hi j u hu
 rw [Nat.add_mul] at this
 rw [← this]
 congr 2
 omega
theorem Rep.tail0 {α:Type} {E:El α} {w:World} {a:Option Addr} {n c k:Nat} {xs:List α} (h:Rep E w (.slice a n c) xs) (hk:n≤k) {a':Option Addr} {c':Nat} (hc:c'≤maxLen):Rep E w (.slice a' 0 c') (xs.drop k):=by
 obtain ⟨a2,c2,hv,h1,h2,h3⟩:=h
 simp only [Value.slice.injEq] at hv
 obtain ⟨rfl,rfl,rfl⟩:=hv
 rw [List.drop_of_length_le hk]
 exact ⟨a',c',rfl,Nat.zero_le _,hc,fun i x hx=>by simp at hx⟩
theorem out_in {Ls:List TypeId} {B base:Nat} {w w8:World} {us:List Slc} {L R:List (List Int)} {u:Slc} {o:List Int} {v8:Value} {k:Nat} (hul:us.length=L.length)
 (hrows:∀ (i:Nat) (u:Slc) (r:List Int),us[i]? = some u→L[i]? = some r→LocT Ls B w (fun W=>Own IntE 3 W base u.v r)) (ho:LocT Ls B w (fun W=>Own IntE 3 W base u.v o)) (hR:R=L.take k++[o]++L.drop k)
 (h8:Own SlcE 40 w8 w.heap.size v8 (us.take k++[u]++us.drop k)) (hb:Below w.heap.size w w8) (hbase:base≤w.heap.size):RetOut Ls B w base R (.returned v8) w8:=by
 refine ⟨v8,rfl,⟨?_,us.take k++[u]++us.drop k,by rw [hR];simp [hul],h8.mono hbase,fun i u' r hu hr => ?_⟩,hb⟩
 ·rintro rfl
  have:=h8.len
  simp at this
 ·rw [hR] at hr
  have key:∀ (i:Nat) (u':Slc) (r:List Int),us[i]? = some u'→L[i]? = some r→LocT Ls B w8 (fun W=>Own IntE 3 W base u'.v r):=fun i u' r h1 h2=>(hrows i u' r h1 h2).step (.of_below hb)
  have hlk:(us.take k).length=(L.take k).length:=by simp [hul]
  rw [List.append_assoc] at hu hr
  rcases Nat.lt_or_ge i (us.take k).length with hi | hi
  ·rw [List.getElem?_append_left hi] at hu
   rw [List.getElem?_append_left (by omega)] at hr
   rw [List.getElem?_take] at hu hr
   split at hu
   ·rename_i hik
    rw [if_pos hik] at hr
    exact key i u' r hu hr
   ·cases hu
  ·rw [List.getElem?_append_right hi] at hu
   rw [List.getElem?_append_right (by omega),← hlk] at hr
   generalize i - (us.take k).length=j at *
   cases j with
   | zero =>
    simp at hu hr
    subst hu;subst hr
    exact ho.step (.of_below hb)
   | succ j =>
    simp only [List.singleton_append,List.getElem?_cons_succ,List.getElem?_drop] at hu hr
    exact key _ u' r hu hr
theorem l3Put_any (Ls:List TypeId) (B base:Nat) (vl:Value) (u:Slc) (L:List (List Int)) (o:List Int) (w:World) (hL:OutL Ls B w base vl L) (ho:LocT Ls B w (fun W=>Own IntE 3 W base u.v o)) (hT:40∉Ls) (hb:base≤w.heap.size) (hl:L.length≤68719476000) :
 Calls Tryz.prog 196 #[vl, .slice u.a u.n u.cap] w (RetOut Ls B w base (putO o L)):=by
 obtain ⟨hne,us,hul,hown,hrows⟩:=hL
 rcases hown.shape with ⟨e,_⟩ | ⟨g,lc,rfl,hg1,hg2,hg3,hg4⟩
 ·exact absurd e hne
 have HO:=hide ho
 have HT:=hide hT
 have HUL:=hide hul;have HOW:=hide hown;have HRW:=hide hrows
 have HREP:=hide hown.rep
 have HLE:=hide (fun w' v (x:List Int) (h:Rep IntE w' v x) (h2:Rep IntE w' u.v o)=>(l3L_lexO x o) ▸ (l3Less_any v u.v x o w' h h2))
 obtain ⟨ua,un,uc⟩:=u
 have hn:us.length=L.length:=hul
 generalize hN:us.length=n at *
 have HN:=hide hN
 have hnl:n≤68719476000:=by omega
 clear hul hown hrows ho hT hn hN hne
 go_enter Tryz.func196,Tryz.ntmps196
 go_wp2_with fail
 go_loopw [5] (fun i wr => ∃ k:Nat,k≤n∧i = .int .i64 k∧Hid (∀ x∈L.take k,lexO x o = -1)∧Below w.heap.size w wr) (fun i _=>n - (intOf i).toNat)
 case atStart=>exact ⟨0,Nat.zero_le _,rfl,hide (by simp),Below.refl _ _⟩
 case round =>
  obtain ⟨k,hk,rfl,hlo,hbr⟩:=hrel
  have HBR:=hide hbr
  have hbs:=hbr.size
  clear hbr
  by_cases hlt:k < n
  ·have hlt':=nat_of_lt hlt
   obtain ⟨x,hx⟩:=get_of_lt (xs:=L) (k:=k) (by rw [← HUL.out];exact hlt)
   obtain ⟨⟨xa,xn,xc⟩,hux⟩:=get_of_lt (xs:=us) (k:=k) (by rw [HN.out];exact hlt)
   obtain ⟨b,q,hbq,hbl,i0⟩:=(HREP.out.below HBR.out).slc hux
   simp only [Option.some.injEq,Addr.mk.injEq,and_true] at hbq
   obtain ⟨rfl,rfl⟩:=hbq
   simp only [Nat.zero_add] at i0
   have hrx:=(HRW.out k _ x hux hx).step (.of_below HBR.out)
   have ho2:=HO.out.step (.of_below HBR.out)
   have HC:=hide (HLE.out wr (.slice xa xn xc) x hrx.now.rep ho2.now.rep)
   have HRX:=hide hrx;have HO2:=hide ho2
   have X:=hide hx
   clear hx hux hrx ho2
   rcases lexO_three x o with e | e | e
   ·rw [e] at HC
    have NO:Hid (∀ y∈L.take (k+1),lexO y o = -1):=hide fun y hy=>by
     rw [List.take_add_one,X.out] at hy
     rcases List.mem_append.1 hy with h | h
     ·exact hlo.out y h
     ·simp at h;rw [h];exact e
    clear e
    go_wp2_with (first | (go_at_call 215;(with_reducible refine HC.out.mono ?_);rintro e w1 ⟨rfl,hb1⟩))
    go_roundw
    case rel=>exact ⟨k+1,by omega,by go_num,NO,HBR.out.trans (hb1.mono hbs)⟩
    case measure=>simp [intOf];omega
   ·have HE:=hide (putO_eq hlo.out X.out e)
    rw [e] at HC
    have E0:=hide e
    clear e
    go_wp2_with (first
     | (go_at_call 215;(with_reducible refine HC.out.mono ?_);rintro e w1 ⟨rfl,hb1⟩;have B1:=hide hb1;have j0:w1.cell? ⟨g,k,none⟩=some (.slice xa xn xc):=(hb1.cell (p:=⟨g,k,none⟩) hbl).trans i0;have jl:=lt_of_cell j0;have HC2:=hide (HLE.out w1 (.slice xa xn xc) x (HRX.out.step (.of_below hb1)).now.rep (HO2.out.step (.of_below hb1)).now.rep);rw [E0.out] at HC2;clear hb1)
     | (go_at_call 215;(with_reducible refine HC2.out.mono ?_);rintro e w2 ⟨rfl,hb2⟩))
    go_ret
    rw [HE.out]
    have hb9:=(HBR.out.trans (B1.out.mono hbs)).trans (hb2.mono (Nat.le_trans hbs B1.out.size))
    exact ⟨_,rfl,OutL.step (w:=w) ⟨by simp,us,HN.out.trans HUL.out,HOW.out,HRW.out⟩ (.of_below hb9) HT.out,hb9⟩
   ·have HE:=hide (putO_in hlo.out X.out e)
    rw [e] at HC
    have E0:=hide e
    clear e
    go_wp2_with (first
     | (go_at_call 215;(with_reducible refine HC.out.mono ?_);rintro e w1 ⟨rfl,hb1⟩;have B1:=hide hb1;have j0:w1.cell? ⟨g,k,none⟩=some (.slice xa xn xc):=(hb1.cell (p:=⟨g,k,none⟩) hbl).trans i0;have jl:=lt_of_cell j0;have HC2:=hide (HLE.out w1 (.slice xa xn xc) x (HRX.out.step (.of_below hb1)).now.rep (HO2.out.step (.of_below hb1)).now.rep);rw [E0.out] at HC2;clear hb1)
     | (go_at_call 215;(with_reducible refine HC2.out.mono ?_);rintro e w2 ⟨rfl,hb2⟩;have HBE:=hide ((HBR.out.trans (B1.out.mono hbs)).trans (hb2.mono (Nat.le_trans hbs B1.out.size)));have hbe:=HBE.out.size;clear hb2)
     | (at_builtin;refine wpList_appS SlcE 40 Tryz.infoIntSM rfl Tryz.underlying31 w.heap.size _ [] (us.take k) _ (Own.empty _ _ hbe) (((HREP.out.takeM (k:=k) (by omega)).below HBE.out).below (belowAlloc _ _)) (by decide) (by simp;omega) (by simp;omega) rfl _ _ rfl rfl rfl ?_;intro v4 w4 hown4 hgr4;obtain ⟨⟨a4,n4,c4⟩,rfl, -⟩:=hown4.toSlc;rw [List.nil_append] at hown4;have O4:=hide hown4;have B4:=hide (HBE.out.trans ((((Below.refl _ _).alloc (Nat.le_refl _) (.cells #[] 40)).grown hgr4 (by simp) (fun q hq=>by simp [Value.ownBlock] at hq;omega)).mono hbe));have hb4:=B4.out.size;clear hown4 hgr4)
     | (at_builtin;refine wpList_app SlcE 40 Tryz.infoIntSM rfl Tryz.underlying31 w.heap.size _ (us.take k) ⟨ua,un,uc⟩ (O4.out.alloc _) (by decide) (by rw [List.length_take];omega) (by simp;omega) rfl _ _ rfl rfl _ 0 1 rfl news_alloc ?_;intro v6 w6 hown6 hgr6;obtain ⟨⟨a6,n6,c6⟩,rfl, -⟩:=hown6.toSlc;have O6:=hide hown6;have B6:=hide (below_app B4.out O4.out hgr6);have hb6:=B6.out.size;clear hown6 hgr6)
     | (at_builtin;refine wpList_appS SlcE 40 Tryz.infoIntSM rfl Tryz.underlying31 w.heap.size _ (us.take k++[⟨ua,un,uc⟩]) (us.drop k) _ O6.out (by have h:=HREP.out.dropM (k:=k) (by omega);simp only [SlcE,Nat.mul_one,Nat.zero_add] at h;exact h.below B6.out) (by decide) (by have:=HN.out;simp;omega) hb6 rfl _ _ rfl rfl rfl ?_;intro v8 w8 hown8 hgr8;have O8:=hide hown8;have B8:=hide (B6.out.grown hgr8 hb6 (fun q hq=>(World.ownsRow.lt O6.out q hq).1));clear hown8 hgr8))
    go_ret
    exact out_in (HN.out.trans HUL.out) HRW.out HO.out HE.out O8.out B8.out hb
  ·obtain rfl:k=n:=by omega
   have HE:=hide (putO_end hlo.out (show L.length≤k by rw [← HUL.out];exact Nat.le_refl _))
   by_cases hcn:k=lc
   ·subst hcn
    go_wp2_with (first
     | (at_builtin;refine wpList_appS SlcE 40 Tryz.infoIntSM rfl Tryz.underlying31 w.heap.size _ [] (us.take k) _ (Own.empty _ _ hbs) (((HREP.out.takeM (k:=k) (by omega)).below HBR.out).below (belowAlloc _ _)) (by decide) (by simp;omega) (by simp;omega) rfl _ _ rfl rfl rfl ?_;intro v4 w4 hown4 hgr4;obtain ⟨⟨a4,n4,c4⟩,rfl, -⟩:=hown4.toSlc;rw [List.nil_append] at hown4;have O4:=hide hown4;have B4:=hide (HBR.out.trans ((((Below.refl _ _).alloc (Nat.le_refl _) (.cells #[] 40)).grown hgr4 (by simp) (fun q hq=>by simp [Value.ownBlock] at hq;omega)).mono hbs));have hb4:=B4.out.size;clear hown4 hgr4)
     | (at_builtin;refine wpList_app SlcE 40 Tryz.infoIntSM rfl Tryz.underlying31 w.heap.size _ (us.take k) ⟨ua,un,uc⟩ (O4.out.alloc _) (by decide) (by rw [List.length_take];omega) (by simp;omega) rfl _ _ rfl rfl _ 0 1 rfl news_alloc ?_;intro v6 w6 hown6 hgr6;obtain ⟨⟨a6,n6,c6⟩,rfl, -⟩:=hown6.toSlc;have O6:=hide hown6;have B6:=hide (below_app B4.out O4.out hgr6);have hb6:=B6.out.size;clear hown6 hgr6)
     | (at_builtin;refine wpList_appS SlcE 40 Tryz.infoIntSM rfl Tryz.underlying31 w.heap.size _ (us.take k++[⟨ua,un,uc⟩]) (us.drop k) _ O6.out ((HREP.out.tail0 (Nat.le_refl _) (Nat.zero_le _)).below B6.out) (by decide) (by have:=HN.out;simp;omega) hb6 rfl _ _ rfl rfl rfl ?_;intro v8 w8 hown8 hgr8;have O8:=hide hown8;have B8:=hide (B6.out.grown hgr8 hb6 (fun q hq=>(World.ownsRow.lt O6.out q hq).1));clear hown8 hgr8))
    go_ret
    exact out_in (HN.out.trans HUL.out) HRW.out HO.out HE.out O8.out B8.out hb
   ·go_wp2_with (first
     | (at_builtin;refine wpList_appS SlcE 40 Tryz.infoIntSM rfl Tryz.underlying31 w.heap.size _ [] (us.take k) _ (Own.empty _ _ hbs) (((HREP.out.takeM (k:=k) (by omega)).below HBR.out).below (belowAlloc _ _)) (by decide) (by simp;omega) (by simp;omega) rfl _ _ rfl rfl rfl ?_;intro v4 w4 hown4 hgr4;obtain ⟨⟨a4,n4,c4⟩,rfl, -⟩:=hown4.toSlc;rw [List.nil_append] at hown4;have O4:=hide hown4;have B4:=hide (HBR.out.trans ((((Below.refl _ _).alloc (Nat.le_refl _) (.cells #[] 40)).grown hgr4 (by simp) (fun q hq=>by simp [Value.ownBlock] at hq;omega)).mono hbs));have hb4:=B4.out.size;clear hown4 hgr4)
     | (at_builtin;refine wpList_app SlcE 40 Tryz.infoIntSM rfl Tryz.underlying31 w.heap.size _ (us.take k) ⟨ua,un,uc⟩ (O4.out.alloc _) (by decide) (by rw [List.length_take];omega) (by simp;omega) rfl _ _ rfl rfl _ 0 1 rfl news_alloc ?_;intro v6 w6 hown6 hgr6;obtain ⟨⟨a6,n6,c6⟩,rfl, -⟩:=hown6.toSlc;have O6:=hide hown6;have B6:=hide (below_app B4.out O4.out hgr6);have hb6:=B6.out.size;clear hown6 hgr6)
     | (at_builtin;refine wpList_appS SlcE 40 Tryz.infoIntSM rfl Tryz.underlying31 w.heap.size _ (us.take k++[⟨ua,un,uc⟩]) (us.drop k) _ O6.out ((HREP.out.tail0 (Nat.le_refl _) (by omega)).below B6.out) (by decide) (by have:=HN.out;simp;omega) hb6 rfl _ _ rfl rfl rfl ?_;intro v8 w8 hown8 hgr8;have O8:=hide hown8;have B8:=hide (B6.out.grown hgr8 hb6 (fun q hq=>(World.ownsRow.lt O6.out q hq).1));clear hown8 hgr8))
    go_ret
    exact out_in (HN.out.trans HUL.out) HRW.out HO.out HE.out O8.out B8.out hb
end Go.Proofs.YtlddmagfbcomgaaGreat
namespace Go.Proofs.YtlddmagfbcomgaaGreat
open Go.RowKit
theorem ins_range {x:Ins} (h:insValid x=true):(0≤x.loc∧x.loc≤2)∧(0≤x.reg∧x.reg≤2):=by
 unfold insValid inB at h
 split at h
 ·simp at h;omega
 ·split at h
  ·simp at h;omega
  ·split at h
   ·simp at h;omega
   ·split at h
    ·simp at h;omega
    ·cases h
theorem l3Do_any (vp:Value) (p:List (List Ins)) (x:SV) (s:St) (t kn:Nat) (i:Ins) (r:List Ins) (w:World) (hp:RepP w vp p) (hx:RepSt w x s) (hpc:s.pc[t]? = some (kn:Int)) (hrow:p[t]? = some r) (hins:r[kn]? = some i)
 (hv:insValid i=true) (ht:t≤2) (h1:s.pc.length≤1000) (h2:s.rg.length=s.pc.length * 3) (h3:s.mm.length=3) (h4:s.bf.length≤100) (h5:∀ o∈s.bf,o.length≤1000) (hrl:r.length≤1000) :
 Calls Tryz.prog 198 #[vp, .agg #[.slice x.p.a x.p.n x.p.cap, .slice x.r.a x.r.n x.r.cap, .slice x.m.a x.m.n x.m.cap, .slice x.b.a x.b.n x.b.cap], .int .i64 (t:Int)] w
  (RetSt w ⟨(sqDo s.q t kn i).pc,(sqDo s.q t kn i).rg,(sqDo s.q t kn i).mm,s.bf⟩):=by
 have hr:=ins_range hv
 obtain ⟨op,loc,reg,val⟩:=i
 simp only at hr
 obtain ⟨lc,rfl⟩:∃ lc:Nat,loc=lc:=⟨loc.toNat,by omega⟩
 obtain ⟨rc,rfl⟩:∃ rc:Nat,reg=rc:=⟨reg.toNat,by omega⟩
 cases h6:isRop op
 ·cases h7:isWop op
  ·exact l3Do_n vp p x s t kn lc rc op val r w hp hx hpc hrow hins h6 h7 ht (by omega) (by omega) h1 h2 h3 h4 h5 hrl
  ·exact l3Do_w vp p x s t kn lc rc op val r w hp hx hpc hrow hins h6 h7 ht (by omega) (by omega) h1 h2 h3 h4 h5 hrl
 ·cases h7:isWop op
  ·exact l3Do_r vp p x s t kn lc rc op val r w hp hx hpc hrow hins h6 h7 ht (by omega) (by omega) h1 h2 h3 h4 h5 hrl
  ·exact l3Do_b vp p x s t kn lc rc op val r w hp hx hpc hrow hins h6 h7 ht (by omega) (by omega) h1 h2 h3 h4 h5 hrl
def LS:List TypeId:=[118,9,195,173]
abbrev stQ (s:Sq):St:=⟨s.pc,s.rg,s.mm,[]⟩
abbrev kyS (s:Sq):ByteArray:=keyB (sqKey s)
theorem stKey_q (s:Sq):stKey (stQ s)=sqKey s:=by simp [stKey,sqKey,bfT]
def WorkL (w:World) (B:Nat) (v:Value) (work:List St):Prop:=
 ∃ xs:List SV,xs.length=work.length∧Own StE 195 w B v xs∧∀ (i:Nat) (x:SV) (s:St),xs[i]? = some x→work[i]? = some s→LocT LS B w (fun W=>RepSt W x s)
theorem WorkL.kp {L:List TypeId} {w w':World} {B:Nat} {v:Value} {work:List St} (h:WorkL w B v work) (k:KpT L B w w') (hL:∀ T∈L,T∈LS) (hT:195∉L):WorkL w' B v work:=by
 obtain ⟨xs,h1,h2,h3⟩:=h
 exact ⟨xs,h1,(LocT.own h2 hT).keep w' k,fun i x s hx hs=>(h3 i x s hx hs).step (k.more hL (Nat.le_refl _))⟩
theorem Tab.kp {L:List TypeId} {w w':World} {B:Nat} {v:Value} {ks:List ByteArray} (h:Tab w B v ks) (k:KpT L B w w') (h1:118∉L) (h2:9∉L):Tab w' B v ks:=(LocT.own2 h h1 h2).keep w' k
structure SeaL (B N O:Nat) (vt v:Value) (work:List St) (ks:List ByteArray) (cn:Nat) (vo:Slc) (outs:List (List Int)) (wr:World):Prop where
 wk:WorkL wr B v work
 tb:Tab wr B vt ks
 bn:wr.heap[N]? = some (.cells #[.int .i64 0, .slice none 0 0] 173 (0,0))
 bo:wr.heap[O]? = some (.cells #[.int .i64 (cn:Int), .slice vo.a vo.n vo.cap] 173 (0,0))
 ol:OutL LS B wr B vo.v outs
 lN:B≤N
 lO:N < O
 sz:B≤wr.heap.size
section
variable {B N O cn cn' : Nat} {vt v v' : Value} {work work' : List St} {ks ks' : List ByteArray} {vo vo' : Slc} {outs outs' : List (List Int)} {w w' : World} {L : List TypeId}
theorem SeaL.below (h:SeaL B N O vt v work ks cn vo outs w) (hb:Below w.heap.size w w'):SeaL B N O vt v work ks cn vo outs w':=
 have k:KpT [] B w w':=.of_below hb
 ⟨h.wk.kp k (by simp) (by simp),h.tb.kp k (by simp) (by simp),k.same h.bn (by simp),k.same h.bo (by simp),h.ol.step (k.more (by simp) (Nat.le_refl _)) (by decide),h.lN,h.lO,Nat.le_trans h.sz hb.size⟩
theorem SeaL.mark (h:SeaL B N O vt v work ks cn vo outs w) (ht:Tab w' B vt ks') (k:KpT [118,9] B w w'):SeaL B N O vt v work ks' cn vo outs w':=
 have hL:∀ T∈[118,9],T∈LS:=by decide
 ⟨h.wk.kp k hL (by decide),ht,k.same h.bn (by decide),k.same h.bo (by decide),h.ol.step (k.more hL (Nat.le_refl _)) (by decide),h.lN,h.lO,Nat.le_trans h.sz k.size⟩
theorem SeaL.wkS (h:SeaL B N O vt v work ks cn vo outs w) (hw:WorkL w' B v' work') (k:KpT [195] B w w'):SeaL B N O vt v' work' ks cn vo outs w':=
 have hL:∀ T∈[195],T∈LS:=by decide
 ⟨hw,h.tb.kp k (by decide) (by decide),k.same h.bn (by decide),k.same h.bo (by decide),h.ol.step (k.more hL (Nat.le_refl _)) (by decide),h.lN,h.lO,Nat.le_trans h.sz k.size⟩
theorem SeaL.cnt (h:SeaL B N O vt v work ks cn vo outs w) (cn':Nat):SeaL B N O vt v work ks cn' vo outs (w.setCell ⟨O,0,none⟩ (.int .i64 (cn':Int))):=by
 have k:KpT [173] B w (w.setCell ⟨O,0,none⟩ (.int .i64 (cn':Int))):=.set h.bo (by simp) (by have:=h.lN;have:=h.lO;omega) _
 have hL:∀ T∈[173],T∈LS:=by decide
 exact ⟨h.wk.kp k hL (by decide),h.tb.kp k (by decide) (by decide),(heap_setCell_other w ⟨O,0,none⟩ N _ (show N≠O by have:=h.lO;omega)).trans h.bn,heap_setCell_same w O 0 _ _ _ h.bo,h.ol.step (k.more hL (Nat.le_refl _)) (by decide),h.lN,h.lO,by simpa using h.sz⟩
theorem SeaL.out (h:SeaL B N O vt v work ks cn vo outs w) (ho:OutL LS B w B vo'.v outs'):SeaL B N O vt v work ks cn vo' outs' (w.setCell ⟨O,1,none⟩ (.slice vo'.a vo'.n vo'.cap)):=by
 have k:KpT [173] B w (w.setCell ⟨O,1,none⟩ (.slice vo'.a vo'.n vo'.cap)):=.set h.bo (by simp) (by have:=h.lN;have:=h.lO;omega) _
 have hL:∀ T∈[173],T∈LS:=by decide
 exact ⟨h.wk.kp k hL (by decide),h.tb.kp k (by decide) (by decide),(heap_setCell_other w ⟨O,1,none⟩ N _ (show N≠O by have:=h.lO;omega)).trans h.bn,heap_setCell_same w O 1 _ _ _ h.bo,ho.step (k.more hL (Nat.le_refl _)) (by decide),h.lN,h.lO,by simpa using h.sz⟩
end
theorem WorkL.pop {w:World} {B g n cap:Nat} {work:List St} {s:St} (h:WorkL w B (.slice (some ⟨g,0,none⟩) n cap) (work++[s])):n=work.length+1∧g < w.heap.size∧B≤g∧n≤cap∧WorkL w B (.slice (some ⟨g,0,none⟩) work.length cap) work∧∃ x:SV,LocT LS B w (fun W=>RepSt W x s) ∧
 (w.cell? ⟨g,work.length * 4,none⟩=some (.slice x.p.a x.p.n x.p.cap)∧w.cell? ⟨g,work.length * 4+1,none⟩=some (.slice x.r.a x.r.n x.r.cap)∧w.cell? ⟨g,work.length * 4+2,none⟩=some (.slice x.m.a x.m.n x.m.cap)∧w.cell? ⟨g,work.length * 4+3,none⟩=some (.slice x.b.a x.b.n x.b.cap)):=by
 obtain ⟨xs,h1,h2,h3⟩:=h
 have hn:=h2.len
 simp only [List.length_append,List.length_singleton] at h1
 obtain ⟨x,hx⟩:=get_of_lt (xs:=xs) (k:=work.length) (by omega)
 have hl:=World.ownsRow.lt h2 g rfl
 have hcap:n≤cap:=by
  rcases h2.shape with ⟨e,_⟩ | ⟨g',cap',e,_,_,h5,_⟩
  ·simp at e
  ·simp only [Value.slice.injEq] at e;omega
 refine ⟨by omega,hl.2,hl.1,hcap,⟨xs.take work.length,by rw [List.length_take];omega,h2.cut (by omega),fun i x s hx hs=>h3 i x s ?_ ?_⟩,x,h3 _ x s hx (by simp),h2.cell hx (j:=0) rfl,h2.cell hx (j:=1) rfl,h2.cell hx (j:=2) rfl,h2.cell hx (j:=3) rfl⟩
 ·rw [List.getElem?_take] at hx
  split at hx
  ·exact hx
  ·cases hx
 ·rw [List.getElem?_append_left (List.getElem?_eq_some_iff.1 hs).1];exact hs
theorem WorkL.push {w w':World} {B:Nat} {v v':Value} {work:List St} {s:St} {x:SV} {xs:List SV} (h1:xs.length=work.length) (h2:Own StE 195 w B v xs) (h3:∀ (i:Nat) (x:SV) (s:St),xs[i]? = some x→work[i]? = some s→LocT LS B w (fun W=>RepSt W x s))
 (hx:LocT LS B w (fun W=>RepSt W x s)) (ho:Own StE 195 w' B v' (xs++[x])) (hg:w.grownBy w' v.ownBlock):WorkL w' B v' (work++[s]):=by
 have k:KpT LS B w w':=.grown h2 (by decide) (Nat.le_refl _) hg
 refine ⟨xs++[x],by simp [h1],ho,fun i y u hy hu => ?_⟩
 rcases Nat.lt_or_ge i xs.length with hi | hi
 ·rw [List.getElem?_append_left hi] at hy
  rw [List.getElem?_append_left (by omega)] at hu
  exact (h3 i y u hy hu).step k
 ·rw [List.getElem?_append_right hi] at hy
  rw [List.getElem?_append_right (by omega),← h1] at hu
  generalize i - xs.length=j at *
  cases j with
  | zero =>
   simp at hy hu
   subst hy;subst hu
   exact hx.step k
  | succ j=>simp at hy
theorem Tryz.infoStM:(Tryz.prog.info? 195).map (fun i=>(i.zero,i.size,i.bytes))=some (some (.agg #[.slice none 0 0, .slice none 0 0, .slice none 0 0, .slice none 0 0]),4,96):=by kernel_rfl
theorem Tryz.infoStrSM:(Tryz.prog.info? 118).map (fun i=>(i.zero,i.size,i.bytes))=some (some (.slice none 0 0),1,24):=by kernel_rfl
theorem putO_le {o:List Int} (l:List (List Int)):(putO o l).length≤l.length+1:=by
 induction l with
 | nil=>simp [putO]
 | cons x l ih =>
  unfold putO
  split
  ·simp;exact ih
  ·split <;> simp
end Go.Proofs.YtlddmagfbcomgaaGreat
namespace Go.Proofs.YtlddmagfbcomgaaGreat
open Go.RowKit
structure JSq (V:World) (B:Nat) (o:List Int) (L:List (List Int)) (c1 c2:Bool) (u pv:Slc) (W:World):Prop where
 out:Below V.heap.size V W
 o1:c1=true→Own IntE 3 W B u.v o
 o2:c2=true→OutL LS B W B pv.v L
 i2:c2=true→c1=true
theorem JSq.call1 {V W W':World} {B:Nat} {o:List Int} {L:List (List Int)} {c2:Bool} {u u' pv:Slc} (h:JSq V B o L false c2 u pv W) (ho:Own IntE 3 W' W.heap.size u'.v o) (hb:Below W.heap.size W W') (hB:B≤W.heap.size):JSq V B o L true c2 u' pv W':=by
 cases hc:c2 with
 | true=>exact (nomatch h.i2 hc)
 | false=>exact ⟨h.out.trans (hb.mono h.out.size),fun _=>ho.mono hB,fun e=>(nomatch e),fun e=>(nomatch e)⟩
theorem JSq.call2 {V W W':World} {B:Nat} {o:List Int} {L:List (List Int)} {u pv pv':Slc} (h:JSq V B o L true false u pv W) (ho:OutL LS B W' B pv'.v L) (hb:Below W.heap.size W W'):JSq V B o L true true u pv' W':=
 ⟨h.out.trans (hb.mono h.out.size),fun _=>(h.o1 rfl).below hb,fun _=>ho,fun _=>rfl⟩
theorem OutL.own {Ls:List TypeId} {B:Nat} {w:World} {base:Nat} {v:Value} {L:List (List Int)} (h:OutL Ls B w base v L):∃ u:Slc,v=u.v∧True:=by
 obtain ⟨-,us,h1,h2,h3⟩:=h
 obtain ⟨u,hu, -⟩:=h2.toSlc
 exact ⟨u,hu,trivial⟩
def RetSea (w:World) (n:Nat) (outs:List (List Int)) (e:Ending) (w':World):Prop:=∃ (cn:Nat) (vo:Slc),cn≤n∧e = .returned (.agg #[.int .i64 (cn:Int), .slice vo.a vo.n vo.cap])∧OutL LS w.heap.size w' w.heap.size vo.v outs∧Below w.heap.size w w'
def SeqPost (p:List (List Ins)) (w:World) (e:Ending) (w':World):Prop:=∃ (seen taken:List Sq) (outs:List (List Int)),SAll (sqDone p) sqOut (p.length * 3+3) (sqStart p) (sqNext p) [] seen taken outs∧RetSea w 68719476000 outs e w'
theorem sqDo_bytes {p:List (List Ins)} {s:Sq} (h:SqOk p s) (hrow:∀ r∈p,r.length≤7):byteR s.pc∧byteR s.rg∧byteR s.mm:=by
 refine ⟨fun x hx => ?_,fun x hx=>by have:=h.rg x hx;omega,fun x hx=>by have:=h.mm x hx;omega⟩
 obtain ⟨t,ht,rfl⟩:=List.mem_iff_getElem.1 hx
 obtain ⟨r,hr⟩:=get_of_lt (xs:=p) (k:=t) (by rw [← h.lp];exact ht)
 have h1:=h.pc t s.pc[t] r (List.getElem?_eq_getElem ht) hr
 have h2:=hrow r (List.mem_of_getElem? hr)
 omega
structure SeqR (p:List (List Ins)) (w:World) (O:Nat) (vt:Value) (gk:Nat) (v:Value) (work seen taken:List Sq) (outs:List (List Int)) (vo:Slc) (g cap:Nat) (wr:World):Prop where
 hv:v = .slice (some ⟨g,0,none⟩) work.length cap
 ph:phi 3 (sqLeft p) work=gk
 sr:Srch (sqDone p) sqOut (p.length * 3+3) 3 (sqLeft p) 68719476000 (sqStart p) (sqNext p) work seen taken outs
 se:SeaL w.heap.size w.heap.size O vt v (work.map stQ) (seen.map kyS) taken.length vo outs wr
 lo:outs.length≤taken.length
 bl:Below w.heap.size w wr
def SeqRel (p:List (List Ins)) (w:World) (O:Nat) (vt:Value) (gk:Nat) (v:Value) (wr:World):Prop:=∃ work seen taken outs vo g cap,SeqR p w O vt gk v work seen taken outs vo g cap wr
def SeqIRel (p:List (List Ins)) (w:World) (O S:Nat) (vt:Value) (x:SV) (s:Sq) (M:Nat) (taken:List Sq) (outs:List (List Int)) (vo:Slc) (k:Nat) (v:Value) (wr:World):Prop:=∃ (work seen:List Sq) (g cap:Nat),
 v = .slice (some ⟨g,0,none⟩) work.length cap∧SrchM (sqDone p) sqOut (p.length * 3+3) 3 (sqLeft p) 68719476000 (sqStart p) (sqNext p) M s k work seen (s :: taken) outs ∧
 SeaL w.heap.size w.heap.size O vt v (work.map stQ) (seen.map kyS) (taken.length+1) vo outs wr∧wr.heap[S]? = some (.cells #[.slice x.p.a x.p.n x.p.cap, .slice x.r.a x.r.n x.r.cap, .slice x.m.a x.m.n x.m.cap, .slice x.b.a x.b.n x.b.cap] 195 (0,0)) ∧
 g≠S∧LocT LS w.heap.size wr (fun W=>RepSt W x (stQ s))∧Below w.heap.size w wr∧outs.length≤taken.length+1
theorem Own.litSt (w:World) {base:Nat} (hb:base≤w.heap.size) (x:SV):Own StE 195 (w.alloc (.cells #[.slice x.p.a x.p.n x.p.cap, .slice x.r.a x.r.n x.r.cap, .slice x.m.a x.m.n x.m.cap, .slice x.b.a x.b.n x.b.cap] 195)) base (.slice (some ⟨w.heap.size,0,none⟩) 1 1) [x]:=by
 refine ⟨rfl, .inr ⟨w.heap.size,1,#[.slice x.p.a x.p.n x.p.cap, .slice x.r.a x.r.n x.r.cap, .slice x.m.a x.m.n x.m.cap, .slice x.b.a x.b.n x.b.cap],rfl,hb,heap_alloc_new w _,Nat.le_refl _,by unfold maxLen;omega,rfl,rfl⟩⟩
theorem hgk_lt {a b c d:Nat} (h:a < b) (h1:b=c) (h2:c=d):a < d:=by omega
theorem tot3:dW 3 21≤68719476000:=by decide
theorem l3Seq_any (vp:Value) (p:List (List Ins)) (w:World) (hp:RepP w vp p) (hv:progValid p=true) :
 Calls Tryz.prog 173 #[vp] w (SeqPost p w):=by
 obtain ⟨va,vc,rfl,hc1,hc2,hc3,hp⟩:=hp.open
 have HP:=hide hp;have HV:=hide hv
 have hpl:p.length≤3:=(valid_le hv).1
 have hpr:∀ r∈p,r.length≤7:=fun r hr=>((valid_le hv).2.2.1 r hr).1
 have HPR:=hide hpr
 have HIV:=hide (valid_ins hv)
 clear hp hv hpr
 generalize hn:p.length=n at *
 have HN:=hide hn
 clear hn
 obtain ⟨A0,hA0⟩:∃ A0,A0=w.alloc (.cells #[.int .i64 0, .slice none 0 0] 173):=⟨_,rfl⟩
 have HB:Hid (Below w.heap.size w A0):=hide (by rw [hA0];exact belowAlloc _ _)
 have hz:A0.heap.size=w.heap.size+1:=by rw [hA0];simp
 have HN2:Hid (A0.heap[w.heap.size]? = some (.cells #[.int .i64 0, .slice none 0 0] 173 (0,0))):=hide (by rw [hA0];exact heap_alloc_new w _)
 have HA0:=hide hA0
 clear hA0
 have hs0:(⟨List.replicate n 0,List.replicate (n * 3) 0,List.replicate 3 0,List.replicate 0 []⟩:St)=stQ (sqStart p):=by rw [← HN.out];rfl
 have HSTART:Hid (∀ w',Calls Tryz.prog 192 #[.slice va n vc, .int .i64 0] w' (RetSt w' (stQ (sqStart p)))):=hide (fun w'=>hs0 ▸ (l3Start_any va vc n 0 w' (by omega) (by omega)))
 have HST:=hide (Srch.init (start:=sqStart p) (next:=sqNext p) (done:=sqDone p) (out:=sqOut) (n:=p.length * 3+3) (b:=3) (rank:=sqLeft p) (tot:=68719476000) (Nat.le_trans (dW_mono (by decide) (sqLeft_le HV.out _)) tot3))
 have HKEY:=hide (fun (x:SV) (s:Sq) (w':World) (hok:SqOk p s) (hr:RepSt w' x (stQ s))=>(by
  obtain ⟨k1,k2,k3⟩:=sqDo_bytes hok HPR.out
  have h1:=hok.lp
  have h2:=hok.lr
  have h3:=hok.lm
  have h4:=HN.out
  have:=l3Key_any x (stQ s) w' hr (by show s.pc.length≤1000;omega) (by show s.rg.length≤1000;omega) (by show s.mm.length≤1000;omega) (by simp) (by simp) k1 k2 k3 (by simp)
  rwa [stKey_q] at this:Calls Tryz.prog 194 #[.agg #[.slice x.p.a x.p.n x.p.cap, .slice x.r.a x.r.n x.r.cap, .slice x.m.a x.m.n x.m.cap, .slice x.b.a x.b.n x.b.cap]] w' fun e w''=>e = .returned (.string (kyS s))∧Below w'.heap.size w' w''))
 have HKSZ:=hide (fun (s:Sq) (hok:SqOk p s)=>(by
  have h1:=hok.lp
  have h2:=hok.lr
  have h3:=hok.lm
  have h4:=HN.out
  rw [strOfNums_size]
  unfold sqKey
  simp only [List.length_append]
  omega:(kyS s).size≤1000000))
 have HMARK:=hide (fun (vt:Value) (ks:List ByteArray) (s:Sq) (base:Nat) (w':World) (hok:SqOk p s) (hr:Tab w' base vt ks) (hk:ks.length≤68719476736) (hB:base≤w'.heap.size)=>l3Mark_any vt ks (kyS s) base w' hr (HKSZ.out s hok) hk hB)
 have HOK0:=hide (SqOk.start p)
 have HINJ:=hide (fun (a b:Sq) (ha:ReachM (sqStart p) (sqNext p) a) (hb:ReachM (sqStart p) (sqNext p) b) (e:kyS a=kyS b)=>(by
  have ka:=sqDo_bytes (SqOk.reach HIV.out ha) HPR.out
  have kb:=sqDo_bytes (SqOk.reach HIV.out hb) HPR.out
  refine sqKey_reach HIV.out a b ha hb (keyB_inj (fun x hx => ?_) (fun x hx => ?_) e)
  ·rcases List.mem_append.1 hx with h | h
   ·rcases List.mem_append.1 h with h | h
    ·exact ka.1 x h
    ·exact ka.2.1 x h
   ·exact ka.2.2 x h
  ·rcases List.mem_append.1 hx with h | h
   ·rcases List.mem_append.1 h with h | h
    ·exact kb.1 x h
    ·exact kb.2.1 x h
   ·exact kb.2.2 x h:a=b))
 clear hs0
 go_enter Tryz.func173,Tryz.ntmps173
 go_wp2_with (first
  | (at_make;refine wpList_make SlcE 118 ⟨none,0,0⟩ Tryz.infoStrSM rfl Tryz.underlying193 4096 (by decide) (by omega) rfl _ _ rfl rfl rfl ?_;intro w1 hown1 hgr1;rw [← HA0.out] at hown1 hgr1;rw [hz] at hown1;have T1:=hide (Own2.made (E:=StrE) (T2:=9) hown1);have B1:=hide ((Below.refl A0.heap.size A0).grown hgr1 (Nat.le_refl _) (fun q hq=>nomatch hq));have hsz1:=B1.out.size;clear hown1 hgr1)
  | (go_at_call 192;(with_reducible refine (HSTART.out _).mono ?_);rintro e w2 ⟨x,m,rfl,hs2,hb2⟩;have S2:=hide hs2;have B2:=hide hb2;have hsz2:=hb2.size;have T2:=hide (((T1.out.mono (show w.heap.size≤w.heap.size+1 by omega)).below hb2).below (belowAlloc w2 (.cells #[.slice x.p.a x.p.n x.p.cap, .slice x.r.a x.r.n x.r.cap, .slice x.m.a x.m.n x.m.cap, .slice x.b.a x.b.n x.b.cap] 195)));clear hs2 hb2)
  | (go_at_call 194;(with_reducible refine (HKEY.out x (sqStart p) _ HOK0.out (S2.out.rep.below (belowAlloc _ _))).mono ?_);rintro e w3 ⟨rfl,hb3⟩;have B3:=hide hb3;have hsz3:=hb3.size;have T3:Hid (Tab w3 w.heap.size (.slice (some ⟨w.heap.size+1,0,none⟩) 4096 4096) []):=hide (by show Own2 _ _ _ _ _ _ (rowsT []);rw [rowsT_nil];exact T2.out.below hb3);clear hb3)
  | (go_at_call 193;(with_reducible refine (HMARK.out _ [] (sqStart p) w.heap.size w3 HOK0.out T3.out (by simp) (by simp at hsz3;omega)).mono ?_);rintro e w4 ⟨rfl,ht4,hk4⟩;have T4:=hide ht4;have K4:=hide hk4;have hsz4:=hk4.size;clear ht4 hk4))
 obtain ⟨V0,hV0⟩:∃ V0,V0=(w4.alloc (.cells #[] 40)).alloc (.cells #[.int .i64 0, .slice (some ⟨w4.heap.size,0,none⟩) 0 0] 173):=⟨_,rfl⟩
 simp only [World.size_alloc] at hsz3
 have BV4:Below w4.heap.size w4 V0:=by rw [hV0];exact (belowAlloc w4 _).alloc (by simp) _
 have BW2:Below w.heap.size w w2:=(HB.out.trans (B1.out.mono HB.out.size)).trans (B2.out.mono (Nat.le_trans HB.out.size hsz1))
 have BW3:Below w.heap.size w w3:=(BW2.alloc BW2.size _).trans (B3.out.mono (by simp;have:=BW2.size;omega))
 have BW4:Below w.heap.size w w4:=BW3.trans (K4.out.below BW3.size)
 have BL0:Below w.heap.size w V0:=BW4.trans (BV4.mono BW4.size)
 have WK:WorkL V0 w.heap.size (.slice (some ⟨w2.heap.size,0,none⟩) 1 1) [stQ (sqStart p)]:=by
  refine ⟨[x],rfl,(((LocT.own (Own.litSt w2 BW2.size x) (L:=[118,9]) (B:=w.heap.size) (by decide)).step (.of_below B3.out)).keep w4 K4.out).below BV4,fun i y s hy hs => ?_⟩
  cases i with
  | zero =>
   simp at hy hs
   subst hy;subst hs
   exact ((((S2.out.loc (L:=LS) (B:=w.heap.size) (by decide) (by decide)).step (.of_below (belowAlloc _ _))).step (.of_below B3.out)).step (K4.out.more (by decide) (Nat.le_refl _))).step (.of_below BV4)
  | succ i=>simp at hy
 have SE0:SeaL w.heap.size w.heap.size (w4.heap.size+1) (.slice (some ⟨w.heap.size+1,0,none⟩) 4096 4096) (.slice (some ⟨w2.heap.size,0,none⟩) 1 1) [stQ (sqStart p)] [kyS (sqStart p)] 0 ⟨some ⟨w4.heap.size,0,none⟩,0,0⟩ [] V0:=by
  refine ⟨WK,T4.out.below BV4, ?_,by rw [hV0];have h:=heap_alloc_new (w4.alloc (.cells #[] 40)) (.cells #[.int .i64 0, .slice (some ⟨w4.heap.size,0,none⟩) 0 0] 173);simpa using h, ?_,Nat.le_refl _,by have:=BW4.size;omega,BL0.size⟩
  ·have h1:=(B1.out.block w.heap.size (by omega)).trans HN2.out
   have h2:=(B2.out.block w.heap.size (by omega)).trans h1
   have h3:=((belowAlloc w2 (.cells #[.slice x.p.a x.p.n x.p.cap, .slice x.r.a x.r.n x.r.cap, .slice x.m.a x.m.n x.m.cap, .slice x.b.a x.b.n x.b.cap] 195)).block w.heap.size (by omega)).trans h2
   have h4:=(B3.out.block w.heap.size (by simp;omega)).trans h3
   have h5:=K4.out.same h4 (by decide)
   exact (BV4.block w.heap.size (Array.getElem?_eq_some_iff.1 h5).1).trans h5
  ·rw [hV0]
   exact (OutL.empty (Ls:=LS) (B:=w.heap.size) BW4.size).step (.alloc _ _) (by decide)
 have HR0:SeqRel p w (w4.heap.size+1) (.slice (some ⟨w.heap.size+1,0,none⟩) 4096 4096) (phi 3 (sqLeft p) [sqStart p]) (.slice (some ⟨w2.heap.size,0,none⟩) 1 1) V0:=
  ⟨[sqStart p],[sqStart p],[],[],⟨some ⟨w4.heap.size,0,none⟩,0,0⟩,w2.heap.size,1,rfl,rfl,HST.out,SE0,by simp,BL0⟩
 have HRR:=hide HR0
 have HV0:=hide hV0
 obtain ⟨O,hO⟩:∃ O,O=w4.heap.size+1:=⟨_,rfl⟩
 obtain ⟨vt,hvt⟩:∃ vt:Value,vt = .slice (some ⟨w.heap.size+1,0,none⟩) 4096 4096:=⟨_,rfl⟩
 simp only [← hV0]
 clear WK SE0 HR0 BL0 BW4 BW3 BW2 BV4 hV0 T4 K4 T1 B1 B2 S2 T2 B3 T3 HST hsz1 hsz2 hsz3 hsz4
 rw [← hO] at HRR ⊢
 rw [← hvt] at HRR ⊢
 clear hO hvt HV0
 go_loopg [4] (phi 3 (sqLeft p) [sqStart p]) (fun gk v wr=>SeqRel p w O vt gk v wr)
 case atStart=>exact HRR.out
 case round =>
  obtain ⟨work,seen,taken,outs,vo,g,cap,rfl,hph,hsr,hse,hlo,hbl⟩:=hrel
  have HPH:=hide hph;have HSR:=hide hsr;have HSE:=hide hse;have HLO:=hide hlo;have HBL:=hide hbl
  have hct:taken.length≤68719476000:=Nat.le_trans (Nat.le_add_right _ _) hsr.le
  rcases List.eq_nil_or_concat work with rfl | ⟨init,s,rfl⟩
  ·have c0:wr.cell? ⟨O,0,none⟩=some (.int .i64 (taken.length:Int)):=cellH hse.bo (k:=0) rfl
   have c1:wr.cell? ⟨O,1,none⟩=some (.slice vo.a vo.n vo.cap):=cellH hse.bo (k:=1) rfl
   have r0:wr.cell? ⟨w.heap.size,0,none⟩=some (.int .i64 0):=cellH hse.bn (k:=0) rfl
   have r1:wr.cell? ⟨w.heap.size,1,none⟩=some (.slice none 0 0):=cellH hse.bn (k:=1) rfl
   have rfz:=frozH hse.bn
   have rl:=lt_of_cell r0
   have cl:=lt_of_cell c0
   have t0:TyB 173 wr w.heap.size:=⟨_,hse.bn⟩
   have T0:=hide t0
   clear hph hsr hse hlo hbl t0
   generalize taken.length=cn at *
   go_wp2_with fail
   have k1:KpT LS w.heap.size wr ((wr.setCell ⟨w.heap.size,0,none⟩ (.int .i64 (cn:Int))).setCell ⟨w.heap.size,1,none⟩ (.slice vo.a vo.n vo.cap)):=(KpT.setT T0.out (by decide) (Nat.le_refl _) _).trans (KpT.setT (T0.out.set _ _ _) (by decide) (Nat.le_refl _) _)
   refine bodyPost_ret (v:=.agg #[.int .i64 (cn:Int), .slice vo.a vo.n vo.cap]) (by simp [results,Tryz.results173,go_sem, *]) rfl ⟨seen,taken,outs,HSR.out.all,cn,vo,hct,rfl, ?_, ?_⟩
   ·exact HSE.out.ol.step k1 (by decide)
   ·exact (HBL.out.setCell (p:=⟨w.heap.size,0,none⟩) (Nat.le_refl _) _).setCell (p:=⟨w.heap.size,1,none⟩) (Nat.le_refl _) _
  ·rw [List.concat_eq_append] at *
   have hwk:=hse.wk
   rw [List.map_append,List.map_singleton] at hwk
   obtain ⟨hn1,hgl,hgB,hcap,hwk',x,hlx,p0,p1,p2,p3⟩:=hwk.pop
   rw [List.length_map] at hwk' p0 p1 p2 p3 hn1
   have hreach:=hsr.rc (s:=s) (by simp)
   have HOK:=hide (SqOk.reach HIV.out hreach)
   have HWK:=hide hwk';have HLX:=hide hlx
   have hlen:(init++[s]).length=init.length+1:=by simp
   rw [hlen] at hcap ⊢
   have c0:wr.cell? ⟨O,0,none⟩=some (.int .i64 (taken.length:Int)):=cellH hse.bo (k:=0) rfl
   have c1:wr.cell? ⟨O,1,none⟩=some (.slice vo.a vo.n vo.cap):=cellH hse.bo (k:=1) rfl
   have cfz:=frozH hse.bo
   have cl:=lt_of_cell c0
   have hm1:init.length≤68719476000:=by have h1:=hsr.len;have h2:=hsr.num;simp at h2;omega
   clear hph hsr hse hlo hbl hwk hwk' hlx hlen hn1
   generalize hm:init.length=m at *
   have HM:=hide hm
   generalize htn:taken.length=cn at *
   have HTN:=hide htn
   clear hm htn
   -- TAIL
   go_wp2_with fail
   obtain ⟨S,hS⟩:∃ S,S=wr.heap.size:=⟨_,rfl⟩
   have ec:((cn+1:Nat):Int)=(cn:Int)+1:=by omega
   have SE0:=((HSE.out.wkS HWK.out (.refl _ _ _)).cnt (cn+1)).below (belowAlloc _ (.cells #[.slice x.p.a x.p.n x.p.cap, .slice x.r.a x.r.n x.r.cap, .slice x.m.a x.m.n x.m.cap, .slice x.b.a x.b.n x.b.cap] 195))
   have LX0:=(HLX.out.step (KpT.set (j:=0) HSE.out.bo (by decide) (by have:=HSE.out.lN;have:=HSE.out.lO;omega) (.int .i64 ((cn+1:Nat):Int)))).step (.alloc _ (.cells #[.slice x.p.a x.p.n x.p.cap, .slice x.r.a x.r.n x.r.cap, .slice x.m.a x.m.n x.m.cap, .slice x.b.a x.b.n x.b.cap] 195))
   have BL0:=(HBL.out.setCell (p:=⟨O,0,none⟩) (by have:=HSE.out.lN;have:=HSE.out.lO;show _≤O;omega) (.int .i64 ((cn+1:Nat):Int))).alloc (by simpa using HBL.out.size) (.cells #[.slice x.p.a x.p.n x.p.cap, .slice x.r.a x.r.n x.r.cap, .slice x.m.a x.m.n x.m.cap, .slice x.b.a x.b.n x.b.cap] 195)
   rw [ec] at SE0 LX0 BL0
   obtain ⟨V1,hV1⟩:∃ V1,V1=(wr.setCell ⟨O,0,none⟩ (.int .i64 ((cn:Int)+1))).alloc (.cells #[.slice x.p.a x.p.n x.p.cap, .slice x.r.a x.r.n x.r.cap, .slice x.m.a x.m.n x.m.cap, .slice x.b.a x.b.n x.b.cap] 195):=⟨_,rfl⟩
   have SX0:V1.heap[S]? = some (.cells #[.slice x.p.a x.p.n x.p.cap, .slice x.r.a x.r.n x.r.cap, .slice x.m.a x.m.n x.m.cap, .slice x.b.a x.b.n x.b.cap] 195 (0,0)):=by rw [hV1,hS];have h:=heap_alloc_new (wr.setCell ⟨O,0,none⟩ (.int .i64 ((cn:Int)+1))) (.cells #[.slice x.p.a x.p.n x.p.cap, .slice x.r.a x.r.n x.r.cap, .slice x.m.a x.m.n x.m.cap, .slice x.b.a x.b.n x.b.cap] 195);simpa using h
   rw [← hV1] at SE0 LX0 BL0
   have HSE0:=hide SE0;have HLX0:=hide LX0;have HBL0:=hide BL0;have HSX0:=hide SX0
   have hgS0:g < S:=by rw [hS];exact hgl
   have hgS:g≠S:=by omega
   have hOS:O < S:=by rw [hS];exact cl
   have HDONE:Hid (Calls Tryz.prog 195 #[.slice va n vc, .agg #[.slice x.p.a x.p.n x.p.cap, .slice x.r.a x.r.n x.r.cap, .slice x.m.a x.m.n x.m.cap, .slice x.b.a x.b.n x.b.cap]] V1 fun e w'=>e = .returned (.bool (sqDone p s))∧Below V1.heap.size V1 w'):=hide (by
    have:=l3Done_any _ p x (stQ s) V1 (HP.out.below (HBL0.out)) HLX0.out.now HOK.out.lp (by have:=HN.out;omega)
    exact this)
   have HOUT:Hid (∀ W,RepSt W x (stQ s)→Calls Tryz.prog 197 #[.agg #[.slice x.p.a x.p.n x.p.cap, .slice x.r.a x.r.n x.r.cap, .slice x.m.a x.m.n x.m.cap, .slice x.b.a x.b.n x.b.cap]] W (RetOwn IntE 3 W (sqOut s))):=hide (fun W h=>l3Outcome_any x (stQ s) W h (by show s.rg.length≤_;have:=HOK.out.lr;have:=HN.out;omega) (by show s.mm.length≤_;have:=HOK.out.lm;omega))
   have HPUT:=hide (fun W u (hL:OutL LS w.heap.size W w.heap.size vo.v outs) ho hb=>l3Put_any LS w.heap.size w.heap.size (.slice vo.a vo.n vo.cap) u outs (sqOut s) W hL ho (by decide) hb (by have h1:=HLO.out;have h2:=HTN.out;omega))
   have HSX1:=hide hS
   have HOL:=hide (sqOut_length HOK.out)
   simp only [← hV1]
   rw [← hS]
   clear c0 c1 cfz cl p0 p1 p2 p3 SE0 LX0 BL0 SX0 hV1 hS ec hgl hcap HWK HSE HBL HLX
   have k0:V1.cell? ⟨S,0,none⟩=some (.slice x.p.a x.p.n x.p.cap):=cellH HSX0.out (k:=0) rfl
   cases hd:sqDone p s
   ·have SM0:=hide (HSR.out.no hd)
    have HD:=hide hd
    rw [hd] at HDONE
    clear hd
    (with_reducible refine HDONE.out.mono ?_);rintro e w1 ⟨rfl,hb1⟩
    have SE2:=hide (HSE0.out.below hb1);have LX2:=hide (HLX0.out.step (.of_below hb1));have BL2:=hide (HBL0.out.trans (hb1.mono HBL0.out.size));have SX2:Hid (w1.heap[S]? = some (.cells #[.slice x.p.a x.p.n x.p.cap, .slice x.r.a x.r.n x.r.cap, .slice x.m.a x.m.n x.m.cap, .slice x.b.a x.b.n x.b.cap] 195 (0,0))):=hide ((hb1.block S (Array.getElem?_eq_some_iff.1 HSX0.out).1).trans HSX0.out)
    clear hb1 k0
    go_wp2_with fail
    have LO2:Hid (outs.length≤taken.length+1):=hide (by have:=HLO.out;have:=HTN.out;omega)
    obtain ⟨M,hM⟩:∃ M,M=phi 3 (sqLeft p) (init++[s]):=⟨_,rfl⟩
    rw [← hM] at SM0
    have HMM:=hide hM
    clear hM
    go_loopw [4,7] (fun v i wr => ∃ k:Nat,k≤n∧i = .int .i64 k∧SeqIRel p w O S vt x s M taken (outs) vo k v wr) (fun _ i _=>n - (intOf i).toNat)
    case atStart=>exact ⟨0,Nat.zero_le _,rfl,init,seen,g,cap,by rw [HM.out],SM0.out,by have h:=SE2.out;rw [← HTN.out] at h;exact h,SX2.out,hgS,LX2.out,BL2.out,LO2.out⟩
    case round =>
     obtain ⟨k,hk,rfl,work2,seen2,g2,cap2,rfl,hsm,hse,hsx,hgS2,hlx,hbl,hlo2⟩:=hrel
     have SM3:=hide hsm;have SE3:=hide hse;have SX3:=hide hsx;have LX3:=hide hlx;have BL3:=hide hbl;have HLO2:=hide hlo2
     clear hsm hse hlx hbl hlo2
     by_cases hlt:k < n
     ·have hlt':=nat_of_lt hlt
      have d0:wr.cell? ⟨S,0,none⟩=some (.slice x.p.a x.p.n x.p.cap):=cellH hsx (k:=0) rfl
      have dl:=lt_of_cell d0
      clear hsx
      obtain ⟨r,hrk⟩:=get_of_lt (xs:=p) (k:=k) (by rw [HN.out];exact hlt)
      obtain ⟨c,hck⟩:=get_of_lt (xs:=s.pc) (k:=k) (by rw [HOK.out.lp,HN.out];exact hlt)
      obtain ⟨hc0,hcr⟩:=HOK.out.pc k c r hck hrk
      obtain ⟨kn,rfl⟩:∃ kn:Nat,c=kn:=⟨c.toNat,by omega⟩
      have hrl:=HPR.out r (List.mem_of_getElem? hrk)
      obtain ⟨xpa,xpn,xpc,hxp⟩:∃ a n c,x.p=⟨a,n,c⟩:=⟨_,_,_,rfl⟩
      have hrep:Rep IntE wr (.slice xpa xpn xpc) s.pc:=by have h:=LX3.out.now.pc;rw [hxp] at h;exact h
      obtain ⟨b1,o1,rfl,hbl1,i0⟩:=hrep.int hck
      obtain ⟨_,_,hv1, -, -, -, -⟩:=hrep.open
      simp only [Value.slice.injEq] at hv1
      obtain ⟨-,hxn, -⟩:=hv1
      have hxn2:(k:Int) < (xpn:Int):=by have:=HOK.out.lp;have:=HN.out;omega
      obtain ⟨b2,o2,qa,qc,hb2e,hbl2,q0,q1⟩:=(HP.out.below BL3.out).row hrk
      rw [hxp] at d0
      simp only at d0
      have RK:=hide hrk;have CK:=hide hck
      have hbs:=BL3.out.size
      have D0:=hide d0
      clear hrk hck q1 hrep hxn hxp
      by_cases heq:kn=r.length
      ·have heq':((kn:Int)==(r.length:Int))=true:=by simp [heq]
       have SK:Hid (sqNext p s k=none):=hide (by unfold sqNext;simp [RK.out,CK.out,heq])
       clear heq hc0 hcr
       subst hb2e
       go_wp2_with fail
       refine wp_region_bw (by kernel_rfl) (by kernel_rfl) ?_
       repeat (go_big_quiet_step (fail))
       refine wpQuiet_nil ?_
       intro w5 hw5
       go_wp2_with fail
       go_roundw
       case rel=>exact ⟨k+1,by omega,by go_num,work2,seen2,g2,cap2,rfl,SM3.out.skip SK.out,SE3.out.below hw5,(hw5.block S dl).trans SX3.out,hgS2,LX3.out.step (.of_below hw5),BL3.out.trans (hw5.mono hbs),HLO2.out⟩
       case measure=>simp [intOf];omega
      ·have heq':((kn:Int)==(r.length:Int))=false:=by simp;omega
       obtain ⟨i,hi⟩:=get_of_lt (xs:=r) (k:=kn) (by omega)
       have hiv:=HIV.out r (List.mem_of_getElem? RK.out) i (List.mem_of_getElem? hi)
       have SK:Hid (sqNext p s k=some (sqDo s k kn i)):=hide (by unfold sqNext;simp [RK.out,CK.out,hi])
       have HOK2:=hide (HOK.out.next HIV.out SK.out)
       have HRK2:=hide (sqLeft_next HOK.out SK.out)
       have HDO:Hid (∀ W,Below w.heap.size w W→RepSt W x (stQ s)→Calls Tryz.prog 198 #[.slice va n vc, .agg #[.slice x.p.a x.p.n x.p.cap, .slice x.r.a x.r.n x.r.cap, .slice x.m.a x.m.n x.m.cap, .slice x.b.a x.b.n x.b.cap], .int .i64 (k:Int)] W (RetSt W (stQ (sqDo s k kn i)))):=hide (fun W hW hx=>l3Do_any _ p x (stQ s) k kn i r W (HP.out.below hW) hx CK.out RK.out hi hiv (by omega) (by show s.pc.length≤_;have:=HOK.out.lp;have:=HN.out;omega) (by show s.rg.length=s.pc.length * 3;rw [HOK.out.lr,HOK.out.lp]) HOK.out.lm (by simp) (by simp) (by omega))
       clear heq hc0 hcr hi hiv
       subst hb2e
       go_wp2_with fail
       refine wp_region_bw (by kernel_rfl) (by kernel_rfl) ?_
       repeat (go_big_quiet_step (fail))
       refine wpQuiet_nil ?_
       intro w5 hw5
       have hsx5:=(hw5.block S dl).trans SX3.out
       have e0:w5.cell? ⟨S,0,none⟩=some (.slice x.p.a x.p.n x.p.cap):=cellH hsx5 (k:=0) rfl
       have e1:w5.cell? ⟨S,1,none⟩=some (.slice x.r.a x.r.n x.r.cap):=cellH hsx5 (k:=1) rfl
       have e2:w5.cell? ⟨S,2,none⟩=some (.slice x.m.a x.m.n x.m.cap):=cellH hsx5 (k:=2) rfl
       have e3:w5.cell? ⟨S,3,none⟩=some (.slice x.b.a x.b.n x.b.cap):=cellH hsx5 (k:=3) rfl
       have el:=lt_of_cell e0
       have SE5:=hide (SE3.out.below hw5);have LX5:=hide (LX3.out.step (.of_below hw5));have BL5:=hide (BL3.out.trans (hw5.mono hbs));have SX5:=hide hsx5
       have hbs5:=BL5.out.size
       clear d0 dl i0 q0 hsx5 D0 SX3 LX3 SE3 hw5
       go_wp2_with (first
        | (go_at_call 198;(with_reducible refine (HDO.out _ BL5.out LX5.out.now).mono ?_);rintro e w6 ⟨y,my,rfl,hs6,hb6⟩;have S6:=hide hs6;have B6:=hide (hb6.alloc hb6.size (.cells #[.slice y.p.a y.p.n y.p.cap, .slice y.r.a y.r.n y.r.cap, .slice y.m.a y.m.n y.m.cap, .slice y.b.a y.b.n y.b.cap] 195));have hsz6:=hb6.size;clear hs6 hb6)
        | (go_at_call 194;(with_reducible refine (HKEY.out y (sqDo s k kn i) _ HOK2.out (S6.out.rep.below (belowAlloc _ _))).mono ?_);rintro e w7 ⟨rfl,hb7⟩;have B7:=hide (B6.out.trans (hb7.mono (by simp;omega)));have HX7:Hid (w7.heap[w6.heap.size]? = some (.cells #[.slice y.p.a y.p.n y.p.cap, .slice y.r.a y.r.n y.r.cap, .slice y.m.a y.m.n y.m.cap, .slice y.b.a y.b.n y.b.cap] 195 (0,0))):=hide ((hb7.block w6.heap.size (by simp)).trans (heap_alloc_new w6 _));have hsz7:=B7.out.size;have LY7:=hide (((S6.out.loc (L:=LS) (B:=w.heap.size) (by decide) (by decide)).step (.alloc _ _)).step (.of_below hb7));clear hb7))
       (with_reducible refine (l3Found_any vt (seen2.map kyS) (kyS (sqDo s k kn i)) w7 (SE5.out.below B7.out).tb.rep (HKSZ.out _ HOK2.out)).mono ?_);rintro e w8 ⟨D,rfl,hD,rfl⟩
       cases D
       ·have HNO:=hide hD
        clear hD
        go_wp2_with (first
         | (go_at_call 193;(with_reducible refine (HMARK.out vt (seen2.map kyS) (sqDo s k kn i) w.heap.size w7 HOK2.out (SE5.out.below B7.out).tb (by rw [List.length_map];have:=SM3.out.len;omega) (by omega)).mono ?_);rintro e w9 ⟨rfl,ht9,hk9⟩;have SE9:=hide ((SE5.out.below B7.out).mark ht9 hk9);have K9:=hide hk9;have hx9:=hk9.same HX7.out (by decide);have f0:w9.cell? ⟨w6.heap.size,0,none⟩=some (.slice y.p.a y.p.n y.p.cap):=cellH hx9 (k:=0) rfl;have f1:w9.cell? ⟨w6.heap.size,1,none⟩=some (.slice y.r.a y.r.n y.r.cap):=cellH hx9 (k:=1) rfl;have f2:w9.cell? ⟨w6.heap.size,2,none⟩=some (.slice y.m.a y.m.n y.m.cap):=cellH hx9 (k:=2) rfl;have f3:w9.cell? ⟨w6.heap.size,3,none⟩=some (.slice y.b.a y.b.n y.b.cap):=cellH hx9 (k:=3) rfl;have fl9:=lt_of_cell f0;obtain ⟨xs9,hxl9,hown9,hst9⟩:=SE9.out.wk;have O9:=hide hown9;have XL9:=hide hxl9;have ST9:=hide hst9;have hxb9:xs9.length≤68719476736:=(by rw [hxl9,List.length_map];have h1:=SM3.out.num;have h2:=SM3.out.len;omega);have hsz9:=hk9.size;clear hown9 hxl9 hst9 ht9 hk9 hx9)
         | (at_builtin;refine wpList_appAt StE 195 Tryz.infoStM rfl Tryz.underlying197 w.heap.size _ xs9 y (O9.out.alloc _) (by decide) hxb9 (by simp;omega) rfl _ _ rfl rfl _ 0 1 rfl news_alloc ?_;intro v10 w10 hown10 hgr10 hat10;have O10:=hide hown10;have G10:=hide hgr10;have A10:=hide hat10;clear hown10 hgr10 hat10))
        rcases O10.out.shape with ⟨_,e⟩ | ⟨g10,c10,rfl,hg10,hg10',hc10,_⟩
        ·simp at e
        have hl10:(xs9++[y]).length=(work2++[sqDo s k kn i]).length:=by have:=XL9.out;simp only [List.length_append,List.length_singleton,List.length_map] at this ⊢;omega
        have hgS10:g10≠S:=by
         rcases A10.out with h | ⟨q,h,hq⟩
         ·simp [Value.ownBlock] at h;omega
         ·simp [Value.ownBlock] at h;simp at hq;omega
        have bA:=belowAlloc w9 (.cells #[.slice y.p.a y.p.n y.p.cap, .slice y.r.a y.r.n y.r.cap, .slice y.m.a y.m.n y.m.cap, .slice y.b.a y.b.n y.b.cap] 195)
        have kA:=KpT.of_below (L:=LS) (B:=w.heap.size) bA
        have k9:=K9.out.more (L':=LS) (by decide) (Nat.le_refl _)
        have hw10:=WorkL.push (s:=stQ (sqDo s k kn i)) XL9.out (O9.out.below bA) (fun i x s h1 h2=>(ST9.out i x s h1 h2).step kA) ((LY7.out.step k9).step kA) O10.out G10.out
        have k10:KpT [195] w.heap.size _ w10:=KpT.grown (O9.out.below bA) (by decide) (Nat.le_refl _) G10.out
        have se10:=(SE9.out.below bA).wkS hw10 k10
        rw [← List.map_singleton (f:=stQ),← List.map_append,← List.map_singleton (f:=kyS),← List.map_append] at se10
        rw [hl10] at se10 ⊢
        have hS9:w9.heap[S]? = _:=K9.out.same ((B7.out.block S el).trans SX5.out) (by decide)
        have hSl:=(Array.getElem?_eq_some_iff.1 hS9).1
        have hS10:=(G10.out.block S (by simp;omega) (fun e=>by simp [Value.ownBlock] at e;omega)).trans ((heap_alloc_old w9 _ hSl).trans hS9)
        have lx10:=((((LX5.out.step (.of_below B7.out)).step k9).step kA).step (k10.more (by decide) (Nat.le_refl _)))
        have bl7:=BL5.out.trans (B7.out.mono hbs5)
        have bl9:=bl7.trans (K9.out.below bl7.size)
        have bl10:=(bl9.alloc bl9.size (.cells #[.slice y.p.a y.p.n y.p.cap, .slice y.r.a y.r.n y.r.cap, .slice y.m.a y.m.n y.m.cap, .slice y.b.a y.b.n y.b.cap] 195)).grown G10.out (by simp;have:=bl9.size;omega) (fun q hq=>(World.ownsRow.lt O9.out q hq).1)
        have sm10:=SM3.out.new SK.out (by omega) HRK2.out
        have HF:=hide (⟨work2++[sqDo s k kn i],seen2++[sqDo s k kn i],g10,c10,rfl,sm10,se10,hS10,hgS10,lx10,bl10,HLO2.out⟩:SeqIRel p w O S vt x s M taken (outs) vo (k+1) _ w10)
        clear hw10 k10 se10 hS9 hSl hS10 lx10 bl7 bl9 bl10 sm10 bA kA k9
        go_roundw
        case rel=>exact ⟨k+1,by omega,by go_num,HF.out⟩
        case measure=>simp [intOf];omega
       ·have SK2:Hid (kyS (sqDo s k kn i)∈seen2.map kyS):=hide (hD.1 rfl)
        clear hD
        go_wp2_with fail
        go_roundw
        case rel=>exact ⟨k+1,by omega,by go_num,work2,seen2,g2,cap2,rfl,SM3.out.old (key:=kyS) SK.out SK2.out HINJ.out,SE5.out.below B7.out,(B7.out.block S el).trans SX5.out,hgS2,LX5.out.step (.of_below B7.out),BL5.out.trans (B7.out.mono hbs5),HLO2.out⟩
        case measure=>simp [intOf];omega
     ·obtain rfl:k=n:=by omega
      have HG:=hide (hgk_lt SM3.out.phi_lt HMM.out HPH.out)
      have HF:=hide (⟨work2,seen2,s :: taken,outs,vo,g2,cap2,rfl,rfl,SM3.out.leave (fun i t h=>by obtain ⟨r,c,y,h1, -⟩:=sqNext_parts h;have:=(List.getElem?_eq_some_iff.1 h1).1;have:=HN.out;omega),SE3.out,HLO2.out,BL3.out⟩:SeqRel p w O vt (phi 3 (sqLeft p) work2) _ wr)
      go_wp2_with fail
      go_roundg (phi 3 (sqLeft p) work2)
      case measure=>exact HG.out
      case rel=>exact HF.out
   ·have SM0:=hide (HSR.out.yes hd HOL.out)
    rw [hd] at HDONE
    clear hd
    (with_reducible refine HDONE.out.mono ?_);rintro e w1 ⟨rfl,hb1⟩
    have SE1:=hide (HSE0.out.below hb1);have LX1:=hide (HLX0.out.step (.of_below hb1));have BL1:=hide (HBL0.out.trans (hb1.mono HBL0.out.size));have SX1:Hid (w1.heap[S]? = some (.cells #[.slice x.p.a x.p.n x.p.cap, .slice x.r.a x.r.n x.r.cap, .slice x.m.a x.m.n x.m.cap, .slice x.b.a x.b.n x.b.cap] 195 (0,0))):=hide ((hb1.block S (Array.getElem?_eq_some_iff.1 HSX0.out).1).trans HSX0.out)
    clear hb1 k0
    go_wp2_with fail
    -- reg outs
    refine wp_region_inv3 (n:=6) (by kernel_rfl) rfl (by kernel_rfl) (by kernel_rfl) (fun A ls a' W => ∃ (u:Slc) (pv:Slc) (x43 x44 x45 x46 x47 x48:Value),a'=putAll A [(43,x43),(44,x44),(45,x45),(46,x46),(47,x47),(48,x48)]∧Vd ls 0 [] x43 (.pointer (some ⟨O,1,none⟩))∧Vd ls 1 [] x44 (.slice vo.a vo.n vo.cap)∧Vd ls 2 [] x45 (.agg #[.slice x.p.a x.p.n x.p.cap, .slice x.r.a x.r.n x.r.cap, .slice x.m.a x.m.n x.m.cap, .slice x.b.a x.b.n x.b.cap])∧Vd ls 3 [] x46 (.slice u.a u.n u.cap)∧Vd ls 4 [3] x47 (.slice pv.a pv.n pv.cap)∧Vd ls 5 [] x48 (.pointer (some ⟨O,1,none⟩))∧JSq w1 w.heap.size (sqOut s) (putO (sqOut s) outs) (fl ls 3) (fl ls 4) u pv W) ?r0 ?rs ?re
    case r0 =>
     exact ⟨⟨none,0,0⟩,⟨none,0,0⟩,u43,u44,u45,u46,u47,u48,by simp only [putAll,Act.put,List.setIfInBounds_toArray,List.set_cons_succ,List.set_cons_zero],Vd.start,Vd.start,Vd.start,Vd.start,Vd.start,Vd.start,by simp only [fl_start];exact ⟨(Below.refl _ _).drew,fun h=>(nomatch h),fun h=>(nomatch h),fun h=>(nomatch h)⟩⟩
    case rs =>
     rintro ls a' W hs hnl ⟨u,pv,x43,x44,x45,x46,x47,x48,ha,cv0,cv1,cv2,cv3,cv4,cv5,hJ⟩ k o hkn mc K hK
     simp only [putAll,Act.put,List.setIfInBounds_toArray,List.set_cons_succ,List.set_cons_zero] at ha
     subst ha
     have hkc:k=0∨k=1∨k=2∨k=3∨k=4∨k=5:=by omega
     have hop:=mc.op
     have haf:=mc.after
     rcases hkc with rfl | rfl | rfl | rfl | rfl | rfl
     ·simp at hop;subst hop;simp [Region.binds] at haf
      go_simp
      exact hK _ _ ⟨u,pv,_,_,_,_,_,_,by simp only [putAll,Act.put,List.setIfInBounds_toArray,List.set_cons_succ,List.set_cons_zero],Vd.same (by simp),cv1.set (by decide),cv2.set (by decide),cv3.set (by decide),cv4.set (by decide),cv5.set (by decide),by rw [fl_set (show 0≠3 by decide),fl_set (show 0≠4 by decide)];exact hJ⟩
     ·simp at hop;subst hop;simp [Region.binds] at haf
      obtain rfl:=(cv0.get (by simp [haf])).symm
      have d1:W.cell? ⟨O,1,none⟩=some (.slice vo.a vo.n vo.cap):=cellH ((hJ.out.block O (Array.getElem?_eq_some_iff.1 SE1.out.bo).1).trans SE1.out.bo) (k:=1) rfl
      have dl:=lt_of_cell d1
      go_simp
      exact hK _ _ ⟨u,pv,_,_,_,_,_,_,by simp only [putAll,Act.put,List.setIfInBounds_toArray,List.set_cons_succ,List.set_cons_zero],cv0.set (by decide),Vd.same (by simp),cv2.set (by decide),cv3.set (by decide),cv4.set (by decide),cv5.set (by decide),by rw [fl_set (show 1≠3 by decide),fl_set (show 1≠4 by decide)];exact hJ⟩
     ·simp at hop;subst hop;simp [Region.binds] at haf
      have hbx:=(hJ.out.block S (Array.getElem?_eq_some_iff.1 SX1.out).1).trans SX1.out
      have d0:W.cell? ⟨S,0,none⟩=some (.slice x.p.a x.p.n x.p.cap):=cellH hbx (k:=0) rfl
      have d1:W.cell? ⟨S,1,none⟩=some (.slice x.r.a x.r.n x.r.cap):=cellH hbx (k:=1) rfl
      have d2:W.cell? ⟨S,2,none⟩=some (.slice x.m.a x.m.n x.m.cap):=cellH hbx (k:=2) rfl
      have d3:W.cell? ⟨S,3,none⟩=some (.slice x.b.a x.b.n x.b.cap):=cellH hbx (k:=3) rfl
      have dl:=lt_of_cell d0
      go_simp
      exact hK _ _ ⟨u,pv,_,_,_,_,_,_,by simp only [putAll,Act.put,List.setIfInBounds_toArray,List.set_cons_succ,List.set_cons_zero],cv0.set (by decide),cv1.set (by decide),Vd.same (by simp),cv3.set (by decide),cv4.set (by decide),cv5.set (by decide),by rw [fl_set (show 2≠3 by decide),fl_set (show 2≠4 by decide)];exact hJ⟩
     ·simp at hop;subst hop;simp [Region.binds] at haf
      obtain rfl:=(cv2.get (by simp [haf])).symm
      have f3:=fl_no mc.new;rw [f3] at hJ
      go_simp
      go_at_call 197
      (with_reducible refine (HOUT.out W (LX1.out.step (.of_below hJ.out)).now).mono ?_);rintro e u' ⟨v',rfl,ho,hbu⟩
      obtain ⟨⟨ua,un,uc⟩,rfl, -⟩:=ho.toSlc
      exact hK _ _ ⟨⟨ua,un,uc⟩,pv,_,_,_,_,_,_,by simp only [putAll,Act.put,List.setIfInBounds_toArray,List.set_cons_succ,List.set_cons_zero],cv0.set (by decide),cv1.set (by decide),cv2.set (by decide),Vd.same (by simp),cv4.void (by decide) (by decide) mc.new,cv5.set (by decide),by rw [fl_got hs (by decide),fl_set (show 3≠4 by decide)];exact hJ.call1 ho hbu (by have:=SE1.out.sz;have:=hJ.out.size;omega)⟩
     ·simp at hop;subst hop;simp [Region.binds] at haf
      obtain rfl:=(cv1.get (by simp [haf])).symm
      obtain rfl:=(cv3.get (by simp [haf])).symm
      have f4:=fl_no mc.new;rw [f4] at hJ
      have f3:=fl_yes (show ls[3]? = some true by simp [haf]);rw [f3] at hJ
      go_simp
      go_at_call 196
      (with_reducible refine (HPUT.out W u (SE1.out.below hJ.out).ol (LocT.own (hJ.o1 rfl) (by decide)) (by have:=SE1.out.sz;have:=hJ.out.size;omega)).mono ?_);rintro e u' ⟨v',rfl,ho,hbu⟩
      obtain ⟨⟨ua,un,uc⟩,rfl, -⟩:=ho.own
      exact hK _ _ ⟨u,⟨ua,un,uc⟩,_,_,_,_,_,_,by simp only [putAll,Act.put,List.setIfInBounds_toArray,List.set_cons_succ,List.set_cons_zero],cv0.set (by decide),cv1.set (by decide),cv2.set (by decide),cv3.set (by decide),Vd.same (by simp [haf]),cv5.set (by decide),by rw [fl_set (show 4≠3 by decide),fl_got hs (by decide),f3];exact hJ.call2 ho hbu⟩
     ·simp at hop;subst hop;simp [Region.binds] at haf
      go_simp
      exact hK _ _ ⟨u,pv,_,_,_,_,_,_,by simp only [putAll,Act.put,List.setIfInBounds_toArray,List.set_cons_succ,List.set_cons_zero],cv0.set (by decide),cv1.set (by decide),cv2.set (by decide),cv3.set (by decide),cv4.set (by decide),Vd.same (by simp),by rw [fl_set (show 5≠3 by decide),fl_set (show 5≠4 by decide)];exact hJ⟩
    case re =>
     rintro ls a' W hall ⟨u,pv,x43,x44,x45,x46,x47,x48,ha,cv0,cv1,cv2,cv3,cv4,cv5,hJ⟩ o hop
     simp only [putAll,Act.put,List.setIfInBounds_toArray,List.set_cons_succ,List.set_cons_zero] at ha
     subst ha
     simp at hop;subst hop
     obtain rfl:=(cv0.get (hall 0 (by decide))).symm
     obtain rfl:=(cv1.get (hall 1 (by decide))).symm
     obtain rfl:=(cv2.get (hall 2 (by decide))).symm
     obtain rfl:=(cv3.get (hall 3 (by decide))).symm
     obtain rfl:=(cv4.get (hall 4 (by decide))).symm
     obtain rfl:=(cv5.get (hall 5 (by decide))).symm
     rw [fl_yes (hall 3 (by decide))] at hJ
     rw [fl_yes (hall 4 (by decide))] at hJ
     have hbo:=(hJ.out.block O (Array.getElem?_eq_some_iff.1 SE1.out.bo).1).trans SE1.out.bo
     have d1:W.cell? ⟨O,1,none⟩=some (.slice vo.a vo.n vo.cap):=cellH hbo (k:=1) rfl
     have dfz:=frozH hbo
     have dl:=lt_of_cell d1
     go_simp
     have SE2:=hide ((SE1.out.below hJ.out).out (vo':=pv) (hJ.o2 rfl))
     have SX2:Hid ((W.setCell ⟨O,1,none⟩ (.slice pv.a pv.n pv.cap)).heap[S]? = some (.cells #[.slice x.p.a x.p.n x.p.cap, .slice x.r.a x.r.n x.r.cap, .slice x.m.a x.m.n x.m.cap, .slice x.b.a x.b.n x.b.cap] 195 (0,0))):=hide ((heap_setCell_other W ⟨O,1,none⟩ S _ (show S≠O by omega)).trans ((hJ.out.block S (Array.getElem?_eq_some_iff.1 SX1.out).1).trans SX1.out))
     have LX2:=hide ((LX1.out.step (.of_below hJ.out)).step (KpT.set (j:=1) hbo (by decide) (by have:=SE1.out.lN;have:=SE1.out.lO;omega) (.slice pv.a pv.n pv.cap)))
     have BL2:=hide ((BL1.out.trans (hJ.out.mono BL1.out.size)).setCell (p:=⟨O,1,none⟩) (by have:=SE1.out.lN;have:=SE1.out.lO;show _≤O;omega) (.slice pv.a pv.n pv.cap))
     obtain ⟨V2,hV2⟩:∃ V2,V2=W.setCell ⟨O,1,none⟩ (.slice pv.a pv.n pv.cap):=⟨_,rfl⟩
     rw [← hV2] at SE2 SX2 LX2 BL2
     simp only [← hV2]
     clear hJ hbo d1 dfz dl hV2
     go_wp2_with fail
     have LO2:Hid ((putO (sqOut s) outs).length≤taken.length+1):=hide (by have:=HLO.out;have:=HTN.out;have:=putO_le (o:=sqOut s) outs;omega)
     obtain ⟨M,hM⟩:∃ M,M=phi 3 (sqLeft p) (init++[s]):=⟨_,rfl⟩
     rw [← hM] at SM0
     have HMM:=hide hM
     clear hM
     go_loopw [4,7] (fun v i wr => ∃ k:Nat,k≤n∧i = .int .i64 k∧SeqIRel p w O S vt x s M taken (putO (sqOut s) outs) pv k v wr) (fun _ i _=>n - (intOf i).toNat)
     case atStart=>exact ⟨0,Nat.zero_le _,rfl,init,seen,g,cap,by rw [HM.out],SM0.out,by have h:=SE2.out;rw [← HTN.out] at h;exact h,SX2.out,hgS,LX2.out,BL2.out,LO2.out⟩
     case round =>
      obtain ⟨k,hk,rfl,work2,seen2,g2,cap2,rfl,hsm,hse,hsx,hgS2,hlx,hbl,hlo2⟩:=hrel
      have SM3:=hide hsm;have SE3:=hide hse;have SX3:=hide hsx;have LX3:=hide hlx;have BL3:=hide hbl;have HLO2:=hide hlo2
      clear hsm hse hlx hbl hlo2
      by_cases hlt:k < n
      ·have hlt':=nat_of_lt hlt
       have d0:wr.cell? ⟨S,0,none⟩=some (.slice x.p.a x.p.n x.p.cap):=cellH hsx (k:=0) rfl
       have dl:=lt_of_cell d0
       clear hsx
       obtain ⟨r,hrk⟩:=get_of_lt (xs:=p) (k:=k) (by rw [HN.out];exact hlt)
       obtain ⟨c,hck⟩:=get_of_lt (xs:=s.pc) (k:=k) (by rw [HOK.out.lp,HN.out];exact hlt)
       obtain ⟨hc0,hcr⟩:=HOK.out.pc k c r hck hrk
       obtain ⟨kn,rfl⟩:∃ kn:Nat,c=kn:=⟨c.toNat,by omega⟩
       have hrl:=HPR.out r (List.mem_of_getElem? hrk)
       obtain ⟨xpa,xpn,xpc,hxp⟩:∃ a n c,x.p=⟨a,n,c⟩:=⟨_,_,_,rfl⟩
       have hrep:Rep IntE wr (.slice xpa xpn xpc) s.pc:=by have h:=LX3.out.now.pc;rw [hxp] at h;exact h
       obtain ⟨b1,o1,rfl,hbl1,i0⟩:=hrep.int hck
       obtain ⟨_,_,hv1, -, -, -, -⟩:=hrep.open
       simp only [Value.slice.injEq] at hv1
       obtain ⟨-,hxn, -⟩:=hv1
       have hxn2:(k:Int) < (xpn:Int):=by have:=HOK.out.lp;have:=HN.out;omega
       obtain ⟨b2,o2,qa,qc,hb2e,hbl2,q0,q1⟩:=(HP.out.below BL3.out).row hrk
       rw [hxp] at d0
       simp only at d0
       have RK:=hide hrk;have CK:=hide hck
       have hbs:=BL3.out.size
       have D0:=hide d0
       clear hrk hck q1 hrep hxn hxp
       by_cases heq:kn=r.length
       ·have heq':((kn:Int)==(r.length:Int))=true:=by simp [heq]
        have SK:Hid (sqNext p s k=none):=hide (by unfold sqNext;simp [RK.out,CK.out,heq])
        clear heq hc0 hcr
        subst hb2e
        go_wp2_with fail
        refine wp_region_bw (by kernel_rfl) (by kernel_rfl) ?_
        repeat (go_big_quiet_step (fail))
        refine wpQuiet_nil ?_
        intro w5 hw5
        go_wp2_with fail
        go_roundw
        case rel=>exact ⟨k+1,by omega,by go_num,work2,seen2,g2,cap2,rfl,SM3.out.skip SK.out,SE3.out.below hw5,(hw5.block S dl).trans SX3.out,hgS2,LX3.out.step (.of_below hw5),BL3.out.trans (hw5.mono hbs),HLO2.out⟩
        case measure=>simp [intOf];omega
       ·have heq':((kn:Int)==(r.length:Int))=false:=by simp;omega
        obtain ⟨i,hi⟩:=get_of_lt (xs:=r) (k:=kn) (by omega)
        have hiv:=HIV.out r (List.mem_of_getElem? RK.out) i (List.mem_of_getElem? hi)
        have SK:Hid (sqNext p s k=some (sqDo s k kn i)):=hide (by unfold sqNext;simp [RK.out,CK.out,hi])
        have HOK2:=hide (HOK.out.next HIV.out SK.out)
        have HRK2:=hide (sqLeft_next HOK.out SK.out)
        have HDO:Hid (∀ W,Below w.heap.size w W→RepSt W x (stQ s)→Calls Tryz.prog 198 #[.slice va n vc, .agg #[.slice x.p.a x.p.n x.p.cap, .slice x.r.a x.r.n x.r.cap, .slice x.m.a x.m.n x.m.cap, .slice x.b.a x.b.n x.b.cap], .int .i64 (k:Int)] W (RetSt W (stQ (sqDo s k kn i)))):=hide (fun W hW hx=>l3Do_any _ p x (stQ s) k kn i r W (HP.out.below hW) hx CK.out RK.out hi hiv (by omega) (by show s.pc.length≤_;have:=HOK.out.lp;have:=HN.out;omega) (by show s.rg.length=s.pc.length * 3;rw [HOK.out.lr,HOK.out.lp]) HOK.out.lm (by simp) (by simp) (by omega))
        clear heq hc0 hcr hi hiv
        subst hb2e
        go_wp2_with fail
        refine wp_region_bw (by kernel_rfl) (by kernel_rfl) ?_
        repeat (go_big_quiet_step (fail))
        refine wpQuiet_nil ?_
        intro w5 hw5
        have hsx5:=(hw5.block S dl).trans SX3.out
        have e0:w5.cell? ⟨S,0,none⟩=some (.slice x.p.a x.p.n x.p.cap):=cellH hsx5 (k:=0) rfl
        have e1:w5.cell? ⟨S,1,none⟩=some (.slice x.r.a x.r.n x.r.cap):=cellH hsx5 (k:=1) rfl
        have e2:w5.cell? ⟨S,2,none⟩=some (.slice x.m.a x.m.n x.m.cap):=cellH hsx5 (k:=2) rfl
        have e3:w5.cell? ⟨S,3,none⟩=some (.slice x.b.a x.b.n x.b.cap):=cellH hsx5 (k:=3) rfl
        have el:=lt_of_cell e0
        have SE5:=hide (SE3.out.below hw5);have LX5:=hide (LX3.out.step (.of_below hw5));have BL5:=hide (BL3.out.trans (hw5.mono hbs));have SX5:=hide hsx5
        have hbs5:=BL5.out.size
        clear d0 dl i0 q0 hsx5 D0 SX3 LX3 SE3 hw5
        go_wp2_with (first
         | (go_at_call 198;(with_reducible refine (HDO.out _ BL5.out LX5.out.now).mono ?_);rintro e w6 ⟨y,my,rfl,hs6,hb6⟩;have S6:=hide hs6;have B6:=hide (hb6.alloc hb6.size (.cells #[.slice y.p.a y.p.n y.p.cap, .slice y.r.a y.r.n y.r.cap, .slice y.m.a y.m.n y.m.cap, .slice y.b.a y.b.n y.b.cap] 195));have hsz6:=hb6.size;clear hs6 hb6)
         | (go_at_call 194;(with_reducible refine (HKEY.out y (sqDo s k kn i) _ HOK2.out (S6.out.rep.below (belowAlloc _ _))).mono ?_);rintro e w7 ⟨rfl,hb7⟩;have B7:=hide (B6.out.trans (hb7.mono (by simp;omega)));have HX7:Hid (w7.heap[w6.heap.size]? = some (.cells #[.slice y.p.a y.p.n y.p.cap, .slice y.r.a y.r.n y.r.cap, .slice y.m.a y.m.n y.m.cap, .slice y.b.a y.b.n y.b.cap] 195 (0,0))):=hide ((hb7.block w6.heap.size (by simp)).trans (heap_alloc_new w6 _));have hsz7:=B7.out.size;have LY7:=hide (((S6.out.loc (L:=LS) (B:=w.heap.size) (by decide) (by decide)).step (.alloc _ _)).step (.of_below hb7));clear hb7))
        (with_reducible refine (l3Found_any vt (seen2.map kyS) (kyS (sqDo s k kn i)) w7 (SE5.out.below B7.out).tb.rep (HKSZ.out _ HOK2.out)).mono ?_);rintro e w8 ⟨D,rfl,hD,rfl⟩
        cases D
        ·have HNO:=hide hD
         clear hD
         go_wp2_with (first
          | (go_at_call 193;(with_reducible refine (HMARK.out vt (seen2.map kyS) (sqDo s k kn i) w.heap.size w7 HOK2.out (SE5.out.below B7.out).tb (by rw [List.length_map];have:=SM3.out.len;omega) (by omega)).mono ?_);rintro e w9 ⟨rfl,ht9,hk9⟩;have SE9:=hide ((SE5.out.below B7.out).mark ht9 hk9);have K9:=hide hk9;have hx9:=hk9.same HX7.out (by decide);have f0:w9.cell? ⟨w6.heap.size,0,none⟩=some (.slice y.p.a y.p.n y.p.cap):=cellH hx9 (k:=0) rfl;have f1:w9.cell? ⟨w6.heap.size,1,none⟩=some (.slice y.r.a y.r.n y.r.cap):=cellH hx9 (k:=1) rfl;have f2:w9.cell? ⟨w6.heap.size,2,none⟩=some (.slice y.m.a y.m.n y.m.cap):=cellH hx9 (k:=2) rfl;have f3:w9.cell? ⟨w6.heap.size,3,none⟩=some (.slice y.b.a y.b.n y.b.cap):=cellH hx9 (k:=3) rfl;have fl9:=lt_of_cell f0;obtain ⟨xs9,hxl9,hown9,hst9⟩:=SE9.out.wk;have O9:=hide hown9;have XL9:=hide hxl9;have ST9:=hide hst9;have hxb9:xs9.length≤68719476736:=(by rw [hxl9,List.length_map];have h1:=SM3.out.num;have h2:=SM3.out.len;omega);have hsz9:=hk9.size;clear hown9 hxl9 hst9 ht9 hk9 hx9)
          | (at_builtin;refine wpList_appAt StE 195 Tryz.infoStM rfl Tryz.underlying197 w.heap.size _ xs9 y (O9.out.alloc _) (by decide) hxb9 (by simp;omega) rfl _ _ rfl rfl _ 0 1 rfl news_alloc ?_;intro v10 w10 hown10 hgr10 hat10;have O10:=hide hown10;have G10:=hide hgr10;have A10:=hide hat10;clear hown10 hgr10 hat10))
         rcases O10.out.shape with ⟨_,e⟩ | ⟨g10,c10,rfl,hg10,hg10',hc10,_⟩
         ·simp at e
         have hl10:(xs9++[y]).length=(work2++[sqDo s k kn i]).length:=by have:=XL9.out;simp only [List.length_append,List.length_singleton,List.length_map] at this ⊢;omega
         have hgS10:g10≠S:=by
          rcases A10.out with h | ⟨q,h,hq⟩
          ·simp [Value.ownBlock] at h;omega
          ·simp [Value.ownBlock] at h;simp at hq;omega
         have bA:=belowAlloc w9 (.cells #[.slice y.p.a y.p.n y.p.cap, .slice y.r.a y.r.n y.r.cap, .slice y.m.a y.m.n y.m.cap, .slice y.b.a y.b.n y.b.cap] 195)
         have kA:=KpT.of_below (L:=LS) (B:=w.heap.size) bA
         have k9:=K9.out.more (L':=LS) (by decide) (Nat.le_refl _)
         have hw10:=WorkL.push (s:=stQ (sqDo s k kn i)) XL9.out (O9.out.below bA) (fun i x s h1 h2=>(ST9.out i x s h1 h2).step kA) ((LY7.out.step k9).step kA) O10.out G10.out
         have k10:KpT [195] w.heap.size _ w10:=KpT.grown (O9.out.below bA) (by decide) (Nat.le_refl _) G10.out
         have se10:=(SE9.out.below bA).wkS hw10 k10
         rw [← List.map_singleton (f:=stQ),← List.map_append,← List.map_singleton (f:=kyS),← List.map_append] at se10
         rw [hl10] at se10 ⊢
         have hS9:w9.heap[S]? = _:=K9.out.same ((B7.out.block S el).trans SX5.out) (by decide)
         have hSl:=(Array.getElem?_eq_some_iff.1 hS9).1
         have hS10:=(G10.out.block S (by simp;omega) (fun e=>by simp [Value.ownBlock] at e;omega)).trans ((heap_alloc_old w9 _ hSl).trans hS9)
         have lx10:=((((LX5.out.step (.of_below B7.out)).step k9).step kA).step (k10.more (by decide) (Nat.le_refl _)))
         have bl7:=BL5.out.trans (B7.out.mono hbs5)
         have bl9:=bl7.trans (K9.out.below bl7.size)
         have bl10:=(bl9.alloc bl9.size (.cells #[.slice y.p.a y.p.n y.p.cap, .slice y.r.a y.r.n y.r.cap, .slice y.m.a y.m.n y.m.cap, .slice y.b.a y.b.n y.b.cap] 195)).grown G10.out (by simp;have:=bl9.size;omega) (fun q hq=>(World.ownsRow.lt O9.out q hq).1)
         have sm10:=SM3.out.new SK.out (by omega) HRK2.out
         have HF:=hide (⟨work2++[sqDo s k kn i],seen2++[sqDo s k kn i],g10,c10,rfl,sm10,se10,hS10,hgS10,lx10,bl10,HLO2.out⟩:SeqIRel p w O S vt x s M taken (putO (sqOut s) outs) pv (k+1) _ w10)
         clear hw10 k10 se10 hS9 hSl hS10 lx10 bl7 bl9 bl10 sm10 bA kA k9
         go_roundw
         case rel=>exact ⟨k+1,by omega,by go_num,HF.out⟩
         case measure=>simp [intOf];omega
        ·have SK2:Hid (kyS (sqDo s k kn i)∈seen2.map kyS):=hide (hD.1 rfl)
         clear hD
         go_wp2_with fail
         go_roundw
         case rel=>exact ⟨k+1,by omega,by go_num,work2,seen2,g2,cap2,rfl,SM3.out.old (key:=kyS) SK.out SK2.out HINJ.out,SE5.out.below B7.out,(B7.out.block S el).trans SX5.out,hgS2,LX5.out.step (.of_below B7.out),BL5.out.trans (B7.out.mono hbs5),HLO2.out⟩
         case measure=>simp [intOf];omega
      ·obtain rfl:k=n:=by omega
       have HG:=hide (hgk_lt SM3.out.phi_lt HMM.out HPH.out)
       have HF:=hide (⟨work2,seen2,s :: taken,putO (sqOut s) outs,pv,g2,cap2,rfl,rfl,SM3.out.leave (fun i t h=>by obtain ⟨r,c,y,h1, -⟩:=sqNext_parts h;have:=(List.getElem?_eq_some_iff.1 h1).1;have:=HN.out;omega),SE3.out,HLO2.out,BL3.out⟩:SeqRel p w O vt (phi 3 (sqLeft p) work2) _ wr)
       go_wp2_with fail
       go_roundg (phi 3 (sqLeft p) work2)
       case measure=>exact HG.out
       case rel=>exact HF.out
    -- end outs
end Go.Proofs.YtlddmagfbcomgaaGreat
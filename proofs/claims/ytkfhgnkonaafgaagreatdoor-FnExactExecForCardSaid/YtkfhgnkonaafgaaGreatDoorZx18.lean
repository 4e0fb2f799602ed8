/-
  The reference's list of outcomes: one is put there. Condition: bounds on lengths.
-/
import Derived.Test.YtkfhgnkonaafgaaGreatDoorZx11
import Derived.Test.YtkfhgnkonaafgaaGreatDoorZx14
import Derived.Test.YtkfhgnkonaafgaaGreatDoorZx04
import Derived.Test.YtkfhgnkonaafgaaGreatDoorZx07
import Derived.Test.YtkfhgnkonaafgaaGreatDoorZx06
import Derived.Maps.AppendAt
import Derived.Test.YtkfhgnkonaafgaaGreatDoorZx05
import Derived.Laws.BytesArg
import Derived.Laws.DeepStrings4
import Derived.Deep.RegionHeld3
import Derived.Deep.DeepCutAuto
import Derived.Deep.RegionLaw
set_option maxHeartbeats 6400000
set_option maxRecDepth 100000
namespace Go.Proofs.YtkfhgnkonaafgaaGreatDoor
open Go.RowKit
end Go.Proofs.YtkfhgnkonaafgaaGreatDoor
namespace Go.Proofs.YtkfhgnkonaafgaaGreatDoor
open Go.RowKit
end Go.Proofs.YtkfhgnkonaafgaaGreatDoor
namespace Go.Proofs.YtkfhgnkonaafgaaGreatDoor
open Go.RowKit
end Go.Proofs.YtkfhgnkonaafgaaGreatDoor
namespace Go.Proofs.YtkfhgnkonaafgaaGreatDoor
open Go.RowKit
end Go.Proofs.YtkfhgnkonaafgaaGreatDoor
namespace Go.Proofs.YtkfhgnkonaafgaaGreatDoor
open Go.RowKit
end Go.Proofs.YtkfhgnkonaafgaaGreatDoor
namespace Go.Proofs.YtkfhgnkonaafgaaGreatDoor
open Go.RowKit
section
variable {A0 W w' : World} {pc rg mm : List Int} {a1 f1 a2 f2 a3 f3 fo : Bool} {A B C O : Nat} {f g h s' : Slc}
end
end Go.Proofs.YtkfhgnkonaafgaaGreatDoor
namespace Go.Proofs.YtkfhgnkonaafgaaGreatDoor
open Go.RowKit
section
variable {A0 W w' : World} {pc rg mm : List Int} {a1 f1 a2 f2 a3 f3 fo : Bool} {A B C O n : Nat} {f g h : Slc}
end
end Go.Proofs.YtkfhgnkonaafgaaGreatDoor
namespace Go.Proofs.YtkfhgnkonaafgaaGreatDoor
open Go.RowKit
end Go.Proofs.YtkfhgnkonaafgaaGreatDoor
namespace Go.Proofs.YtkfhgnkonaafgaaGreatDoor
open Go.RowKit
section
variable {A0 W w' : World} {rg mm : List Int} {a f1 f2 : Bool} {A : Nat} {f g s' : Slc}
end
end Go.Proofs.YtkfhgnkonaafgaaGreatDoor
namespace Go.Proofs.YtkfhgnkonaafgaaGreatDoor
open Go.RowKit
section
variable {w V V' : World} {O I m g k : Nat} {xs i : List Value} {y : SV} {s : St} {v : Int}
end
end Go.Proofs.YtkfhgnkonaafgaaGreatDoor
namespace Go.Proofs.YtkfhgnkonaafgaaGreatDoor
open Go.RowKit
theorem l3L_lexO (a b:List Int):l3L a b=lexO a b:=by
 induction a generalizing b with
 | nil=>cases b <;> rfl
 | cons x a ih =>
  cases b with
  | nil=>rfl
  | cons y b=>simp only [l3L,lexO,ih]
theorem putO_take {o:List Int} {L:List (List Int)} {k:Nat} (h:∀ x∈L.take k,lexO x o = -1):putO o L=L.take k++putO o (L.drop k):=by
 induction L generalizing k with
 | nil=>simp
 | cons x L ih =>
  cases k with
  | zero=>simp
  | succ k =>
   have h1:=h x (by simp)
   have h2:=ih (k:=k) fun y hy=>h y (by simp [hy])
   rw [List.take_succ_cons,List.drop_succ_cons,List.cons_append,← h2]
   simp [putO,h1]
theorem putO_eq {o x:List Int} {L:List (List Int)} {k:Nat} (h:∀ x∈L.take k,lexO x o = -1) (hx:L[k]? = some x) (he:lexO x o=0):putO o L=L:=by
 obtain ⟨hk,rfl⟩:=List.getElem?_eq_some_iff.1 hx
 rw [putO_take h,List.drop_eq_getElem_cons hk]
 simp only [putO,he,if_true,if_neg (show ¬ (0:Int) = -1 by decide)]
 rw [← List.drop_eq_getElem_cons hk,List.take_append_drop]
theorem putO_in {o x:List Int} {L:List (List Int)} {k:Nat} (h:∀ x∈L.take k,lexO x o = -1) (hx:L[k]? = some x) (he:lexO x o=1):putO o L=L.take k++[o]++L.drop k:=by
 obtain ⟨hk,rfl⟩:=List.getElem?_eq_some_iff.1 hx
 rw [putO_take h,List.drop_eq_getElem_cons hk]
 simp [putO,he]
theorem putO_end {o:List Int} {L:List (List Int)} {k:Nat} (h:∀ x∈L.take k,lexO x o = -1) (hk:L.length≤k):putO o L=L.take k++[o]++L.drop k:=by
 rw [putO_take h,List.drop_of_length_le hk]
 simp [putO]
def OutL (Ls:List TypeId) (B:Nat) (w:World) (base:Nat) (v:Value) (L:List (List Int)):Prop:=
 v≠.slice none 0 0∧∃ us:List Slc,us.length=L.length∧Own SlcE 24 w base v us∧∀ (i:Nat) (u:Slc) (r:List Int),us[i]? = some u→L[i]? = some r→LocT Ls B w (fun W=>Own IntE 3 W base u.v r)
theorem OutL.step {Ls:List TypeId} {B:Nat} {w w':World} {base:Nat} {v:Value} {L:List (List Int)} (h:OutL Ls B w base v L) (k:KpT Ls B w w') (hT:24∉Ls):OutL Ls B w' base v L:=by
 obtain ⟨h0,us,h1,h2,h3⟩:=h
 exact ⟨h0,us,h1,(LocT.own h2 hT).keep w' k,fun i u r hu hr=>(h3 i u r hu hr).step k⟩
theorem OutL.rep2 {Ls:List TypeId} {B:Nat} {w:World} {base:Nat} {v:Value} {L:List (List Int)} (h:OutL Ls B w base v L):Rep2 IntE w v L:=by
 obtain ⟨-,us,h1,h2,h3⟩:=h
 exact ⟨us,h1,h2.rep,fun i u r hu hr=>(h3 i u r hu hr).now.rep⟩
theorem OutL.empty {Ls:List TypeId} {B:Nat} {w:World} {base:Nat} (hb:base≤w.heap.size):OutL Ls B (w.alloc (.cells #[] 24)) base (.slice (some ⟨w.heap.size,0,none⟩) 0 0) []:=
 ⟨by simp,[],rfl,Own.empty _ _ hb,fun i u r h=>by simp at h⟩
def RetOut (Ls:List TypeId) (B:Nat) (w:World) (base:Nat) (L:List (List Int)) (e:Ending) (w':World):Prop:=∃ v,e = .returned v∧OutL Ls B w' base v L∧Below w.heap.size w w'
theorem Rep.takeM {α:Type} {E:El α} {w:World} {a:Option Addr} {n c:Nat} {xs:List α} (h:Rep E w (.slice a n c) xs) {k:Nat} (hk:k≤n):Rep E w (.slice a k c) (xs.take k):=by
 obtain ⟨a',c',hv,h1,h2,h3⟩:=h
 simp only [Value.slice.injEq] at hv
 obtain ⟨rfl,rfl,rfl⟩:=hv
 have hl:(xs.take k).length=k:=by rw [List.length_take];omega
 exact ⟨a,c,by rw [hl],by omega,h2,fun i x hx=>h3 i x (by
  rw [List.getElem?_take] at hx
  split at hx
  ·exact hx
  ·cases hx)⟩
theorem Rep.dropM {α:Type} {E:El α} {w:World} {g o n c:Nat} {xs:List α} (h:Rep E w (.slice (some ⟨g,o,none⟩) n c) xs) {k:Nat} (hk:k≤n):Rep E w (.slice (some ⟨g,o+k * E.sz,none⟩) (n - k) (c - k)) (xs.drop k):=by
 obtain ⟨a',c',hv,h1,h2,h3⟩:=h
 simp only [Value.slice.injEq] at hv
 obtain ⟨rfl,rfl,rfl⟩:=hv
 refine ⟨_,c - k,by rw [List.length_drop],by rw [List.length_drop];omega,by omega,fun i x hx => ?_⟩
 rw [List.getElem?_drop] at hx
 obtain ⟨b,o',hb,hi⟩:=h3 (k+i) x hx
 simp only [Option.some.injEq,Addr.mk.injEq,and_true] at hb
 obtain ⟨rfl,rfl⟩:=hb
 refine ⟨g,o+k * E.sz,rfl,fun j u hu => ?_⟩
 have:=hi j u hu
 rw [Nat.add_mul] at this
 rw [← this]
 congr 2
 omega
theorem Rep.none {α:Type} {E:El α} {w:World} {a:Option Addr} {n c k:Nat} {xs:List α} (h:Rep E w (.slice a n c) xs) (hk:n≤k) {a':Option Addr} {c':Nat} (hc:c'≤maxLen):Rep E w (.slice a' 0 c') (xs.drop k):=by
 obtain ⟨a2,c2,hv,h1,h2,h3⟩:=h
 simp only [Value.slice.injEq] at hv
 obtain ⟨rfl,rfl,rfl⟩:=hv
 rw [List.drop_of_length_le hk]
 exact ⟨a',c',rfl,Nat.zero_le _,hc,fun i x hx=>by simp at hx⟩
theorem out_in {Ls:List TypeId} {B base:Nat} {w w8:World} {us:List Slc} {L R:List (List Int)} {u:Slc} {o:List Int} {v8:Value} {k:Nat} (hul:us.length=L.length)
 (hrows:∀ (i:Nat) (u:Slc) (r:List Int),us[i]? = some u→L[i]? = some r→LocT Ls B w (fun W=>Own IntE 3 W base u.v r)) (ho:LocT Ls B w (fun W=>Own IntE 3 W base u.v o)) (hR:R=L.take k++[o]++L.drop k)
 (h8:Own SlcE 24 w8 w.heap.size v8 (us.take k++[u]++us.drop k)) (hb:Below w.heap.size w w8) (hbase:base≤w.heap.size):RetOut Ls B w base R (.returned v8) w8:=by
 refine ⟨v8,rfl,⟨?_,us.take k++[u]++us.drop k,by rw [hR];simp [hul],h8.mono hbase,fun i u' r hu hr => ?_⟩,hb⟩
 ·rintro rfl
  have:=h8.len
  simp at this
 ·rw [hR] at hr
  have key:∀ (i:Nat) (u':Slc) (r:List Int),us[i]? = some u'→L[i]? = some r→LocT Ls B w8 (fun W=>Own IntE 3 W base u'.v r):=fun i u' r h1 h2=>(hrows i u' r h1 h2).step (.of_below hb)
  have hlk:(us.take k).length=(L.take k).length:=by simp [hul]
  rw [List.append_assoc] at hu hr
  rcases Nat.lt_or_ge i (us.take k).length with hi | hi
  ·rw [List.getElem?_append_left hi] at hu
   rw [List.getElem?_append_left (by omega)] at hr
   rw [List.getElem?_take] at hu hr
   split at hu
   ·rename_i hik
    rw [if_pos hik] at hr
    exact key i u' r hu hr
   ·cases hu
  ·rw [List.getElem?_append_right hi] at hu
   rw [List.getElem?_append_right (by omega),← hlk] at hr
   generalize i - (us.take k).length=j at *
   cases j with
   | zero =>
    simp at hu hr
    subst hu;subst hr
    exact ho.step (.of_below hb)
   | succ j =>
    simp only [List.singleton_append,List.getElem?_cons_succ,List.getElem?_drop] at hu hr
    exact key _ u' r hu hr
theorem l3Put_any (Ls:List TypeId) (B base:Nat) (vl:Value) (u:Slc) (L:List (List Int)) (o:List Int) (w:World) (hL:OutL Ls B w base vl L) (ho:LocT Ls B w (fun W=>Own IntE 3 W base u.v o)) (hT:24∉Ls) (hb:base≤w.heap.size) (hl:L.length≤68719476000) :
 Calls Tryz.prog 84 #[vl, .slice u.a u.n u.cap] w (RetOut Ls B w base (putO o L)):=by
 obtain ⟨hne,us,hul,hown,hrows⟩:=hL
 rcases hown.shape with ⟨e,_⟩ | ⟨g,lc,rfl,hg1,hg2,hg3,hg4⟩
 ·exact absurd e hne
 have HO:=hide ho
 have HT:=hide hT
 have HUL:=hide hul;have HOW:=hide hown;have HRW:=hide hrows
 have HREP:=hide hown.rep
 have HLE:=hide (fun w' v (x:List Int) (h:Rep IntE w' v x) (h2:Rep IntE w' u.v o)=>(l3L_lexO x o) ▸ (l3Less_any v u.v x o w' h h2))
 obtain ⟨ua,un,uc⟩:=u
 have hn:us.length=L.length:=hul
 generalize hN:us.length=n at *
 have HN:=hide hN
 have hnl:n≤68719476000:=by omega
 clear hul hown hrows ho hT hn hN hne
 go_enter Tryz.func84,Tryz.ntmps84
 go_wp2_with fail
 go_loopw [5] (fun i wr => ∃ k:Nat,k≤n∧i = .int .i64 k∧Hid (∀ x∈L.take k,lexO x o = -1)∧Below w.heap.size w wr) (fun i _=>n - (intOf i).toNat)
 case atStart=>exact ⟨0,Nat.zero_le _,rfl,hide (by simp),Below.refl _ _⟩
 case round =>
  obtain ⟨k,hk,rfl,hlo,hbr⟩:=hrel
  have HBR:=hide hbr
  have hbs:=hbr.size
  clear hbr
  by_cases hlt:k < n
  ·have hlt':=nat_of_lt hlt
   obtain ⟨x,hx⟩:=get_of_lt (xs:=L) (k:=k) (by rw [← HUL.out];exact hlt)
   obtain ⟨⟨xa,xn,xc⟩,hux⟩:=get_of_lt (xs:=us) (k:=k) (by rw [HN.out];exact hlt)
   obtain ⟨b,q,hbq,hbl,i0⟩:=(HREP.out.below HBR.out).slc hux
   simp only [Option.some.injEq,Addr.mk.injEq,and_true] at hbq
   obtain ⟨rfl,rfl⟩:=hbq
   simp only [Nat.zero_add] at i0
   have hrx:=(HRW.out k _ x hux hx).step (.of_below HBR.out)
   have ho2:=HO.out.step (.of_below HBR.out)
   have HC:=hide (HLE.out wr (.slice xa xn xc) x hrx.now.rep ho2.now.rep)
   have HRX:=hide hrx;have HO2:=hide ho2
   have X:=hide hx
   clear hx hux hrx ho2
   rcases lexO_three x o with e | e | e
   ·rw [e] at HC
    have NO:Hid (∀ y∈L.take (k+1),lexO y o = -1):=hide fun y hy=>by
     rw [List.take_add_one,X.out] at hy
     rcases List.mem_append.1 hy with h | h
     ·exact hlo.out y h
     ·simp at h;rw [h];exact e
    clear e
    go_wp2_with (first | (go_at_call 37;(with_reducible refine HC.out.mono ?_);rintro e w1 ⟨rfl,hb1⟩))
    go_roundw
    case rel=>exact ⟨k+1,by omega,by go_num,NO,HBR.out.trans (hb1.mono hbs)⟩
    case measure=>simp [intOf];omega
   ·have HE:=hide (putO_eq hlo.out X.out e)
    rw [e] at HC
    have E0:=hide e
    clear e
    go_wp2_with (first
     | (go_at_call 37;(with_reducible refine HC.out.mono ?_);rintro e w1 ⟨rfl,hb1⟩;have B1:=hide hb1;have j0:w1.cell? ⟨g,k,none⟩=some (.slice xa xn xc):=(hb1.cell (p:=⟨g,k,none⟩) hbl).trans i0;have jl:=lt_of_cell j0;have HC2:=hide (HLE.out w1 (.slice xa xn xc) x (HRX.out.step (.of_below hb1)).now.rep (HO2.out.step (.of_below hb1)).now.rep);rw [E0.out] at HC2;clear hb1)
     | (go_at_call 37;(with_reducible refine HC2.out.mono ?_);rintro e w2 ⟨rfl,hb2⟩))
    go_ret
    rw [HE.out]
    have hb9:=(HBR.out.trans (B1.out.mono hbs)).trans (hb2.mono (Nat.le_trans hbs B1.out.size))
    exact ⟨_,rfl,OutL.step (w:=w) ⟨by simp,us,HN.out.trans HUL.out,HOW.out,HRW.out⟩ (.of_below hb9) HT.out,hb9⟩
   ·have HE:=hide (putO_in hlo.out X.out e)
    rw [e] at HC
    have E0:=hide e
    clear e
    go_wp2_with (first
     | (go_at_call 37;(with_reducible refine HC.out.mono ?_);rintro e w1 ⟨rfl,hb1⟩;have B1:=hide hb1;have j0:w1.cell? ⟨g,k,none⟩=some (.slice xa xn xc):=(hb1.cell (p:=⟨g,k,none⟩) hbl).trans i0;have jl:=lt_of_cell j0;have HC2:=hide (HLE.out w1 (.slice xa xn xc) x (HRX.out.step (.of_below hb1)).now.rep (HO2.out.step (.of_below hb1)).now.rep);rw [E0.out] at HC2;clear hb1)
     | (go_at_call 37;(with_reducible refine HC2.out.mono ?_);rintro e w2 ⟨rfl,hb2⟩;have HBE:=hide ((HBR.out.trans (B1.out.mono hbs)).trans (hb2.mono (Nat.le_trans hbs B1.out.size)));have hbe:=HBE.out.size;clear hb2)
     | (at_builtin;refine wpList_appS SlcE 24 Tryz.infoIntSM rfl Tryz.underlying27 w.heap.size _ [] (us.take k) _ (Own.empty _ _ hbe) (((HREP.out.takeM (k:=k) (by omega)).below HBE.out).below (belowAlloc _ _)) (by decide) (by simp;omega) (by simp;omega) rfl _ _ rfl rfl rfl ?_;intro v4 w4 hown4 hgr4;obtain ⟨⟨a4,n4,c4⟩,rfl, -⟩:=hown4.toSlc;rw [List.nil_append] at hown4;have O4:=hide hown4;have B4:=hide (HBE.out.trans ((((Below.refl _ _).alloc (Nat.le_refl _) (.cells #[] 24)).grown hgr4 (by simp) (fun q hq=>by simp [Value.ownBlock] at hq;omega)).mono hbe));have hb4:=B4.out.size;clear hown4 hgr4)
     | (at_builtin;refine wpList_app SlcE 24 Tryz.infoIntSM rfl Tryz.underlying27 w.heap.size _ (us.take k) ⟨ua,un,uc⟩ (O4.out.alloc _) (by decide) (by rw [List.length_take];omega) (by simp;omega) rfl _ _ rfl rfl _ 0 1 rfl news_alloc ?_;intro v6 w6 hown6 hgr6;obtain ⟨⟨a6,n6,c6⟩,rfl, -⟩:=hown6.toSlc;have O6:=hide hown6;have B6:=hide (below_app B4.out O4.out hgr6);have hb6:=B6.out.size;clear hown6 hgr6)
     | (at_builtin;refine wpList_appS SlcE 24 Tryz.infoIntSM rfl Tryz.underlying27 w.heap.size _ (us.take k++[⟨ua,un,uc⟩]) (us.drop k) _ O6.out (by have h:=HREP.out.dropM (k:=k) (by omega);simp only [SlcE,Nat.mul_one,Nat.zero_add] at h;exact h.below B6.out) (by decide) (by have:=HN.out;simp;omega) hb6 rfl _ _ rfl rfl rfl ?_;intro v8 w8 hown8 hgr8;have O8:=hide hown8;have B8:=hide (B6.out.grown hgr8 hb6 (fun q hq=>(World.ownsRow.lt O6.out q hq).1));clear hown8 hgr8))
    go_ret
    exact out_in (HN.out.trans HUL.out) HRW.out HO.out HE.out O8.out B8.out hb
  ·obtain rfl:k=n:=by omega
   have HE:=hide (putO_end hlo.out (show L.length≤k by rw [← HUL.out];exact Nat.le_refl _))
   by_cases hcn:k=lc
   ·subst hcn
    go_wp2_with (first
     | (at_builtin;refine wpList_appS SlcE 24 Tryz.infoIntSM rfl Tryz.underlying27 w.heap.size _ [] (us.take k) _ (Own.empty _ _ hbs) (((HREP.out.takeM (k:=k) (by omega)).below HBR.out).below (belowAlloc _ _)) (by decide) (by simp;omega) (by simp;omega) rfl _ _ rfl rfl rfl ?_;intro v4 w4 hown4 hgr4;obtain ⟨⟨a4,n4,c4⟩,rfl, -⟩:=hown4.toSlc;rw [List.nil_append] at hown4;have O4:=hide hown4;have B4:=hide (HBR.out.trans ((((Below.refl _ _).alloc (Nat.le_refl _) (.cells #[] 24)).grown hgr4 (by simp) (fun q hq=>by simp [Value.ownBlock] at hq;omega)).mono hbs));have hb4:=B4.out.size;clear hown4 hgr4)
     | (at_builtin;refine wpList_app SlcE 24 Tryz.infoIntSM rfl Tryz.underlying27 w.heap.size _ (us.take k) ⟨ua,un,uc⟩ (O4.out.alloc _) (by decide) (by rw [List.length_take];omega) (by simp;omega) rfl _ _ rfl rfl _ 0 1 rfl news_alloc ?_;intro v6 w6 hown6 hgr6;obtain ⟨⟨a6,n6,c6⟩,rfl, -⟩:=hown6.toSlc;have O6:=hide hown6;have B6:=hide (below_app B4.out O4.out hgr6);have hb6:=B6.out.size;clear hown6 hgr6)
     | (at_builtin;refine wpList_appS SlcE 24 Tryz.infoIntSM rfl Tryz.underlying27 w.heap.size _ (us.take k++[⟨ua,un,uc⟩]) (us.drop k) _ O6.out ((HREP.out.none (Nat.le_refl _) (Nat.zero_le _)).below B6.out) (by decide) (by have:=HN.out;simp;omega) hb6 rfl _ _ rfl rfl rfl ?_;intro v8 w8 hown8 hgr8;have O8:=hide hown8;have B8:=hide (B6.out.grown hgr8 hb6 (fun q hq=>(World.ownsRow.lt O6.out q hq).1));clear hown8 hgr8))
    go_ret
    exact out_in (HN.out.trans HUL.out) HRW.out HO.out HE.out O8.out B8.out hb
   ·go_wp2_with (first
     | (at_builtin;refine wpList_appS SlcE 24 Tryz.infoIntSM rfl Tryz.underlying27 w.heap.size _ [] (us.take k) _ (Own.empty _ _ hbs) (((HREP.out.takeM (k:=k) (by omega)).below HBR.out).below (belowAlloc _ _)) (by decide) (by simp;omega) (by simp;omega) rfl _ _ rfl rfl rfl ?_;intro v4 w4 hown4 hgr4;obtain ⟨⟨a4,n4,c4⟩,rfl, -⟩:=hown4.toSlc;rw [List.nil_append] at hown4;have O4:=hide hown4;have B4:=hide (HBR.out.trans ((((Below.refl _ _).alloc (Nat.le_refl _) (.cells #[] 24)).grown hgr4 (by simp) (fun q hq=>by simp [Value.ownBlock] at hq;omega)).mono hbs));have hb4:=B4.out.size;clear hown4 hgr4)
     | (at_builtin;refine wpList_app SlcE 24 Tryz.infoIntSM rfl Tryz.underlying27 w.heap.size _ (us.take k) ⟨ua,un,uc⟩ (O4.out.alloc _) (by decide) (by rw [List.length_take];omega) (by simp;omega) rfl _ _ rfl rfl _ 0 1 rfl news_alloc ?_;intro v6 w6 hown6 hgr6;obtain ⟨⟨a6,n6,c6⟩,rfl, -⟩:=hown6.toSlc;have O6:=hide hown6;have B6:=hide (below_app B4.out O4.out hgr6);have hb6:=B6.out.size;clear hown6 hgr6)
     | (at_builtin;refine wpList_appS SlcE 24 Tryz.infoIntSM rfl Tryz.underlying27 w.heap.size _ (us.take k++[⟨ua,un,uc⟩]) (us.drop k) _ O6.out ((HREP.out.none (Nat.le_refl _) (by omega)).below B6.out) (by decide) (by have:=HN.out;simp;omega) hb6 rfl _ _ rfl rfl rfl ?_;intro v8 w8 hown8 hgr8;have O8:=hide hown8;have B8:=hide (B6.out.grown hgr8 hb6 (fun q hq=>(World.ownsRow.lt O6.out q hq).1));clear hown8 hgr8))
    go_ret
    exact out_in (HN.out.trans HUL.out) HRW.out HO.out HE.out O8.out B8.out hb
end Go.Proofs.YtkfhgnkonaafgaaGreatDoor
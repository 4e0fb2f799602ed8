/-
  sortedOutcomes, with what becomes of the rows told. Condition: outcomes of one length, bounds on lengths.
-/
import Derived.Test.YtkfhgnkonaafgaaGreatDoorZs11
import Derived.Test.YtkfhgnkonaafgaaGreatDoorZs08
import Derived.Test.YtkfhgnkonaafgaaGreatDoorZs10
import Derived.Test.YtkfhgnkonaafgaaGreatDoorZs05
import Derived.Test.YtkfhgnkonaafgaaGreatDoorZs09
import Derived.Test.YtkfhgnkonaafgaaGreatDoorZs03
import Derived.Shelf.SlSortCmp.NoneTotal
set_option maxHeartbeats 6400000
set_option maxRecDepth 100000
namespace Go.Proofs.YtkfhgnkonaafgaaGreatDoor
open Go.RowKit
end Go.Proofs.YtkfhgnkonaafgaaGreatDoor
namespace Go.Proofs.YtkfhgnkonaafgaaGreatDoor
open Go.RowKit
end Go.Proofs.YtkfhgnkonaafgaaGreatDoor
namespace Go.Proofs.YtkfhgnkonaafgaaGreatDoor
open Go.RowKit
def rowB (xs:List Int) (t:Nat) (k:Nat):List Int:=(List.range k).map fun g=>(xs[3+3 * t+g]?).getD 0
def regsB (xs:List Int) (n:Nat):List Int:=(List.range n).flatMap fun t=>rowB xs t 3
def memB (xs:List Int) (k:Nat):List Int:=(List.range k).map fun l=>(xs[12+l]?).getD 0
def outB (xs:List Int) (n:Nat):List Int:=regsB xs n++memB xs 3
theorem rowB_succ (xs:List Int) (t k:Nat) {x:Int} (h:xs[3+3 * t+k]? = some x):rowB xs t (k+1)=rowB xs t k++[x]:=by simp [rowB,List.range_succ,h]
theorem memB_succ (xs:List Int) (k:Nat) {x:Int} (h:xs[12+k]? = some x):memB xs (k+1)=memB xs k++[x]:=by simp [memB,List.range_succ,h]
theorem regsB_succ (xs:List Int) (n:Nat):regsB xs (n+1)=regsB xs n++rowB xs n 3:=by simp [regsB,List.range_succ]
theorem rowB_length (xs:List Int) (t k:Nat):(rowB xs t k).length=k:=by simp [rowB]
theorem memB_length (xs:List Int) (k:Nat):(memB xs k).length=k:=by simp [memB]
theorem regsB_length (xs:List Int) (n:Nat):(regsB xs n).length=3 * n:=by
 induction n with
 | zero=>rfl
 | succ n ih=>rw [regsB_succ,List.length_append,ih,rowB_length];omega
structure VB (w:World) (vb:Nat) (ps:Slc) (xs:List Int):Prop where
 p0:w.cell? ⟨vb,0,none⟩=some (.slice ps.a ps.n ps.cap)
 cs:∀ (i:Nat) (x:Int),xs[i]? = some x→w.cell? ⟨vb,1+i,none⟩=some (.int .u8 x)
theorem Tryz.index3_0 (x0 x1 x2:Int) (w:World):(Instr.index 112 (.agg #[.int .u8 x0, .int .u8 x1, .int .u8 x2]) (.int .i64 0)).run Tryz.prog w = .ok (.int .u8 x0) w:=by kernel_rfl
theorem Tryz.index3_1 (x0 x1 x2:Int) (w:World):(Instr.index 112 (.agg #[.int .u8 x0, .int .u8 x1, .int .u8 x2]) (.int .i64 1)).run Tryz.prog w = .ok (.int .u8 x1) w:=by kernel_rfl
theorem Tryz.index3_2 (x0 x1 x2:Int) (w:World):(Instr.index 112 (.agg #[.int .u8 x0, .int .u8 x1, .int .u8 x2]) (.int .i64 2)).run Tryz.prog w = .ok (.int .u8 x2) w:=by kernel_rfl
theorem outcome_any (vb:Nat) (ps:Slc) (xs:List Int) (w:World) (hv:VB w vb ps xs) (hl:xs.length=15) (hb:∀ x∈xs,0≤x∧x≤255) (hn:ps.n≤3) :
 Calls Tryz.prog 81 #[.pointer (some ⟨vb,0,none⟩)] w (RetOwn IntE 3 w (outB xs ps.n)):=by
 obtain ⟨pa,n,pc⟩:=ps
 simp only at hn
 have HV:=hide hv
 have HRS:=hide (fun t k x h=>rowB_succ xs t k (x:=x) h)
 have HMS:=hide (fun k x h=>memB_succ xs k (x:=x) h)
 have HRG:=hide (regsB_succ xs)
 have HRL:=hide (rowB_length xs);have HML:=hide (memB_length xs);have HGL:=hide (regsB_length xs)
 have HO:Hid (outB xs n=regsB xs n++memB xs 3):=hide rfl
 have hget:∀ i,i < 15→∃ x:Int,xs[i]? = some x∧0≤x∧x≤255:=fun i h=>by
  obtain ⟨x,hx⟩:=get_of_lt (xs:=xs) (k:=i) (by omega)
  exact ⟨x,hx,hb x (List.mem_of_getElem? hx)⟩
 have HGET:=hide hget
 clear hget
 have p0:=hv.p0
 have pl:=lt_of_cell p0
 have hn3:(n:Int)≤3:=by omega
 clear hb hl hv
 go_enter Tryz.func81,Tryz.ntmps81
 go_wp2_with fail
 clear p0
 go_loopw [3,14] (fun s i wr => ∃ t:Nat,t≤n∧i = .int .i64 t∧OwnN wr w.heap.size s (regsB xs t)∧Below w.heap.size w wr) (fun _ i _=>n - (intOf i).toNat)
 case atStart=>exact ⟨0,Nat.zero_le _,rfl,Own.nil _ _ _,Below.refl _ _⟩
 case round =>
  obtain ⟨t,ht,rfl,hown,hbr⟩:=hrel
  by_cases hlt:t < n
  ·obtain ⟨x0,h0,b0,b0'⟩:=HGET.out (3+3 * t+0) (by omega)
   obtain ⟨x1,h1,b1,b1'⟩:=HGET.out (3+3 * t+1) (by omega)
   obtain ⟨x2,h2,b2,b2'⟩:=HGET.out (3+3 * t+2) (by omega)
   have hlt':=nat_of_lt hlt
   have hlt3:(t:Int) < 3:=by omega
   have e0:=(hbr.cell (p:=⟨vb,1+(3+3 * t+0),none⟩) pl).trans (HV.out.cs _ _ h0)
   have e1:=(hbr.cell (p:=⟨vb,1+(3+3 * t+1),none⟩) pl).trans (HV.out.cs _ _ h1)
   have e2:=(hbr.cell (p:=⟨vb,1+(3+3 * t+2),none⟩) pl).trans (HV.out.cs _ _ h2)
   rw [show 1+(3+3 * t+0)=4+t * 3 by omega] at e0
   rw [show 1+(3+3 * t+1)=4+t * 3+1 by omega] at e1
   rw [show 1+(3+3 * t+2)=4+t * 3+2 by omega] at e2
   have pl':vb < wr.heap.size:=Nat.lt_of_lt_of_le pl hbr.size
   have S0:=hide (HRS.out t 0 x0 h0);have S1:=hide (HRS.out t 1 x1 h1);have S2:=hide (HRS.out t 2 x2 h2)
   have R0:Hid (rowB xs t 0=[]):=hide rfl
   have GS:=hide (HRG.out t)
   have gl:=HGL.out t
   generalize hG:regsB xs t=G at *
   clear hG h0 h1 h2
   have HOW:=hide hown;have HBR:=hide hbr
   clear hown hbr
   go_wp2_with fail
   go_loopw [3,23] (fun s i wr => ∃ g:Nat,g≤3∧i = .int .i64 g∧OwnN wr w.heap.size s (G++rowB xs t g)∧Below w.heap.size w wr) (fun _ i _=>3 - (intOf i).toNat)
   case atStart=>exact ⟨0,by omega,rfl,by rw [R0.out,List.append_nil];exact HOW.out,HBR.out⟩
   case round =>
    obtain ⟨g,hg,rfl,hown,hb2⟩:=hrel
    have hlen:(G++rowB xs t g).length≤68719476736:=by rw [List.length_append,HRL.out];omega
    clear e0 e1 e2
    have hcs:g=0∨g=1∨g=2∨g=3:=by omega
    rcases hcs with rfl | rfl | rfl | rfl
    ·have hix:=Tryz.index3_0 x0 x1 x2
     generalize hrw:rowB xs t 0=RW at *
     have S2':Hid (G++rowB xs t (0+1)=(G++RW)++[x0]):=hide (by rw [S0.out,List.append_assoc])
     clear hrw
     go_wp2_with (at_builtin;refine wpList_app IntE 3 Tryz.infoInt rfl Tryz.underlying24 w.heap.size _ (G++RW) x0 (hown.alloc _) (by decide) hlen (by simp;have:=hb2.size;omega) rfl _ _ rfl rfl _ 0 1 rfl (news_allocV (by simp)) ?_;intro v' w3 hown3 hgr3)
     have hb3:=below_app hb2 hown hgr3
     go_roundw
     case rel=>exact ⟨0+1,by omega,by go_num,by rw [S2'.out];exact hown3,hb3⟩
     case measure=>first | (simp [intOf];done) | (simp [intOf];omega)
    ·have hix:=Tryz.index3_1 x0 x1 x2
     generalize hrw:rowB xs t 1=RW at *
     have S2':Hid (G++rowB xs t (1+1)=(G++RW)++[x1]):=hide (by rw [S1.out,List.append_assoc])
     clear hrw
     go_wp2_with (at_builtin;refine wpList_app IntE 3 Tryz.infoInt rfl Tryz.underlying24 w.heap.size _ (G++RW) x1 (hown.alloc _) (by decide) hlen (by simp;have:=hb2.size;omega) rfl _ _ rfl rfl _ 0 1 rfl (news_allocV (by simp)) ?_;intro v' w3 hown3 hgr3)
     have hb3:=below_app hb2 hown hgr3
     go_roundw
     case rel=>exact ⟨1+1,by omega,by go_num,by rw [S2'.out];exact hown3,hb3⟩
     case measure=>first | (simp [intOf];done) | (simp [intOf];omega)
    ·have hix:=Tryz.index3_2 x0 x1 x2
     generalize hrw:rowB xs t 2=RW at *
     have S2':Hid (G++rowB xs t (2+1)=(G++RW)++[x2]):=hide (by rw [S2.out,List.append_assoc])
     clear hrw
     go_wp2_with (at_builtin;refine wpList_app IntE 3 Tryz.infoInt rfl Tryz.underlying24 w.heap.size _ (G++RW) x2 (hown.alloc _) (by decide) hlen (by simp;have:=hb2.size;omega) rfl _ _ rfl rfl _ 0 1 rfl (news_allocV (by simp)) ?_;intro v' w3 hown3 hgr3)
     have hb3:=below_app hb2 hown hgr3
     go_roundw
     case rel=>exact ⟨2+1,by omega,by go_num,by rw [S2'.out];exact hown3,hb3⟩
     case measure=>first | (simp [intOf];done) | (simp [intOf];omega)
    ·have GS2:=GS
     go_wp2_with fail
     go_roundw
     case rel=>exact ⟨t+1,by omega,by go_num,by rw [GS2.out];exact hown,hb2⟩
     case measure=>first | (simp [intOf];done) | (simp [intOf];omega)
  ·obtain rfl:t=n:=by omega
   have gl:=HGL.out t
   generalize hG:regsB xs t=G at *
   clear hG
   obtain ⟨x0,h0,b0,b0'⟩:=HGET.out (12+0) (by omega)
   obtain ⟨x1,h1,b1,b1'⟩:=HGET.out (12+1) (by omega)
   obtain ⟨x2,h2,b2,b2'⟩:=HGET.out (12+2) (by omega)
   have e0:=(hbr.cell (p:=⟨vb,1+(12+0),none⟩) pl).trans (HV.out.cs _ _ h0)
   have e1:=(hbr.cell (p:=⟨vb,1+(12+1),none⟩) pl).trans (HV.out.cs _ _ h1)
   have e2:=(hbr.cell (p:=⟨vb,1+(12+2),none⟩) pl).trans (HV.out.cs _ _ h2)
   simp only [Nat.reduceAdd] at e0 e1 e2
   have pl':vb < wr.heap.size:=Nat.lt_of_lt_of_le pl hbr.size
   have S0:=hide (HMS.out 0 x0 h0);have S1:=hide (HMS.out 1 x1 h1);have S2:=hide (HMS.out 2 x2 h2)
   have R0:Hid (memB xs 0=[]):=hide rfl
   clear h0 h1 h2
   have HOW:=hide hown;have HBR:=hide hbr
   clear hown hbr
   go_wp2_with fail
   go_loopw [3,37] (fun s i wr => ∃ g:Nat,g≤3∧i = .int .i64 g∧OwnN wr w.heap.size s (G++memB xs g)∧Below w.heap.size w wr) (fun _ i _=>3 - (intOf i).toNat)
   case atStart=>exact ⟨0,by omega,rfl,by rw [R0.out,List.append_nil];exact HOW.out,HBR.out⟩
   case round =>
    obtain ⟨g,hg,rfl,hown,hb2⟩:=hrel
    have hlen:(G++memB xs g).length≤68719476736:=by rw [List.length_append,HML.out];omega
    clear e0 e1 e2
    have hcs:g=0∨g=1∨g=2∨g=3:=by omega
    rcases hcs with rfl | rfl | rfl | rfl
    ·have hix:=Tryz.index3_0 x0 x1 x2
     generalize hrw:memB xs 0=RW at *
     have S2':Hid (G++memB xs (0+1)=(G++RW)++[x0]):=hide (by rw [S0.out,List.append_assoc])
     clear hrw
     go_wp2_with (at_builtin;refine wpList_app IntE 3 Tryz.infoInt rfl Tryz.underlying24 w.heap.size _ (G++RW) x0 (hown.alloc _) (by decide) hlen (by simp;have:=hb2.size;omega) rfl _ _ rfl rfl _ 0 1 rfl (news_allocV (by simp)) ?_;intro v' w3 hown3 hgr3)
     have hb3:=below_app hb2 hown hgr3
     go_roundw
     case rel=>exact ⟨0+1,by omega,by go_num,by rw [S2'.out];exact hown3,hb3⟩
     case measure=>first | (simp [intOf];done) | (simp [intOf];omega)
    ·have hix:=Tryz.index3_1 x0 x1 x2
     generalize hrw:memB xs 1=RW at *
     have S2':Hid (G++memB xs (1+1)=(G++RW)++[x1]):=hide (by rw [S1.out,List.append_assoc])
     clear hrw
     go_wp2_with (at_builtin;refine wpList_app IntE 3 Tryz.infoInt rfl Tryz.underlying24 w.heap.size _ (G++RW) x1 (hown.alloc _) (by decide) hlen (by simp;have:=hb2.size;omega) rfl _ _ rfl rfl _ 0 1 rfl (news_allocV (by simp)) ?_;intro v' w3 hown3 hgr3)
     have hb3:=below_app hb2 hown hgr3
     go_roundw
     case rel=>exact ⟨1+1,by omega,by go_num,by rw [S2'.out];exact hown3,hb3⟩
     case measure=>first | (simp [intOf];done) | (simp [intOf];omega)
    ·have hix:=Tryz.index3_2 x0 x1 x2
     generalize hrw:memB xs 2=RW at *
     have S2':Hid (G++memB xs (2+1)=(G++RW)++[x2]):=hide (by rw [S2.out,List.append_assoc])
     clear hrw
     go_wp2_with (at_builtin;refine wpList_app IntE 3 Tryz.infoInt rfl Tryz.underlying24 w.heap.size _ (G++RW) x2 (hown.alloc _) (by decide) hlen (by simp;have:=hb2.size;omega) rfl _ _ rfl rfl _ 0 1 rfl (news_allocV (by simp)) ?_;intro v' w3 hown3 hgr3)
     have hb3:=below_app hb2 hown hgr3
     go_roundw
     case rel=>exact ⟨2+1,by omega,by go_num,by rw [S2'.out];exact hown3,hb3⟩
     case measure=>first | (simp [intOf];done) | (simp [intOf];omega)
    ·go_wp2_with fail
     go_ret
     rw [HO.out]
     exact ⟨_,rfl,hown,hb2⟩
end Go.Proofs.YtkfhgnkonaafgaaGreatDoor
namespace Go.Proofs.YtkfhgnkonaafgaaGreatDoor
def hitA (p:List (List Ins)) (t g:Nat) (e:Ev):Bool:=(e.t==(t:Int))&&(e.r&&((insE p e).reg==(g:Int)))
def lastA (p:List (List Ins)) (es:List Ev) (t g:Nat) (k:Nat):Int:=(List.range k).foldl (fun (a:Int) (i:Nat)=>match es[i]? with
 | some e=>if hitA p t g e=true then (i:Int) else a
 | none=>a) (-1)
theorem lastA_succ (p:List (List Ins)) {es:List Ev} (t g:Nat) {k:Nat} {e:Ev} (h:es[k]? = some e):lastA p es t g (k+1)=if hitA p t g e=true then (k:Int) else lastA p es t g k:=by
 unfold lastA
 rw [List.range_succ,List.foldl_append]
 simp [h]
def regsK (p:List (List Ins)) (es:List Ev) (fr vals:List Int) (k:Nat) (i:Nat):Int:=if 3≤i∧i < 12 then regOf fr vals (lastA p es ((i - 3) / 3) ((i - 3) % 3) k) else 0
def bytesK (p:List (List Ins)) (es:List Ev) (fr vals:List Int) (k:Nat):List Int:=(List.range 15).map (regsK p es fr vals k)
theorem bytesK_length (p:List (List Ins)) (es:List Ev) (fr vals:List Int) (k:Nat):(bytesK p es fr vals k).length=15:=by simp [bytesK]
theorem bytesK_zero (p:List (List Ins)) (es:List Ev) (fr vals:List Int):bytesK p es fr vals 0=List.replicate 15 0:=by
 have h:∀ i,regsK p es fr vals 0 i=0:=fun i=>by
  unfold regsK
  split
  ·simp [lastA,regOf]
  ·rfl
 apply List.ext_getElem?
 intro i
 by_cases hi:i < 15
 ·rw [List.getElem?_replicate,if_pos hi]
  simp [bytesK,hi,h]
 ·rw [List.getElem?_eq_none (by rw [bytesK_length];omega),List.getElem?_eq_none (by simp;omega)]
theorem bytesK_skip {p:List (List Ins)} {es:List Ev} (fr vals:List Int) {k:Nat} {e:Ev} (h:es[k]? = some e) (hr:e.r=false):bytesK p es fr vals (k+1)=bytesK p es fr vals k:=by
 unfold bytesK
 apply List.map_congr_left
 intro i _
 unfold regsK
 by_cases hc:3≤i∧i < 12
 ·rw [if_pos hc,if_pos hc,lastA_succ p _ _ h,if_neg (by simp [hitA,hr])]
 ·rw [if_neg hc,if_neg hc]
theorem bytesK_read {p:List (List Ins)} {es:List Ev} (fr vals:List Int) {k t g:Nat} {e:Ev} (h:es[k]? = some e) (hr:e.r=true) (ht:e.t=t) (hg:(insE p e).reg=g) (ht3:t < 3) (hg3:g < 3) :
 bytesK p es fr vals (k+1)=(bytesK p es fr vals k).set (3+3 * t+g) (valAt vals (frAt fr k)):=by
 apply List.ext_getElem?
 intro i
 rw [List.getElem?_set]
 by_cases hi:i < 15
 ·have e1:∀ q,(bytesK p es fr vals q)[i]? = some (regsK p es fr vals q i):=fun q=>by simp [bytesK,hi]
  rw [e1,e1]
  unfold regsK
  by_cases hc:3≤i∧i < 12
  ·rw [if_pos hc,if_pos hc,lastA_succ p _ _ h]
   by_cases he:3+3 * t+g=i
   ·have h1:(i - 3) / 3=t:=by omega
    have h2:(i - 3) % 3=g:=by omega
    have h3:hitA p ((i - 3) / 3) ((i - 3) % 3) e=true:=by rw [h1,h2];simp [hitA,hr,ht,hg]
    have h4:3+3 * t+g < (bytesK p es fr vals k).length:=by rw [bytesK_length];omega
    rw [if_pos he,if_pos h3,if_pos h4]
    unfold regOf
    rw [if_neg (by omega)]
   ·rw [if_neg he,if_neg (by
     simp only [hitA,hr,ht,hg,Bool.true_and,Bool.and_eq_true,beq_iff_eq]
     rintro ⟨h1,h2⟩
     omega)]
  ·rw [if_neg hc,if_neg hc,if_neg (by omega)]
 ·rw [List.getElem?_eq_none (by rw [bytesK_length];omega)]
  split
  ·rw [if_neg (by rw [bytesK_length];omega)]
  ·rw [List.getElem?_eq_none (by rw [bytesK_length];omega)]
theorem hit_eq {p:List (List Ins)} {t:Nat} {r:List Ins} (hr:p[t]? = some r) {k:Nat} {e:Ev} (h:(evAll p)[k]? = some e) (g:Nat):hitR p t r.length g e=hitA p t g e:=by
 unfold hitR hitA
 by_cases ht:e.t=(t:Int)
 ·have hi:e.i < (r.length:Int):=by
   rcases ev_cases h with h1 | ⟨t',i',r',h1,h2,h3,h4, -⟩
   ·omega
   ·have e1:t'=t:=by omega
    subst e1
    rw [hr] at h3;simp at h3;subst h3
    have:=(List.getElem?_eq_some_iff.1 h4).1
    omega
  simp [hi]
 ·have:(e.t==(t:Int))=false:=by simp [ht]
  rw [this];rfl
theorem last_eq {p:List (List Ins)} {t:Nat} {r:List Ins} (hr:p[t]? = some r) (g:Nat):∀ k,k≤(evAll p).length→lastTo p (evAll p) t r.length g k=lastA p (evAll p) t g k:=by
 intro k
 induction k with
 | zero=>intro _;rfl
 | succ k ih =>
  intro hk
  obtain ⟨e,he⟩:=get_of_lt (xs:=evAll p) (k:=k) hk
  rw [lastTo_succ p _ _ _ he,lastA_succ p _ _ he,hit_eq hr he,ih (by omega)]
def bytesM (p:List (List Ins)) (es:List Ev) (x:Xc) (vals:List Int) (k i:Nat):Int:=if 12≤i∧i < 12+k then memV x.od vals (i - 12) else regsK p es x.fr vals es.length i
def finB (p:List (List Ins)) (es:List Ev) (x:Xc) (vals:List Int) (k:Nat):List Int:=(List.range 15).map (bytesM p es x vals k)
theorem finB_length (p:List (List Ins)) (es:List Ev) (x:Xc) (vals:List Int) (k:Nat):(finB p es x vals k).length=15:=by simp [finB]
theorem finB_get (p:List (List Ins)) (es:List Ev) (x:Xc) (vals:List Int) (k:Nat) {i:Nat} (hi:i < 15):(finB p es x vals k)[i]? = some (bytesM p es x vals k i):=by simp [finB,hi]
theorem finB_zero (p:List (List Ins)) (es:List Ev) (x:Xc) (vals:List Int):finB p es x vals 0=bytesK p es x.fr vals es.length:=by
 unfold finB bytesK
 apply List.map_congr_left
 intro i _
 unfold bytesM
 rw [if_neg (by omega)]
theorem finB_succ (p:List (List Ins)) (es:List Ev) (x:Xc) (vals:List Int) {k:Nat} (hk:k < 3):finB p es x vals (k+1)=(finB p es x vals k).set (12+k) (memV x.od vals k):=by
 apply List.ext_getElem?
 intro i
 rw [List.getElem?_set]
 by_cases hi:i < 15
 ·rw [finB_get _ _ _ _ _ hi,finB_get _ _ _ _ _ hi]
  unfold bytesM
  by_cases he:12+k=i
  ·have h4:12+k < (finB p es x vals k).length:=by rw [finB_length];omega
   rw [if_pos he,if_pos h4,if_pos (by omega)]
   congr 2;omega
  ·rw [if_neg he]
   by_cases hc:12≤i∧i < 12+k
   ·rw [if_pos hc,if_pos (by omega)]
   ·rw [if_neg hc,if_neg (by omega)]
 ·rw [List.getElem?_eq_none (by rw [finB_length];omega)]
  split
  ·rw [if_neg (by rw [finB_length];omega)]
  ·rw [List.getElem?_eq_none (by rw [finB_length];omega)]
theorem wrL_pos0 {p:List (List Ins)} {l:Nat} (hl:l < 3):0 < (wrL (evAll p) l).length:=by
 have:=head_wrL (p:=p) hl
 cases h:wrL (evAll p) l with
 | nil=>rw [h] at this;cases this
 | cons x xs=>simp
theorem okTo_get {es:List Ev} {c:Nat→Option Int} {j:Nat} {e:Ev} (h:okTo es c es.length=true) (hj:es[j]? = some e) (hw:e.w=true):∃ v,c j=some v:=by
 cases hc:c j with
 | some v=>exact ⟨v,rfl⟩
 | none=>rw [okTo_no c hj hw hc] at h;cases h
theorem val_write {p:List (List Ins)} {x:Xc} (hok:execOk p x=true) (hv:valsOk p x.fr=true) {j:Nat} {e:Ev} (hj:(evAll p)[j]? = some e) (hw:e.w=true):∃ v,(valsL p x.fr)[j]? = some v∧0≤v∧v≤3:=by
 obtain ⟨v,hc⟩:=okTo_get hv hj hw
 unfold execOk at hok
 simp only [Bool.and_eq_true] at hok
 refine ⟨v, ?_,chain_val (fun i v h=>dep_val hok.1 h) hc⟩
 unfold valsL
 rw [valTo_get _ (List.getElem?_eq_some_iff.1 hj).1 (Nat.le_refl _) hj,val1,if_pos hw,hc];rfl
theorem val_read {p:List (List Ins)} {x:Xc} (hok:execOk p x=true) (hv:valsOk p x.fr=true) {k:Nat} {e:Ev} (hk:(evAll p)[k]? = some e) (hr:e.r=true):∃ (j:Nat) (v:Int),x.fr[k]? = some (j:Int)∧(valsL p x.fr)[j]? = some v∧0≤v∧v≤3:=by
 have hok2:=hok
 unfold execOk at hok2
 simp only [Bool.and_eq_true] at hok2
 obtain ⟨j,e',h1,h2,h3, -⟩:=from_write hok2.2.2.2.1 hk hr
 obtain ⟨v,h4,h5⟩:=val_write hok hv h2 h3
 exact ⟨j,v,h1,h4,h5⟩
theorem val_order {p:List (List Ins)} {x:Xc} (hok:execOk p x=true) (hv:valsOk p x.fr=true) {l:Nat} (hl:l < 3):∃ (o:List Int) (j:Nat) (v:Int),x.od[l]? = some o∧0 < o.length∧o[o.length - 1]? = some (j:Int)∧(valsL p x.fr)[j]? = some v∧0≤v∧v≤3:=by
 have hok2:=hok
 unfold execOk at hok2
 simp only [Bool.and_eq_true] at hok2
 obtain ⟨o,h1,h2⟩:=ordersOk_get hok2.2.2.2.2 hl
 unfold orderOk at h2
 simp only [Bool.and_eq_true,decide_eq_true_eq] at h2
 have h0:0 < o.length:=by rw [h2.1.length_eq];exact wrL_pos0 hl
 obtain ⟨y,hy⟩:=get_of_lt (xs:=o) (k:=o.length - 1) (by omega)
 obtain ⟨j,e', -,rfl,h5,h6, -⟩:=mem_wrL.1 (h2.1.mem_iff.1 (List.mem_of_getElem? hy))
 obtain ⟨v,h7,h8⟩:=val_write hok hv h5 h6
 exact ⟨o,j,v,h1,h0,hy,h7,h8⟩
theorem lastA_cases (p:List (List Ins)) (es:List Ev) (t g:Nat):∀ k,k≤es.length→lastA p es t g k = -1∨∃ (i:Nat) (e:Ev),lastA p es t g k=i∧es[i]? = some e∧e.r=true:=by
 intro k
 induction k with
 | zero=>intro _;exact .inl rfl
 | succ k ih =>
  intro hk
  obtain ⟨e,he⟩:=get_of_lt (xs:=es) (k:=k) hk
  rw [lastA_succ p t g he]
  by_cases hh:hitA p t g e=true
  ·rw [if_pos hh]
   refine .inr ⟨k,e,rfl,he, ?_⟩
   unfold hitA at hh
   simp only [Bool.and_eq_true] at hh
   exact hh.2.1
  ·rw [if_neg hh];exact ih (by omega)
theorem memV_eq {od:List (List Int)} {vals:List Int} {l:Nat} {o:List Int} {j:Nat} {v:Int} (h1:od[l]? = some o) (h2:o[o.length - 1]? = some (j:Int)) (h3:vals[j]? = some v):memV od vals l=v:=by
 unfold memV lastO valAt
 rw [h1,Option.getD_some,List.getLast?_eq_getElem?,h2]
 simp [h3]
theorem valAt_eq {fr vals:List Int} {k j:Nat} {v:Int} (h1:fr[k]? = some (j:Int)) (h2:vals[j]? = some v):valAt vals (frAt fr (k:Int))=v:=by
 unfold valAt frAt
 simp [h1,h2]
theorem regs_bound {p:List (List Ins)} {x:Xc} (hok:execOk p x=true) (hv:valsOk p x.fr=true) (i:Nat) {k:Nat} (hk:k≤(evAll p).length):0≤regsK p (evAll p) x.fr (valsL p x.fr) k i∧regsK p (evAll p) x.fr (valsL p x.fr) k i≤3:=by
 unfold regsK
 split
 ·rcases lastA_cases p (evAll p) ((i - 3) / 3) ((i - 3) % 3) k hk with h | ⟨r,e,h1,h2,h3⟩
  ·rw [h];simp [regOf]
  ·obtain ⟨j,v,h4,h5,h6⟩:=val_read hok hv h2 h3
   unfold regOf
   rw [h1,if_neg (by omega),valAt_eq h4 h5];exact h6
 ·omega
theorem finB_bound {p:List (List Ins)} {x:Xc} (hok:execOk p x=true) (hv:valsOk p x.fr=true) {k:Nat} (hk:k≤3):∀ y∈finB p (evAll p) x (valsL p x.fr) k,0≤y∧y≤3:=by
 intro y hy
 unfold finB at hy
 rw [List.mem_map] at hy
 obtain ⟨i, -,rfl⟩:=hy
 unfold bytesM
 split
 ·rename_i h
  obtain ⟨o,j,v,h1, -,h2,h3,h4⟩:=val_order hok hv (l:=i - 12) (by omega)
  rw [memV_eq h1 h2 h3];exact h4
 ·exact regs_bound hok hv i (Nat.le_refl _)
theorem outB_eq {p:List (List Ins)} (x:Xc) (vals:List Int) (hp:p.length≤3):outB (finB p (evAll p) x vals 3) p.length=outL p (evAll p) x vals:=by
 have hrow:∀ (t:Nat) (r:List Ins),p[t]? = some r→rowB (finB p (evAll p) x vals 3) t 3=outRow p (evAll p) x.fr vals t r.length 3:=by
  intro t r hr
  have ht:t < 3:=by have:=(List.getElem?_eq_some_iff.1 hr).1;omega
  unfold rowB outRow
  apply List.map_congr_left
  intro g hg
  have hg3:g < 3:=List.mem_range.1 hg
  rw [finB_get _ _ _ _ _ (by omega),Option.getD_some]
  unfold bytesM
  rw [if_neg (by omega)]
  unfold regsK
  rw [if_pos (by omega),show (3+3 * t+g - 3) / 3=t by omega,show (3+3 * t+g - 3) % 3=g by omega]
  unfold regV lastRd
  rw [last_eq hr g _ (Nat.le_refl _)]
 have hregs:∀ n,n≤p.length→regsB (finB p (evAll p) x vals 3) n=outTo p (evAll p) x.fr vals n:=by
  intro n
  induction n with
  | zero=>intro _;rfl
  | succ n ih =>
   intro hn
   obtain ⟨r,hr⟩:=get_of_lt (xs:=p) (k:=n) hn
   rw [regsB_succ,outTo_succ _ _ _ hr,ih (by omega),hrow n r hr]
 have hmem:memB (finB p (evAll p) x vals 3) 3=outMem x.od vals 3:=by
  unfold memB outMem
  apply List.map_congr_left
  intro l hl
  have hl3:l < 3:=List.mem_range.1 hl
  rw [finB_get _ _ _ _ _ (by omega),Option.getD_some]
  unfold bytesM
  rw [if_pos (by omega),show 12+l - 12=l by omega]
 unfold outB outL
 rw [hregs _ (Nat.le_refl _),hmem]
end Go.Proofs.YtkfhgnkonaafgaaGreatDoor
namespace Go.Proofs.YtkfhgnkonaafgaaGreatDoor
open Go.RowKit
theorem take_put {α:Type} [Inhabited α] (enc:α→Value) (d:Array α) (cur:Array Value) (h:d.size≤cur.size):(Sort.putCells enc 0 d cur).toList.take d.size=d.toList.map enc:=by
 apply List.ext_getElem?
 intro k
 rw [List.getElem?_take]
 by_cases hk:k < d.size
 ·rw [if_pos hk]
  have h1:k < cur.size:=by omega
  simp [Sort.putCells,hk,h1]
 ·rw [if_neg hk,List.getElem?_eq_none (by simpa using hk)]
theorem pairs_flat (l:List (Slc × List Int)):l.flatMap PrE.c=l.map fun x=>x.1.v:=by
 induction l with
 | nil=>rfl
 | cons x l ih=>rw [List.flatMap_cons,ih];rfl
theorem SortF_any (base g c0 n:Nat) (l:List (Slc × List Int)) (w:World) (ho:Own PrE 24 w base (.slice (some ⟨g,0,none⟩) l.length c0) l) (hr:∀ x∈l,Own IntE 3 w base x.1.v x.2) (hn:∀ x∈l,x.2.length=n) (hl:l.length≤68719476736) :
 Calls Tryz.prog 85 #[.slice (some ⟨g,0,none⟩) l.length c0, .func (.func 86) #[] #[]] w fun e w'=>e = .returned (.tuple #[]) ∧
  ∃ l':List (Slc × List Int),l'.Perm l∧Own PrE 24 w' base (.slice (some ⟨g,0,none⟩) l.length c0) l'∧(l'.Pairwise fun a b=>lexO a.2 b.2≠1)∧(∀ x∈l',Own IntE 3 w' base x.1.v x.2)∧KpT [24] base w w':=by
 obtain ⟨cur,hcur⟩:=ho.typeT (g:=g) rfl
 have hgl:=World.ownsRow.lt ho g rfl
 obtain ⟨D,hD1,hD2⟩:=mkOE (F:=fun x:OE w g=>x.u) (G:=fun x:OE w g=>x.o) (us:=l.map Prod.fst) (outs:=l.map Prod.snd) (by simp) fun i u o hu ho'=>by
  rw [List.getElem?_map] at hu ho'
  cases hx:l[i]? with
  | none=>rw [hx] at hu;simp at hu
  | some x =>
   rw [hx] at hu ho'
   simp only [Option.map_some,Option.some.injEq] at hu ho'
   subst hu;subst ho'
   have hrow:=hr x (List.mem_of_getElem? hx)
   refine ⟨⟨x.1,x.2,fun W hW=>(hrow.sameT fun q hq => ?_).rep⟩,rfl,rfl⟩
   refine hW q (World.ownsRow.lt hrow q hq).2 fun e => ?_
   obtain ⟨a,ha⟩:=hrow.typeT hq
   rw [e,hcur] at ha
   simp at ha
 have hlen:D.length=l.length:=by simpa using congrArg List.length hD1
 have hpair:D.map (fun x=>(x.u,x.o))=l:=by
  apply List.ext_getElem?
  intro k
  have h1:=congrArg (fun t:List Slc=>t[k]?) hD1
  have h2:=congrArg (fun t:List (List Int)=>t[k]?) hD2
  simp only [List.getElem?_map] at h1 h2 ⊢
  cases hd:D[k]? with
  | none=>rw [hd] at h1;cases hx:l[k]? with
   | none=>rfl
   | some x=>rw [hx] at h1;simp at h1
  | some y =>
   rw [hd] at h1 h2
   cases hx:l[k]? with
   | none=>rw [hx] at h1;simp at h1
   | some x =>
    rw [hx] at h1 h2
    simp only [Option.map_some,Option.some.injEq] at h1 h2 ⊢
    rw [h1,h2]
 have hsz:D.toArray.size=l.length:=by simpa using hlen
 have hH:Sort.Holds (fun x:OE w g=>x.u.v) w g 0 D.toArray:=fun j hj=>by
  have hj2:j < l.length:=by omega
  obtain ⟨x,hx⟩:=get_of_lt (xs:=l) (k:=j) hj2
  have hc:=ho.cell hx (j:=0) rfl
  simp only [PrE,Nat.mul_one,Nat.add_zero] at hc
  have hfz:=ho.frozen j
  rw [Nat.zero_add]
  refine ⟨?_,hfz⟩
  rw [hc]
  have h1:=congrArg (fun t:List Slc=>t[j]?) hD1
  simp only [List.getElem?_map,hx,Option.map_some] at h1
  have hjd:j < D.length:=by simpa using hj
  rw [List.getElem?_eq_getElem hjd] at h1
  simp only [Option.map_some,Option.some.injEq] at h1
  simp [hjd,h1]
 have hcmp:CmpLays1 Tryz.prog 86 #[] (fun x:OE w g=>x.u.v) (fun x y=>cmpL x.o y.o) g 0 D.toArray.size w:=fun m os dk _ x y=>by
  refine (Compare_any x.u.v y.u.v x.o y.o _ (x.h _ fun k hk hg=>sortW_block k hk hg) (y.h _ fun k hk hg=>sortW_block k hk hg)).mono ?_
  rintro e w' ⟨rfl,rfl⟩
  exact ⟨rfl,0,#[],by rw [Sort.grow_empty];rfl⟩
 have h:=Any.slices_SortFunc Tryz.laysSF (fun x:OE w g=>x.u.v) (fun _=>rfl) (fun x y=>cmpL x.o y.o) (swoO w g) 86 #[] g 0 c0 D.toArray w (fun _ _=>by kernel_rfl) hcmp hH hgl.2 (by omega)
 rw [hsz] at h
 refine Calls.mono h ?_
 rintro e w' ⟨rfl,d',q,os,hp,hso,rfl⟩
 obtain ⟨hp1, -,hp3⟩:=hp
 have hd's:d'.size=l.length:=by rw [hp1,hsz]
 have hperm:d'.toList.Perm D:=by
  have e1:(d'.extract 0 l.length).toList=d'.toList:=by rw [← hd's];simp
  have e2:(D.toArray.extract 0 l.length).toList=D:=by rw [← hsz];simp
  rw [e1,e2] at hp3
  exact hp3
 have hk:=sortW_kp (enc:=fun x:OE w g=>x.u.v) (m:=q) (d:=d') (os:=os) hcur hgl.1
 have hlp:(d'.toList.map fun x=>(x.u,x.o)).Perm l:=by
  have:=hperm.map fun x:OE w g=>(x.u,x.o)
  rwa [hpair] at this
 refine ⟨rfl,d'.toList.map fun x=>(x.u,x.o),hlp, ?_, ?_,fun x hx=>rows_kp (fun x hx=>hr x hx) hk x (hlp.mem_iff.1 hx),hk⟩
 ·have hcs:l.length≤cur.size∧l.length≤c0∧c0≤maxLen∧cur.size=c0:=by
   rcases ho.2 with ⟨e,_⟩ | ⟨g',cap',cur',e,_,h3,h4,h5,h6,_⟩
   ·simp at e
   ·simp only [Value.slice.injEq,Option.some.injEq,Addr.mk.injEq] at e
    obtain ⟨⟨rfl, -, -⟩, -,rfl⟩:=e
    rw [hcur] at h3
    simp only [Option.some.injEq,Obj.cells.injEq,and_true] at h3
    subst h3
    simp only [PrE,Nat.mul_one] at h6
    exact ⟨by omega,h4,h5,h6⟩
  refine ⟨?_, .inr ⟨g,c0,_, ?_,hgl.1,sortW_at hcur, ?_,hcs.2.2.1, ?_, ?_⟩⟩
  ·rw [pairs_flat];simp [PrE]
  ·simp [hd's]
  ·simp [hd's];exact hcs.2.1
  ·simp [Sort.putCells,PrE];exact hcs.2.2.2
  ·rw [pairs_flat]
   have:=take_put (fun x:OE w g=>x.u.v) d' cur (by omega)
   simpa [PrE,Function.comp_def] using this
 ·rw [List.pairwise_map,List.pairwise_iff_getElem]
  intro i j hi hj hij hlex
  have h1:=hso i j (Nat.zero_le _) hij (by rw [← hd's];simpa using hj)
  simp only [ltOf,decide_eq_false_iff_not] at h1
  have hi2:i < d'.size:=by simpa using hi
  have hj2:j < d'.size:=by simpa using hj
  rw [getElem!_pos d' i hi2,getElem!_pos d' j hj2] at h1
  have m1:=hn _ (hlp.mem_iff.1 (List.mem_map.2 ⟨d'[i],by simp,rfl⟩))
  have m2:=hn _ (hlp.mem_iff.1 (List.mem_map.2 ⟨d'[j],by simp,rfl⟩))
  simp only at m1 m2
  rw [cmpL_lex (m2.trans m1.symm)] at h1
  have h3:=lexO_swap d'[i].o d'[j].o
  simp only [Array.getElem_toList] at hlex
  omega
end Go.Proofs.YtkfhgnkonaafgaaGreatDoor
namespace Go.Proofs.YtkfhgnkonaafgaaGreatDoor
open Go.RowKit
def OneB (l:List (Slc × List Int)):Prop:=∀ x∈l,∀ y∈l,∀ q,x.1.v.ownBlock=some q→y.1.v.ownBlock=some q→x.2=y.2
theorem OneB.nil:OneB []:=fun x h=>by simp at h
theorem OneB.snoc {l:List (Slc × List Int)} (h:OneB l) {x:Slc × List Int} (hx:∀ y∈l,∀ q,x.1.v.ownBlock=some q→y.1.v.ownBlock≠some q):OneB (l++[x]):=fun a ha b hb q h1 h2=>by
 rcases List.mem_append.1 ha with ka | ka <;> rcases List.mem_append.1 hb with kb | kb
 ·exact h a ka b kb q h1 h2
 ·simp at kb;rw [kb] at h2;exact absurd h1 (hx a ka q h2)
 ·simp at ka;rw [ka] at h1;exact absurd h2 (hx b kb q h1)
 ·simp at ka kb;rw [ka,kb]
def RetSP (w:World) (base n:Nat) (l:List (Slc × List Int)) (e:Ending) (w':World):Prop:=
 ∃ v' r,e = .returned v'∧Own PrE 24 w' base v' r∧(∀ x∈r,Own IntE 3 w' base x.1.v x.2)∧(∀ x∈r,x∈l)∧OutsOk n (r.map Prod.snd)∧(∀ o,o∈r.map Prod.snd↔o∈l.map Prod.snd)∧KpT [24] base w w'
theorem Compact_nil7 (w:World):Calls Tryz.prog 87 #[.slice none 0 0, .func (.func 88) #[] #[]] w fun e w'=>e = .returned (.slice none 0 0)∧w=w':=by
 go_enter Tryz.func87,Tryz.ntmps87
 go_wp2_with fail
 go_ret
 exact ⟨rfl,rfl⟩
theorem sortedPairs_any (n:Nat) (w:World) (base:Nat) (v:Value) (l:List (Slc × List Int)) (hp:Own PrE 24 w base v l) (hr:∀ x∈l,Own IntE 3 w base x.1.v x.2) (hn:∀ x∈l,x.2.length=n) (hl:l.length≤68719476736) :
 Calls Tryz.prog 53 #[v] w (RetSP w base n l):=by
 rcases hp.shape with ⟨rfl,rfl⟩ | ⟨g,c0,rfl, -⟩
 ·have H1:=hide (AnyF.slices_SortFunc_none (P:=Tryz.prog) (ρ:=Tryz.laysSF_ren) { Tryz.laysSF with } none 0 (.func (.func 86) #[] #[]) w)
  have H2:=hide (Compact_nil7 w)
  have F:Hid (RetSP w base n [] (Ending.returned (Value.slice none 0 0)) w):=hide ⟨_,[],rfl,Own.nil _ _ _,fun x h=>by simp at h,fun x h=>by simp at h,⟨fun o h=>by simp at h, .nil⟩,fun o=>by simp, .refl _ _ _⟩
  clear hp hr hn hl
  go_enter Tryz.func53,Tryz.ntmps53
  go_wp2_with (first
   | (go_at_call 85;refine H1.out.mono ?_;rintro e w1 ⟨rfl,rfl⟩)
   | (go_at_call 87;(with_reducible refine H2.out.mono ?_);rintro e w2 ⟨rfl,rfl⟩))
  go_ret
  exact F.out
 ·have H1:=hide (SortF_any base g c0 n l w hp hr hn hl)
  have HC:=hide (fun (l':List (Slc × List Int)) (w1:World) (h1:l'.Perm l) h2 h3 h4=>Compact_any base g c0 n l' w1 h2 h3 (fun x hx=>hn x (h1.mem_iff.1 hx)) h4 (by rw [h1.length_eq];exact hl))
  clear hp hr hn hl
  generalize hm:l.length=m at *
  have HM:=hide hm
  clear hm
  go_enter Tryz.func53,Tryz.ntmps53
  go_wp2_with fail
  (with_reducible refine H1.out.mono ?_);rintro e w1 ⟨rfl,l',hpm,ho1,hs1,hr1,hk1⟩
  have hlm:l'.length=m:=by rw [hpm.length_eq];exact HM.out
  have H2:=hide (HC.out l' w1 hpm (by rw [hlm];exact ho1) hr1 hs1)
  rw [hlm] at H2
  have HPM:=hide hpm;have HK1:=hide hk1;have HLM:=hide hlm
  clear hpm ho1 hs1 hr1 hk1 hlm H1 HC
  go_wp2_with fail
  (with_reducible refine H2.out.mono ?_);rintro e w2 ⟨v',r,rfl,ho2,hci,hr2,hk2⟩
  have F:Hid (RetSP w base n l (Ending.returned v') w2):=hide ⟨v',r,rfl,ho2,(fun x hx=>hr2 x (hci.sub x hx)),(fun x hx=>HPM.out.mem_iff.1 (hci.sub x hx)),hci.ok,fun o=>by
   rw [hci.mem,List.take_length]
   exact (HPM.out.map Prod.snd).mem_iff,HK1.out.trans hk2⟩
  clear ho2 hci hr2 hk2
  go_wp2_with fail
  go_ret
  exact F.out
theorem own2_pairs {w:World} {base n:Nat} {v:Value} {r:List (Slc × List Int)} (ho:Own PrE 24 w base v r) (hr:∀ x∈r,Own IntE 3 w base x.1.v x.2) (h1:OneB r) (hk:OutsOk n (r.map Prod.snd)):Own2 IntE 24 3 w base v (r.map Prod.snd):=by
 have get:∀ {i:Nat} {u:Slc},(r.map Prod.fst)[i]? = some u→∃ x,r[i]? = some x∧x.1=u:=fun {i u} h=>by
  rw [List.getElem?_map] at h
  cases hx:r[i]? with
  | none=>rw [hx] at h;simp at h
  | some x=>rw [hx] at h;simp at h;exact ⟨x,rfl,h⟩
 refine ⟨r.map Prod.fst,by simp,Own.pairs.1 ho,fun i u o hu hoo => ?_,fun i j u u' hu hu' hij q h2 h3 => ?_,fun i u hu q h2 h3 => ?_⟩
 ·obtain ⟨x,hx,rfl⟩:=get hu
  rw [List.getElem?_map,hx] at hoo
  simp at hoo
  subst hoo
  exact hr x (List.mem_of_getElem? hx)
 ·obtain ⟨x,hx,rfl⟩:=get hu
  obtain ⟨y,hy,rfl⟩:=get hu'
  have e:=h1 x (List.mem_of_getElem? hx) y (List.mem_of_getElem? hy) q h2 h3
  have g1:(r.map Prod.snd)[i]? = some x.2:=by rw [List.getElem?_map,hx];rfl
  have g2:(r.map Prod.snd)[j]? = some y.2:=by rw [List.getElem?_map,hy];rfl
  obtain ⟨a1,a2⟩:=List.getElem?_eq_some_iff.1 g1
  obtain ⟨b1,b2⟩:=List.getElem?_eq_some_iff.1 g2
  have z:=(lexO_eq (a:=x.2) (b:=x.2) rfl).2 rfl
  rcases Nat.lt_or_ge i j with g | g
  ·have h4:=List.pairwise_iff_getElem.1 hk.pw i j a1 b1 g
   rw [a2,b2,← e] at h4;omega
  ·have h4:=List.pairwise_iff_getElem.1 hk.pw j i b1 a1 (by omega)
   rw [a2,b2,← e] at h4;omega
 ·obtain ⟨x,hx,rfl⟩:=get hu
  obtain ⟨a,ha⟩:=(hr x (List.mem_of_getElem? hx)).typeT h2
  obtain ⟨b,hb⟩:=ho.typeT h3
  rw [ha] at hb
  simp only [Option.some.injEq,Obj.cells.injEq,and_true] at hb
  exact absurd hb.2 (by decide)
end Go.Proofs.YtkfhgnkonaafgaaGreatDoor
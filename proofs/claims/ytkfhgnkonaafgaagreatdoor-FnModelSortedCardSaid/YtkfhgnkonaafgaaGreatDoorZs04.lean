/-
  Plain: which candidates for executions are valid.
-/
import Derived.Test.YtkfhgnkonaafgaaGreatDoorZs00
import Derived.Deep.RegionHeld3
import Derived.Deep.DeepCutAuto
import Derived.Deep.AppendLies
set_option maxHeartbeats 6400000
set_option maxRecDepth 100000
namespace Go.Proofs.YtkfhgnkonaafgaaGreatDoor
open Go.RowKit
theorem times_any (q:Nat) (m:Int) (b:Nat) (w:World) (hc:w.cell? ⟨b,0,none⟩=some (.int .i64 (q:Int))) (hf:w.frozen? ⟨b,0,none⟩=false) (hq:q≤3001) (h0:0≤m) (hn:m≤1048577) :
 Calls Tryz.prog 137 #[.int .i64 m, .pointer (some ⟨b,0,none⟩)] w fun e w'=>e = .returned (.tuple #[])∧w.setCell ⟨b,0,none⟩ (.int .i64 (cap (q * m.toNat):Nat))=w':=by
 obtain ⟨n,rfl⟩:=Int.eq_ofNat_of_zero_le h0
 rw [Int.toNat_natCast]
 have hn:n≤1048577:=by omega
 have hm:q * n≤3001 * 1048577:=Nat.mul_le_mul hq hn
 have e1:((q * n:Nat):Int)=(q:Int) * n:=by simp
 have hm2:(q:Int) * n≤3146780577:=by omega
 have hm3:0≤(q:Int) * n:=by omega
 have e2:((cap (q * n):Nat):Int)=min ((q:Int) * n) 3001:=by unfold cap;omega
 rw [e2]
 have E1:=hide e1;clear e1
 have E2:=hide e2;clear e2
 clear hm
 go_enter Tryz.func137,Tryz.ntmps137
 go_wp2
 ·go_end0
  rw [show min ((q:Int) * n) 3001=3001 by omega]
  exact ⟨rfl,rfl⟩
 ·go_end0
  rw [show min ((q:Int) * n) 3001=(q:Int) * n by omega]
  exact ⟨rfl,rfl⟩
theorem execs_any (v:Value) (p:List (List Ins)) (w:World) (hp:RepP w v p) (hl:p.flatten.length≤1048576) (hpl:p.length≤1048576) :
 Calls Tryz.prog 95 #[v] w fun e w'=>e = .returned (.int .i64 (cap (prodP p):Nat))∧Below w.heap.size w w':=by
 obtain ⟨a,c,rfl,hc1,hc2,hc3,hp⟩:=hp.open
 have HP:=hide hp;clear hp
 have HL:=hide hl;clear hl
 generalize hn:p.length=n at *
 have H:=hide hn;clear hn
 go_enter Tryz.func95,Tryz.ntmps95
 go_wp2_with fail
 go_loopw [14] (fun i wr => ∃ k:Nat,k≤3∧i = .int .i64 k∧wr.cell? ⟨w.heap.size,0,none⟩=some (.int .i64 (cap (prodTo p k):Nat))∧wr.frozen? ⟨w.heap.size,0,none⟩=false∧Below w.heap.size w wr∧w.heap.size < wr.heap.size) (fun i _=>3 - (intOf i).toNat)
 case atStart=>exact ⟨0,by omega,rfl,by simp [go_sem,prodTo,cap],by simp [go_sem],((Below.refl _ _).alloc (Nat.le_refl _) _),by simp⟩
 case round =>
  obtain ⟨k,hk,rfl,hcell,hfr,hb,hsz⟩:=hrel
  by_cases hlt:k < 3
  ·obtain ⟨wl,rfl⟩:∃ wl:World,wl=wr:=⟨_,rfl⟩
   have hlt':(k:Int) < 3:=by omega
   go_wp2_with fail
   go_loopw [6,7,19] (fun r wv i wr => ∃ j:Nat,j≤n∧i = .int .i64 j∧r = .int .i64 (cnt (fR k) (p.take j):Nat)∧wv = .int .i64 (cnt (fW k) (p.take j):Nat)∧Below wl.heap.size wl wr) (fun _ _ i _=>n - (intOf i).toNat)
   case atStart=>exact ⟨0,by omega,rfl,by simp [cnt],by simp [cnt],Below.refl _ _⟩
   case round =>
    obtain ⟨j,hj,rfl,rfl,rfl,hb2⟩:=hrel
    by_cases hlt2:j < n
    ·obtain ⟨wm,rfl⟩:∃ wm:World,wm=wr:=⟨_,rfl⟩
     obtain ⟨x,hxk⟩:=get_of_lt (xs:=p) (k:=j) (by rw [H.out];exact hlt2)
     obtain ⟨b,o,ra,rc,rfl,hbl,i0,i1⟩:=(HP.out.below (hb.trans (hb2.mono (Nat.le_of_lt hsz)))).row hxk
     have hlt2':=nat_of_lt hlt2
     obtain ⟨_,_,_,_,hr2,_,_⟩:=i1.open
     have hcR:=cnt_take_succ (fR k) hxk
     have hcW:=cnt_take_succ (fW k) hxk
     have hbR:=Nat.le_trans (cnt_take_le (fR k) p j) HL.out
     have hbW:=Nat.le_trans (cnt_take_le (fW k) p j) HL.out
     have hxl:=Nat.le_trans (row_le_flatten hxk) HL.out
     have CR:=hide hcR;have CW:=hide hcW;have I1:=hide i1;have X:=hide hxk
     clear hcR hcW i1 hxk
     generalize hR:cnt (fR k) (p.take j)=R at *
     generalize hW:cnt (fW k) (p.take j)=W at *
     clear hR hW
     go_wp2_with fail
     go_loopw [6,7,25] (fun r wv i wr => ∃ t:Nat,t≤x.length∧i = .int .i64 t∧r = .int .i64 (R+(x.take t).countP (fR k):Nat)∧wv = .int .i64 (W+(x.take t).countP (fW k):Nat)∧Below wm.heap.size wm wr) (fun _ _ i _=>x.length - (intOf i).toNat)
     case atStart=>exact ⟨0,by omega,rfl,by simp,by simp,Below.refl _ _⟩
     case round =>
      obtain ⟨t,ht,rfl,rfl,rfl,hb3⟩:=hrel
      have hwm:w.heap.size≤wm.heap.size:=by have:=hb2.size;omega
      by_cases hlt3:t < x.length
      ·obtain ⟨y,hyk⟩:=get_of_lt (xs:=x) (k:=t) hlt3
       obtain ⟨b',o',rfl,hbl',j0,j1,j2,j3⟩:=(I1.out.below hb3).ins hyk
       have hlt3':=nat_of_lt hlt3
       have CR2:=hide (countP_take_succ (fR k) hyk)
       have CW2:=hide (countP_take_succ (fW k) hyk)
       have hbR2:(x.take t).countP (fR k)≤1048576:=Nat.le_trans List.countP_le_length (by simp;omega)
       have hbW2:(x.take t).countP (fW k)≤1048576:=Nat.le_trans List.countP_le_length (by simp;omega)
       have Y:=hide hyk;clear hyk
       generalize hR2:(x.take t).countP (fR k)=R2 at *
       generalize hW2:(x.take t).countP (fW k)=W2 at *
       clear hR2 hW2
       by_cases hloc:y.loc=k
       ·have CR3:Hid ((x.take (t+1)).countP (fR k)=R2+if isRop y.op=true then 1 else 0):=by have h:=CR2.out;rwa [fR_yes hloc] at h
        have CW3:Hid ((x.take (t+1)).countP (fW k)=W2+if isWop y.op=true then 1 else 0):=by have h:=CW2.out;rwa [fW_yes hloc] at h
        clear CR2 CW2
        rw [hloc] at j1
        clear hloc
        have hkk:((k:Int)==k)=true:=by simp
        generalize hro:isRop y.op=ro at *
        generalize hwo:isWop y.op=wo at *
        have RO:=hide hro;have WO:=hide hwo;clear hro hwo
        cases ro <;> cases wo
        all_goals
         go_wp2_with (first | (go_at_call 122;(with_reducible refine (reads_raw _ _ _ _ _).mono ?_);rw [RO.out];rintro e w3 ⟨rfl,hb4⟩;obtain ⟨hc4,hf4⟩:=bcell hb4) | (go_at_call 123;(with_reducible refine (writes_raw _ _ _ _ _).mono ?_);rw [WO.out];rintro e w4 ⟨rfl,hb5⟩;obtain ⟨hc5,hf5⟩:=bcell hb5))
         go_roundw
         case rel=>exact ⟨t+1,by omega,by go_num,by rw [CR3.out];simp;try omega,by rw [CW3.out];simp;try omega,(((hb3.alloc hb3.size _).trans (hb4.mono (by have:=hb3.size;simp;omega))).trans (hb5.mono (by have:=hb3.size;have:=hb4.size;simp at this;omega)))⟩
         case measure=>simp [intOf];omega
       ·have CR3:Hid ((x.take (t+1)).countP (fR k)=R2):=hide (by have h:=CR2.out;rw [fR_no hloc] at h;simpa using h)
        have CW3:Hid ((x.take (t+1)).countP (fW k)=W2):=hide (by have h:=CW2.out;rw [fW_no hloc] at h;simpa using h)
        clear CR2 CW2
        have hkk:(y.loc==(k:Int))=false:=by simpa using hloc
        clear hloc
        go_wp2_with fail
        go_roundw
        case rel=>exact ⟨t+1,by omega,by go_num,by rw [CR3.out],by rw [CW3.out],hb3.alloc hb3.size _⟩
        case measure=>simp [intOf];omega
      ·have e:t=x.length:=by omega
       have CR4:Hid (cnt (fR k) (p.take (j+1))=R+(x.take t).countP (fR k)):=by have h:=CR.out;rwa [e,List.take_length]
       have CW4:Hid (cnt (fW k) (p.take (j+1))=W+(x.take t).countP (fW k)):=by have h:=CW.out;rwa [e,List.take_length]
       have hbR2:(x.take t).countP (fR k)≤1048576:=Nat.le_trans List.countP_le_length (by simp;omega)
       have hbW2:(x.take t).countP (fW k)≤1048576:=Nat.le_trans List.countP_le_length (by simp;omega)
       generalize hR2:(x.take t).countP (fR k)=R2 at *
       generalize hW2:(x.take t).countP (fW k)=W2 at *
       clear hR2 hW2 e
       go_wp2_with fail
       go_roundw
       case rel=>exact ⟨j+1,by omega,by go_num,by rw [CR4.out],by rw [CW4.out],hb2.trans (hb3.mono hb2.size)⟩
       case measure=>simp [intOf];omega
    ·have e:j=n:=by omega
     have hpt:p.take j=p:=List.take_of_length_le (by rw [H.out];omega)
     have hbR:=Nat.le_trans (cnt_le_flatten (fR k) p) HL.out
     have hbW:=Nat.le_trans (cnt_le_flatten (fW k) p) HL.out
     have PS:Hid (prodTo p (k+1)=prodTo p k * ((cnt (fW k) p+1) ^ cnt (fR k) p * fact (cnt (fW k) p))):=hide rfl
     rw [hpt]
     clear hpt e
     generalize hR:cnt (fR k) p=R at *
     generalize hW:cnt (fW k) p=W at *
     generalize hQ:prodTo p k=Q at *
     clear hR hW hQ
     have hb:=hb.trans (hb2.mono (Nat.le_of_lt hsz))
     have hcell:wr.cell? ⟨w.heap.size,0,none⟩=some (.int .i64 (cap Q:Nat)):=(hb2.cell (p:=⟨w.heap.size,0,none⟩) hsz).trans hcell
     have hfr:wr.frozen? ⟨w.heap.size,0,none⟩=false:=(hb2.frozen (p:=⟨w.heap.size,0,none⟩) hsz).trans hfr
     have hsz:w.heap.size < wr.heap.size:=by have:=hb2.size;omega
     clear hb2
     obtain ⟨wn,rfl⟩:∃ wn:World,wn=wr:=⟨_,rfl⟩
     go_wp2_with fail
     go_loopw [52] (fun i wr => ∃ t:Nat,t≤R∧i = .int .i64 t∧wr.cell? ⟨w.heap.size,0,none⟩=some (.int .i64 (cap (Q * (W+1) ^ t):Nat))∧wr.frozen? ⟨w.heap.size,0,none⟩=false∧Below w.heap.size w wr∧w.heap.size < wr.heap.size) (fun i _=>R - (intOf i).toNat)
     case atStart=>exact ⟨0,by omega,rfl,by simpa using hcell,hfr,hb,hsz⟩
     case round =>
      obtain ⟨t,ht,rfl,hcell2,hfr2,hb2,hsz2⟩:=hrel
      by_cases hlt3:t < R
      ·have E:Hid (cap (cap (Q * (W+1) ^ t) * (W+1))=cap (Q * (W+1) ^ (t+1))):=by
        apply hide
        rw [cap_mul _ _ (by omega),Nat.pow_succ,Nat.mul_assoc]
       have hcl:=cap_le (Q * (W+1) ^ t)
       generalize cap (Q * (W+1) ^ t)=C at *
       go_wp2_with (go_at_call 137;(with_reducible refine (times_any C _ _ _ hcell2 hfr2 hcl (by omega) (by omega)).mono ?_);rintro e w3 ⟨rfl,rfl⟩)
       go_roundw
       case rel=>exact ⟨t+1,by omega,by go_num,by rw [← E.out];exact World.cell?_setCell_same _ _ _ hcell2,by simpa using hfr2,hb2.setCell (Nat.le_refl _) _,by simpa using hsz2⟩
       case measure=>simp [intOf];omega
      ·have e:t=R:=by omega
       subst e
       generalize hQ:Q * (W+1) ^ t=Q2 at *
       have HQ:=hide hQ;clear hQ
       clear hcell hfr hb hsz
       obtain ⟨wo,rfl⟩:∃ wo:World,wo=wr:=⟨_,rfl⟩
       go_wp2_with fail
       go_loopw [12,60] (fun _ i wr => ∃ s:Nat,s≤W∧i = .int .i64 s∧wr.cell? ⟨w.heap.size,0,none⟩=some (.int .i64 (cap (Q2 * fact s):Nat))∧wr.frozen? ⟨w.heap.size,0,none⟩=false∧Below w.heap.size w wr∧w.heap.size < wr.heap.size) (fun _ i _=>W - (intOf i).toNat)
       case atStart=>exact ⟨0,by omega,rfl,by simpa [fact] using hcell2,hfr2,hb2,hsz2⟩
       case round =>
        obtain ⟨s,hs,rfl,hcell,hfr,hb,hsz⟩:=hrel
        by_cases hlt4:s < W
        ·have E:Hid (cap (cap (Q2 * fact s) * (s+1))=cap (Q2 * fact (s+1))):=by
          apply hide
          rw [cap_mul _ _ (by omega),fact,Nat.mul_assoc]
         have hcl:=cap_le (Q2 * fact s)
         generalize cap (Q2 * fact s)=C at *
         clear hcell2 hfr2 hb2 hsz2
         go_wp2_with (go_at_call 137;(with_reducible refine (times_any C _ _ _ hcell hfr hcl (by omega) (by omega)).mono ?_);rintro e w3 ⟨rfl,rfl⟩)
         go_roundw
         case rel=>exact ⟨s+1,by omega,by go_num,by rw [← E.out];exact World.cell?_setCell_same _ _ _ hcell,by simpa using hfr,hb.setCell (Nat.le_refl _) _,by simpa using hsz⟩
         case measure=>simp [intOf];omega
        ·have e:s=W:=by omega
         subst e
         have PS2:Hid (prodTo p (k+1)=Q2 * fact s):=hide (by rw [PS.out,← HQ.out,Nat.mul_assoc])
         clear hcell2 hfr2 hb2 hsz2
         go_wp2_with fail
         go_roundw
         case rel=>exact ⟨k+1,by omega,by go_num,by rw [PS2.out];exact hcell,hfr,hb,hsz⟩
         case measure=>simp [intOf];omega
  ·have e:k=3:=by omega
   subst e
   go_wp2_with fail
   go_ret
   exact ⟨rfl,hb⟩
end Go.Proofs.YtkfhgnkonaafgaaGreatDoor
namespace Go.Proofs.YtkfhgnkonaafgaaGreatDoor
open Go.RowKit
theorem sInstrValid_raw (a b c d:Int) (w:World):Calls Tryz.prog 143 #[.agg #[.int .i64 a, .int .i64 b, .int .i64 c, .int .i64 d]] w fun e w'=>e = .returned (.bool (insValid ⟨a,b,c,d⟩))∧Below w.heap.size w w':=sInstrValid_any ⟨a,b,c,d⟩ w
theorem InstrValid_raw (a b c d:Int) (w:World):Calls Tryz.prog 94 #[.agg #[.int .i64 a, .int .i64 b, .int .i64 c, .int .i64 d]] w fun e w'=>e = .returned (.bool (insValid ⟨a,b,c,d⟩))∧Below w.heap.size w w':=InstrValid_any ⟨a,b,c,d⟩ w
theorem l1Shape_any (v:Value) (p:List (List Ins)) (w:World) (hp:RepP w v p) (hl:p.flatten.length≤1048576) :
 Calls Tryz.prog 106 #[v] w fun e w'=>e = .returned (.bool (shapeOk p))∧Below w.heap.size w w':=by
 obtain ⟨a,c,rfl,hc1,hc2,hc3,hp⟩:=hp.open
 have HP:=hide hp;clear hp
 have HL:=hide hl;clear hl
 generalize hn:p.length=n at *
 have H:=hide hn;clear hn
 by_cases h3:3 < n
 ·have E:Hid (shapeOk p=false):=hide (by unfold shapeOk;rw [H.out];simp;omega)
  have h3':(3:Int) < n:=by omega
  go_enter Tryz.func106,Tryz.ntmps106
  go_wp2_with fail
  go_ret
  rw [E.out]
  exact ⟨rfl,Below.refl _ _⟩
 ·have h3':(n:Int)≤3:=by omega
  go_enter Tryz.func106,Tryz.ntmps106
  go_wp2_with fail
  go_loopw [3,4] (fun r i wr => ∃ j:Nat,j≤n∧i = .int .i64 j∧r = .int .i64 (cnt notFence (p.take j):Nat)∧Hid ((p.take j).all rowOk=true)∧Below w.heap.size w wr) (fun _ i _=>n - (intOf i).toNat)
  case atStart=>exact ⟨0,by omega,rfl,by simp [cnt],hide (by simp),Below.refl _ _⟩
  case round =>
   obtain ⟨j,hj,rfl,rfl,hok,hb2⟩:=hrel
   by_cases hlt2:j < n
   ·obtain ⟨wm,rfl⟩:∃ wm:World,wm=wr:=⟨_,rfl⟩
    obtain ⟨x,hxk⟩:=get_of_lt (xs:=p) (k:=j) (by rw [H.out];exact hlt2)
    obtain ⟨b,o,ra,rc,rfl,hbl,i0,i1⟩:=(HP.out.below hb2).row hxk
    have hlt2':=nat_of_lt hlt2
    obtain ⟨_,_,_,_,hr2,_,_⟩:=i1.open
    have CR:=hide (cnt_take_succ notFence hxk)
    have hbR:=Nat.le_trans (cnt_take_le notFence p j) HL.out
    have hxl:=Nat.le_trans (row_le_flatten hxk) HL.out
    have I1:=hide i1;have X:=hide hxk
    clear i1 hxk
    generalize hR:cnt notFence (p.take j)=R at *
    clear hR
    by_cases h7:7 < x.length
    ·have E:Hid (shapeOk p=false):=hide (by
      have:=all_no X.out (by unfold rowOk;simp;omega)
      unfold shapeOk;simp [this])
     have h7':(7:Int) < x.length:=by omega
     go_wp2_with fail
     go_ret
     rw [E.out]
     exact ⟨rfl,hb2⟩
    ·have h7':(x.length:Int)≤7:=by omega
     go_wp2_with fail
     go_loopw [3,5] (fun r i wr => ∃ t:Nat,t≤x.length∧i = .int .i64 t∧r = .int .i64 (R+(x.take t).countP notFence:Nat)∧Hid ((x.take t).all insValid=true)∧Below wm.heap.size wm wr) (fun _ i _=>x.length - (intOf i).toNat)
     case atStart=>exact ⟨0,by omega,rfl,by simp,hide (by simp),Below.refl _ _⟩
     case round =>
      obtain ⟨t,ht,rfl,rfl,hok2,hb3⟩:=hrel
      have hbR2:(x.take t).countP notFence≤1048576:=Nat.le_trans List.countP_le_length (by simp;omega)
      have i0':wr.cell? ⟨b,o+j,none⟩=some (.slice ra x.length rc):=(hb3.cell (p:=⟨b,o+j,none⟩) hbl).trans i0
      by_cases hlt3:t < x.length
      ·obtain ⟨y,hyk⟩:=get_of_lt (xs:=x) (k:=t) hlt3
       obtain ⟨b',o',rfl,hbl',j0,j1,j2,j3⟩:=(I1.out.below hb3).ins hyk
       have hlt3':=nat_of_lt hlt3
       have CR2:=hide (countP_take_succ notFence hyk)
       have Y:=hide hyk;clear hyk
       have hbl2:b < wr.heap.size:=by have:=hb3.size;omega
       generalize hR2:(x.take t).countP notFence=R2 at *
       clear hR2
       generalize hv:insValid y=vv at *
       have V:=hide hv;clear hv
       cases vv
       ·have E:Hid (shapeOk p=false):=hide (by
         have:=all_no X.out (row_no Y.out V.out)
         unfold shapeOk;simp [this])
        go_wp2_with (go_at_call 143;(with_reducible refine (sInstrValid_raw _ _ _ _ _).mono ?_);rw [V.out];rintro e w3 ⟨rfl,hb4⟩)
        go_ret
        rw [E.out]
        exact ⟨rfl,hb2.trans ((hb3.trans (hb4.mono hb3.size)).mono hb2.size)⟩
       ·have OK3:=hide (all_take_succ hok2.out Y.out V.out)
        have CR3:Hid ((x.take (t+1)).countP notFence=R2+if (y.op != 4)=true then 1 else 0):=CR2
        clear CR2
        by_cases h4:y.op=4
        ·have g4:(y.op != 4)=false:=by simp [h4]
         have CR4:Hid ((x.take (t+1)).countP notFence=R2):=hide (by have h:=CR3.out;rw [g4] at h;simpa using h)
         clear h4
         go_wp2_with (go_at_call 143;(with_reducible refine (sInstrValid_raw _ _ _ _ _).mono ?_);rw [V.out];rintro e w3 ⟨rfl,hb4⟩;obtain ⟨hc4,hf4⟩:=bcell hb4)
         go_roundw
         case rel=>exact ⟨t+1,by omega,by go_num,by rw [CR4.out];simp,OK3,hb3.trans (hb4.mono hb3.size)⟩
         case measure=>simp [intOf];omega
        ·have g4:(y.op != 4)=true:=by simp [h4]
         have CR4:Hid ((x.take (t+1)).countP notFence=R2+1):=hide (by have h:=CR3.out;rw [g4] at h;simpa using h)
         clear h4
         go_wp2_with (go_at_call 143;(with_reducible refine (sInstrValid_raw _ _ _ _ _).mono ?_);rw [V.out];rintro e w3 ⟨rfl,hb4⟩;obtain ⟨hc4,hf4⟩:=bcell hb4)
         go_roundw
         case rel=>exact ⟨t+1,by omega,by go_num,by rw [CR4.out];simp;omega,OK3,hb3.trans (hb4.mono hb3.size)⟩
         case measure=>simp [intOf];omega
      ·have e:t=x.length:=by omega
       have CR4:Hid (cnt notFence (p.take (j+1))=R+(x.take t).countP notFence):=by have h:=CR.out;rwa [e,List.take_length]
       have OK4:Hid ((p.take (j+1)).all rowOk=true):=hide (all_take_succ hok.out X.out (by
        have h:=hok2.out
        rw [e,List.take_length] at h
        unfold rowOk
        rw [h];simp;omega))
       generalize hR2:(x.take t).countP notFence=R2 at *
       clear hR2 e
       go_wp2_with fail
       go_roundw
       case rel=>exact ⟨j+1,by omega,by go_num,by rw [CR4.out],OK4,hb2.trans (hb3.mono hb2.size)⟩
       case measure=>simp [intOf];omega
   ·have e:j=n:=by omega
    have hpt:p.take j=p:=List.take_of_length_le (by rw [H.out];omega)
    rw [hpt] at hok ⊢
    clear hpt
    have E:Hid (shapeOk p=decide ((cnt notFence p:Int)≤12)):=hide (by
     have hle:decide (n≤3)=true:=decide_eq_true (by omega)
     unfold shapeOk;rw [hok.out,H.out,hle,Bool.eq_iff_iff];simp;omega)
    go_wp2_with fail
    go_ret
    rw [E.out]
    exact ⟨rfl,hb2⟩
theorem sProgramValid_any (v:Value) (p:List (List Ins)) (w:World) (hp:RepP w v p) (hl:p.flatten.length≤1048576) (hpl:p.length≤1048576) :
 Calls Tryz.prog 62 #[v] w fun e w'=>e = .returned (.bool (progValid p))∧Below w.heap.size w w':=by
 have PV:Hid (progValid p=(shapeOk p&&decide (1≤p.length)&&decide (prodP p≤3000))):=hide rfl
 have HL:=hide hl;clear hl
 obtain ⟨a,c,hv,hc1,hc2,hc3,_⟩:=hp.open
 have HP:=hide hp;clear hp
 have HV:=hide hv
 subst hv
 generalize hn:p.length=n at *
 have H:=hide hn;clear hn
 have HS:=hide (fun w' h=>l1Shape_any (.slice a n c) p w' h HL.out)
 generalize hs:shapeOk p=s at *
 have S:=hide hs;clear hs
 cases s
 ·go_enter Tryz.func62,Tryz.ntmps62
  go_wp2_with (go_at_call 106;(with_reducible refine (HS.out _ HP.out).mono ?_);rintro e w1 ⟨rfl,hb1⟩)
  go_ret
  rw [PV.out]
  exact ⟨rfl,hb1⟩
 ·by_cases h0:0 < n
  ·have h0':(0:Int) < n:=by omega
   have HE:=hide (fun w' h=>l1Execs_any (.slice a n c) p w' h HL.out (by rw [H.out];omega))
   have hcap:=cap_le (prodP p)
   have HCP:Hid (decide (((cap (prodP p):Nat):Int)≤3000)=decide (prodP p≤3000)):=hide (by rw [Bool.eq_iff_iff];simp only [decide_eq_true_eq];unfold cap;omega)
   generalize hC:cap (prodP p)=C at *
   clear hC
   go_enter Tryz.func62,Tryz.ntmps62
   go_wp2_with (first | (go_at_call 106;(with_reducible refine (HS.out _ HP.out).mono ?_);rintro e w1 ⟨rfl,hb1⟩) | (go_at_call 107;(with_reducible refine (HE.out _ (HP.out.below hb1)).mono ?_);rintro e w2 ⟨rfl,hb2⟩))
   go_ret
   rw [PV.out,HCP.out]
   exact ⟨by rw [show decide (1≤n)=true from decide_eq_true h0];simp,hb1.trans (hb2.mono hb1.size)⟩
  ·have h0':decide ((0:Int) < n)=false:=by simp;omega
   go_enter Tryz.func62,Tryz.ntmps62
   go_wp2_with (go_at_call 106;(with_reducible refine (HS.out _ HP.out).mono ?_);rintro e w1 ⟨rfl,hb1⟩)
   go_ret
   rw [PV.out]
   exact ⟨by rw [show decide (1≤n)=false from decide_eq_false (by omega)];simp,hb1⟩
theorem progValid_no {p:List (List Ins)} (h:shapeOk p=false):progValid p=false:=by unfold progValid;rw [h];rfl
theorem ProgramValid_any (v:Value) (p:List (List Ins)) (w:World) (hp:RepP w v p) (hl:p.flatten.length≤1048576) :
 Calls Tryz.prog 56 #[v] w fun e w'=>e = .returned (.bool (progValid p))∧Below w.heap.size w w':=by
 obtain ⟨a,c,rfl,hc1,hc2,hc3,hp⟩:=hp.open
 have HP:=hide hp;clear hp
 have HL:=hide hl;clear hl
 generalize hn:p.length=n at *
 have H:=hide hn;clear hn
 by_cases h3:1≤n∧n≤3
 ·have E:Hid (inB n 1 3=true):=hide (by unfold inB;simp;omega)
  have h3':(n:Int)≤3:=by omega
  obtain ⟨_,h3n⟩:=h3
  go_enter Tryz.func56,Tryz.ntmps56
  go_wp2_with (go_at_call 75;(with_reducible refine (within_any _ _ _ _).mono ?_);rw [E.out];rintro e w1 ⟨rfl,rfl⟩)
  go_loopw [3,14] (fun r i wr => ∃ j:Nat,j≤n∧i = .int .i64 j∧r = .int .i64 (cnt notFence (p.take j):Nat)∧Hid ((p.take j).all rowOk=true)∧Below w.heap.size w wr) (fun _ i _=>n - (intOf i).toNat)
  case atStart=>exact ⟨0,by omega,rfl,by simp [cnt],hide (by simp),Below.refl _ _⟩
  case round =>
   obtain ⟨j,hj,rfl,rfl,hok,hb2⟩:=hrel
   by_cases hlt2:j < n
   ·obtain ⟨wm,rfl⟩:∃ wm:World,wm=wr:=⟨_,rfl⟩
    obtain ⟨x,hxk⟩:=get_of_lt (xs:=p) (k:=j) (by rw [H.out];exact hlt2)
    obtain ⟨b,o,ra,rc,rfl,hbl,i0,i1⟩:=(HP.out.below hb2).row hxk
    have hlt2':=nat_of_lt hlt2
    obtain ⟨_,_,_,_,hr2,_,_⟩:=i1.open
    have CR:=hide (cnt_take_succ notFence hxk)
    have hbR:=Nat.le_trans (cnt_take_le notFence p j) HL.out
    have hxl:=Nat.le_trans (row_le_flatten hxk) HL.out
    have I1:=hide i1;have X:=hide hxk
    clear i1 hxk
    generalize hR:cnt notFence (p.take j)=R at *
    clear hR
    go_wp2_with fail
    go_loopw [3,20] (fun r i wr => ∃ t:Nat,t≤x.length∧i = .int .i64 t∧r = .int .i64 (R+(x.take t).countP notFence:Nat)∧Hid ((x.take t).all insValid=true)∧Below wm.heap.size wm wr) (fun _ i _=>x.length - (intOf i).toNat)
    case atStart=>exact ⟨0,by omega,rfl,by simp,hide (by simp),Below.refl _ _⟩
    case round =>
     obtain ⟨t,ht,rfl,rfl,hok2,hb3⟩:=hrel
     have hbR2:(x.take t).countP notFence≤1048576:=Nat.le_trans List.countP_le_length (by simp;omega)
     by_cases hlt3:t < x.length
     ·obtain ⟨y,hyk⟩:=get_of_lt (xs:=x) (k:=t) hlt3
      obtain ⟨b',o',rfl,hbl',j0,j1,j2,j3⟩:=(I1.out.below hb3).ins hyk
      have hlt3':=nat_of_lt hlt3
      have CR2:=hide (countP_take_succ notFence hyk)
      have Y:=hide hyk;clear hyk
      generalize hR2:(x.take t).countP notFence=R2 at *
      clear hR2
      generalize hv:insValid y=vv at *
      have V:=hide hv;clear hv
      cases vv
      ·have E2:Hid (progValid p=false):=hide (progValid_no (by
        have:=all_no X.out (row_no Y.out V.out)
        unfold shapeOk;simp [this]))
       go_wp2_with (go_at_call 94;(with_reducible refine (InstrValid_raw _ _ _ _ _).mono ?_);rw [V.out];rintro e w3 ⟨rfl,hb4⟩)
       go_ret
       rw [E2.out]
       exact ⟨rfl,hb2.trans (((hb3.alloc hb3.size _).trans (hb4.mono (by have:=hb3.size;simp;omega))).mono hb2.size)⟩
      ·have OK3:=hide (all_take_succ hok2.out Y.out V.out)
       have CR3:Hid ((x.take (t+1)).countP notFence=R2+if (y.op != 4)=true then 1 else 0):=CR2
       clear CR2
       by_cases h4:y.op=4
       ·have g4:(y.op != 4)=false:=by simp [h4]
        have CR4:Hid ((x.take (t+1)).countP notFence=R2):=hide (by have h:=CR3.out;rw [g4] at h;simpa using h)
        clear h4
        go_wp2_with (go_at_call 94;(with_reducible refine (InstrValid_raw _ _ _ _ _).mono ?_);rw [V.out];rintro e w3 ⟨rfl,hb4⟩;obtain ⟨hc4,hf4⟩:=bcell hb4)
        go_roundw
        case rel=>exact ⟨t+1,by omega,by go_num,by rw [CR4.out];simp,OK3,(hb3.alloc hb3.size _).trans (hb4.mono (by have:=hb3.size;simp;omega))⟩
        case measure=>simp [intOf];omega
       ·have g4:(y.op != 4)=true:=by simp [h4]
        have CR4:Hid ((x.take (t+1)).countP notFence=R2+1):=hide (by have h:=CR3.out;rw [g4] at h;simpa using h)
        clear h4
        go_wp2_with (go_at_call 94;(with_reducible refine (InstrValid_raw _ _ _ _ _).mono ?_);rw [V.out];rintro e w3 ⟨rfl,hb4⟩;obtain ⟨hc4,hf4⟩:=bcell hb4)
        go_roundw
        case rel=>exact ⟨t+1,by omega,by go_num,by rw [CR4.out];simp;omega,OK3,(hb3.alloc hb3.size _).trans (hb4.mono (by have:=hb3.size;simp;omega))⟩
        case measure=>simp [intOf];omega
     ·by_cases h7:7 < x.length
      ·have E2:Hid (progValid p=false):=hide (progValid_no (by
        have:=all_no X.out (by unfold rowOk;simp;omega)
        unfold shapeOk;simp [this]))
       have h7':(7:Int) < x.length:=by omega
       go_wp2_with fail
       go_ret
       rw [E2.out]
       exact ⟨rfl,hb2.trans (hb3.mono hb2.size)⟩
      ·have h7':(x.length:Int)≤7:=by omega
       have e:t=x.length:=by omega
       have CR4:Hid (cnt notFence (p.take (j+1))=R+(x.take t).countP notFence):=by have h:=CR.out;rwa [e,List.take_length]
       have OK4:Hid ((p.take (j+1)).all rowOk=true):=hide (all_take_succ hok.out X.out (by
        have h:=hok2.out
        rw [e,List.take_length] at h
        unfold rowOk
        rw [h];simp;omega))
       generalize hR2:(x.take t).countP notFence=R2 at *
       clear hR2 e
       go_wp2_with fail
       go_roundw
       case rel=>exact ⟨j+1,by omega,by go_num,by rw [CR4.out],OK4,hb2.trans (hb3.mono hb2.size)⟩
       case measure=>simp [intOf];omega
   ·have e:j=n:=by omega
    have hpt:p.take j=p:=List.take_of_length_le (by rw [H.out];omega)
    rw [hpt] at hok ⊢
    clear hpt
    have PV:Hid (progValid p=(decide (cnt notFence p≤12)&&decide (prodP p≤3000))):=hide (by
     have hle:decide (n≤3)=true:=decide_eq_true (by omega)
     have hle2:decide (1≤n)=true:=decide_eq_true (by omega)
     unfold progValid shapeOk;rw [hok.out,H.out,hle,hle2];simp)
    have hcn:=Nat.le_trans (cnt_le_flatten notFence p) HL.out
    have HE:=hide (fun w' h=>execs_any (.slice a n c) p w' h HL.out (by rw [H.out];omega))
    have hcap:=cap_le (prodP p)
    have HCP:Hid (decide (((cap (prodP p):Nat):Int)≤3000)=decide (prodP p≤3000)):=hide (by rw [Bool.eq_iff_iff];simp only [decide_eq_true_eq];unfold cap;omega)
    generalize hC:cap (prodP p)=C at *
    generalize hN:cnt notFence p=N at *
    clear hC hN
    by_cases h12:N≤12
    ·have h12':(N:Int)≤12:=by omega
     go_wp2_with (go_at_call 95;(with_reducible refine (HE.out _ (HP.out.below hb2)).mono ?_);rintro e w1 ⟨rfl,hb1⟩)
     go_ret
     rw [PV.out,HCP.out]
     exact ⟨by rw [show decide (N≤12)=true from decide_eq_true h12];simp,hb2.trans (hb1.mono hb2.size)⟩
    ·have h12':decide ((N:Int)≤12)=false:=by simp;omega
     go_wp2_with fail
     go_ret
     rw [PV.out]
     exact ⟨by rw [show decide (N≤12)=false from decide_eq_false h12];simp,hb2⟩
 ·have E:Hid (inB n 1 3=false):=hide (by unfold inB;simp;omega)
  have E2:Hid (progValid p=false):=hide (by unfold progValid shapeOk;rw [H.out];simp;omega)
  go_enter Tryz.func56,Tryz.ntmps56
  go_wp2_with (go_at_call 75;(with_reducible refine (within_any _ _ _ _).mono ?_);rw [E.out];rintro e w1 ⟨rfl,rfl⟩)
  go_ret
  rw [E2.out]
  exact ⟨rfl,Below.refl _ _⟩
end Go.Proofs.YtkfhgnkonaafgaaGreatDoor
namespace Go.Proofs.YtkfhgnkonaafgaaGreatDoor
open Go.RowKit
end Go.Proofs.YtkfhgnkonaafgaaGreatDoor
namespace Go.Proofs.YtkfhgnkonaafgaaGreatDoor
open Go.RowKit
structure Ev where
 t:Int
 i:Int
 l:Int
 r:Bool
 w:Bool
deriving DecidableEq
def EvE:El Ev:=⟨5,by decide,fun x=>[.int .i64 x.t, .int .i64 x.i, .int .i64 x.l, .bool x.r, .bool x.w],fun _=>rfl,fun x u h=>by simp at h;rcases h with rfl | rfl | rfl | rfl | rfl <;> rfl⟩
theorem Tryz.infoEvent:(Tryz.prog.info? 99).map (fun i=>(i.zero,i.size,i.bytes))=some (some (.agg #[.int .i64 0, .int .i64 0, .int .i64 0, .bool false, .bool false]),5,32):=by kernel_rfl
abbrev OwnE (w:World) (base:Nat) (v:Value) (xs:List Ev):Prop:=Own EvE 99 w base v xs
theorem Rep.ev {w:World} {a:Option Addr} {n c:Nat} {xs:List Ev} (h:Rep EvE w (.slice a n c) xs) {k:Nat} {x:Ev} (hx:xs[k]? = some x) :
 ∃ b o,a=some ⟨b,o,none⟩∧b < w.heap.size∧w.cell? ⟨b,o+k * 5,none⟩=some (.int .i64 x.t)∧w.cell? ⟨b,o+k * 5+1,none⟩=some (.int .i64 x.i) ∧
  w.cell? ⟨b,o+k * 5+2,none⟩=some (.int .i64 x.l)∧w.cell? ⟨b,o+k * 5+3,none⟩=some (.bool x.r)∧w.cell? ⟨b,o+k * 5+4,none⟩=some (.bool x.w):=by
 obtain ⟨a',c',hv,_,_,h⟩:=h
 simp only [Value.slice.injEq] at hv
 obtain ⟨rfl,rfl,rfl⟩:=hv
 obtain ⟨b,o,rfl,h'⟩:=h k x hx
 exact ⟨b,o,rfl,lt_of_cell (h' 0 _ rfl),h' 0 _ rfl,h' 1 _ rfl,h' 2 _ rfl,h' 3 _ rfl,h' 4 _ rfl⟩
theorem step_app {α:Type} (E:El α) {P:Program} {w:World} {ops:Array Oper} {o:Oper} {a:Act} {K:Act→World→Prop} {Q:Exit→Act→World→Prop} {F:Prop}
 (T:TypeId) {zv:Value} {bytes:Nat} (hinfo:(P.info? T).map (fun i=>(i.zero,i.size,i.bytes))=some (some zv,E.sz,bytes)) (hz:zv.cells.size=E.sz) {t:TypeId} (h1:P.underlying t=some (.slice T))
 (base:Nat) (v:Value) (xs:List α) (x:α) (hown:Own E T w base v xs) (hby:bytes≤256) (hn:xs.length≤68719476736) (hbase:base≤w.heap.size)
 (hg:o.guard=none) (s y:Operand) (hop:o.op = .call { callee:=.builtin .append,args:=#[s,y],argTypes:=#[t,t] })
 (hs:a.eval s=v) (b off c:Nat) (hy:a.eval y = .slice (some ⟨b,off,none⟩) 1 c) (hnews:∀ j u,(E.c x)[j]? = some u→w.cell? ⟨b,off+j,none⟩=some u)
 (hK:∀ v' w',Own E T w' base v' (xs++[x])→w.grownBy w' v.ownBlock→K (a.put o.dst v') w') :
 if Region.wanted o (yielded ops a.tmps)=true then Oper.wp P o a w K Q else F:=by
 obtain ⟨it,hi,hz0,hz1,hz2⟩:=info_parts hinfo
 refine step_append_lies w hg s y t hop base T it zv E.sz bytes h1 hi hz0 hz1 hz2 hz E.pos v xs.length _ hs hown ⟨b,off,none⟩ 1 c (E.c x) hy (by rw [E.len,Nat.one_mul]) ?_ (E.one x) (by omega) (by unfold maxLen;omega) ?_ hbase _ rfl ?_
 ·intro j u hu
  have hadd:(⟨b,off,none⟩:Addr).add j=⟨b,off+j,none⟩:=by unfold Addr.add;split <;> simp_all
  rw [hadd]
  exact hnews j u hu
 ·have:=Nat.mul_le_mul (show xs.length+1≤68719476737 by omega) hby
  omega
 ·intro g cap w' h2 h3 _ _
  refine hK _ w' ?_ h3
  unfold Own
  simpa [List.flatMap_append] using h2
def evOf (t i:Nat) (x:Ins):List Ev:=if x.op=4 then [] else [⟨t,i,x.loc,isRop x.op,isWop x.op⟩]
def evRow (t:Nat) (r:List Ins) (k:Nat):List Ev:=(List.range k).flatMap fun i=>match r[i]? with
 | some x=>evOf t i x
 | none=>[]
def evTo (p:List (List Ins)) (j:Nat):List Ev:=(List.range j).flatMap fun t=>match p[t]? with
 | some r=>evRow t r r.length
 | none=>[]
def evHead (k:Nat):List Ev:=(List.range k).map fun (l:Nat)=>⟨-1,l,l,false,true⟩
def evAll (p:List (List Ins)):List Ev:=evHead 3++evTo p p.length
theorem evHead_succ (k:Nat):evHead (k+1)=evHead k++[⟨-1,k,k,false,true⟩]:=by simp [evHead,List.range_succ]
theorem evHead_length (k:Nat):(evHead k).length=k:=by simp [evHead]
theorem evRow_succ {t:Nat} {r:List Ins} {k:Nat} {x:Ins} (h:r[k]? = some x):evRow t r (k+1)=evRow t r k++evOf t k x:=by
 unfold evRow
 rw [List.range_succ,List.flatMap_append]
 simp [h]
theorem evTo_succ {p:List (List Ins)} {j:Nat} {r:List Ins} (h:p[j]? = some r):evTo p (j+1)=evTo p j++evRow j r r.length:=by
 unfold evTo
 rw [List.range_succ,List.flatMap_append]
 simp [h]
theorem evOf_length (t i:Nat) (x:Ins):(evOf t i x).length≤1:=by unfold evOf;split <;> simp
theorem evRow_length (t:Nat) (r:List Ins):∀ k,(evRow t r k).length≤k:=by
 intro k
 induction k with
 | zero=>simp [evRow]
 | succ k ih =>
  unfold evRow at ih ⊢
  rw [List.range_succ,List.flatMap_append,List.length_append]
  have:((List.flatMap (fun i=>match r[i]? with
   | some x=>evOf t i x
   | none=>[]) [k])).length≤1:=by
   cases h:r[k]? with
   | none=>simp [h]
   | some x=>simp [h];exact evOf_length t k x
  omega
theorem evTo_length (p:List (List Ins)):∀ j,j≤p.length→(evTo p j).length≤(p.take j).flatten.length:=by
 intro j
 induction j with
 | zero=>intro _;simp [evTo]
 | succ j ih =>
  intro hj
  obtain ⟨r,hr⟩:=get_of_lt (xs:=p) (k:=j) hj
  rw [evTo_succ hr,List.take_add_one,hr,List.flatten_append,List.length_append,List.length_append]
  have h1:=ih (by omega)
  have h2:=evRow_length j r r.length
  simp only [Option.toList_some,List.flatten_cons,List.flatten_nil,List.append_nil]
  omega
end Go.Proofs.YtkfhgnkonaafgaaGreatDoor
namespace Go.Proofs.YtkfhgnkonaafgaaGreatDoor
open Go.RowKit
theorem cell_of_block2 {w w':World} {b:Nat} (h:w'.heap[b]? = w.heap[b]?) (o:Nat):w'.cell? ⟨b,o,none⟩=w.cell? ⟨b,o,none⟩:=by
 unfold World.cell?
 rw [h]
theorem kept_cell {w w':World} {ob:Obj} {row:Option Nat} (hg:(w.alloc ob).grownBy w' row) {b:Nat} (hb:b < w.heap.size) (hne:∀ q,row=some q→q≠b) (o:Nat):w'.cell? ⟨b,o,none⟩=w.cell? ⟨b,o,none⟩:=by
 refine cell_of_block2 ?_ o
 rw [hg.block b (by simp;omega) (fun e=>hne b e.symm rfl),heap_alloc_old w ob hb]
theorem events_any (v:Value) (p:List (List Ins)) (w:World) (hp:RepP w v p) (hl:p.flatten.length≤1048576) :
 Calls Tryz.prog 80 #[v] w (RetOwn EvE 99 w (evAll p)):=by
 obtain ⟨a,c,rfl,hc1,hc2,hc3,hp⟩:=hp.open
 have HP:=hide hp;clear hp
 have HL:=hide hl;clear hl
 have PP:Hid (evAll p=evHead 3++evTo p p.length):=hide rfl
 have HGL:=hide (evTo_length p)
 generalize hn:p.length=n at *
 have H:=hide hn;clear hn
 go_enter Tryz.func80,Tryz.ntmps80
 go_wp2_with fail
 go_loopw [3,9] (fun s i wr => ∃ j:Nat,j≤3∧i = .int .i64 j∧OwnE wr w.heap.size s (evHead j)∧Below w.heap.size w wr) (fun _ i _=>3 - (intOf i).toNat)
 case atStart=>exact ⟨0,by omega,rfl,Own.nil _ _ _,Below.refl _ _⟩
 case round =>
  obtain ⟨j,hj,rfl,hown,hb⟩:=hrel
  by_cases hlt:j < 3
  ·have hlt':(j:Int) < 3:=by omega
   have HS:=hide (evHead_succ j)
   have hlen:(evHead j).length≤68719476736:=by rw [evHead_length];omega
   generalize evHead j=G at *
   go_wp2_with (at_builtin;refine wpList_app EvE 99 Tryz.infoEvent rfl Tryz.underlying96 w.heap.size _ _ ⟨-1,(j:Int),(j:Int),false,true⟩ (hown.alloc _) (by decide) hlen (by simp;have:=hb.size;omega) rfl _ _ rfl rfl wr.heap.size 0 1 rfl news_alloc ?_;intro v' w1 hown1 hgr1)
   have hb1:=below_app hb hown hgr1
   go_roundw
   case rel=>exact ⟨j+1,by omega,by go_num,by rw [HS.out];exact hown1,hb1⟩
   case measure=>simp [intOf];omega
  ·obtain rfl:j=3:=by omega
   have E3:Hid (evHead 3=evHead 3++evTo p 0):=hide (by simp [evTo])
   have H3:Hid ((evHead 3).length=3):=hide (evHead_length 3)
   generalize evHead 3=G3 at *
   go_wp2_with fail
   go_loopw [3,21] (fun s i wr => ∃ j:Nat,j≤n∧i = .int .i64 j∧OwnE wr w.heap.size s (G3++evTo p j)∧Below w.heap.size w wr) (fun _ i _=>n - (intOf i).toNat)
   case atStart=>exact ⟨0,by omega,rfl,by rw [← E3.out];exact hown,hb⟩
   case round =>
    obtain ⟨j,hj,rfl,hown,hb2⟩:=hrel
    by_cases hlt2:j < n
    ·obtain ⟨x,hxk⟩:=get_of_lt (xs:=p) (k:=j) (by rw [H.out];exact hlt2)
     obtain ⟨b,o,ra,rc,rfl,hbl0,i00,i1⟩:=HP.out.row hxk
     have i0:=(hb2.cell (p:=⟨b,o+j,none⟩) hbl0).trans i00
     have hbl:b < wr.heap.size:=by have:=hb2.size;omega
     have I1:=hide i1
     have hlt2':=nat_of_lt hlt2
     have GS:=hide (evTo_succ hxk)
     have hgl:(evTo p j).length≤1048576:=Nat.le_trans (HGL.out j (by omega)) (Nat.le_trans (flatten_take_le p j) HL.out)
     have hxl:=Nat.le_trans (row_le_flatten hxk) HL.out
     clear hxk i1 i00
     generalize hG:evTo p j=G at *
     clear hG
     have HO:=hide hown;clear hown
     go_wp2_with fail
     go_loopw [3,28] (fun s i wr => ∃ t:Nat,t≤x.length∧i = .int .i64 t∧OwnE wr w.heap.size s (G3++(G++evRow j x t))∧Below w.heap.size w wr) (fun _ i _=>x.length - (intOf i).toNat)
     case atStart=>exact ⟨0,by omega,rfl,by simpa [evRow] using HO.out,hb2⟩
     case round =>
      obtain ⟨t,ht,rfl,hown,hb3⟩:=hrel
      by_cases hlt3:t < x.length
      ·obtain ⟨y,hy⟩:=get_of_lt (xs:=x) (k:=t) hlt3
       obtain ⟨d1,e1,rfl,hd1,q0,q1,q2,q3⟩:=(I1.out.below hb3).ins hy
       have hlt3':=nat_of_lt hlt3
       have RS:=hide (evRow_succ (t:=j) hy)
       have hrl:=evRow_length j x t
       have Y:=hide hy;clear hy
       by_cases hop:y.op=4
       ·have k1:(y.op != 4)=false:=by simp [hop]
        have RS2:Hid (evRow j x (t+1)=evRow j x t):=hide (by rw [RS.out,evOf,if_pos hop,List.append_nil])
        clear hop
        go_wp2_with fail
        go_roundw
        case rel=>exact ⟨t+1,by omega,by go_num,by rw [RS2.out];exact hown.alloc _,hb3.alloc hb3.size _⟩
        case measure=>simp [intOf];omega
       ·have k1:(y.op != 4)=true:=by simp [hop]
        have RS2:Hid (evRow j x (t+1)=evRow j x t++[⟨j,t,y.loc,isRop y.op,isWop y.op⟩]):=hide (by rw [RS.out,evOf,if_neg hop])
        have hlen:(G3++(G++evRow j x t)).length≤68719476736:=by rw [List.length_append,List.length_append,H3.out];omega
        clear hop hrl
        generalize evRow j x t=RG at *
        have HO3:=hide (hown.alloc (.cells #[.int .i64 y.op, .int .i64 y.loc, .int .i64 y.reg, .int .i64 y.val] 103))
        have HB3:=hide (hb3.alloc hb3.size (.cells #[.int .i64 y.op, .int .i64 y.loc, .int .i64 y.reg, .int .i64 y.val] 103))
        have HRd:=hide (fun w'=>reads_raw y.op y.loc y.reg y.val w')
        have HWr:=hide (fun w'=>writes_raw y.op y.loc y.reg y.val w')
        generalize isRop y.op=rb at *
        generalize isWop y.op=wb at *
        have HOW:=hide hown
        clear hown
        go_wp2_with fail
        go_region_held3 (fun V=>V.cell? ⟨wr.heap.size,0,none⟩=some (.int .i64 y.op)∧V.cell? ⟨wr.heap.size,1,none⟩=some (.int .i64 y.loc)∧V.cell? ⟨wr.heap.size,2,none⟩=some (.int .i64 y.reg)∧V.cell? ⟨wr.heap.size,3,none⟩=some (.int .i64 y.val)) ((simp [go_sem, *]))
         (first
          | (go_at_call 122;(with_reducible refine (HRd.out _).mono ?_);rintro e u1 ⟨rfl,hb4⟩;have hb5:=hide (HB3.out.drew.trans (hb4.mono HB3.out.drew.size));have hO5:=hide ((HO3.out.below (Below.refl _ _).drew).below hb4);obtain ⟨hc4,hf4⟩:=bcell hb4)
          | (go_at_call 123;(with_reducible refine (HWr.out _).mono ?_);rintro e u2 ⟨rfl,hb6⟩;have hb7:=hide (hb5.out.trans (hb6.mono hb5.out.size));have hO7:=hide (hO5.out.below hb6);obtain ⟨hc6,hf6⟩:=bcell (hb4.trans (hb6.mono hb4.size));have hz6:wr.heap.size < u2.heap.size:=(by have h1:=hb4.size;have h2:=hb6.size;simp at h1;omega))
          | (refine step_app EvE 99 Tryz.infoEvent rfl Tryz.underlying96 w.heap.size _ _ ⟨(j:Int),(t:Int),y.loc,rb,wb⟩ (hO7.out.alloc _) (by decide) hlen (by have:=hb7.out.size;simp;omega) (by rfl) _ _ (by rfl) (by rfl) u2.heap.size 0 1 (by rfl) news_alloc ?_;intro v' w6 hown6 hgr6;have hk6:(∀ o,w6.cell? ⟨wr.heap.size,o,none⟩=u2.cell? ⟨wr.heap.size,o,none⟩):=(kept_cell hgr6 hz6 (fun q hq=>by have:=(World.ownsRow.lt HOW.out q hq).2;omega))))
        have hb8:=below_app hb7.out hO7.out hgr6
        go_wp2_with fail
        go_roundw
        case rel =>
         have hown7:OwnE w6 w.heap.size v' (G3++(G++evRow j x (t+1))):=by rw [RS2.out];simpa [List.append_assoc] using hown6
         repeat apply Exists.intro
         exact ⟨⟨t+1,by omega,by go_num,hown7,hb8⟩,rfl⟩
        case measure=>simp [intOf];omega
      ·have e:t=x.length:=by omega
       rw [e] at hown
       go_wp2_with fail
       go_roundw
       case rel=>exact ⟨j+1,by omega,by go_num,by rw [GS.out];exact hown,hb3⟩
       case measure=>simp [intOf];omega
    ·have e:j=n:=by omega
     go_wp2_with fail
     go_ret
     rw [PP.out,← e]
     exact ⟨_,rfl,hown,hb2⟩
end Go.Proofs.YtkfhgnkonaafgaaGreatDoor
namespace Go.Proofs.YtkfhgnkonaafgaaGreatDoor
theorem evOf_len (t i:Nat) (x:Ins):(evOf t i x).length=if notFence x=true then 1 else 0:=by
 unfold evOf notFence
 by_cases h:x.op=4
 ·simp [h]
 ·simp [h]
theorem evRow_len (t:Nat) (r:List Ins):∀ k,k≤r.length→(evRow t r k).length=(r.take k).countP notFence:=by
 intro k
 induction k with
 | zero=>intro _;simp [evRow]
 | succ k ih =>
  intro hk
  obtain ⟨x,hx⟩:=get_of_lt (xs:=r) (k:=k) hk
  rw [evRow_succ hx,List.length_append,ih (by omega),countP_take_succ _ hx,evOf_len]
theorem evTo_len (p:List (List Ins)):∀ j,j≤p.length→(evTo p j).length=cnt notFence (p.take j):=by
 intro j
 induction j with
 | zero=>intro _;simp [evTo,cnt]
 | succ j ih =>
  intro hj
  obtain ⟨r,hr⟩:=get_of_lt (xs:=p) (k:=j) hj
  rw [evTo_succ hr,List.length_append,ih (by omega),cnt_take_succ _ hr,evRow_len j r r.length (Nat.le_refl _),List.take_length]
theorem evAll_le {p:List (List Ins)} (h:progValid p=true):(evAll p).length≤15:=by
 obtain ⟨-, -, -,h4, -⟩:=valid_le h
 unfold evAll
 rw [List.length_append,evHead_length,evTo_len p p.length (Nat.le_refl _),List.take_length]
 omega
end Go.Proofs.YtkfhgnkonaafgaaGreatDoor
namespace Go.Proofs.YtkfhgnkonaafgaaGreatDoor
structure Xc where
 fr:List Int
 od:List (List Int)
deriving DecidableEq
def wr1 (l:Int) (i:Nat) (e:Ev):List Int:=if (e.w&&e.l==l)=true then [(i:Int)] else []
def wrTo (es:List Ev) (l:Int) (k:Nat):List Int:=(List.range k).flatMap fun i=>match es[i]? with
 | some e=>wr1 l i e
 | none=>[]
def wrL (es:List Ev) (l:Int):List Int:=wrTo es l es.length
theorem wrTo_succ {es:List Ev} (l:Int) {k:Nat} {e:Ev} (h:es[k]? = some e):wrTo es l (k+1)=wrTo es l k++wr1 l k e:=by
 unfold wrTo
 rw [List.range_succ,List.flatMap_append]
 simp [h]
theorem wr1_length (l:Int) (i:Nat) (e:Ev):(wr1 l i e).length≤1:=by unfold wr1;split <;> simp
theorem wrTo_length (es:List Ev) (l:Int):∀ k,k≤es.length→(wrTo es l k).length≤k:=by
 intro k
 induction k with
 | zero=>intro _;simp [wrTo]
 | succ k ih =>
  intro hk
  obtain ⟨e,he⟩:=get_of_lt (xs:=es) (k:=k) hk
  rw [wrTo_succ l he,List.length_append]
  have:=ih (by omega)
  have:=wr1_length l k e
  omega
theorem wrL_length (es:List Ev) (l:Int):(wrL es l).length≤es.length:=wrTo_length es l es.length (Nat.le_refl _)
theorem mem_wrTo {es:List Ev} {l x:Int}:∀ {k:Nat},k≤es.length→(x∈wrTo es l k↔∃ (i:Nat) (e:Ev),i < k∧x=i∧es[i]? = some e∧e.w=true∧e.l=l):=by
 intro k
 induction k with
 | zero=>intro _;simp [wrTo]
 | succ k ih =>
  intro hk
  obtain ⟨e,he⟩:=get_of_lt (xs:=es) (k:=k) hk
  rw [wrTo_succ l he,List.mem_append,ih (by omega)]
  constructor
  ·rintro (⟨i,e',h1,h2⟩ | h)
   ·exact ⟨i,e',by omega,h2⟩
   ·unfold wr1 at h
    split at h
    ·rename_i hc
     simp at h hc
     exact ⟨k,e,by omega,h,he,hc.1,hc.2⟩
    ·simp at h
  ·rintro ⟨i,e',h1,h2,h3,h4,h5⟩
   by_cases hi:i=k
   ·subst hi
    rw [he] at h3;simp at h3;subst h3
    refine .inr ?_
    unfold wr1
    rw [if_pos (by simp [h4,h5])]
    simp [h2]
   ·exact .inl ⟨i,e',by omega,h2,h3,h4,h5⟩
theorem mem_wrL {es:List Ev} {l x:Int}:x∈wrL es l↔∃ (i:Nat) (e:Ev),i < es.length∧x=i∧es[i]? = some e∧e.w=true∧e.l=l:=mem_wrTo (Nat.le_refl _)
def fromOk (es:List Ev) (i:Nat) (e:Ev) (f:Int):Bool:=if e.r=true then (f != (i:Int))&&(wrL es e.l).contains f else f == -1
def fromsOk (es:List Ev) (fr:List Int) (k:Nat):Bool:=(List.range k).all fun i=>match es[i]?,fr[i]? with
 | some e,some f=>fromOk es i e f
 | _,_=>false
def orderOk (es:List Ev) (l:Nat) (o:List Int):Bool:=decide (o.Perm (wrL es l))&&(o.head? == some (l:Int))
def ordersOk (es:List Ev) (od:List (List Int)) (k:Nat):Bool:=(List.range k).all fun l=>match od[l]? with
 | some o=>orderOk es l o
 | none=>false
def execOk (p:List (List Ins)) (x:Xc):Bool:=
 progValid p&&(decide (x.fr.length=(evAll p).length)&&(decide (x.od.length=3)&&(fromsOk (evAll p) x.fr (evAll p).length&&ordersOk (evAll p) x.od 3)))
theorem fromsOk_get {es:List Ev} {fr:List Int} {k i:Nat} (h:fromsOk es fr k=true) (hi:i < k):∃ e f,es[i]? = some e∧fr[i]? = some f∧fromOk es i e f=true:=by
 unfold fromsOk at h
 rw [List.all_eq_true] at h
 have:=h i (List.mem_range.2 hi)
 split at this
 ·rename_i e f he hf
  exact ⟨e,f,he,hf,this⟩
 ·cases this
theorem ordersOk_get {es:List Ev} {od:List (List Int)} {k i:Nat} (h:ordersOk es od k=true) (hi:i < k):∃ o,od[i]? = some o∧orderOk es i o=true:=by
 unfold ordersOk at h
 rw [List.all_eq_true] at h
 have:=h i (List.mem_range.2 hi)
 split at this
 ·rename_i o ho
  exact ⟨o,ho,this⟩
 ·cases this
theorem head_wrL {p:List (List Ins)} {l:Nat} (hl:l < 3):(wrL (evAll p) l).head? = some (l:Int):=by
 have h3:∀ k,3≤k→k≤(evAll p).length→∃ t,wrTo (evAll p) l k=(l:Int) :: t:=by
  intro k
  induction k with
  | zero=>intro h;omega
  | succ k ih =>
   intro h hk
   by_cases hk2:k=2
   ·subst hk2
    have e0:(evAll p)[0]? = some ⟨-1,0,0,false,true⟩:=rfl
    have e1:(evAll p)[1]? = some ⟨-1,1,1,false,true⟩:=rfl
    have e2:(evAll p)[2]? = some ⟨-1,2,2,false,true⟩:=rfl
    rw [wrTo_succ _ e2,wrTo_succ _ e1,wrTo_succ _ e0]
    have:l=0∨l=1∨l=2:=by omega
    rcases this with rfl | rfl | rfl <;> exact ⟨_,rfl⟩
   ·obtain ⟨e,he⟩:=get_of_lt (xs:=evAll p) (k:=k) hk
    obtain ⟨t,ht⟩:=ih (by omega) (by omega)
    rw [wrTo_succ _ he,ht]
    exact ⟨_,rfl⟩
 obtain ⟨t,ht⟩:=h3 (evAll p).length (by unfold evAll;simp [evHead_length]) (Nat.le_refl _)
 unfold wrL
 rw [ht];rfl
end Go.Proofs.YtkfhgnkonaafgaaGreatDoor
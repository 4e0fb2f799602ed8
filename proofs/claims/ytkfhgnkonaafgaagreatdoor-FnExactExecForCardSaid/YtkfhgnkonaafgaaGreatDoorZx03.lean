/-
  The laws' texts of marks. Condition: a bound on the number.
-/
import Derived.Test.YtkfhgnkonaafgaaGreatDoorZx00
import Derived.Laws.BytesArg
set_option maxHeartbeats 6400000
set_option maxRecDepth 100000
namespace Go.Proofs.YtkfhgnkonaafgaaGreatDoor
open Go.RowKit
theorem times_any (q:Nat) (m:Int) (b:Nat) (w:World) (hc:w.cell? ⟨b,0,none⟩=some (.int .i64 (q:Int))) (hf:w.frozen? ⟨b,0,none⟩=false) (hq:q≤3001) (h0:0≤m) (hn:m≤1048577) :
 Calls Tryz.prog 137 #[.int .i64 m, .pointer (some ⟨b,0,none⟩)] w fun e w'=>e = .returned (.tuple #[])∧w.setCell ⟨b,0,none⟩ (.int .i64 (cap (q * m.toNat):Nat))=w':=by
 obtain ⟨n,rfl⟩:=Int.eq_ofNat_of_zero_le h0
 rw [Int.toNat_natCast]
 have hn:n≤1048577:=by omega
 have hm:q * n≤3001 * 1048577:=Nat.mul_le_mul hq hn
 have e1:((q * n:Nat):Int)=(q:Int) * n:=by simp
 have hm2:(q:Int) * n≤3146780577:=by omega
 have hm3:0≤(q:Int) * n:=by omega
 have e2:((cap (q * n):Nat):Int)=min ((q:Int) * n) 3001:=by unfold cap;omega
 rw [e2]
 have E1:=hide e1;clear e1
 have E2:=hide e2;clear e2
 clear hm
 go_enter Tryz.func137,Tryz.ntmps137
 go_wp2
 ·go_end0
  rw [show min ((q:Int) * n) 3001=3001 by omega]
  exact ⟨rfl,rfl⟩
 ·go_end0
  rw [show min ((q:Int) * n) 3001=(q:Int) * n by omega]
  exact ⟨rfl,rfl⟩
theorem execs_any (v:Value) (p:List (List Ins)) (w:World) (hp:RepP w v p) (hl:p.flatten.length≤1048576) (hpl:p.length≤1048576) :
 Calls Tryz.prog 95 #[v] w fun e w'=>e = .returned (.int .i64 (cap (prodP p):Nat))∧Below w.heap.size w w':=by
 obtain ⟨a,c,rfl,hc1,hc2,hc3,hp⟩:=hp.open
 have HP:=hide hp;clear hp
 have HL:=hide hl;clear hl
 generalize hn:p.length=n at *
 have H:=hide hn;clear hn
 go_enter Tryz.func95,Tryz.ntmps95
 go_wp2_with fail
 go_loopw [14] (fun i wr => ∃ k:Nat,k≤3∧i = .int .i64 k∧wr.cell? ⟨w.heap.size,0,none⟩=some (.int .i64 (cap (prodTo p k):Nat))∧wr.frozen? ⟨w.heap.size,0,none⟩=false∧Below w.heap.size w wr∧w.heap.size < wr.heap.size) (fun i _=>3 - (intOf i).toNat)
 case atStart=>exact ⟨0,by omega,rfl,by simp [go_sem,prodTo,cap],by simp [go_sem],((Below.refl _ _).alloc (Nat.le_refl _) _),by simp⟩
 case round =>
  obtain ⟨k,hk,rfl,hcell,hfr,hb,hsz⟩:=hrel
  by_cases hlt:k < 3
  ·obtain ⟨wl,rfl⟩:∃ wl:World,wl=wr:=⟨_,rfl⟩
   have hlt':(k:Int) < 3:=by omega
   go_wp2_with fail
   go_loopw [6,7,19] (fun r wv i wr => ∃ j:Nat,j≤n∧i = .int .i64 j∧r = .int .i64 (cnt (fR k) (p.take j):Nat)∧wv = .int .i64 (cnt (fW k) (p.take j):Nat)∧Below wl.heap.size wl wr) (fun _ _ i _=>n - (intOf i).toNat)
   case atStart=>exact ⟨0,by omega,rfl,by simp [cnt],by simp [cnt],Below.refl _ _⟩
   case round =>
    obtain ⟨j,hj,rfl,rfl,rfl,hb2⟩:=hrel
    by_cases hlt2:j < n
    ·obtain ⟨wm,rfl⟩:∃ wm:World,wm=wr:=⟨_,rfl⟩
     obtain ⟨x,hxk⟩:=get_of_lt (xs:=p) (k:=j) (by rw [H.out];exact hlt2)
     obtain ⟨b,o,ra,rc,rfl,hbl,i0,i1⟩:=(HP.out.below (hb.trans (hb2.mono (Nat.le_of_lt hsz)))).row hxk
     have hlt2':=nat_of_lt hlt2
     obtain ⟨_,_,_,_,hr2,_,_⟩:=i1.open
     have hcR:=cnt_take_succ (fR k) hxk
     have hcW:=cnt_take_succ (fW k) hxk
     have hbR:=Nat.le_trans (cnt_take_le (fR k) p j) HL.out
     have hbW:=Nat.le_trans (cnt_take_le (fW k) p j) HL.out
     have hxl:=Nat.le_trans (row_le_flatten hxk) HL.out
     have CR:=hide hcR;have CW:=hide hcW;have I1:=hide i1;have X:=hide hxk
     clear hcR hcW i1 hxk
     generalize hR:cnt (fR k) (p.take j)=R at *
     generalize hW:cnt (fW k) (p.take j)=W at *
     clear hR hW
     go_wp2_with fail
     go_loopw [6,7,25] (fun r wv i wr => ∃ t:Nat,t≤x.length∧i = .int .i64 t∧r = .int .i64 (R+(x.take t).countP (fR k):Nat)∧wv = .int .i64 (W+(x.take t).countP (fW k):Nat)∧Below wm.heap.size wm wr) (fun _ _ i _=>x.length - (intOf i).toNat)
     case atStart=>exact ⟨0,by omega,rfl,by simp,by simp,Below.refl _ _⟩
     case round =>
      obtain ⟨t,ht,rfl,rfl,rfl,hb3⟩:=hrel
      have hwm:w.heap.size≤wm.heap.size:=by have:=hb2.size;omega
      by_cases hlt3:t < x.length
      ·obtain ⟨y,hyk⟩:=get_of_lt (xs:=x) (k:=t) hlt3
       obtain ⟨b',o',rfl,hbl',j0,j1,j2,j3⟩:=(I1.out.below hb3).ins hyk
       have hlt3':=nat_of_lt hlt3
       have CR2:=hide (countP_take_succ (fR k) hyk)
       have CW2:=hide (countP_take_succ (fW k) hyk)
       have hbR2:(x.take t).countP (fR k)≤1048576:=Nat.le_trans List.countP_le_length (by simp;omega)
       have hbW2:(x.take t).countP (fW k)≤1048576:=Nat.le_trans List.countP_le_length (by simp;omega)
       have Y:=hide hyk;clear hyk
       generalize hR2:(x.take t).countP (fR k)=R2 at *
       generalize hW2:(x.take t).countP (fW k)=W2 at *
       clear hR2 hW2
       by_cases hloc:y.loc=k
       ·have CR3:Hid ((x.take (t+1)).countP (fR k)=R2+if isRop y.op=true then 1 else 0):=by have h:=CR2.out;rwa [fR_yes hloc] at h
        have CW3:Hid ((x.take (t+1)).countP (fW k)=W2+if isWop y.op=true then 1 else 0):=by have h:=CW2.out;rwa [fW_yes hloc] at h
        clear CR2 CW2
        rw [hloc] at j1
        clear hloc
        have hkk:((k:Int)==k)=true:=by simp
        generalize hro:isRop y.op=ro at *
        generalize hwo:isWop y.op=wo at *
        have RO:=hide hro;have WO:=hide hwo;clear hro hwo
        cases ro <;> cases wo
        all_goals
         go_wp2_with (first | (go_at_call 122;(with_reducible refine (reads_raw _ _ _ _ _).mono ?_);rw [RO.out];rintro e w3 ⟨rfl,hb4⟩;obtain ⟨hc4,hf4⟩:=bcell hb4) | (go_at_call 123;(with_reducible refine (writes_raw _ _ _ _ _).mono ?_);rw [WO.out];rintro e w4 ⟨rfl,hb5⟩;obtain ⟨hc5,hf5⟩:=bcell hb5))
         go_roundw
         case rel=>exact ⟨t+1,by omega,by go_num,by rw [CR3.out];simp;try omega,by rw [CW3.out];simp;try omega,(((hb3.alloc hb3.size _).trans (hb4.mono (by have:=hb3.size;simp;omega))).trans (hb5.mono (by have:=hb3.size;have:=hb4.size;simp at this;omega)))⟩
         case measure=>simp [intOf];omega
       ·have CR3:Hid ((x.take (t+1)).countP (fR k)=R2):=hide (by have h:=CR2.out;rw [fR_no hloc] at h;simpa using h)
        have CW3:Hid ((x.take (t+1)).countP (fW k)=W2):=hide (by have h:=CW2.out;rw [fW_no hloc] at h;simpa using h)
        clear CR2 CW2
        have hkk:(y.loc==(k:Int))=false:=by simpa using hloc
        clear hloc
        go_wp2_with fail
        go_roundw
        case rel=>exact ⟨t+1,by omega,by go_num,by rw [CR3.out],by rw [CW3.out],hb3.alloc hb3.size _⟩
        case measure=>simp [intOf];omega
      ·have e:t=x.length:=by omega
       have CR4:Hid (cnt (fR k) (p.take (j+1))=R+(x.take t).countP (fR k)):=by have h:=CR.out;rwa [e,List.take_length]
       have CW4:Hid (cnt (fW k) (p.take (j+1))=W+(x.take t).countP (fW k)):=by have h:=CW.out;rwa [e,List.take_length]
       have hbR2:(x.take t).countP (fR k)≤1048576:=Nat.le_trans List.countP_le_length (by simp;omega)
       have hbW2:(x.take t).countP (fW k)≤1048576:=Nat.le_trans List.countP_le_length (by simp;omega)
       generalize hR2:(x.take t).countP (fR k)=R2 at *
       generalize hW2:(x.take t).countP (fW k)=W2 at *
       clear hR2 hW2 e
       go_wp2_with fail
       go_roundw
       case rel=>exact ⟨j+1,by omega,by go_num,by rw [CR4.out],by rw [CW4.out],hb2.trans (hb3.mono hb2.size)⟩
       case measure=>simp [intOf];omega
    ·have e:j=n:=by omega
     have hpt:p.take j=p:=List.take_of_length_le (by rw [H.out];omega)
     have hbR:=Nat.le_trans (cnt_le_flatten (fR k) p) HL.out
     have hbW:=Nat.le_trans (cnt_le_flatten (fW k) p) HL.out
     have PS:Hid (prodTo p (k+1)=prodTo p k * ((cnt (fW k) p+1) ^ cnt (fR k) p * fact (cnt (fW k) p))):=hide rfl
     rw [hpt]
     clear hpt e
     generalize hR:cnt (fR k) p=R at *
     generalize hW:cnt (fW k) p=W at *
     generalize hQ:prodTo p k=Q at *
     clear hR hW hQ
     have hb:=hb.trans (hb2.mono (Nat.le_of_lt hsz))
     have hcell:wr.cell? ⟨w.heap.size,0,none⟩=some (.int .i64 (cap Q:Nat)):=(hb2.cell (p:=⟨w.heap.size,0,none⟩) hsz).trans hcell
     have hfr:wr.frozen? ⟨w.heap.size,0,none⟩=false:=(hb2.frozen (p:=⟨w.heap.size,0,none⟩) hsz).trans hfr
     have hsz:w.heap.size < wr.heap.size:=by have:=hb2.size;omega
     clear hb2
     obtain ⟨wn,rfl⟩:∃ wn:World,wn=wr:=⟨_,rfl⟩
     go_wp2_with fail
     go_loopw [52] (fun i wr => ∃ t:Nat,t≤R∧i = .int .i64 t∧wr.cell? ⟨w.heap.size,0,none⟩=some (.int .i64 (cap (Q * (W+1) ^ t):Nat))∧wr.frozen? ⟨w.heap.size,0,none⟩=false∧Below w.heap.size w wr∧w.heap.size < wr.heap.size) (fun i _=>R - (intOf i).toNat)
     case atStart=>exact ⟨0,by omega,rfl,by simpa using hcell,hfr,hb,hsz⟩
     case round =>
      obtain ⟨t,ht,rfl,hcell2,hfr2,hb2,hsz2⟩:=hrel
      by_cases hlt3:t < R
      ·have E:Hid (cap (cap (Q * (W+1) ^ t) * (W+1))=cap (Q * (W+1) ^ (t+1))):=by
        apply hide
        rw [cap_mul _ _ (by omega),Nat.pow_succ,Nat.mul_assoc]
       have hcl:=cap_le (Q * (W+1) ^ t)
       generalize cap (Q * (W+1) ^ t)=C at *
       go_wp2_with (go_at_call 137;(with_reducible refine (times_any C _ _ _ hcell2 hfr2 hcl (by omega) (by omega)).mono ?_);rintro e w3 ⟨rfl,rfl⟩)
       go_roundw
       case rel=>exact ⟨t+1,by omega,by go_num,by rw [← E.out];exact World.cell?_setCell_same _ _ _ hcell2,by simpa using hfr2,hb2.setCell (Nat.le_refl _) _,by simpa using hsz2⟩
       case measure=>simp [intOf];omega
      ·have e:t=R:=by omega
       subst e
       generalize hQ:Q * (W+1) ^ t=Q2 at *
       have HQ:=hide hQ;clear hQ
       clear hcell hfr hb hsz
       obtain ⟨wo,rfl⟩:∃ wo:World,wo=wr:=⟨_,rfl⟩
       go_wp2_with fail
       go_loopw [12,60] (fun _ i wr => ∃ s:Nat,s≤W∧i = .int .i64 s∧wr.cell? ⟨w.heap.size,0,none⟩=some (.int .i64 (cap (Q2 * fact s):Nat))∧wr.frozen? ⟨w.heap.size,0,none⟩=false∧Below w.heap.size w wr∧w.heap.size < wr.heap.size) (fun _ i _=>W - (intOf i).toNat)
       case atStart=>exact ⟨0,by omega,rfl,by simpa [fact] using hcell2,hfr2,hb2,hsz2⟩
       case round =>
        obtain ⟨s,hs,rfl,hcell,hfr,hb,hsz⟩:=hrel
        by_cases hlt4:s < W
        ·have E:Hid (cap (cap (Q2 * fact s) * (s+1))=cap (Q2 * fact (s+1))):=by
          apply hide
          rw [cap_mul _ _ (by omega),fact,Nat.mul_assoc]
         have hcl:=cap_le (Q2 * fact s)
         generalize cap (Q2 * fact s)=C at *
         clear hcell2 hfr2 hb2 hsz2
         go_wp2_with (go_at_call 137;(with_reducible refine (times_any C _ _ _ hcell hfr hcl (by omega) (by omega)).mono ?_);rintro e w3 ⟨rfl,rfl⟩)
         go_roundw
         case rel=>exact ⟨s+1,by omega,by go_num,by rw [← E.out];exact World.cell?_setCell_same _ _ _ hcell,by simpa using hfr,hb.setCell (Nat.le_refl _) _,by simpa using hsz⟩
         case measure=>simp [intOf];omega
        ·have e:s=W:=by omega
         subst e
         have PS2:Hid (prodTo p (k+1)=Q2 * fact s):=hide (by rw [PS.out,← HQ.out,Nat.mul_assoc])
         clear hcell2 hfr2 hb2 hsz2
         go_wp2_with fail
         go_roundw
         case rel=>exact ⟨k+1,by omega,by go_num,by rw [PS2.out];exact hcell,hfr,hb,hsz⟩
         case measure=>simp [intOf];omega
  ·have e:k=3:=by omega
   subst e
   go_wp2_with fail
   go_ret
   exact ⟨rfl,hb⟩
end Go.Proofs.YtkfhgnkonaafgaaGreatDoor
namespace Go.Proofs.YtkfhgnkonaafgaaGreatDoor
open Go.RowKit
theorem oneByteM (u:World) (B:Int):(convert 50 9 (.slice (some ⟨u.heap.size,0,none⟩) 1 1)).run Tryz.prog (u.alloc (.cells #[.int .u8 B] 5)) = .ok (.string (strOfNums [B])) (u.alloc (.cells #[.int .u8 B] 5)):=
 run_convert_bytes_arg (u.alloc (.cells #[.int .u8 B] 5)) 50 5 Tryz.underlying50 Tryz.underlying5 u.heap.size 0 1 1 [B] rfl (fun i hi=>by
  obtain rfl:i=0:=by omega
  simp [go_sem]) 9 Tryz.underlying9
theorem strOne_size (B:Int):(strOfNums [B]).size=1:=rfl
def digM:Nat→Int→ByteArray→ByteArray
 | 0,_,acc=>acc
 | f+1,k,acc=>if 0 < k then digM f (k / 10) (strOfNums [48+k % 10]++acc) else acc
def mtB (k:Int):ByteArray:=if k≤0 then ⟨#[109,48]⟩ else ⟨#[109]⟩++digM 20 k ⟨#[]⟩
theorem markText_any (k:Int) (w:World) (h0:0≤k) (h1:k≤1099511627776):Calls Tryz.prog 48 #[.int .i64 k] w fun e w'=>e = .returned (.string (mtB k))∧Below w.heap.size w w':=by
 have ME:Hid (mtB k=if k≤0 then ⟨#[109,48]⟩ else ⟨#[109]⟩++digM 20 k ⟨#[]⟩):=hide rfl
 generalize mtB k=R at *
 by_cases hz:k≤0
 ·have hz':decide (k≤0)=true:=decide_eq_true hz
  obtain rfl:R=⟨#[109,48]⟩:=by rw [ME.out,if_pos hz]
  clear ME hz
  go_enter Tryz.func48,Tryz.ntmps48
  go_wp2_with fail
  go_ret
  exact ⟨rfl,Below.refl _ _⟩
 ·have hz':decide (k≤0)=false:=decide_eq_false hz
  have M0:Hid (digM 20 k ⟨#[]⟩=digM 20 k ⟨#[]⟩):=hide rfl
  obtain ⟨D,hD⟩:∃ D,D=digM 20 k ⟨#[]⟩:=⟨_,rfl⟩
  have HD:=hide hD.symm
  have HR:Hid (R=⟨#[109]⟩++D):=hide (by rw [ME.out,if_neg hz,hD])
  have HE:Hid (∀ f k acc,digM (f+1) k acc=if 0 < k then digM f (k / 10) (strOfNums [48+k % 10]++acc) else acc):=hide fun _ _ _=>rfl
  have HN:Hid (∀ k acc,digM 0 k acc=acc):=hide fun _ _=>rfl
  clear ME hD M0
  generalize digM=DG at *
  go_enter Tryz.func48,Tryz.ntmps48
  go_wp2_with fail
  go_loopw [0,3] (fun v q wr => ∃ (f:Nat) (kk:Int) (acc:ByteArray),v = .int .i64 kk∧q = .string acc∧0≤kk∧kk < 10 ^ f∧kk≤1099511627776∧acc.size+f≤20∧Hid (DG f kk acc=D)∧Hid (Below w.heap.size w wr)) (fun v _ _=>(intOf v).toNat)
  case atStart=>exact ⟨20,k,⟨#[]⟩,rfl,rfl,h0,by omega,h1,by decide,HD,hide (Below.refl _ _)⟩
  case round =>
   obtain ⟨f,kk,acc,rfl,rfl,hk0,hkf,hk1,hsz,HDD,HB⟩:=hrel
   by_cases hp:0 < kk
   ·have hp':decide (kk > 0)=true:=decide_eq_true hp
    obtain ⟨f',rfl⟩:∃ f',f=f'+1:=by
     cases f with
     | zero=>simp at hkf;omega
     | succ f=>exact ⟨f,rfl⟩
    have HD2:Hid (DG f' (kk / 10) (strOfNums [48+kk % 10]++acc)=D):=hide (by rw [← HDD.out,HE.out,if_pos hp])
    have hkf':kk / 10 < 10 ^ f':=by rw [Int.pow_succ] at hkf;omega
    have hq:0≤kk % 10∧kk % 10 < 10:=by omega
    obtain ⟨hq0,hq9⟩:=hq
    clear hkf
    have kc:=oneByteM
    have zz:=strOne_size (48+kk % 10)
    go_wp2_with fail
    go_roundw
    case rel=>exact ⟨f',kk / 10,strOfNums [48+kk % 10]++acc,by go_num,rfl,by omega,hkf',by omega,by rw [ByteArray.size_append];omega,HD2,hide (HB.out.alloc HB.out.size _)⟩
    case measure=>simp [intOf];omega
   ·have hp':decide (kk > 0)=false:=decide_eq_false hp
    have HD2:Hid (D=acc):=hide (by
     rw [← HDD.out]
     cases f with
     | zero=>rw [HN.out]
     | succ f=>rw [HE.out,if_neg hp])
    go_wp2_with fail
    go_ret
    exact ⟨by rw [HR.out,HD2.out];rfl,HB.out⟩
end Go.Proofs.YtkfhgnkonaafgaaGreatDoor
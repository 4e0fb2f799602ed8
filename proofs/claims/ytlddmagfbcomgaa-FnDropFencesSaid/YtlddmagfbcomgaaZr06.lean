/-
  Plain: a valid program has few events.
-/
import Derived.Test.YtlddmagfbcomgaaZr02
import Derived.Test.YtlddmagfbcomgaaZr03
import Derived.Test.YtlddmagfbcomgaaZr00
import Derived.Test.YtlddmagfbcomgaaZr05
import Derived.Deep.RegionHeld3
import Derived.Deep.DeepCutAuto
import Derived.Deep.AppendLies
set_option maxHeartbeats 6400000
set_option maxRecDepth 100000
namespace Go.Proofs.Ytlddmagfbcomgaa
open Go.RowKit
theorem sInstrValid_raw (a b c d:Int) (w:World):Calls Try.prog 45 #[.agg #[.int .i64 a, .int .i64 b, .int .i64 c, .int .i64 d]] w fun e w'=>e = .returned (.bool (insValid ⟨a,b,c,d⟩))∧Below w.heap.size w w':=sInstrValid_any ⟨a,b,c,d⟩ w
theorem InstrValid_raw (a b c d:Int) (w:World):Calls Try.prog 28 #[.agg #[.int .i64 a, .int .i64 b, .int .i64 c, .int .i64 d]] w fun e w'=>e = .returned (.bool (insValid ⟨a,b,c,d⟩))∧Below w.heap.size w w':=InstrValid_any ⟨a,b,c,d⟩ w
theorem l1Shape_any (v:Value) (p:List (List Ins)) (w:World) (hp:RepP w v p) (hl:p.flatten.length≤1048576) :
 Calls Try.prog 32 #[v] w fun e w'=>e = .returned (.bool (shapeOk p))∧Below w.heap.size w w':=by
 obtain ⟨a,c,rfl,hc1,hc2,hc3,hp⟩:=hp.open
 have HP:=hide hp;clear hp
 have HL:=hide hl;clear hl
 generalize hn:p.length=n at *
 have H:=hide hn;clear hn
 by_cases h3:3 < n
 ·have E:Hid (shapeOk p=false):=hide (by unfold shapeOk;rw [H.out];simp;omega)
  have h3':(3:Int) < n:=by omega
  go_enter Try.func32,Try.ntmps32
  go_wp2_with fail
  go_ret
  rw [E.out]
  exact ⟨rfl,Below.refl _ _⟩
 ·have h3':(n:Int)≤3:=by omega
  go_enter Try.func32,Try.ntmps32
  go_wp2_with fail
  go_loopw [3,4] (fun r i wr => ∃ j:Nat,j≤n∧i = .int .i64 j∧r = .int .i64 (cnt notFence (p.take j):Nat)∧Hid ((p.take j).all rowOk=true)∧Below w.heap.size w wr) (fun _ i _=>n - (intOf i).toNat)
  case atStart=>exact ⟨0,by omega,rfl,by simp [cnt],hide (by simp),Below.refl _ _⟩
  case round =>
   obtain ⟨j,hj,rfl,rfl,hok,hb2⟩:=hrel
   by_cases hlt2:j < n
   ·obtain ⟨wm,rfl⟩:∃ wm:World,wm=wr:=⟨_,rfl⟩
    obtain ⟨x,hxk⟩:=get_of_lt (xs:=p) (k:=j) (by rw [H.out];exact hlt2)
    obtain ⟨b,o,ra,rc,rfl,hbl,i0,i1⟩:=(HP.out.below hb2).row hxk
    have hlt2':=nat_of_lt hlt2
    obtain ⟨_,_,_,_,hr2,_,_⟩:=i1.open
    have CR:=hide (cnt_take_succ notFence hxk)
    have hbR:=Nat.le_trans (cnt_take_le notFence p j) HL.out
    have hxl:=Nat.le_trans (row_le_flatten hxk) HL.out
    have I1:=hide i1;have X:=hide hxk
    clear i1 hxk
    generalize hR:cnt notFence (p.take j)=R at *
    clear hR
    by_cases h7:7 < x.length
    ·have E:Hid (shapeOk p=false):=hide (by
      have:=all_no X.out (by unfold rowOk;simp;omega)
      unfold shapeOk;simp [this])
     have h7':(7:Int) < x.length:=by omega
     go_wp2_with fail
     go_ret
     rw [E.out]
     exact ⟨rfl,hb2⟩
    ·have h7':(x.length:Int)≤7:=by omega
     go_wp2_with fail
     go_loopw [3,5] (fun r i wr => ∃ t:Nat,t≤x.length∧i = .int .i64 t∧r = .int .i64 (R+(x.take t).countP notFence:Nat)∧Hid ((x.take t).all insValid=true)∧Below wm.heap.size wm wr) (fun _ i _=>x.length - (intOf i).toNat)
     case atStart=>exact ⟨0,by omega,rfl,by simp,hide (by simp),Below.refl _ _⟩
     case round =>
      obtain ⟨t,ht,rfl,rfl,hok2,hb3⟩:=hrel
      have hbR2:(x.take t).countP notFence≤1048576:=Nat.le_trans List.countP_le_length (by simp;omega)
      have i0':wr.cell? ⟨b,o+j,none⟩=some (.slice ra x.length rc):=(hb3.cell (p:=⟨b,o+j,none⟩) hbl).trans i0
      by_cases hlt3:t < x.length
      ·obtain ⟨y,hyk⟩:=get_of_lt (xs:=x) (k:=t) hlt3
       obtain ⟨b',o',rfl,hbl',j0,j1,j2,j3⟩:=(I1.out.below hb3).ins hyk
       have hlt3':=nat_of_lt hlt3
       have CR2:=hide (countP_take_succ notFence hyk)
       have Y:=hide hyk;clear hyk
       have hbl2:b < wr.heap.size:=by have:=hb3.size;omega
       generalize hR2:(x.take t).countP notFence=R2 at *
       clear hR2
       generalize hv:insValid y=vv at *
       have V:=hide hv;clear hv
       cases vv
       ·have E:Hid (shapeOk p=false):=hide (by
         have:=all_no X.out (row_no Y.out V.out)
         unfold shapeOk;simp [this])
        go_wp2_with (go_at_call 45;(with_reducible refine (sInstrValid_raw _ _ _ _ _).mono ?_);rw [V.out];rintro e w3 ⟨rfl,hb4⟩)
        go_ret
        rw [E.out]
        exact ⟨rfl,hb2.trans ((hb3.trans (hb4.mono hb3.size)).mono hb2.size)⟩
       ·have OK3:=hide (all_take_succ hok2.out Y.out V.out)
        have CR3:Hid ((x.take (t+1)).countP notFence=R2+if (y.op != 4)=true then 1 else 0):=CR2
        clear CR2
        by_cases h4:y.op=4
        ·have g4:(y.op != 4)=false:=by simp [h4]
         have CR4:Hid ((x.take (t+1)).countP notFence=R2):=hide (by have h:=CR3.out;rw [g4] at h;simpa using h)
         clear h4
         go_wp2_with (go_at_call 45;(with_reducible refine (sInstrValid_raw _ _ _ _ _).mono ?_);rw [V.out];rintro e w3 ⟨rfl,hb4⟩;obtain ⟨hc4,hf4⟩:=bcell hb4)
         go_roundw
         case rel=>exact ⟨t+1,by omega,by go_num,by rw [CR4.out];simp,OK3,hb3.trans (hb4.mono hb3.size)⟩
         case measure=>simp [intOf];omega
        ·have g4:(y.op != 4)=true:=by simp [h4]
         have CR4:Hid ((x.take (t+1)).countP notFence=R2+1):=hide (by have h:=CR3.out;rw [g4] at h;simpa using h)
         clear h4
         go_wp2_with (go_at_call 45;(with_reducible refine (sInstrValid_raw _ _ _ _ _).mono ?_);rw [V.out];rintro e w3 ⟨rfl,hb4⟩;obtain ⟨hc4,hf4⟩:=bcell hb4)
         go_roundw
         case rel=>exact ⟨t+1,by omega,by go_num,by rw [CR4.out];simp;omega,OK3,hb3.trans (hb4.mono hb3.size)⟩
         case measure=>simp [intOf];omega
      ·have e:t=x.length:=by omega
       have CR4:Hid (cnt notFence (p.take (j+1))=R+(x.take t).countP notFence):=by have h:=CR.out;rwa [e,List.take_length]
       have OK4:Hid ((p.take (j+1)).all rowOk=true):=hide (all_take_succ hok.out X.out (by
        have h:=hok2.out
        rw [e,List.take_length] at h
        unfold rowOk
        rw [h];simp;omega))
       generalize hR2:(x.take t).countP notFence=R2 at *
       clear hR2 e
       go_wp2_with fail
       go_roundw
       case rel=>exact ⟨j+1,by omega,by go_num,by rw [CR4.out],OK4,hb2.trans (hb3.mono hb2.size)⟩
       case measure=>simp [intOf];omega
   ·have e:j=n:=by omega
    have hpt:p.take j=p:=List.take_of_length_le (by rw [H.out];omega)
    rw [hpt] at hok ⊢
    clear hpt
    have E:Hid (shapeOk p=decide ((cnt notFence p:Int)≤12)):=hide (by
     have hle:decide (n≤3)=true:=decide_eq_true (by omega)
     unfold shapeOk;rw [hok.out,H.out,hle,Bool.eq_iff_iff];simp;omega)
    go_wp2_with fail
    go_ret
    rw [E.out]
    exact ⟨rfl,hb2⟩
theorem sProgramValid_any (v:Value) (p:List (List Ins)) (w:World) (hp:RepP w v p) (hl:p.flatten.length≤1048576) (hpl:p.length≤1048576) :
 Calls Try.prog 16 #[v] w fun e w'=>e = .returned (.bool (progValid p))∧Below w.heap.size w w':=by
 have PV:Hid (progValid p=(shapeOk p&&decide (1≤p.length)&&decide (prodP p≤3000))):=hide rfl
 have HL:=hide hl;clear hl
 obtain ⟨a,c,hv,hc1,hc2,hc3,_⟩:=hp.open
 have HP:=hide hp;clear hp
 have HV:=hide hv
 subst hv
 generalize hn:p.length=n at *
 have H:=hide hn;clear hn
 have HS:=hide (fun w' h=>l1Shape_any (.slice a n c) p w' h HL.out)
 generalize hs:shapeOk p=s at *
 have S:=hide hs;clear hs
 cases s
 ·go_enter Try.func16,Try.ntmps16
  go_wp2_with (go_at_call 32;(with_reducible refine (HS.out _ HP.out).mono ?_);rintro e w1 ⟨rfl,hb1⟩)
  go_ret
  rw [PV.out]
  exact ⟨rfl,hb1⟩
 ·by_cases h0:0 < n
  ·have h0':(0:Int) < n:=by omega
   have HE:=hide (fun w' h=>l1Execs_any (.slice a n c) p w' h HL.out (by rw [H.out];omega))
   have hcap:=cap_le (prodP p)
   have HCP:Hid (decide (((cap (prodP p):Nat):Int)≤3000)=decide (prodP p≤3000)):=hide (by rw [Bool.eq_iff_iff];simp only [decide_eq_true_eq];unfold cap;omega)
   generalize hC:cap (prodP p)=C at *
   clear hC
   go_enter Try.func16,Try.ntmps16
   go_wp2_with (first | (go_at_call 32;(with_reducible refine (HS.out _ HP.out).mono ?_);rintro e w1 ⟨rfl,hb1⟩) | (go_at_call 33;(with_reducible refine (HE.out _ (HP.out.below hb1)).mono ?_);rintro e w2 ⟨rfl,hb2⟩))
   go_ret
   rw [PV.out,HCP.out]
   exact ⟨by rw [show decide (1≤n)=true from decide_eq_true h0];simp,hb1.trans (hb2.mono hb1.size)⟩
  ·have h0':decide ((0:Int) < n)=false:=by simp;omega
   go_enter Try.func16,Try.ntmps16
   go_wp2_with (go_at_call 32;(with_reducible refine (HS.out _ HP.out).mono ?_);rintro e w1 ⟨rfl,hb1⟩)
   go_ret
   rw [PV.out]
   exact ⟨by rw [show decide (1≤n)=false from decide_eq_false (by omega)];simp,hb1⟩
theorem progValid_no {p:List (List Ins)} (h:shapeOk p=false):progValid p=false:=by unfold progValid;rw [h];rfl
theorem ProgramValid_any (v:Value) (p:List (List Ins)) (w:World) (hp:RepP w v p) (hl:p.flatten.length≤1048576) :
 Calls Try.prog 12 #[v] w fun e w'=>e = .returned (.bool (progValid p))∧Below w.heap.size w w':=by
 obtain ⟨a,c,rfl,hc1,hc2,hc3,hp⟩:=hp.open
 have HP:=hide hp;clear hp
 have HL:=hide hl;clear hl
 generalize hn:p.length=n at *
 have H:=hide hn;clear hn
 by_cases h3:1≤n∧n≤3
 ·have E:Hid (inB n 1 3=true):=hide (by unfold inB;simp;omega)
  have h3':(n:Int)≤3:=by omega
  obtain ⟨_,h3n⟩:=h3
  go_enter Try.func12,Try.ntmps12
  go_wp2_with (go_at_call 27;(with_reducible refine (within_any _ _ _ _).mono ?_);rw [E.out];rintro e w1 ⟨rfl,rfl⟩)
  go_loopw [3,14] (fun r i wr => ∃ j:Nat,j≤n∧i = .int .i64 j∧r = .int .i64 (cnt notFence (p.take j):Nat)∧Hid ((p.take j).all rowOk=true)∧Below w.heap.size w wr) (fun _ i _=>n - (intOf i).toNat)
  case atStart=>exact ⟨0,by omega,rfl,by simp [cnt],hide (by simp),Below.refl _ _⟩
  case round =>
   obtain ⟨j,hj,rfl,rfl,hok,hb2⟩:=hrel
   by_cases hlt2:j < n
   ·obtain ⟨wm,rfl⟩:∃ wm:World,wm=wr:=⟨_,rfl⟩
    obtain ⟨x,hxk⟩:=get_of_lt (xs:=p) (k:=j) (by rw [H.out];exact hlt2)
    obtain ⟨b,o,ra,rc,rfl,hbl,i0,i1⟩:=(HP.out.below hb2).row hxk
    have hlt2':=nat_of_lt hlt2
    obtain ⟨_,_,_,_,hr2,_,_⟩:=i1.open
    have CR:=hide (cnt_take_succ notFence hxk)
    have hbR:=Nat.le_trans (cnt_take_le notFence p j) HL.out
    have hxl:=Nat.le_trans (row_le_flatten hxk) HL.out
    have I1:=hide i1;have X:=hide hxk
    clear i1 hxk
    generalize hR:cnt notFence (p.take j)=R at *
    clear hR
    go_wp2_with fail
    go_loopw [3,20] (fun r i wr => ∃ t:Nat,t≤x.length∧i = .int .i64 t∧r = .int .i64 (R+(x.take t).countP notFence:Nat)∧Hid ((x.take t).all insValid=true)∧Below wm.heap.size wm wr) (fun _ i _=>x.length - (intOf i).toNat)
    case atStart=>exact ⟨0,by omega,rfl,by simp,hide (by simp),Below.refl _ _⟩
    case round =>
     obtain ⟨t,ht,rfl,rfl,hok2,hb3⟩:=hrel
     have hbR2:(x.take t).countP notFence≤1048576:=Nat.le_trans List.countP_le_length (by simp;omega)
     by_cases hlt3:t < x.length
     ·obtain ⟨y,hyk⟩:=get_of_lt (xs:=x) (k:=t) hlt3
      obtain ⟨b',o',rfl,hbl',j0,j1,j2,j3⟩:=(I1.out.below hb3).ins hyk
      have hlt3':=nat_of_lt hlt3
      have CR2:=hide (countP_take_succ notFence hyk)
      have Y:=hide hyk;clear hyk
      generalize hR2:(x.take t).countP notFence=R2 at *
      clear hR2
      generalize hv:insValid y=vv at *
      have V:=hide hv;clear hv
      cases vv
      ·have E2:Hid (progValid p=false):=hide (progValid_no (by
        have:=all_no X.out (row_no Y.out V.out)
        unfold shapeOk;simp [this]))
       go_wp2_with (go_at_call 28;(with_reducible refine (InstrValid_raw _ _ _ _ _).mono ?_);rw [V.out];rintro e w3 ⟨rfl,hb4⟩)
       go_ret
       rw [E2.out]
       exact ⟨rfl,hb2.trans (((hb3.alloc hb3.size _).trans (hb4.mono (by have:=hb3.size;simp;omega))).mono hb2.size)⟩
      ·have OK3:=hide (all_take_succ hok2.out Y.out V.out)
       have CR3:Hid ((x.take (t+1)).countP notFence=R2+if (y.op != 4)=true then 1 else 0):=CR2
       clear CR2
       by_cases h4:y.op=4
       ·have g4:(y.op != 4)=false:=by simp [h4]
        have CR4:Hid ((x.take (t+1)).countP notFence=R2):=hide (by have h:=CR3.out;rw [g4] at h;simpa using h)
        clear h4
        go_wp2_with (go_at_call 28;(with_reducible refine (InstrValid_raw _ _ _ _ _).mono ?_);rw [V.out];rintro e w3 ⟨rfl,hb4⟩;obtain ⟨hc4,hf4⟩:=bcell hb4)
        go_roundw
        case rel=>exact ⟨t+1,by omega,by go_num,by rw [CR4.out];simp,OK3,(hb3.alloc hb3.size _).trans (hb4.mono (by have:=hb3.size;simp;omega))⟩
        case measure=>simp [intOf];omega
       ·have g4:(y.op != 4)=true:=by simp [h4]
        have CR4:Hid ((x.take (t+1)).countP notFence=R2+1):=hide (by have h:=CR3.out;rw [g4] at h;simpa using h)
        clear h4
        go_wp2_with (go_at_call 28;(with_reducible refine (InstrValid_raw _ _ _ _ _).mono ?_);rw [V.out];rintro e w3 ⟨rfl,hb4⟩;obtain ⟨hc4,hf4⟩:=bcell hb4)
        go_roundw
        case rel=>exact ⟨t+1,by omega,by go_num,by rw [CR4.out];simp;omega,OK3,(hb3.alloc hb3.size _).trans (hb4.mono (by have:=hb3.size;simp;omega))⟩
        case measure=>simp [intOf];omega
     ·by_cases h7:7 < x.length
      ·have E2:Hid (progValid p=false):=hide (progValid_no (by
        have:=all_no X.out (by unfold rowOk;simp;omega)
        unfold shapeOk;simp [this]))
       have h7':(7:Int) < x.length:=by omega
       go_wp2_with fail
       go_ret
       rw [E2.out]
       exact ⟨rfl,hb2.trans (hb3.mono hb2.size)⟩
      ·have h7':(x.length:Int)≤7:=by omega
       have e:t=x.length:=by omega
       have CR4:Hid (cnt notFence (p.take (j+1))=R+(x.take t).countP notFence):=by have h:=CR.out;rwa [e,List.take_length]
       have OK4:Hid ((p.take (j+1)).all rowOk=true):=hide (all_take_succ hok.out X.out (by
        have h:=hok2.out
        rw [e,List.take_length] at h
        unfold rowOk
        rw [h];simp;omega))
       generalize hR2:(x.take t).countP notFence=R2 at *
       clear hR2 e
       go_wp2_with fail
       go_roundw
       case rel=>exact ⟨j+1,by omega,by go_num,by rw [CR4.out],OK4,hb2.trans (hb3.mono hb2.size)⟩
       case measure=>simp [intOf];omega
   ·have e:j=n:=by omega
    have hpt:p.take j=p:=List.take_of_length_le (by rw [H.out];omega)
    rw [hpt] at hok ⊢
    clear hpt
    have PV:Hid (progValid p=(decide (cnt notFence p≤12)&&decide (prodP p≤3000))):=hide (by
     have hle:decide (n≤3)=true:=decide_eq_true (by omega)
     have hle2:decide (1≤n)=true:=decide_eq_true (by omega)
     unfold progValid shapeOk;rw [hok.out,H.out,hle,hle2];simp)
    have hcn:=Nat.le_trans (cnt_le_flatten notFence p) HL.out
    have HE:=hide (fun w' h=>execs_any (.slice a n c) p w' h HL.out (by rw [H.out];omega))
    have hcap:=cap_le (prodP p)
    have HCP:Hid (decide (((cap (prodP p):Nat):Int)≤3000)=decide (prodP p≤3000)):=hide (by rw [Bool.eq_iff_iff];simp only [decide_eq_true_eq];unfold cap;omega)
    generalize hC:cap (prodP p)=C at *
    generalize hN:cnt notFence p=N at *
    clear hC hN
    by_cases h12:N≤12
    ·have h12':(N:Int)≤12:=by omega
     go_wp2_with (go_at_call 29;(with_reducible refine (HE.out _ (HP.out.below hb2)).mono ?_);rintro e w1 ⟨rfl,hb1⟩)
     go_ret
     rw [PV.out,HCP.out]
     exact ⟨by rw [show decide (N≤12)=true from decide_eq_true h12];simp,hb2.trans (hb1.mono hb2.size)⟩
    ·have h12':decide ((N:Int)≤12)=false:=by simp;omega
     go_wp2_with fail
     go_ret
     rw [PV.out]
     exact ⟨by rw [show decide (N≤12)=false from decide_eq_false h12];simp,hb2⟩
 ·have E:Hid (inB n 1 3=false):=hide (by unfold inB;simp;omega)
  have E2:Hid (progValid p=false):=hide (by unfold progValid shapeOk;rw [H.out];simp;omega)
  go_enter Try.func12,Try.ntmps12
  go_wp2_with (go_at_call 27;(with_reducible refine (within_any _ _ _ _).mono ?_);rw [E.out];rintro e w1 ⟨rfl,rfl⟩)
  go_ret
  rw [E2.out]
  exact ⟨rfl,Below.refl _ _⟩
end Go.Proofs.Ytlddmagfbcomgaa
namespace Go.Proofs.Ytlddmagfbcomgaa
open Go.RowKit
theorem eql_slice_nil (P:Program) (w:World) (t e:TypeId) (a:Option Addr) (n c n' c':Nat) (h:P.underlying t=some (.slice e)):(binOp .eql t (.slice a n c) (.slice none n' c')).run P w = .ok (.bool a.isNone) w:=Lib.run_eql_slice_nil w t e a n c n' c' h
theorem CloneI_any (v:Value) (xs:List Ins) (w:World) (hx:Rep InsE w v xs) (hl:xs.length≤1048576) :
 Calls Try.prog 30 #[v] w (RetOwn InsE 38 w xs):=by
 obtain ⟨a,c,rfl,hc1,hc2,hc3,hx⟩:=hx.open
 have HX:=hide hx;clear hx
 have hlen:([]:List Ins).length+xs.length≤68719476736:=by simp;omega
 generalize hn:xs.length=n at *
 have H:=hide hn;clear hn
 cases a with
 | none =>
  have hE:=fun w':World=>eql_slice_nil Try.prog w' 35 38 none n c 0 0 Try.underlying35
  have hxs:Hid (xs=[]):=hide (by
   cases xs with
   | nil=>rfl
   | cons y ys=>obtain ⟨b,o,hb,_⟩:=HX.out.ins (k:=0) rfl;cases hb)
  go_enter Try.func30,Try.ntmps30
  go_wp2_with fail
  go_ret
  rw [hxs.out]
  exact ⟨_,rfl,Own.nil _ _ _,Below.refl _ _⟩
 | some ad =>
  have hE:=fun w':World=>eql_slice_nil Try.prog w' 35 38 (some ad) n c 0 0 Try.underlying35
  go_enter Try.func30,Try.ntmps30
  go_wp2_with (at_builtin;refine wpList_appS InsE 38 Try.infoIns rfl Try.underlying35 w.heap.size _ [] xs _ (Own.empty _ w (Nat.le_refl _)) (HX.out.below ((Below.refl _ _).alloc (Nat.le_refl _) _)) (by decide) (by rw [H.out];exact hlen) (by simp) rfl _ _ rfl rfl rfl ?_;intro v' w1 hown1 hgr1)
  go_ret
  exact ⟨_,rfl,by simpa using hown1,((Below.refl _ _).alloc (Nat.le_refl _) _).grown hgr1 (by simp) (fun k hk=>by simp [Value.ownBlock] at hk;omega)⟩
theorem cloneProgram_any (v:Value) (xs:List (List Ins)) (w:World) (hx:RepP w v xs) (hl:xs.length≤1048576) (hl2:∀ r∈xs,r.length≤1048576) :
 Calls Try.prog 13 #[v] w (RetOwn2 InsE 35 38 w xs):=by
 obtain ⟨a,c,rfl,hc1,hc2,hc3,hx⟩:=hx.open
 have HX:=hide hx;clear hx
 have HL2:=hide hl2;clear hl2
 generalize hn:xs.length=n at *
 have H:=hide hn;clear hn
 go_enter Try.func13,Try.ntmps13
 go_wp2_with (at_make;refine wpList_make SlcE 35 ⟨none,0,0⟩ Try.infoInsS rfl Try.underlying23 n (by decide) (by omega) rfl _ _ rfl rfl rfl ?_;intro w1 hown hgr)
 have hb1:=below_of_grown hgr
 go_loopw [11] (fun i wr => ∃ k:Nat,k≤n∧i = .int .i64 k∧OwnP wr w.heap.size (.slice (some ⟨w.heap.size,0,none⟩) n n) (xs.take k++List.replicate (n - k) [])∧Below w.heap.size w wr) (fun i _=>n - (intOf i).toNat)
 case atStart=>exact ⟨0,Nat.zero_le _,rfl,by simpa using Own2.made hown,hb1⟩
 case round =>
  obtain ⟨k,hk,rfl,ho,hb⟩:=hrel
  by_cases hlt:k < n
  ·obtain ⟨x,hxk⟩:=get_of_lt (xs:=xs) (k:=k) (by rw [H.out];exact hlt)
   obtain ⟨b,o,ra,rc,rfl,hbl,i0,i1⟩:=(HX.out.below hb).row hxk
   have hlt':=nat_of_lt hlt
   have hxl:x.length≤1048576:=HL2.out x (List.mem_of_getElem? hxk)
   have X:=hide hxk;clear hxk
   have I1:=hide i1;clear i1
   go_wp2_with (go_at_call 30;(with_reducible refine (CloneI_any _ x _ I1.out hxl).mono ?_);rintro e w2 ⟨u,rfl,hu,hb2⟩;obtain ⟨s,rfl, -⟩:=hu.toSlc;obtain ⟨hgl,⟨_,f0⟩,hfr⟩:=(ho.below hb2).cellAt (k:=k) (by rw [← H.out,length_pad _ _ (by rw [H.out];omega),H.out];exact hlt))
   have ho2:=ho.put hb2 hb.size (k:=k) (by rw [← H.out,length_pad _ _ (by rw [H.out];omega),H.out];exact hlt) hu
   rw [← H.out,set_pad xs _ X.out,H.out] at ho2
   go_roundw
   case rel=>exact ⟨k+1,by omega,by go_num,ho2,(hb.trans (hb2.mono hb.size)).setCell (Nat.le_refl _) _⟩
   case measure=>simp [intOf];omega
  ·go_wp2_with fail
   go_ret
   rw [← H.out,pad_all xs _ (by rw [H.out];omega),H.out] at ho
   exact ⟨_,rfl,ho,hb⟩
theorem l1Copy_any (v:Value) (xs:List (List Ins)) (w:World) (hx:RepP w v xs) (hl:xs.length≤1048576) (hl2:∀ r∈xs,r.length≤1048576) :
 Calls Try.prog 37 #[v] w (RetOwn2 InsE 35 38 w xs):=by
 obtain ⟨a,c,rfl,hc1,hc2,hc3,hx⟩:=hx.open
 have HX:=hide hx;clear hx
 have HL2:=hide hl2;clear hl2
 generalize hn:xs.length=n at *
 have H:=hide hn;clear hn
 go_enter Try.func37,Try.ntmps37
 go_wp2_with fail
 go_loopw [3,4] (fun s i wr => ∃ k:Nat,k≤n∧i = .int .i64 k∧OwnP wr w.heap.size s (xs.take k)∧Below w.heap.size w wr) (fun _ i _=>n - (intOf i).toNat)
 case atStart=>exact ⟨0,Nat.zero_le _,rfl,by simpa using Own2.empty _ _ w (Nat.le_refl _),(Below.refl _ _).alloc (Nat.le_refl _) _⟩
 case round =>
  obtain ⟨k,hk,rfl,ho,hb⟩:=hrel
  by_cases hlt:k < n
  ·obtain ⟨x,hxk⟩:=get_of_lt (xs:=xs) (k:=k) (by rw [H.out];exact hlt)
   obtain ⟨b,o,ra,rc,rfl,hbl,i0,i1⟩:=(HX.out.below hb).row hxk
   have hlt':=nat_of_lt hlt
   have hxl:x.length≤1048576:=HL2.out x (List.mem_of_getElem? hxk)
   have htk:(xs.take k).length≤1048576:=by simp;omega
   have TS:Hid (xs.take (k+1)=xs.take k++[x]):=hide (by rw [List.take_add_one,hxk];rfl)
   have X:=hide hxk;clear hxk
   have I1:=hide i1;clear i1
   generalize hT:xs.take k=T at *
   clear hT
   have hlen:([]:List Ins).length+x.length≤68719476736:=by simp;omega
   have hbx:=(Below.refl wr.heap.size wr).alloc (Nat.le_refl _) (.cells #[] 38)
   have HBX:=hide hbx;clear hbx
   obtain ⟨us,hU, -⟩:=ho.told
   have HU:=hide hU;clear hU
   have hub:us.length≤68719476736:=by have:=HU.out.1;omega
   go_wp2_with (first | (at_builtin;refine wpList_appS InsE 38 Try.infoIns rfl Try.underlying35 wr.heap.size _ [] x _ (Own.empty _ wr (Nat.le_refl _)) (I1.out.below HBX.out) (by decide) hlen (by simp) rfl (.tmp 13) (.tmp 17) rfl rfl rfl ?_;intro u w2 hown1 hgr1;obtain ⟨s,rfl, -⟩:=Own.toSlc hown1;have hb2:=HBX.out.grown hgr1 (by simp) (fun k hk=>by simp [Value.ownBlock] at hk;omega)) | (at_builtin;refine wpList_app SlcE 35 Try.infoInsS rfl Try.underlying23 w.heap.size _ us s ((HU.out.2.1.below hb2).alloc _) (by decide) hub (by simp;have:=hb.size;have:=hb2.size;omega) rfl (.tmp 12) (.tmp 19) rfl rfl w2.heap.size 0 1 rfl news_alloc ?_;intro v' w3 hown3 hgr3))
   have hown1':OwnI w2 wr.heap.size s.v x:=by simpa using hown1
   have ho2:=(HU.out).app (by decide) (hb2.trans ((Below.refl _ _).alloc hb2.size _)) hb.size (hown1'.alloc _) hown3 hgr3
   rw [← TS.out] at ho2
   have hb3:=below_app (hb.trans (hb2.mono hb.size)) (HU.out.2.1.below hb2) hgr3
   go_roundw
   case rel=>exact ⟨k+1,by omega,by go_num,ho2,hb3⟩
   case measure=>simp [intOf];omega
  ·go_wp2_with fail
   go_ret
   rw [List.take_of_length_le (by rw [H.out];omega)] at ho
   exact ⟨_,rfl,ho,hb⟩
end Go.Proofs.Ytlddmagfbcomgaa
namespace Go.Proofs.Ytlddmagfbcomgaa
open Go.RowKit
end Go.Proofs.Ytlddmagfbcomgaa
namespace Go.Proofs.Ytlddmagfbcomgaa
open Go.RowKit
end Go.Proofs.Ytlddmagfbcomgaa
namespace Go.Proofs.Ytlddmagfbcomgaa
open Go.RowKit
structure Ev where
 t:Int
 i:Int
 l:Int
 r:Bool
 w:Bool
deriving DecidableEq
def evOf (t i:Nat) (x:Ins):List Ev:=if x.op=4 then [] else [⟨t,i,x.loc,isRop x.op,isWop x.op⟩]
def evRow (t:Nat) (r:List Ins) (k:Nat):List Ev:=(List.range k).flatMap fun i=>match r[i]? with
 | some x=>evOf t i x
 | none=>[]
def evTo (p:List (List Ins)) (j:Nat):List Ev:=(List.range j).flatMap fun t=>match p[t]? with
 | some r=>evRow t r r.length
 | none=>[]
def evHead (k:Nat):List Ev:=(List.range k).map fun (l:Nat)=>⟨-1,l,l,false,true⟩
def evAll (p:List (List Ins)):List Ev:=evHead 3++evTo p p.length
theorem evRow_succ {t:Nat} {r:List Ins} {k:Nat} {x:Ins} (h:r[k]? = some x):evRow t r (k+1)=evRow t r k++evOf t k x:=by
 unfold evRow
 rw [List.range_succ,List.flatMap_append]
 simp [h]
theorem evTo_succ {p:List (List Ins)} {j:Nat} {r:List Ins} (h:p[j]? = some r):evTo p (j+1)=evTo p j++evRow j r r.length:=by
 unfold evTo
 rw [List.range_succ,List.flatMap_append]
 simp [h]
end Go.Proofs.Ytlddmagfbcomgaa
namespace Go.Proofs.Ytlddmagfbcomgaa
open Go.RowKit
end Go.Proofs.Ytlddmagfbcomgaa
namespace Go.Proofs.Ytlddmagfbcomgaa
open Go.RowKit
end Go.Proofs.Ytlddmagfbcomgaa
namespace Go.Proofs.Ytlddmagfbcomgaa
end Go.Proofs.Ytlddmagfbcomgaa
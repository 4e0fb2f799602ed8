/-
  Plain: fences that are put into places of a program.
-/
import Derived.Test.YtlddmagfbcomgaaGreatZq00
import Derived.Deep.RegionHeld3
import Derived.Deep.DeepCutAuto
import Derived.Deep.AppendLies
set_option maxHeartbeats 6400000
set_option maxRecDepth 100000
namespace Go.Proofs.YtlddmagfbcomgaaGreat
open Go.RowKit
def fRW (writes:Bool) (loc:Int) (x:Ins):Bool:=x.loc==loc&&(if writes=true then isWop x.op else isRop x.op)
theorem fRW_yes {b:Bool} {loc:Int} {x:Ins} (h:x.loc=loc):fRW b loc x=(if b=true then isWop x.op else isRop x.op):=by simp [fRW,h]
theorem fRW_no {b:Bool} {loc:Int} {x:Ins} (h:x.loc≠loc):fRW b loc x=false:=by simp [fRW,h]
theorem l1Count_any (v:Value) (p:List (List Ins)) (loc:Int) (wr?:Bool) (w:World) (hp:RepP w v p) (hl:p.flatten.length≤1048576) (hpl:p.length≤1048576) :
 Calls Tryz.prog 77 #[v, .int .i64 loc, .bool wr?] w fun e w'=>e = .returned (.int .i64 (cnt (fRW wr? loc) p:Nat))∧Below w.heap.size w w':=by
 obtain ⟨a,c,rfl,hc1,hc2,hc3,hp⟩:=hp.open
 have HP:=hide hp;clear hp
 have HL:=hide hl;clear hl
 generalize hn:p.length=n at *
 have H:=hide hn;clear hn
 generalize hF:fRW wr? loc=F at *
 have HF:=hide hF;clear hF
 go_enter Tryz.func77,Tryz.ntmps77
 go_wp2_with fail
 go_loopw [7,8] (fun r i wr => ∃ j:Nat,j≤n∧i = .int .i64 j∧r = .int .i64 (cnt F (p.take j):Nat)∧Below w.heap.size w wr) (fun _ i _=>n - (intOf i).toNat)
 case atStart=>exact ⟨0,by omega,rfl,by simp [cnt],Below.refl _ _⟩
 case round =>
  obtain ⟨j,hj,rfl,rfl,hb2⟩:=hrel
  by_cases hlt2:j < n
  ·obtain ⟨wm,rfl⟩:∃ wm:World,wm=wr:=⟨_,rfl⟩
   obtain ⟨x,hxk⟩:=get_of_lt (xs:=p) (k:=j) (by rw [H.out];exact hlt2)
   obtain ⟨b,o,ra,rc,rfl,hbl,i0,i1⟩:=(HP.out.below hb2).row hxk
   have hlt2':=nat_of_lt hlt2
   obtain ⟨_,_,_,_,hr2,_,_⟩:=i1.open
   have CR:=hide (cnt_take_succ F hxk)
   have hbR:=Nat.le_trans (cnt_take_le F p j) HL.out
   have hxl:=Nat.le_trans (row_le_flatten hxk) HL.out
   have I1:=hide i1;have X:=hide hxk
   clear i1 hxk
   generalize hR:cnt F (p.take j)=R at *
   clear hR
   go_wp2_with fail
   go_loopw [7,9] (fun r i wr => ∃ t:Nat,t≤x.length∧i = .int .i64 t∧r = .int .i64 (R+(x.take t).countP F:Nat)∧Below wm.heap.size wm wr) (fun _ i _=>x.length - (intOf i).toNat)
   case atStart=>exact ⟨0,by omega,rfl,by simp,Below.refl _ _⟩
   case round =>
    obtain ⟨t,ht,rfl,rfl,hb3⟩:=hrel
    have hbR2:(x.take t).countP F≤1048576:=Nat.le_trans List.countP_le_length (by simp;omega)
    have i0':wr.cell? ⟨b,o+j,none⟩=some (.slice ra x.length rc):=(hb3.cell (p:=⟨b,o+j,none⟩) hbl).trans i0
    by_cases hlt3:t < x.length
    ·obtain ⟨y,hyk⟩:=get_of_lt (xs:=x) (k:=t) hlt3
     obtain ⟨b',o',rfl,hbl',j0,j1,j2,j3⟩:=(I1.out.below hb3).ins hyk
     have hlt3':=nat_of_lt hlt3
     have CR2:=hide (countP_take_succ F hyk)
     have Y:=hide hyk;clear hyk
     generalize hR2:(x.take t).countP F=R2 at *
     clear hR2
     by_cases hloc:y.loc=loc
     ·have CR3:Hid ((x.take (t+1)).countP F=R2+if (if wr? = true then isWop y.op else isRop y.op)=true then 1 else 0):=by have h:=CR2.out;rwa [← HF.out,fRW_yes hloc,HF.out] at h
      clear CR2
      rw [hloc] at j1
      clear hloc HF
      have hkk:(loc==loc)=true:=by simp
      generalize hro:isRop y.op=ro at *
      generalize hwo:isWop y.op=wo at *
      have RO:=hide hro;have WO:=hide hwo;clear hro hwo
      cases wr?
      ·cases ro
       all_goals
        go_wp2_with (go_at_call 133;(with_reducible refine (l1Reads_raw _ _ _ _ _).mono ?_);rw [RO.out];rintro e w3 ⟨rfl,hb4⟩)
        go_roundw
        case rel=>exact ⟨t+1,by omega,by go_num,by rw [CR3.out];simp;try omega,(hb3.alloc hb3.size _).trans (hb4.mono (by have:=hb3.size;simp;omega))⟩
        case measure=>simp [intOf];omega
      ·cases wo
       all_goals
        go_wp2_with (go_at_call 134;(with_reducible refine (l1Writes_raw _ _ _ _ _).mono ?_);rw [WO.out];rintro e w3 ⟨rfl,hb4⟩)
        go_roundw
        case rel=>exact ⟨t+1,by omega,by go_num,by rw [CR3.out];simp;try omega,(hb3.alloc hb3.size _).trans (hb4.mono (by have:=hb3.size;simp;omega))⟩
        case measure=>simp [intOf];omega
     ·have CR3:Hid ((x.take (t+1)).countP F=R2):=hide (by have h:=CR2.out;rw [← HF.out,fRW_no hloc,HF.out] at h;simpa using h)
      clear CR2
      have hkk:(y.loc==loc)=false:=by simpa using hloc
      clear hloc
      go_wp2_with fail
      go_roundw
      case rel=>exact ⟨t+1,by omega,by go_num,by rw [CR3.out],hb3.alloc hb3.size _⟩
      case measure=>simp [intOf];omega
    ·have e:t=x.length:=by omega
     have CR4:Hid (cnt F (p.take (j+1))=R+(x.take t).countP F):=by have h:=CR.out;rwa [e,List.take_length]
     generalize hR2:(x.take t).countP F=R2 at *
     clear hR2 e
     go_wp2_with fail
     go_roundw
     case rel=>exact ⟨j+1,by omega,by go_num,by rw [CR4.out],hb2.trans (hb3.mono hb2.size)⟩
     case measure=>simp [intOf];omega
  ·have e:j=n:=by omega
   have hpt:p.take j=p:=List.take_of_length_le (by rw [H.out];omega)
   rw [hpt]
   clear hpt
   go_wp2_with fail
   go_ret
   exact ⟨rfl,hb2⟩
theorem fRW_true (loc:Int):fRW true loc=fW loc:=by funext x;simp [fRW,fW]
theorem fRW_false (loc:Int):fRW false loc=fR loc:=by funext x;simp [fRW,fR]
theorem l1Execs_any (v:Value) (p:List (List Ins)) (w:World) (hp:RepP w v p) (hl:p.flatten.length≤1048576) (hpl:p.length≤1048576) :
 Calls Tryz.prog 111 #[v, .int .i64 3000] w fun e w'=>e = .returned (.int .i64 (cap (prodP p):Nat))∧Below w.heap.size w w':=by
 have HP:=hide hp;clear hp
 have HL:=hide hl;clear hl
 have hPP:prodTo p 3=prodP p:=rfl
 have PP:=hide hPP;clear hPP
 go_enter Tryz.func111,Tryz.ntmps111
 go_wp2_with fail
 go_loopw [5,6] (fun q i wr => ∃ k N:Nat,k≤3∧i = .int .i64 k∧q = .int .i64 N∧Hid (cap N=cap (prodTo p k))∧N≤3145731000∧Below w.heap.size w wr) (fun _ i _=>3 - (intOf i).toNat)
 case atStart=>exact ⟨0,1,by omega,rfl,rfl,hide rfl,by omega,Below.refl _ _⟩
 case round =>
  obtain ⟨k,N,hk,rfl,rfl,hN,hNb,hb⟩:=hrel
  by_cases hlt:k < 3
  ·have hlt':(k:Int)≤2:=by omega
   have hbR:=Nat.le_trans (cnt_le_flatten (fR k) p) HL.out
   have hbW:=Nat.le_trans (cnt_le_flatten (fW k) p) HL.out
   have PS:Hid (prodTo p (k+1)=prodTo p k * ((cnt (fW k) p+1) ^ cnt (fR k) p * fact (cnt (fW k) p))):=hide rfl
   have C1:∀ w',RepP w' v p→Calls Tryz.prog 77 #[v, .int .i64 (k:Int), .bool true] w' fun e w2=>e = .returned (.int .i64 (cnt (fW k) p:Nat))∧Below w'.heap.size w' w2:=fun w' h=>by
    have:=l1Count_any v p k true w' h HL.out hpl;rwa [fRW_true] at this
   have C2:∀ w',RepP w' v p→Calls Tryz.prog 77 #[v, .int .i64 (k:Int), .bool false] w' fun e w2=>e = .returned (.int .i64 (cnt (fR k) p:Nat))∧Below w'.heap.size w' w2:=fun w' h=>by
    have:=l1Count_any v p k false w' h HL.out hpl;rwa [fRW_false] at this
   generalize hR:cnt (fR k) p=R at *
   generalize hW:cnt (fW k) p=W at *
   generalize hQ:prodTo p k=Q at *
   have D1:=hide C1;have D2:=hide C2
   clear hR hW hQ C1 C2
   go_wp2_with (go_at_call 77;(with_reducible refine (D1.out _ (HP.out.below hb)).mono ?_);rintro e w1 ⟨rfl,hb1⟩)
   have hb:=hb.trans (hb1.mono hb.size)
   clear hb1
   go_loopw [5,8] (fun q i wr => ∃ t M:Nat,t≤R∧i = .int .i64 t∧q = .int .i64 M∧Hid (cap M=cap (Q * (W+1) ^ t))∧M≤3145731000∧Below w.heap.size w wr) (fun _ i _=>R - (intOf i).toNat)
   case atStart=>exact ⟨0,N,by omega,rfl,rfl,hide (by simpa using hN.out),hNb,hb⟩
   case round =>
    clear hb hN hNb
    obtain ⟨t,M,ht,rfl,rfl,hM,hMb,hb⟩:=hrel
    by_cases hgo:t < R∧M≤3000
    ·obtain ⟨hlt3,hM3⟩:=hgo
     have hlt3':=nat_of_lt hlt3
     have hM3':(M:Int)≤3000:=by omega
     have hmul:M * (W+1)≤3000 * 1048577:=Nat.mul_le_mul hM3 (by omega)
     have e1:((M * (W+1):Nat):Int)=(M:Int) * (W+1):=by simp
     have hmul2:(M:Int) * (W+1)≤3145731000:=by omega
     have hmul3:0≤(M:Int) * (W+1):=by omega
     have E:Hid (cap (M * (W+1))=cap (Q * (W+1) ^ (t+1))):=hide (by rw [cap_mul' hM.out _ (by omega),Nat.pow_succ,Nat.mul_assoc])
     have E1:=hide e1;clear e1
     go_wp2_with (go_at_call 77;(with_reducible refine (D2.out _ (HP.out.below hb)).mono ?_);rintro e w1 ⟨rfl,hb1⟩)
     go_roundw
     case rel=>exact ⟨t+1,M * (W+1),by omega,by go_num,by rw [E1.out],E,by omega,hb.trans (hb1.mono hb.size)⟩
     case measure=>simp [intOf];omega
    ·have hM2:Hid (cap M=cap (Q * (W+1) ^ R)):=hide (by
      by_cases h3:3000 < M
      ·obtain ⟨m,h1,h2⟩:=pow_mul_rest (a:=W) ht
       rw [h2,← Nat.mul_assoc]
       exact cap_past hM.out h3 m h1
      ·rw [show R=t by omega];exact hM.out)
     have PS2:Hid (prodTo p (k+1)=(Q * (W+1) ^ R) * fact W):=hide (by rw [PS.out,Nat.mul_assoc])
     by_cases hlt3:t < R
     all_goals
      have hM3:t < R→3000 < (M:Int):=fun h=>by omega
      have HM3:=hide hM3;clear hM3
      try (have hM4:3000 < (M:Int):=HM3.out hlt3)
      go_wp2_with (go_at_call 77;(with_reducible refine (D2.out _ (HP.out.below hb)).mono ?_);rintro e w1 ⟨rfl,hb1⟩)
      have hb:=hb.trans (hb1.mono hb.size)
      clear hb1
      generalize hQ2:Q * (W+1) ^ R=Q2 at *
      clear hQ2
      go_loopw [5,9] (fun q i wr => ∃ s L:Nat,1≤s∧s≤W+1∧i = .int .i64 (s+1)∧q = .int .i64 L∧Hid (cap L=cap (Q2 * fact s))∧L≤3145731000∧Hid (s≤W∨s=1)∧Below w.heap.size w wr) (fun _ i _=>W+1 - (intOf i).toNat)
      case atStart=>exact ⟨1,M,by omega,by omega,rfl,rfl,hide (by simpa [fact] using hM2.out),hMb,hide (.inr rfl),hb⟩
      case round =>
       clear hb
       obtain ⟨s,L,hs1,hs2,rfl,rfl,hL,hLb,hsW,hb⟩:=hrel
       by_cases hgo2:s+1≤W∧L≤3000
       ·obtain ⟨hlt5,hL3⟩:=hgo2
        have hlt5':(s:Int)+1≤W:=by omega
        have hL3':(L:Int)≤3000:=by omega
        have hmul:L * (s+1)≤3000 * 1048577:=Nat.mul_le_mul hL3 (by omega)
        have e1:((L * (s+1):Nat):Int)=(L:Int) * (s+1):=by simp
        have hmul2:(L:Int) * (s+1)≤3145731000:=by omega
        have hmul3:0≤(L:Int) * (s+1):=by omega
        have E:Hid (cap (L * (s+1))=cap (Q2 * fact (s+1))):=hide (by rw [cap_mul' hL.out _ (by omega),fact,Nat.mul_assoc])
        have E1:=hide e1;clear e1
        go_wp2_with fail
        go_roundw
        case rel=>exact ⟨s+1,L * (s+1),by omega,by omega,by go_num,by rw [E1.out],E,by omega,hide (.inl hlt5),hb⟩
        case measure=>simp [intOf];omega
       ·have hL2:Hid (cap L=cap (prodTo p (k+1))):=hide (by
         rw [PS2.out]
         by_cases h3:3000 < L
         ·rcases hsW.out with h | h
          ·obtain ⟨m,h1,h2⟩:=fact_mul h
           rw [h2,← Nat.mul_assoc]
           exact cap_past hL.out h3 m h1
          ·have hl:=hL.out
           rw [h,show fact 1=1 from rfl,Nat.mul_one] at hl
           exact cap_past hl h3 _ (fact_pos W)
         ·by_cases hs:s=W
          ·rw [← hs];exact hL.out
          ·rcases hsW.out with h | h
           ·omega
           ·have h0:W=0:=by omega
            have hl:=hL.out
            rw [h] at hl
            rw [h0];exact hl)
        by_cases hlt5:s+1≤W
        all_goals
         have hlt5':s+1≤W→3000 < (L:Int):=fun h=>by omega
         have HL3:=hide hlt5';clear hlt5'
         try (have hL4:3000 < (L:Int):=HL3.out hlt5)
         go_wp2_with fail
         go_roundw
         case rel=>exact ⟨k+1,L,by omega,by go_num,rfl,hL2,hLb,hb⟩
         case measure=>simp [intOf];omega
  ·have e:k=3:=by omega
   subst e
   have hN2:Hid (cap N=cap (prodP p)):=hide (by rw [hN.out,PP.out])
   by_cases h3:3000 < N
   ·have E:Hid (((cap (prodP p):Nat):Int)=3001):=hide (by rw [← hN2.out];unfold cap;omega)
    have h3':(3000:Int) < N:=by omega
    go_wp2_with fail
    go_ret
    rw [E.out]
    exact ⟨rfl,hb⟩
   ·have E:Hid (((cap (prodP p):Nat):Int)=N):=hide (by rw [← hN2.out];unfold cap;omega)
    have h3':(N:Int)≤3000:=by omega
    go_wp2_with fail
    go_ret
    rw [E.out]
    exact ⟨rfl,hb⟩
end Go.Proofs.YtlddmagfbcomgaaGreat
namespace Go.Proofs.YtlddmagfbcomgaaGreat
open Go.RowKit
theorem sInstrValid_raw (a b c d:Int) (w:World):Calls Tryz.prog 166 #[.agg #[.int .i64 a, .int .i64 b, .int .i64 c, .int .i64 d]] w fun e w'=>e = .returned (.bool (insValid ⟨a,b,c,d⟩))∧Below w.heap.size w w':=sInstrValid_any ⟨a,b,c,d⟩ w
theorem InstrValid_raw (a b c d:Int) (w:World):Calls Tryz.prog 87 #[.agg #[.int .i64 a, .int .i64 b, .int .i64 c, .int .i64 d]] w fun e w'=>e = .returned (.bool (insValid ⟨a,b,c,d⟩))∧Below w.heap.size w w':=InstrValid_any ⟨a,b,c,d⟩ w
theorem l1Shape_any (v:Value) (p:List (List Ins)) (w:World) (hp:RepP w v p) (hl:p.flatten.length≤1048576) :
 Calls Tryz.prog 110 #[v] w fun e w'=>e = .returned (.bool (shapeOk p))∧Below w.heap.size w w':=by
 obtain ⟨a,c,rfl,hc1,hc2,hc3,hp⟩:=hp.open
 have HP:=hide hp;clear hp
 have HL:=hide hl;clear hl
 generalize hn:p.length=n at *
 have H:=hide hn;clear hn
 by_cases h3:3 < n
 ·have E:Hid (shapeOk p=false):=hide (by unfold shapeOk;rw [H.out];simp;omega)
  have h3':(3:Int) < n:=by omega
  go_enter Tryz.func110,Tryz.ntmps110
  go_wp2_with fail
  go_ret
  rw [E.out]
  exact ⟨rfl,Below.refl _ _⟩
 ·have h3':(n:Int)≤3:=by omega
  go_enter Tryz.func110,Tryz.ntmps110
  go_wp2_with fail
  go_loopw [3,4] (fun r i wr => ∃ j:Nat,j≤n∧i = .int .i64 j∧r = .int .i64 (cnt notFence (p.take j):Nat)∧Hid ((p.take j).all rowOk=true)∧Below w.heap.size w wr) (fun _ i _=>n - (intOf i).toNat)
  case atStart=>exact ⟨0,by omega,rfl,by simp [cnt],hide (by simp),Below.refl _ _⟩
  case round =>
   obtain ⟨j,hj,rfl,rfl,hok,hb2⟩:=hrel
   by_cases hlt2:j < n
   ·obtain ⟨wm,rfl⟩:∃ wm:World,wm=wr:=⟨_,rfl⟩
    obtain ⟨x,hxk⟩:=get_of_lt (xs:=p) (k:=j) (by rw [H.out];exact hlt2)
    obtain ⟨b,o,ra,rc,rfl,hbl,i0,i1⟩:=(HP.out.below hb2).row hxk
    have hlt2':=nat_of_lt hlt2
    obtain ⟨_,_,_,_,hr2,_,_⟩:=i1.open
    have CR:=hide (cnt_take_succ notFence hxk)
    have hbR:=Nat.le_trans (cnt_take_le notFence p j) HL.out
    have hxl:=Nat.le_trans (row_le_flatten hxk) HL.out
    have I1:=hide i1;have X:=hide hxk
    clear i1 hxk
    generalize hR:cnt notFence (p.take j)=R at *
    clear hR
    by_cases h7:7 < x.length
    ·have E:Hid (shapeOk p=false):=hide (by
      have:=all_no X.out (by unfold rowOk;simp;omega)
      unfold shapeOk;simp [this])
     have h7':(7:Int) < x.length:=by omega
     go_wp2_with fail
     go_ret
     rw [E.out]
     exact ⟨rfl,hb2⟩
    ·have h7':(x.length:Int)≤7:=by omega
     go_wp2_with fail
     go_loopw [3,5] (fun r i wr => ∃ t:Nat,t≤x.length∧i = .int .i64 t∧r = .int .i64 (R+(x.take t).countP notFence:Nat)∧Hid ((x.take t).all insValid=true)∧Below wm.heap.size wm wr) (fun _ i _=>x.length - (intOf i).toNat)
     case atStart=>exact ⟨0,by omega,rfl,by simp,hide (by simp),Below.refl _ _⟩
     case round =>
      obtain ⟨t,ht,rfl,rfl,hok2,hb3⟩:=hrel
      have hbR2:(x.take t).countP notFence≤1048576:=Nat.le_trans List.countP_le_length (by simp;omega)
      have i0':wr.cell? ⟨b,o+j,none⟩=some (.slice ra x.length rc):=(hb3.cell (p:=⟨b,o+j,none⟩) hbl).trans i0
      by_cases hlt3:t < x.length
      ·obtain ⟨y,hyk⟩:=get_of_lt (xs:=x) (k:=t) hlt3
       obtain ⟨b',o',rfl,hbl',j0,j1,j2,j3⟩:=(I1.out.below hb3).ins hyk
       have hlt3':=nat_of_lt hlt3
       have CR2:=hide (countP_take_succ notFence hyk)
       have Y:=hide hyk;clear hyk
       have hbl2:b < wr.heap.size:=by have:=hb3.size;omega
       generalize hR2:(x.take t).countP notFence=R2 at *
       clear hR2
       generalize hv:insValid y=vv at *
       have V:=hide hv;clear hv
       cases vv
       ·have E:Hid (shapeOk p=false):=hide (by
         have:=all_no X.out (row_no Y.out V.out)
         unfold shapeOk;simp [this])
        go_wp2_with (go_at_call 166;(with_reducible refine (sInstrValid_raw _ _ _ _ _).mono ?_);rw [V.out];rintro e w3 ⟨rfl,hb4⟩)
        go_ret
        rw [E.out]
        exact ⟨rfl,hb2.trans ((hb3.trans (hb4.mono hb3.size)).mono hb2.size)⟩
       ·have OK3:=hide (all_take_succ hok2.out Y.out V.out)
        have CR3:Hid ((x.take (t+1)).countP notFence=R2+if (y.op != 4)=true then 1 else 0):=CR2
        clear CR2
        by_cases h4:y.op=4
        ·have g4:(y.op != 4)=false:=by simp [h4]
         have CR4:Hid ((x.take (t+1)).countP notFence=R2):=hide (by have h:=CR3.out;rw [g4] at h;simpa using h)
         clear h4
         go_wp2_with (go_at_call 166;(with_reducible refine (sInstrValid_raw _ _ _ _ _).mono ?_);rw [V.out];rintro e w3 ⟨rfl,hb4⟩;obtain ⟨hc4,hf4⟩:=bcell hb4)
         go_roundw
         case rel=>exact ⟨t+1,by omega,by go_num,by rw [CR4.out];simp,OK3,hb3.trans (hb4.mono hb3.size)⟩
         case measure=>simp [intOf];omega
        ·have g4:(y.op != 4)=true:=by simp [h4]
         have CR4:Hid ((x.take (t+1)).countP notFence=R2+1):=hide (by have h:=CR3.out;rw [g4] at h;simpa using h)
         clear h4
         go_wp2_with (go_at_call 166;(with_reducible refine (sInstrValid_raw _ _ _ _ _).mono ?_);rw [V.out];rintro e w3 ⟨rfl,hb4⟩;obtain ⟨hc4,hf4⟩:=bcell hb4)
         go_roundw
         case rel=>exact ⟨t+1,by omega,by go_num,by rw [CR4.out];simp;omega,OK3,hb3.trans (hb4.mono hb3.size)⟩
         case measure=>simp [intOf];omega
      ·have e:t=x.length:=by omega
       have CR4:Hid (cnt notFence (p.take (j+1))=R+(x.take t).countP notFence):=by have h:=CR.out;rwa [e,List.take_length]
       have OK4:Hid ((p.take (j+1)).all rowOk=true):=hide (all_take_succ hok.out X.out (by
        have h:=hok2.out
        rw [e,List.take_length] at h
        unfold rowOk
        rw [h];simp;omega))
       generalize hR2:(x.take t).countP notFence=R2 at *
       clear hR2 e
       go_wp2_with fail
       go_roundw
       case rel=>exact ⟨j+1,by omega,by go_num,by rw [CR4.out],OK4,hb2.trans (hb3.mono hb2.size)⟩
       case measure=>simp [intOf];omega
   ·have e:j=n:=by omega
    have hpt:p.take j=p:=List.take_of_length_le (by rw [H.out];omega)
    rw [hpt] at hok ⊢
    clear hpt
    have E:Hid (shapeOk p=decide ((cnt notFence p:Int)≤12)):=hide (by
     have hle:decide (n≤3)=true:=decide_eq_true (by omega)
     unfold shapeOk;rw [hok.out,H.out,hle,Bool.eq_iff_iff];simp;omega)
    go_wp2_with fail
    go_ret
    rw [E.out]
    exact ⟨rfl,hb2⟩
theorem sProgramValid_any (v:Value) (p:List (List Ins)) (w:World) (hp:RepP w v p) (hl:p.flatten.length≤1048576) (hpl:p.length≤1048576) :
 Calls Tryz.prog 53 #[v] w fun e w'=>e = .returned (.bool (progValid p))∧Below w.heap.size w w':=by
 have PV:Hid (progValid p=(shapeOk p&&decide (1≤p.length)&&decide (prodP p≤3000))):=hide rfl
 have HL:=hide hl;clear hl
 obtain ⟨a,c,hv,hc1,hc2,hc3,_⟩:=hp.open
 have HP:=hide hp;clear hp
 have HV:=hide hv
 subst hv
 generalize hn:p.length=n at *
 have H:=hide hn;clear hn
 have HS:=hide (fun w' h=>l1Shape_any (.slice a n c) p w' h HL.out)
 generalize hs:shapeOk p=s at *
 have S:=hide hs;clear hs
 cases s
 ·go_enter Tryz.func53,Tryz.ntmps53
  go_wp2_with (go_at_call 110;(with_reducible refine (HS.out _ HP.out).mono ?_);rintro e w1 ⟨rfl,hb1⟩)
  go_ret
  rw [PV.out]
  exact ⟨rfl,hb1⟩
 ·by_cases h0:0 < n
  ·have h0':(0:Int) < n:=by omega
   have HE:=hide (fun w' h=>l1Execs_any (.slice a n c) p w' h HL.out (by rw [H.out];omega))
   have hcap:=cap_le (prodP p)
   have HCP:Hid (decide (((cap (prodP p):Nat):Int)≤3000)=decide (prodP p≤3000)):=hide (by rw [Bool.eq_iff_iff];simp only [decide_eq_true_eq];unfold cap;omega)
   generalize hC:cap (prodP p)=C at *
   clear hC
   go_enter Tryz.func53,Tryz.ntmps53
   go_wp2_with (first | (go_at_call 110;(with_reducible refine (HS.out _ HP.out).mono ?_);rintro e w1 ⟨rfl,hb1⟩) | (go_at_call 111;(with_reducible refine (HE.out _ (HP.out.below hb1)).mono ?_);rintro e w2 ⟨rfl,hb2⟩))
   go_ret
   rw [PV.out,HCP.out]
   exact ⟨by rw [show decide (1≤n)=true from decide_eq_true h0];simp,hb1.trans (hb2.mono hb1.size)⟩
  ·have h0':decide ((0:Int) < n)=false:=by simp;omega
   go_enter Tryz.func53,Tryz.ntmps53
   go_wp2_with (go_at_call 110;(with_reducible refine (HS.out _ HP.out).mono ?_);rintro e w1 ⟨rfl,hb1⟩)
   go_ret
   rw [PV.out]
   exact ⟨by rw [show decide (1≤n)=false from decide_eq_false (by omega)];simp,hb1⟩
theorem progValid_no {p:List (List Ins)} (h:shapeOk p=false):progValid p=false:=by unfold progValid;rw [h];rfl
theorem ProgramValid_any (v:Value) (p:List (List Ins)) (w:World) (hp:RepP w v p) (hl:p.flatten.length≤1048576) :
 Calls Tryz.prog 35 #[v] w fun e w'=>e = .returned (.bool (progValid p))∧Below w.heap.size w w':=by
 obtain ⟨a,c,rfl,hc1,hc2,hc3,hp⟩:=hp.open
 have HP:=hide hp;clear hp
 have HL:=hide hl;clear hl
 generalize hn:p.length=n at *
 have H:=hide hn;clear hn
 by_cases h3:1≤n∧n≤3
 ·have E:Hid (inB n 1 3=true):=hide (by unfold inB;simp;omega)
  have h3':(n:Int)≤3:=by omega
  obtain ⟨_,h3n⟩:=h3
  go_enter Tryz.func35,Tryz.ntmps35
  go_wp2_with (go_at_call 86;(with_reducible refine (within_any _ _ _ _).mono ?_);rw [E.out];rintro e w1 ⟨rfl,rfl⟩)
  go_loopw [3,14] (fun r i wr => ∃ j:Nat,j≤n∧i = .int .i64 j∧r = .int .i64 (cnt notFence (p.take j):Nat)∧Hid ((p.take j).all rowOk=true)∧Below w.heap.size w wr) (fun _ i _=>n - (intOf i).toNat)
  case atStart=>exact ⟨0,by omega,rfl,by simp [cnt],hide (by simp),Below.refl _ _⟩
  case round =>
   obtain ⟨j,hj,rfl,rfl,hok,hb2⟩:=hrel
   by_cases hlt2:j < n
   ·obtain ⟨wm,rfl⟩:∃ wm:World,wm=wr:=⟨_,rfl⟩
    obtain ⟨x,hxk⟩:=get_of_lt (xs:=p) (k:=j) (by rw [H.out];exact hlt2)
    obtain ⟨b,o,ra,rc,rfl,hbl,i0,i1⟩:=(HP.out.below hb2).row hxk
    have hlt2':=nat_of_lt hlt2
    obtain ⟨_,_,_,_,hr2,_,_⟩:=i1.open
    have CR:=hide (cnt_take_succ notFence hxk)
    have hbR:=Nat.le_trans (cnt_take_le notFence p j) HL.out
    have hxl:=Nat.le_trans (row_le_flatten hxk) HL.out
    have I1:=hide i1;have X:=hide hxk
    clear i1 hxk
    generalize hR:cnt notFence (p.take j)=R at *
    clear hR
    go_wp2_with fail
    go_loopw [3,20] (fun r i wr => ∃ t:Nat,t≤x.length∧i = .int .i64 t∧r = .int .i64 (R+(x.take t).countP notFence:Nat)∧Hid ((x.take t).all insValid=true)∧Below wm.heap.size wm wr) (fun _ i _=>x.length - (intOf i).toNat)
    case atStart=>exact ⟨0,by omega,rfl,by simp,hide (by simp),Below.refl _ _⟩
    case round =>
     obtain ⟨t,ht,rfl,rfl,hok2,hb3⟩:=hrel
     have hbR2:(x.take t).countP notFence≤1048576:=Nat.le_trans List.countP_le_length (by simp;omega)
     by_cases hlt3:t < x.length
     ·obtain ⟨y,hyk⟩:=get_of_lt (xs:=x) (k:=t) hlt3
      obtain ⟨b',o',rfl,hbl',j0,j1,j2,j3⟩:=(I1.out.below hb3).ins hyk
      have hlt3':=nat_of_lt hlt3
      have CR2:=hide (countP_take_succ notFence hyk)
      have Y:=hide hyk;clear hyk
      generalize hR2:(x.take t).countP notFence=R2 at *
      clear hR2
      generalize hv:insValid y=vv at *
      have V:=hide hv;clear hv
      cases vv
      ·have E2:Hid (progValid p=false):=hide (progValid_no (by
        have:=all_no X.out (row_no Y.out V.out)
        unfold shapeOk;simp [this]))
       go_wp2_with (go_at_call 87;(with_reducible refine (InstrValid_raw _ _ _ _ _).mono ?_);rw [V.out];rintro e w3 ⟨rfl,hb4⟩)
       go_ret
       rw [E2.out]
       exact ⟨rfl,hb2.trans (((hb3.alloc hb3.size _).trans (hb4.mono (by have:=hb3.size;simp;omega))).mono hb2.size)⟩
      ·have OK3:=hide (all_take_succ hok2.out Y.out V.out)
       have CR3:Hid ((x.take (t+1)).countP notFence=R2+if (y.op != 4)=true then 1 else 0):=CR2
       clear CR2
       by_cases h4:y.op=4
       ·have g4:(y.op != 4)=false:=by simp [h4]
        have CR4:Hid ((x.take (t+1)).countP notFence=R2):=hide (by have h:=CR3.out;rw [g4] at h;simpa using h)
        clear h4
        go_wp2_with (go_at_call 87;(with_reducible refine (InstrValid_raw _ _ _ _ _).mono ?_);rw [V.out];rintro e w3 ⟨rfl,hb4⟩;obtain ⟨hc4,hf4⟩:=bcell hb4)
        go_roundw
        case rel=>exact ⟨t+1,by omega,by go_num,by rw [CR4.out];simp,OK3,(hb3.alloc hb3.size _).trans (hb4.mono (by have:=hb3.size;simp;omega))⟩
        case measure=>simp [intOf];omega
       ·have g4:(y.op != 4)=true:=by simp [h4]
        have CR4:Hid ((x.take (t+1)).countP notFence=R2+1):=hide (by have h:=CR3.out;rw [g4] at h;simpa using h)
        clear h4
        go_wp2_with (go_at_call 87;(with_reducible refine (InstrValid_raw _ _ _ _ _).mono ?_);rw [V.out];rintro e w3 ⟨rfl,hb4⟩;obtain ⟨hc4,hf4⟩:=bcell hb4)
        go_roundw
        case rel=>exact ⟨t+1,by omega,by go_num,by rw [CR4.out];simp;omega,OK3,(hb3.alloc hb3.size _).trans (hb4.mono (by have:=hb3.size;simp;omega))⟩
        case measure=>simp [intOf];omega
     ·by_cases h7:7 < x.length
      ·have E2:Hid (progValid p=false):=hide (progValid_no (by
        have:=all_no X.out (by unfold rowOk;simp;omega)
        unfold shapeOk;simp [this]))
       have h7':(7:Int) < x.length:=by omega
       go_wp2_with fail
       go_ret
       rw [E2.out]
       exact ⟨rfl,hb2.trans (hb3.mono hb2.size)⟩
      ·have h7':(x.length:Int)≤7:=by omega
       have e:t=x.length:=by omega
       have CR4:Hid (cnt notFence (p.take (j+1))=R+(x.take t).countP notFence):=by have h:=CR.out;rwa [e,List.take_length]
       have OK4:Hid ((p.take (j+1)).all rowOk=true):=hide (all_take_succ hok.out X.out (by
        have h:=hok2.out
        rw [e,List.take_length] at h
        unfold rowOk
        rw [h];simp;omega))
       generalize hR2:(x.take t).countP notFence=R2 at *
       clear hR2 e
       go_wp2_with fail
       go_roundw
       case rel=>exact ⟨j+1,by omega,by go_num,by rw [CR4.out],OK4,hb2.trans (hb3.mono hb2.size)⟩
       case measure=>simp [intOf];omega
   ·have e:j=n:=by omega
    have hpt:p.take j=p:=List.take_of_length_le (by rw [H.out];omega)
    rw [hpt] at hok ⊢
    clear hpt
    have PV:Hid (progValid p=(decide (cnt notFence p≤12)&&decide (prodP p≤3000))):=hide (by
     have hle:decide (n≤3)=true:=decide_eq_true (by omega)
     have hle2:decide (1≤n)=true:=decide_eq_true (by omega)
     unfold progValid shapeOk;rw [hok.out,H.out,hle,hle2];simp)
    have hcn:=Nat.le_trans (cnt_le_flatten notFence p) HL.out
    have HE:=hide (fun w' h=>execs_any (.slice a n c) p w' h HL.out (by rw [H.out];omega))
    have hcap:=cap_le (prodP p)
    have HCP:Hid (decide (((cap (prodP p):Nat):Int)≤3000)=decide (prodP p≤3000)):=hide (by rw [Bool.eq_iff_iff];simp only [decide_eq_true_eq];unfold cap;omega)
    generalize hC:cap (prodP p)=C at *
    generalize hN:cnt notFence p=N at *
    clear hC hN
    by_cases h12:N≤12
    ·have h12':(N:Int)≤12:=by omega
     go_wp2_with (go_at_call 88;(with_reducible refine (HE.out _ (HP.out.below hb2)).mono ?_);rintro e w1 ⟨rfl,hb1⟩)
     go_ret
     rw [PV.out,HCP.out]
     exact ⟨by rw [show decide (N≤12)=true from decide_eq_true h12];simp,hb2.trans (hb1.mono hb2.size)⟩
    ·have h12':decide ((N:Int)≤12)=false:=by simp;omega
     go_wp2_with fail
     go_ret
     rw [PV.out]
     exact ⟨by rw [show decide (N≤12)=false from decide_eq_false h12];simp,hb2⟩
 ·have E:Hid (inB n 1 3=false):=hide (by unfold inB;simp;omega)
  have E2:Hid (progValid p=false):=hide (by unfold progValid shapeOk;rw [H.out];simp;omega)
  go_enter Tryz.func35,Tryz.ntmps35
  go_wp2_with (go_at_call 86;(with_reducible refine (within_any _ _ _ _).mono ?_);rw [E.out];rintro e w1 ⟨rfl,rfl⟩)
  go_ret
  rw [E2.out]
  exact ⟨rfl,Below.refl _ _⟩
end Go.Proofs.YtlddmagfbcomgaaGreat
namespace Go.Proofs.YtlddmagfbcomgaaGreat
open Go.RowKit
theorem eql_slice_nil (P:Program) (w:World) (t e:TypeId) (a:Option Addr) (n c n' c':Nat) (h:P.underlying t=some (.slice e)):(binOp .eql t (.slice a n c) (.slice none n' c')).run P w = .ok (.bool a.isNone) w:=Lib.run_eql_slice_nil w t e a n c n' c' h
theorem CloneI_any (v:Value) (xs:List Ins) (w:World) (hx:Rep InsE w v xs) (hl:xs.length≤1048576) :
 Calls Tryz.prog 106 #[v] w (RetOwn InsE 74 w xs):=by
 obtain ⟨a,c,rfl,hc1,hc2,hc3,hx⟩:=hx.open
 have HX:=hide hx;clear hx
 have hlen:([]:List Ins).length+xs.length≤68719476736:=by simp;omega
 generalize hn:xs.length=n at *
 have H:=hide hn;clear hn
 cases a with
 | none =>
  have hE:=fun w':World=>eql_slice_nil Tryz.prog w' 71 74 none n c 0 0 Tryz.underlying71
  have hxs:Hid (xs=[]):=hide (by
   cases xs with
   | nil=>rfl
   | cons y ys=>obtain ⟨b,o,hb,_⟩:=HX.out.ins (k:=0) rfl;cases hb)
  go_enter Tryz.func106,Tryz.ntmps106
  go_wp2_with fail
  go_ret
  rw [hxs.out]
  exact ⟨_,rfl,Own.nil _ _ _,Below.refl _ _⟩
 | some ad =>
  have hE:=fun w':World=>eql_slice_nil Tryz.prog w' 71 74 (some ad) n c 0 0 Tryz.underlying71
  go_enter Tryz.func106,Tryz.ntmps106
  go_wp2_with (at_builtin;refine wpList_appS InsE 74 Tryz.infoIns rfl Tryz.underlying71 w.heap.size _ [] xs _ (Own.empty _ w (Nat.le_refl _)) (HX.out.below ((Below.refl _ _).alloc (Nat.le_refl _) _)) (by decide) (by rw [H.out];exact hlen) (by simp) rfl _ _ rfl rfl rfl ?_;intro v' w1 hown1 hgr1)
  go_ret
  exact ⟨_,rfl,by simpa using hown1,((Below.refl _ _).alloc (Nat.le_refl _) _).grown hgr1 (by simp) (fun k hk=>by simp [Value.ownBlock] at hk;omega)⟩
theorem cloneProgram_any (v:Value) (xs:List (List Ins)) (w:World) (hx:RepP w v xs) (hl:xs.length≤1048576) (hl2:∀ r∈xs,r.length≤1048576) :
 Calls Tryz.prog 50 #[v] w (RetOwn2 InsE 71 74 w xs):=by
 obtain ⟨a,c,rfl,hc1,hc2,hc3,hx⟩:=hx.open
 have HX:=hide hx;clear hx
 have HL2:=hide hl2;clear hl2
 generalize hn:xs.length=n at *
 have H:=hide hn;clear hn
 go_enter Tryz.func50,Tryz.ntmps50
 go_wp2_with (at_make;refine wpList_make SlcE 71 ⟨none,0,0⟩ Tryz.infoInsS rfl Tryz.underlying23 n (by decide) (by omega) rfl _ _ rfl rfl rfl ?_;intro w1 hown hgr)
 have hb1:=below_of_grown hgr
 go_loopw [11] (fun i wr => ∃ k:Nat,k≤n∧i = .int .i64 k∧OwnP wr w.heap.size (.slice (some ⟨w.heap.size,0,none⟩) n n) (xs.take k++List.replicate (n - k) [])∧Below w.heap.size w wr) (fun i _=>n - (intOf i).toNat)
 case atStart=>exact ⟨0,Nat.zero_le _,rfl,by simpa using Own2.made hown,hb1⟩
 case round =>
  obtain ⟨k,hk,rfl,ho,hb⟩:=hrel
  by_cases hlt:k < n
  ·obtain ⟨x,hxk⟩:=get_of_lt (xs:=xs) (k:=k) (by rw [H.out];exact hlt)
   obtain ⟨b,o,ra,rc,rfl,hbl,i0,i1⟩:=(HX.out.below hb).row hxk
   have hlt':=nat_of_lt hlt
   have hxl:x.length≤1048576:=HL2.out x (List.mem_of_getElem? hxk)
   have X:=hide hxk;clear hxk
   have I1:=hide i1;clear i1
   go_wp2_with (go_at_call 106;(with_reducible refine (CloneI_any _ x _ I1.out hxl).mono ?_);rintro e w2 ⟨u,rfl,hu,hb2⟩;obtain ⟨s,rfl, -⟩:=hu.toSlc;obtain ⟨hgl,⟨_,f0⟩,hfr⟩:=(ho.below hb2).cellAt (k:=k) (by rw [← H.out,length_pad _ _ (by rw [H.out];omega),H.out];exact hlt))
   have ho2:=ho.put hb2 hb.size (k:=k) (by rw [← H.out,length_pad _ _ (by rw [H.out];omega),H.out];exact hlt) hu
   rw [← H.out,set_pad xs _ X.out,H.out] at ho2
   go_roundw
   case rel=>exact ⟨k+1,by omega,by go_num,ho2,(hb.trans (hb2.mono hb.size)).setCell (Nat.le_refl _) _⟩
   case measure=>simp [intOf];omega
  ·go_wp2_with fail
   go_ret
   rw [← H.out,pad_all xs _ (by rw [H.out];omega),H.out] at ho
   exact ⟨_,rfl,ho,hb⟩
theorem l1Copy_any (v:Value) (xs:List (List Ins)) (w:World) (hx:RepP w v xs) (hl:xs.length≤1048576) (hl2:∀ r∈xs,r.length≤1048576) :
 Calls Tryz.prog 103 #[v] w (RetOwn2 InsE 71 74 w xs):=by
 obtain ⟨a,c,rfl,hc1,hc2,hc3,hx⟩:=hx.open
 have HX:=hide hx;clear hx
 have HL2:=hide hl2;clear hl2
 generalize hn:xs.length=n at *
 have H:=hide hn;clear hn
 go_enter Tryz.func103,Tryz.ntmps103
 go_wp2_with fail
 go_loopw [3,4] (fun s i wr => ∃ k:Nat,k≤n∧i = .int .i64 k∧OwnP wr w.heap.size s (xs.take k)∧Below w.heap.size w wr) (fun _ i _=>n - (intOf i).toNat)
 case atStart=>exact ⟨0,Nat.zero_le _,rfl,by simpa using Own2.empty _ _ w (Nat.le_refl _),(Below.refl _ _).alloc (Nat.le_refl _) _⟩
 case round =>
  obtain ⟨k,hk,rfl,ho,hb⟩:=hrel
  by_cases hlt:k < n
  ·obtain ⟨x,hxk⟩:=get_of_lt (xs:=xs) (k:=k) (by rw [H.out];exact hlt)
   obtain ⟨b,o,ra,rc,rfl,hbl,i0,i1⟩:=(HX.out.below hb).row hxk
   have hlt':=nat_of_lt hlt
   have hxl:x.length≤1048576:=HL2.out x (List.mem_of_getElem? hxk)
   have htk:(xs.take k).length≤1048576:=by simp;omega
   have TS:Hid (xs.take (k+1)=xs.take k++[x]):=hide (by rw [List.take_add_one,hxk];rfl)
   have X:=hide hxk;clear hxk
   have I1:=hide i1;clear i1
   generalize hT:xs.take k=T at *
   clear hT
   have hlen:([]:List Ins).length+x.length≤68719476736:=by simp;omega
   have hbx:=(Below.refl wr.heap.size wr).alloc (Nat.le_refl _) (.cells #[] 74)
   have HBX:=hide hbx;clear hbx
   obtain ⟨us,hU, -⟩:=ho.told
   have HU:=hide hU;clear hU
   have hub:us.length≤68719476736:=by have:=HU.out.1;omega
   go_wp2_with (first | (at_builtin;refine wpList_appS InsE 74 Tryz.infoIns rfl Tryz.underlying71 wr.heap.size _ [] x _ (Own.empty _ wr (Nat.le_refl _)) (I1.out.below HBX.out) (by decide) hlen (by simp) rfl (.tmp 13) (.tmp 17) rfl rfl rfl ?_;intro u w2 hown1 hgr1;obtain ⟨s,rfl, -⟩:=Own.toSlc hown1;have hb2:=HBX.out.grown hgr1 (by simp) (fun k hk=>by simp [Value.ownBlock] at hk;omega)) | (at_builtin;refine wpList_app SlcE 71 Tryz.infoInsS rfl Tryz.underlying23 w.heap.size _ us s ((HU.out.2.1.below hb2).alloc _) (by decide) hub (by simp;have:=hb.size;have:=hb2.size;omega) rfl (.tmp 12) (.tmp 19) rfl rfl w2.heap.size 0 1 rfl news_alloc ?_;intro v' w3 hown3 hgr3))
   have hown1':OwnI w2 wr.heap.size s.v x:=by simpa using hown1
   have ho2:=(HU.out).app (by decide) (hb2.trans ((Below.refl _ _).alloc hb2.size _)) hb.size (hown1'.alloc _) hown3 hgr3
   rw [← TS.out] at ho2
   have hb3:=below_app (hb.trans (hb2.mono hb.size)) (HU.out.2.1.below hb2) hgr3
   go_roundw
   case rel=>exact ⟨k+1,by omega,by go_num,ho2,hb3⟩
   case measure=>simp [intOf];omega
  ·go_wp2_with fail
   go_ret
   rw [List.take_of_length_le (by rw [H.out];omega)] at ho
   exact ⟨_,rfl,ho,hb⟩
end Go.Proofs.YtlddmagfbcomgaaGreat
namespace Go.Proofs.YtlddmagfbcomgaaGreat
open Go.RowKit
theorem Tryz.infoGap:(Tryz.prog.info? 64).map (fun i=>(i.zero,i.size,i.bytes))=some (some (.agg #[.int .i64 0, .int .i64 0]),2,16):=by kernel_rfl
abbrev OwnG (w:World) (base:Nat) (v:Value) (xs:List Gp):Prop:=Own GapE 64 w base v xs
theorem gaps_any (v:Value) (p:List (List Ins)) (w:World) (hp:RepP w v p) (hl:p.flatten.length≤1048576) :
 Calls Tryz.prog 46 #[v] w (RetOwn GapE 64 w (gapsP p)):=by
 obtain ⟨a,c,rfl,hc1,hc2,hc3,hp⟩:=hp.open
 have HP:=hide hp;clear hp
 have HL:=hide hl;clear hl
 have PP:Hid (gapsP p=gapsTo p p.length):=hide rfl
 have HGL:=hide (gapsTo_length p)
 generalize hn:p.length=n at *
 have H:=hide hn;clear hn
 go_enter Tryz.func46,Tryz.ntmps46
 go_wp2_with fail
 go_loopw [3,9] (fun s i wr => ∃ j:Nat,j≤n∧i = .int .i64 j∧OwnG wr w.heap.size s (gapsTo p j)∧Below w.heap.size w wr) (fun _ i _=>n - (intOf i).toNat)
 case atStart=>exact ⟨0,by omega,rfl,World.ownsRow_nil _ _ _ _,Below.refl _ _⟩
 case round =>
  obtain ⟨j,hj,rfl,hown,hb2⟩:=hrel
  by_cases hlt2:j < n
  ·obtain ⟨wm,rfl⟩:∃ wm:World,wm=wr:=⟨_,rfl⟩
   obtain ⟨x,hxk⟩:=get_of_lt (xs:=p) (k:=j) (by rw [H.out];exact hlt2)
   obtain ⟨b,o,ra,rc,rfl,hbl,i0,i1⟩:=HP.out.row hxk
   have i0:=(hb2.cell (p:=⟨b,o+j,none⟩) hbl).trans i0
   have hlt2':=nat_of_lt hlt2
   have GS:=hide (gapsTo_succ hxk)
   have hgl:=Nat.le_trans (HGL.out j hj) (Nat.le_trans (flatten_take_le p j) HL.out)
   have hxl:=Nat.le_trans (row_le_flatten hxk) HL.out
   have I1:=hide i1;have X:=hide hxk
   clear i1 hxk
   generalize hG:gapsTo p j=G at *
   clear hG
   have HO:=hide hown;clear hown
   go_wp2_with fail
   go_loopw [3,6] (fun s i wr => ∃ t:Nat,(t+1≤x.length∨t=0)∧i = .int .i64 ((t:Int)+1)∧OwnG wr w.heap.size s (G++rowGaps j x (t+1))∧Below w.heap.size w wr) (fun _ i _=>x.length - (intOf i).toNat)
   case atStart=>exact ⟨0, .inr rfl,rfl,by rw [rowGaps_one,List.append_nil];exact HO.out,hb2⟩
   case round =>
    obtain ⟨t,ht,rfl,hown,hb3⟩:=hrel
    by_cases hlt3:t+1 < x.length
    ·obtain ⟨y,hyk⟩:=get_of_lt (xs:=x) (k:=t) (by omega)
     obtain ⟨z,hzk⟩:=get_of_lt (xs:=x) (k:=t+1) hlt3
     obtain ⟨b',o',rfl,hbl',j0,j1,j2,j3⟩:=(I1.out.below hb3).ins hyk
     obtain ⟨b'',o'',e1,hbl'',k0,k1,k2,k3⟩:=(I1.out.below hb3).ins hzk
     simp only [Option.some.injEq,Addr.mk.injEq,and_true] at e1
     obtain ⟨rfl,rfl⟩:=e1
     have hlt3':(t:Int)+1 < x.length:=by omega
     have ST:=hide (rowGaps_step (t:=j) hyk hzk)
     have hrl:=rowGaps_length j x (t+1)
     have YK:=hide hyk;have ZK:=hide hzk
     clear hyk hzk hbl''
     generalize hRG:rowGaps j x (t+1)=RG at *
     clear hRG
     have hlen:(G++RG).length≤68719476736:=by rw [List.length_append];omega
     by_cases hy:y.op=4
     ·have g4:(y.op != 4)=false:=by simp [hy]
      have ST2:Hid (rowGaps j x (t+1+1)=RG):=hide (by have h:=ST.out;rw [g4] at h;simpa using h)
      clear hy
      go_wp2_with fail
      go_roundw
      case rel=>exact ⟨t+1,by omega,by go_num,by rw [ST2.out];exact hown,hb3⟩
      case measure=>simp [intOf];omega
     ·have g4:(y.op != 4)=true:=by simp [hy]
      clear hy
      by_cases hz:z.op=4
      ·have g5:(z.op != 4)=false:=by simp [hz]
       have ST2:Hid (rowGaps j x (t+1+1)=RG):=hide (by have h:=ST.out;rw [g4,g5] at h;simpa using h)
       clear hz
       go_wp2_with fail
       go_roundw
       case rel=>exact ⟨t+1,by omega,by go_num,by rw [ST2.out];exact hown,hb3⟩
       case measure=>simp [intOf];omega
      ·have g5:(z.op != 4)=true:=by simp [hz]
       have ST2:Hid (rowGaps j x (t+1+1)=RG++[⟨(j:Int),(t:Int)+1⟩]):=hide (by have h:=ST.out;rw [g4,g5] at h;simpa using h)
       clear hz
       go_wp2_with (at_builtin;refine wpList_app GapE 64 Tryz.infoGap rfl Tryz.underlying24 w.heap.size _ _ ⟨(j:Int),(t:Int)+1⟩ (hown.alloc _) (by decide) hlen (by simp;have:=hb3.size;omega) rfl _ _ rfl rfl wr.heap.size 0 1 rfl news_alloc ?_;intro v' w1 hown1 hgr1)
       have hb4:=below_app hb3 hown hgr1
       go_roundw
       case rel=>exact ⟨t+1,by omega,by go_num,by rw [ST2.out,← List.append_assoc];exact hown1,hb4⟩
       case measure=>simp [intOf];omega
    ·have e:rowGaps j x (t+1)=rowGaps j x x.length:=by
      rcases ht with h | h
      ·rw [show t+1=x.length by omega]
      ·subst h
       rw [rowGaps_one]
       by_cases h0:x.length=0
       ·rw [h0,rowGaps_zero]
       ·rw [show x.length=1 by omega,rowGaps_one]
     rw [e] at hown
     have hlt3':(x.length:Int)≤(t:Int)+1:=by omega
     go_wp2_with fail
     go_roundw
     case rel=>exact ⟨j+1,by omega,by go_num,by rw [GS.out];exact hown,hb3⟩
     case measure=>simp [intOf];omega
  ·have e:j=n:=by omega
   go_wp2_with fail
   go_ret
   rw [PP.out,← e]
   exact ⟨_,rfl,hown,hb2⟩
end Go.Proofs.YtlddmagfbcomgaaGreat
namespace Go.Proofs.YtlddmagfbcomgaaGreat
open Go.RowKit
theorem Rep.gap {w:World} {a:Option Addr} {n c:Nat} {xs:List Gp} (h:Rep GapE w (.slice a n c) xs) {k:Nat} {x:Gp} (hx:xs[k]? = some x) :
 ∃ b o,a=some ⟨b,o,none⟩∧b < w.heap.size∧w.cell? ⟨b,o+k * 2,none⟩=some (.int .i64 x.t)∧w.cell? ⟨b,o+k * 2+1,none⟩=some (.int .i64 x.i):=by
 obtain ⟨a',c',hv,_,_,h⟩:=h
 simp only [Value.slice.injEq] at hv
 obtain ⟨rfl,rfl,rfl⟩:=hv
 obtain ⟨b,o,rfl,h'⟩:=h k x hx
 exact ⟨b,o,rfl,lt_of_cell (h' 0 _ rfl),h' 0 _ rfl,h' 1 _ rfl⟩
theorem Own.gap {T:TypeId} {w:World} {base g n cap:Nat} {xs:List Gp} (h:Own GapE T w base (.slice (some ⟨g,0,none⟩) n cap) xs) {k:Nat} {x:Gp} (hx:xs[k]? = some x) :
 g < w.heap.size∧w.cell? ⟨g,k * 2,none⟩=some (.int .i64 x.t)∧w.cell? ⟨g,k * 2+1,none⟩=some (.int .i64 x.i)∧∀ j,w.frozen? ⟨g,j,none⟩=false:=
 ⟨(World.ownsRow.lt h g rfl).2,h.cell hx (j:=0) rfl,h.cell hx (j:=1) rfl,fun j=>h.frozen j⟩
theorem Own.setGap {T:TypeId} {w:World} {base g n cap:Nat} {xs:List Gp} (h:Own GapE T w base (.slice (some ⟨g,0,none⟩) n cap) xs) {k:Nat} {z:Gp} (hz:xs[k]? = some z) (x:Gp) :
 Own GapE T ((w.setCell ⟨g,k * 2,none⟩ (.int .i64 x.t)).setCell ⟨g,k * 2+1,none⟩ (.int .i64 x.i)) base (.slice (some ⟨g,0,none⟩) n cap) (xs.set k x):=by
 have h0:=h.set (i:=k) (j:=0) ⟨x.t,z.i⟩ (u:=.int .i64 x.t) (by decide) hz rfl
 have h1:=h0.set (i:=k) (j:=1) x (u:=.int .i64 x.i) (by decide) (get_set_self hz _) rfl
 simp only [List.set_set] at h1
 exact h1
theorem l9Gaps_any (v:Value) (p:List (List Ins)) (w:World) (hp:RepP w v p) (hl:p.flatten.length≤1048576) :
 Calls Tryz.prog 54 #[v] w (RetOwn GapE 64 w (gapsP p)):=by
 obtain ⟨a,c,rfl,hc1,hc2,hc3,hp⟩:=hp.open
 have HP:=hide hp;clear hp
 have HL:=hide hl;clear hl
 have PP:Hid (gapsP p=gapsTo p p.length):=hide rfl
 have HGL:=hide (gapsTo_length p)
 generalize hn:p.length=n at *
 have H:=hide hn;clear hn
 go_enter Tryz.func54,Tryz.ntmps54
 go_wp2_with fail
 go_loopw [3,4] (fun s i wr => ∃ j:Nat,j≤n∧i = .int .i64 j∧OwnG wr w.heap.size s (gapsTo p j)∧Below w.heap.size w wr) (fun _ i _=>n - (intOf i).toNat)
 case atStart=>exact ⟨0,by omega,rfl,Own.empty _ w (Nat.le_refl _),(Below.refl _ _).alloc (Nat.le_refl _) _⟩
 case round =>
  obtain ⟨j,hj,rfl,hown,hb2⟩:=hrel
  by_cases hlt2:j < n
  ·obtain ⟨wm,rfl⟩:∃ wm:World,wm=wr:=⟨_,rfl⟩
   obtain ⟨x,hxk⟩:=get_of_lt (xs:=p) (k:=j) (by rw [H.out];exact hlt2)
   obtain ⟨b,o,ra,rc,rfl,hbl,i0,i1⟩:=HP.out.row hxk
   have IW:=hide i0
   have i0:=(hb2.cell (p:=⟨b,o+j,none⟩) hbl).trans i0
   have hlt2':=nat_of_lt hlt2
   have GS:=hide (gapsTo_succ hxk)
   have hgl:=Nat.le_trans (HGL.out j hj) (Nat.le_trans (flatten_take_le p j) HL.out)
   have hxl:=Nat.le_trans (row_le_flatten hxk) HL.out
   have I1:=hide i1;have X:=hide hxk
   clear i1 hxk
   generalize hG:gapsTo p j=G at *
   clear hG
   have HO:=hide hown;clear hown
   go_wp2_with fail
   go_loopw [3,5] (fun s i wr => ∃ t:Nat,(t+1≤x.length∨t=0)∧i = .int .i64 ((t:Int)+1)∧OwnG wr w.heap.size s (G++rowGaps j x (t+1))∧Below w.heap.size w wr) (fun _ i _=>x.length - (intOf i).toNat)
   case atStart=>exact ⟨0, .inr rfl,rfl,by rw [rowGaps_one,List.append_nil];exact HO.out,hb2⟩
   case round =>
    obtain ⟨t,ht,rfl,hown,hb3⟩:=hrel
    have i0w:=(hb3.cell (p:=⟨b,o+j,none⟩) hbl).trans IW.out
    by_cases hlt3:t+1 < x.length
    ·obtain ⟨y,hyk⟩:=get_of_lt (xs:=x) (k:=t) (by omega)
     obtain ⟨z,hzk⟩:=get_of_lt (xs:=x) (k:=t+1) hlt3
     obtain ⟨b',o',rfl,hbl',j0,j1,j2,j3⟩:=(I1.out.below hb3).ins hyk
     obtain ⟨b'',o'',e1,hbl'',k0,k1,k2,k3⟩:=(I1.out.below hb3).ins hzk
     simp only [Option.some.injEq,Addr.mk.injEq,and_true] at e1
     obtain ⟨rfl,rfl⟩:=e1
     have hlt3':(t:Int)+1 < x.length:=by omega
     have ST:=hide (rowGaps_step (t:=j) hyk hzk)
     have hrl:=rowGaps_length j x (t+1)
     have YK:=hide hyk;have ZK:=hide hzk
     clear hyk hzk hbl''
     generalize hRG:rowGaps j x (t+1)=RG at *
     clear hRG
     have hlen:(G++RG).length≤68719476736:=by rw [List.length_append];omega
     by_cases hy:y.op=4
     ·have g4:(y.op != 4)=false:=by simp [hy]
      have ST2:Hid (rowGaps j x (t+1+1)=RG):=hide (by have h:=ST.out;rw [g4] at h;simpa using h)
      clear hy
      go_wp2_with fail
      go_roundw
      case rel=>exact ⟨t+1,by omega,by go_num,by rw [ST2.out];exact hown,hb3⟩
      case measure=>simp [intOf];omega
     ·have g4:(y.op != 4)=true:=by simp [hy]
      clear hy
      by_cases hz:z.op=4
      ·have g5:(z.op != 4)=false:=by simp [hz]
       have ST2:Hid (rowGaps j x (t+1+1)=RG):=hide (by have h:=ST.out;rw [g4,g5] at h;simpa using h)
       clear hz
       go_wp2_with fail
       go_roundw
       case rel=>exact ⟨t+1,by omega,by go_num,by rw [ST2.out];exact hown,hb3⟩
       case measure=>simp [intOf];omega
      ·have g5:(z.op != 4)=true:=by simp [hz]
       have ST2:Hid (rowGaps j x (t+1+1)=RG++[⟨(j:Int),(t:Int)+1⟩]):=hide (by have h:=ST.out;rw [g4,g5] at h;simpa using h)
       clear hz
       go_wp2_with (at_builtin;refine wpList_app GapE 64 Tryz.infoGap rfl Tryz.underlying24 w.heap.size _ _ ⟨(j:Int),(t:Int)+1⟩ (hown.alloc _) (by decide) hlen (by simp;have:=hb3.size;omega) rfl _ _ rfl rfl wr.heap.size 0 1 rfl news_alloc ?_;intro v' w1 hown1 hgr1)
       have hb4:=below_app hb3 hown hgr1
       go_roundw
       case rel=>exact ⟨t+1,by omega,by go_num,by rw [ST2.out,← List.append_assoc];exact hown1,hb4⟩
       case measure=>simp [intOf];omega
    ·have e:rowGaps j x (t+1)=rowGaps j x x.length:=by
      rcases ht with h | h
      ·rw [show t+1=x.length by omega]
      ·subst h
       rw [rowGaps_one]
       by_cases h0:x.length=0
       ·rw [h0,rowGaps_zero]
       ·rw [show x.length=1 by omega,rowGaps_one]
     rw [e] at hown
     have hlt3':(x.length:Int)≤(t:Int)+1:=by omega
     go_wp2_with fail
     go_roundw
     case rel=>exact ⟨j+1,by omega,by go_num,by rw [GS.out];exact hown,hb3⟩
     case measure=>simp [intOf];omega
  ·have e:j=n:=by omega
   go_wp2_with fail
   go_ret
   rw [PP.out,← e]
   exact ⟨_,rfl,hown,hb2⟩
end Go.Proofs.YtlddmagfbcomgaaGreat
namespace Go.Proofs.YtlddmagfbcomgaaGreat
open Go.RowKit
structure Ev where
 t:Int
 i:Int
 l:Int
 r:Bool
 w:Bool
deriving DecidableEq
def EvE:El Ev:=⟨5,by decide,fun x=>[.int .i64 x.t, .int .i64 x.i, .int .i64 x.l, .bool x.r, .bool x.w],fun _=>rfl,fun x u h=>by simp at h;rcases h with rfl | rfl | rfl | rfl | rfl <;> rfl⟩
theorem Tryz.infoEvent:(Tryz.prog.info? 112).map (fun i=>(i.zero,i.size,i.bytes))=some (some (.agg #[.int .i64 0, .int .i64 0, .int .i64 0, .bool false, .bool false]),5,32):=by kernel_rfl
abbrev OwnE (w:World) (base:Nat) (v:Value) (xs:List Ev):Prop:=Own EvE 112 w base v xs
theorem Rep.ev {w:World} {a:Option Addr} {n c:Nat} {xs:List Ev} (h:Rep EvE w (.slice a n c) xs) {k:Nat} {x:Ev} (hx:xs[k]? = some x) :
 ∃ b o,a=some ⟨b,o,none⟩∧b < w.heap.size∧w.cell? ⟨b,o+k * 5,none⟩=some (.int .i64 x.t)∧w.cell? ⟨b,o+k * 5+1,none⟩=some (.int .i64 x.i) ∧
  w.cell? ⟨b,o+k * 5+2,none⟩=some (.int .i64 x.l)∧w.cell? ⟨b,o+k * 5+3,none⟩=some (.bool x.r)∧w.cell? ⟨b,o+k * 5+4,none⟩=some (.bool x.w):=by
 obtain ⟨a',c',hv,_,_,h⟩:=h
 simp only [Value.slice.injEq] at hv
 obtain ⟨rfl,rfl,rfl⟩:=hv
 obtain ⟨b,o,rfl,h'⟩:=h k x hx
 exact ⟨b,o,rfl,lt_of_cell (h' 0 _ rfl),h' 0 _ rfl,h' 1 _ rfl,h' 2 _ rfl,h' 3 _ rfl,h' 4 _ rfl⟩
theorem step_app {α:Type} (E:El α) {P:Program} {w:World} {ops:Array Oper} {o:Oper} {a:Act} {K:Act→World→Prop} {Q:Exit→Act→World→Prop} {F:Prop}
 (T:TypeId) {zv:Value} {bytes:Nat} (hinfo:(P.info? T).map (fun i=>(i.zero,i.size,i.bytes))=some (some zv,E.sz,bytes)) (hz:zv.cells.size=E.sz) {t:TypeId} (h1:P.underlying t=some (.slice T))
 (base:Nat) (v:Value) (xs:List α) (x:α) (hown:Own E T w base v xs) (hby:bytes≤256) (hn:xs.length≤68719476736) (hbase:base≤w.heap.size)
 (hg:o.guard=none) (s y:Operand) (hop:o.op = .call { callee:=.builtin .append,args:=#[s,y],argTypes:=#[t,t] })
 (hs:a.eval s=v) (b off c:Nat) (hy:a.eval y = .slice (some ⟨b,off,none⟩) 1 c) (hnews:∀ j u,(E.c x)[j]? = some u→w.cell? ⟨b,off+j,none⟩=some u)
 (hK:∀ v' w',Own E T w' base v' (xs++[x])→w.grownBy w' v.ownBlock→K (a.put o.dst v') w') :
 if Region.wanted o (yielded ops a.tmps)=true then Oper.wp P o a w K Q else F:=by
 obtain ⟨it,hi,hz0,hz1,hz2⟩:=info_parts hinfo
 refine step_append_lies w hg s y t hop base T it zv E.sz bytes h1 hi hz0 hz1 hz2 hz E.pos v xs.length _ hs hown ⟨b,off,none⟩ 1 c (E.c x) hy (by rw [E.len,Nat.one_mul]) ?_ (E.one x) (by omega) (by unfold maxLen;omega) ?_ hbase _ rfl ?_
 ·intro j u hu
  have hadd:(⟨b,off,none⟩:Addr).add j=⟨b,off+j,none⟩:=by unfold Addr.add;split <;> simp_all
  rw [hadd]
  exact hnews j u hu
 ·have:=Nat.mul_le_mul (show xs.length+1≤68719476737 by omega) hby
  omega
 ·intro g cap w' h2 h3 _ _
  refine hK _ w' ?_ h3
  unfold Own
  simpa [List.flatMap_append] using h2
def evOf (t i:Nat) (x:Ins):List Ev:=if x.op=4 then [] else [⟨t,i,x.loc,isRop x.op,isWop x.op⟩]
def evRow (t:Nat) (r:List Ins) (k:Nat):List Ev:=(List.range k).flatMap fun i=>match r[i]? with
 | some x=>evOf t i x
 | none=>[]
def evTo (p:List (List Ins)) (j:Nat):List Ev:=(List.range j).flatMap fun t=>match p[t]? with
 | some r=>evRow t r r.length
 | none=>[]
def evHead (k:Nat):List Ev:=(List.range k).map fun (l:Nat)=>⟨-1,l,l,false,true⟩
def evAll (p:List (List Ins)):List Ev:=evHead 3++evTo p p.length
theorem evHead_succ (k:Nat):evHead (k+1)=evHead k++[⟨-1,k,k,false,true⟩]:=by simp [evHead,List.range_succ]
theorem evHead_length (k:Nat):(evHead k).length=k:=by simp [evHead]
theorem evRow_succ {t:Nat} {r:List Ins} {k:Nat} {x:Ins} (h:r[k]? = some x):evRow t r (k+1)=evRow t r k++evOf t k x:=by
 unfold evRow
 rw [List.range_succ,List.flatMap_append]
 simp [h]
theorem evTo_succ {p:List (List Ins)} {j:Nat} {r:List Ins} (h:p[j]? = some r):evTo p (j+1)=evTo p j++evRow j r r.length:=by
 unfold evTo
 rw [List.range_succ,List.flatMap_append]
 simp [h]
theorem evOf_length (t i:Nat) (x:Ins):(evOf t i x).length≤1:=by unfold evOf;split <;> simp
theorem evRow_length (t:Nat) (r:List Ins):∀ k,(evRow t r k).length≤k:=by
 intro k
 induction k with
 | zero=>simp [evRow]
 | succ k ih =>
  unfold evRow at ih ⊢
  rw [List.range_succ,List.flatMap_append,List.length_append]
  have:((List.flatMap (fun i=>match r[i]? with
   | some x=>evOf t i x
   | none=>[]) [k])).length≤1:=by
   cases h:r[k]? with
   | none=>simp [h]
   | some x=>simp [h];exact evOf_length t k x
  omega
theorem evTo_length (p:List (List Ins)):∀ j,j≤p.length→(evTo p j).length≤(p.take j).flatten.length:=by
 intro j
 induction j with
 | zero=>intro _;simp [evTo]
 | succ j ih =>
  intro hj
  obtain ⟨r,hr⟩:=get_of_lt (xs:=p) (k:=j) hj
  rw [evTo_succ hr,List.take_add_one,hr,List.flatten_append,List.length_append,List.length_append]
  have h1:=ih (by omega)
  have h2:=evRow_length j r r.length
  simp only [Option.toList_some,List.flatten_cons,List.flatten_nil,List.append_nil]
  omega
theorem evAll_length (p:List (List Ins)):(evAll p).length≤3+p.flatten.length:=by
 unfold evAll
 have:=evTo_length p p.length (Nat.le_refl _)
 rw [List.take_length] at this
 rw [List.length_append,evHead_length];omega
end Go.Proofs.YtlddmagfbcomgaaGreat
namespace Go.Proofs.YtlddmagfbcomgaaGreat
open Go.RowKit
theorem cell_of_block2 {w w':World} {b:Nat} (h:w'.heap[b]? = w.heap[b]?) (o:Nat):w'.cell? ⟨b,o,none⟩=w.cell? ⟨b,o,none⟩:=by
 unfold World.cell?
 rw [h]
theorem kept_cell {w w':World} {ob:Obj} {row:Option Nat} (hg:(w.alloc ob).grownBy w' row) {b:Nat} (hb:b < w.heap.size) (hne:∀ q,row=some q→q≠b) (o:Nat):w'.cell? ⟨b,o,none⟩=w.cell? ⟨b,o,none⟩:=by
 refine cell_of_block2 ?_ o
 rw [hg.block b (by simp;omega) (fun e=>hne b e.symm rfl),heap_alloc_old w ob hb]
theorem events_any (v:Value) (p:List (List Ins)) (w:World) (hp:RepP w v p) (hl:p.flatten.length≤1048576) :
 Calls Tryz.prog 93 #[v] w (RetOwn EvE 112 w (evAll p)):=by
 obtain ⟨a,c,rfl,hc1,hc2,hc3,hp⟩:=hp.open
 have HP:=hide hp;clear hp
 have HL:=hide hl;clear hl
 have PP:Hid (evAll p=evHead 3++evTo p p.length):=hide rfl
 have HGL:=hide (evTo_length p)
 generalize hn:p.length=n at *
 have H:=hide hn;clear hn
 go_enter Tryz.func93,Tryz.ntmps93
 go_wp2_with fail
 go_loopw [3,9] (fun s i wr => ∃ j:Nat,j≤3∧i = .int .i64 j∧OwnE wr w.heap.size s (evHead j)∧Below w.heap.size w wr) (fun _ i _=>3 - (intOf i).toNat)
 case atStart=>exact ⟨0,by omega,rfl,Own.nil _ _ _,Below.refl _ _⟩
 case round =>
  obtain ⟨j,hj,rfl,hown,hb⟩:=hrel
  by_cases hlt:j < 3
  ·have hlt':(j:Int) < 3:=by omega
   have HS:=hide (evHead_succ j)
   have hlen:(evHead j).length≤68719476736:=by rw [evHead_length];omega
   generalize evHead j=G at *
   go_wp2_with (at_builtin;refine wpList_app EvE 112 Tryz.infoEvent rfl Tryz.underlying108 w.heap.size _ _ ⟨-1,(j:Int),(j:Int),false,true⟩ (hown.alloc _) (by decide) hlen (by simp;have:=hb.size;omega) rfl _ _ rfl rfl wr.heap.size 0 1 rfl news_alloc ?_;intro v' w1 hown1 hgr1)
   have hb1:=below_app hb hown hgr1
   go_roundw
   case rel=>exact ⟨j+1,by omega,by go_num,by rw [HS.out];exact hown1,hb1⟩
   case measure=>simp [intOf];omega
  ·obtain rfl:j=3:=by omega
   have E3:Hid (evHead 3=evHead 3++evTo p 0):=hide (by simp [evTo])
   have H3:Hid ((evHead 3).length=3):=hide (evHead_length 3)
   generalize evHead 3=G3 at *
   go_wp2_with fail
   go_loopw [3,21] (fun s i wr => ∃ j:Nat,j≤n∧i = .int .i64 j∧OwnE wr w.heap.size s (G3++evTo p j)∧Below w.heap.size w wr) (fun _ i _=>n - (intOf i).toNat)
   case atStart=>exact ⟨0,by omega,rfl,by rw [← E3.out];exact hown,hb⟩
   case round =>
    obtain ⟨j,hj,rfl,hown,hb2⟩:=hrel
    by_cases hlt2:j < n
    ·obtain ⟨x,hxk⟩:=get_of_lt (xs:=p) (k:=j) (by rw [H.out];exact hlt2)
     obtain ⟨b,o,ra,rc,rfl,hbl0,i00,i1⟩:=HP.out.row hxk
     have i0:=(hb2.cell (p:=⟨b,o+j,none⟩) hbl0).trans i00
     have hbl:b < wr.heap.size:=by have:=hb2.size;omega
     have I1:=hide i1
     have hlt2':=nat_of_lt hlt2
     have GS:=hide (evTo_succ hxk)
     have hgl:(evTo p j).length≤1048576:=Nat.le_trans (HGL.out j (by omega)) (Nat.le_trans (flatten_take_le p j) HL.out)
     have hxl:=Nat.le_trans (row_le_flatten hxk) HL.out
     clear hxk i1 i00
     generalize hG:evTo p j=G at *
     clear hG
     have HO:=hide hown;clear hown
     go_wp2_with fail
     go_loopw [3,28] (fun s i wr => ∃ t:Nat,t≤x.length∧i = .int .i64 t∧OwnE wr w.heap.size s (G3++(G++evRow j x t))∧Below w.heap.size w wr) (fun _ i _=>x.length - (intOf i).toNat)
     case atStart=>exact ⟨0,by omega,rfl,by simpa [evRow] using HO.out,hb2⟩
     case round =>
      obtain ⟨t,ht,rfl,hown,hb3⟩:=hrel
      by_cases hlt3:t < x.length
      ·obtain ⟨y,hy⟩:=get_of_lt (xs:=x) (k:=t) hlt3
       obtain ⟨d1,e1,rfl,hd1,q0,q1,q2,q3⟩:=(I1.out.below hb3).ins hy
       have hlt3':=nat_of_lt hlt3
       have RS:=hide (evRow_succ (t:=j) hy)
       have hrl:=evRow_length j x t
       have Y:=hide hy;clear hy
       by_cases hop:y.op=4
       ·have k1:(y.op != 4)=false:=by simp [hop]
        have RS2:Hid (evRow j x (t+1)=evRow j x t):=hide (by rw [RS.out,evOf,if_pos hop,List.append_nil])
        clear hop
        go_wp2_with fail
        go_roundw
        case rel=>exact ⟨t+1,by omega,by go_num,by rw [RS2.out];exact hown.alloc _,hb3.alloc hb3.size _⟩
        case measure=>simp [intOf];omega
       ·have k1:(y.op != 4)=true:=by simp [hop]
        have RS2:Hid (evRow j x (t+1)=evRow j x t++[⟨j,t,y.loc,isRop y.op,isWop y.op⟩]):=hide (by rw [RS.out,evOf,if_neg hop])
        have hlen:(G3++(G++evRow j x t)).length≤68719476736:=by rw [List.length_append,List.length_append,H3.out];omega
        clear hop hrl
        generalize evRow j x t=RG at *
        have HO3:=hide (hown.alloc (.cells #[.int .i64 y.op, .int .i64 y.loc, .int .i64 y.reg, .int .i64 y.val] 74))
        have HB3:=hide (hb3.alloc hb3.size (.cells #[.int .i64 y.op, .int .i64 y.loc, .int .i64 y.reg, .int .i64 y.val] 74))
        have HRd:=hide (fun w'=>reads_raw y.op y.loc y.reg y.val w')
        have HWr:=hide (fun w'=>writes_raw y.op y.loc y.reg y.val w')
        generalize isRop y.op=rb at *
        generalize isWop y.op=wb at *
        have HOW:=hide hown
        clear hown
        go_wp2_with fail
        go_region_held3 (fun V=>V.cell? ⟨wr.heap.size,0,none⟩=some (.int .i64 y.op)∧V.cell? ⟨wr.heap.size,1,none⟩=some (.int .i64 y.loc)∧V.cell? ⟨wr.heap.size,2,none⟩=some (.int .i64 y.reg)∧V.cell? ⟨wr.heap.size,3,none⟩=some (.int .i64 y.val)) ((simp [go_sem, *]))
         (first
          | (go_at_call 127;(with_reducible refine (HRd.out _).mono ?_);rintro e u1 ⟨rfl,hb4⟩;have hb5:=hide (HB3.out.drew.trans (hb4.mono HB3.out.drew.size));have hO5:=hide ((HO3.out.below (Below.refl _ _).drew).below hb4);obtain ⟨hc4,hf4⟩:=bcell hb4)
          | (go_at_call 121;(with_reducible refine (HWr.out _).mono ?_);rintro e u2 ⟨rfl,hb6⟩;have hb7:=hide (hb5.out.trans (hb6.mono hb5.out.size));have hO7:=hide (hO5.out.below hb6);obtain ⟨hc6,hf6⟩:=bcell (hb4.trans (hb6.mono hb4.size));have hz6:wr.heap.size < u2.heap.size:=(by have h1:=hb4.size;have h2:=hb6.size;simp at h1;omega))
          | (refine step_app EvE 112 Tryz.infoEvent rfl Tryz.underlying108 w.heap.size _ _ ⟨(j:Int),(t:Int),y.loc,rb,wb⟩ (hO7.out.alloc _) (by decide) hlen (by have:=hb7.out.size;simp;omega) (by rfl) _ _ (by rfl) (by rfl) u2.heap.size 0 1 (by rfl) news_alloc ?_;intro v' w6 hown6 hgr6;have hk6:(∀ o,w6.cell? ⟨wr.heap.size,o,none⟩=u2.cell? ⟨wr.heap.size,o,none⟩):=(kept_cell hgr6 hz6 (fun q hq=>by have:=(World.ownsRow.lt HOW.out q hq).2;omega))))
        have hb8:=below_app hb7.out hO7.out hgr6
        go_wp2_with fail
        go_roundw
        case rel =>
         have hown7:OwnE w6 w.heap.size v' (G3++(G++evRow j x (t+1))):=by rw [RS2.out];simpa [List.append_assoc] using hown6
         repeat apply Exists.intro
         exact ⟨⟨t+1,by omega,by go_num,hown7,hb8⟩,rfl⟩
        case measure=>simp [intOf];omega
      ·have e:t=x.length:=by omega
       rw [e] at hown
       go_wp2_with fail
       go_roundw
       case rel=>exact ⟨j+1,by omega,by go_num,by rw [GS.out];exact hown,hb3⟩
       case measure=>simp [intOf];omega
    ·have e:j=n:=by omega
     go_wp2_with fail
     go_ret
     rw [PP.out,← e]
     exact ⟨_,rfl,hown,hb2⟩
end Go.Proofs.YtlddmagfbcomgaaGreat
namespace Go.Proofs.YtlddmagfbcomgaaGreat
open Go.RowKit
def mapPre {α:Type} (f:α→α) (k:Nat) (xs:List α):List α:=(xs.take k).map f++xs.drop k
section
variable {α : Type} {f : α → α} {k : Nat} {xs : List α}
theorem mapPre_zero:mapPre f 0 xs=xs:=by simp [mapPre]
theorem mapPre_all (h:xs.length≤k):mapPre f k xs=xs.map f:=by simp [mapPre,List.take_of_length_le h,List.drop_of_length_le h]
theorem mapPre_get {x:α} (h:xs[k]? = some x):(mapPre f k xs)[k]? = some x:=by
 have hk:=(List.getElem?_eq_some_iff.1 h).1
 unfold mapPre
 rw [List.getElem?_append_right (by simp;omega),List.getElem?_drop]
 simp only [List.length_map,List.length_take]
 rw [Nat.min_eq_left (by omega),Nat.sub_self,Nat.add_zero,h]
theorem mapPre_set {x:α} (h:xs[k]? = some x):(mapPre f k xs).set k (f x)=mapPre f (k+1) xs:=by
 have hk:=(List.getElem?_eq_some_iff.1 h).1
 unfold mapPre
 rw [List.set_append_right _ _ (by simp;omega),List.drop_eq_getElem_cons hk]
 simp only [List.length_map,List.length_take]
 rw [Nat.min_eq_left (by omega),Nat.sub_self,List.set_cons_zero,List.take_add_one,h]
 simp
end
def RetOwn2B {α:Type} (E:El α) (T1 T2:TypeId) (w:World) (p:List (List α)) (b:Bool) (e:Ending) (w':World):Prop:=∃ v,e = .returned (.tuple #[v, .bool b])∧Own2 E T1 T2 w' w.heap.size v p∧Below w.heap.size w w'
theorem row_of_valid {p:List (List Ins)} (h:progValid p=true):∀ r∈p,r.length≤1048576:=fun r hr=>by
 have:=((valid_le h).2.2.1 r hr).1;omega
end Go.Proofs.YtlddmagfbcomgaaGreat
namespace Go.Proofs.YtlddmagfbcomgaaGreat
open Go.RowKit
def fenceI:Ins:=⟨4,0,0,0⟩
def putTo (f:Int→Bool) (r:List Ins):Nat→List Ins
 | 0=>[]
 | n+1=>putTo f r n++((if f n=true then [fenceI] else [])++r[n]?.toList)
def putI (f:Int→Bool) (r:List Ins):List Ins:=putTo f r r.length
def putPT (f:Gp→Bool) (p:List (List Ins)):Nat→List (List Ins)
 | 0=>[]
 | j+1=>putPT f p j++(p[j]?.toList.map (putI fun i=>f ⟨j,i⟩))
def putP (f:Gp→Bool) (p:List (List Ins)):List (List Ins):=putPT f p p.length
theorem putTo_succ {f:Int→Bool} {r:List Ins} {n:Nat} {x:Ins} (h:r[n]? = some x):putTo f r (n+1)=putTo f r n++(if f n=true then [fenceI,x] else [x]):=by
 show putTo f r n++((if f n=true then [fenceI] else [])++r[n]?.toList)=_
 rw [h]
 by_cases e:f n=true <;> simp [e]
theorem putTo_le (f:Int→Bool) (r:List Ins):∀ n,n≤r.length→n≤(putTo f r n).length∧(putTo f r n).length≤2 * n:=by
 intro n
 induction n with
 | zero=>intro _;exact ⟨Nat.le_refl _,Nat.le_refl _⟩
 | succ n ih =>
  intro h
  obtain ⟨x,hx⟩:=get_of_lt (xs:=r) (k:=n) h
  have:=ih (by omega)
  rw [putTo_succ hx]
  by_cases e:f n=true <;> simp [e] <;> omega
theorem putTo_none {f:Int→Bool} {r:List Ins}:∀ n,n≤r.length→(∀ i:Nat,i < n→f i=false)→putTo f r n=r.take n:=by
 intro n
 induction n with
 | zero=>intro _ _;simp [putTo]
 | succ n ih =>
  intro h hf
  obtain ⟨x,hx⟩:=get_of_lt (xs:=r) (k:=n) h
  rw [putTo_succ hx,ih (by omega) (fun i hi=>hf i (by omega)),hf n (by omega),List.take_add_one,hx]
  rfl
theorem putTo_congr {f g:Int→Bool} {r:List Ins}:∀ n,(∀ i:Nat,i < n→f i=g i)→putTo f r n=putTo g r n:=by
 intro n
 induction n with
 | zero=>intro _;rfl
 | succ n ih =>
  intro hf
  unfold putTo
  rw [ih (fun i hi=>hf i (by omega)),hf n (by omega)]
theorem putTo_insert {f:Int→Bool} {r:List Ins} {k:Nat} (h0:∀ i:Nat,i≤k→f i=false):∀ n,k < n→n≤r.length→putTo (fun i=>f i||i==(k:Int)) r n=(putTo f r n).take k++fenceI :: (putTo f r n).drop k:=by
 intro n
 induction n with
 | zero=>intro h;omega
 | succ n ih =>
  intro hk hn
  obtain ⟨x,hx⟩:=get_of_lt (xs:=r) (k:=n) hn
  by_cases e:k=n
  ·subst e
   have e1:putTo (fun i=>f i||i==(k:Int)) r k=r.take k:=putTo_none k (by omega) (fun i hi=>by
    have h1:=h0 i (by omega)
    have h2:((i:Int)==(k:Int))=false:=by rw [beq_eq_false_iff_ne];omega
    rw [h1,h2];rfl)
   have e2:putTo f r k=r.take k:=putTo_none k (by omega) (fun i hi=>h0 i (by omega))
   have hl:(r.take k).length=k:=by simp;omega
   rw [putTo_succ hx,putTo_succ hx,e1,e2,h0 k (Nat.le_refl _)]
   simp only [beq_self_eq_true,Bool.or_true,if_true,Bool.false_eq_true,if_false]
   rw [List.take_left' hl,List.drop_left' hl]
  ·have hl:=(putTo_le f r n (by omega)).1
   have hkn:((n:Int)==(k:Int))=false:=by rw [beq_eq_false_iff_ne];omega
   rw [putTo_succ hx,putTo_succ hx,ih (by omega) (by omega),List.take_append_of_le_length (by omega),List.drop_append_of_le_length (by omega),hkn,Bool.or_false]
   simp
theorem putPT_succ {f:Gp→Bool} {p:List (List Ins)} {j:Nat} {r:List Ins} (h:p[j]? = some r):putPT f p (j+1)=putPT f p j++[putI (fun i=>f ⟨j,i⟩) r]:=by
 show putPT f p j++(p[j]?.toList.map (putI fun i=>f ⟨j,i⟩))=_
 rw [h];rfl
theorem putPT_length (f:Gp→Bool) (p:List (List Ins)):∀ j,j≤p.length→(putPT f p j).length=j:=by
 intro j
 induction j with
 | zero=>intro _;rfl
 | succ j ih =>
  intro h
  obtain ⟨r,hr⟩:=get_of_lt (xs:=p) (k:=j) h
  rw [putPT_succ hr,List.length_append,ih (by omega)];rfl
theorem putPT_get (f:Gp→Bool) (p:List (List Ins)):∀ j,j≤p.length→∀ k,k < j→∀ r,p[k]? = some r→(putPT f p j)[k]? = some (putI (fun i=>f ⟨k,i⟩) r):=by
 intro j
 induction j with
 | zero=>intro _ k hk;omega
 | succ j ih =>
  intro h k hk r hr
  obtain ⟨r',hr'⟩:=get_of_lt (xs:=p) (k:=j) h
  have hl:=putPT_length f p j (by omega)
  rw [putPT_succ hr']
  by_cases e:k=j
  ·subst e
   rw [hr] at hr';simp at hr';subst hr'
   rw [List.getElem?_append_right (by omega),hl,Nat.sub_self];rfl
  ·rw [List.getElem?_append_left (by omega)]
   exact ih (by omega) k (by omega) r hr
theorem putP_length (f:Gp→Bool) (p:List (List Ins)):(putP f p).length=p.length:=putPT_length f p _ (Nat.le_refl _)
theorem putP_get {f:Gp→Bool} {p:List (List Ins)} {k:Nat} {r:List Ins} (h:p[k]? = some r):(putP f p)[k]? = some (putI (fun i=>f ⟨k,i⟩) r):=
 putPT_get f p _ (Nat.le_refl _) k (List.getElem?_eq_some_iff.1 h).1 r h
theorem putP_none {f:Gp→Bool} {p:List (List Ins)} (hf:∀ g,f g=false):putP f p=p:=by
 apply List.ext_getElem?
 intro i
 by_cases h:i < p.length
 ·obtain ⟨r,hr⟩:=get_of_lt (xs:=p) (k:=i) h
  rw [putP_get hr,hr]
  unfold putI
  rw [putTo_none _ (Nat.le_refl _) (fun _ _=>hf _),List.take_length]
 ·rw [List.getElem?_eq_none (by rw [putP_length];omega),List.getElem?_eq_none (by omega)]
theorem putP_congr {f g:Gp→Bool} {p:List (List Ins)} (h:∀ x,f x=g x):putP f p=putP g p:=by rw [funext h]
def gpLt (a b:Gp):Prop:=a.t < b.t∨(a.t=b.t∧a.i < b.i)
theorem rowGaps_mem {t:Nat} {r:List Ins}:∀ n,∀ g∈rowGaps t r n,g.t=(t:Int)∧∃ i:Nat,g.i=(i:Int)∧1≤i∧i < n∧gapAt r i=true:=by
 intro n g hg
 unfold rowGaps at hg
 simp only [List.mem_map,List.mem_filter,List.mem_range] at hg
 obtain ⟨i,⟨h1,h2⟩,rfl⟩:=hg
 refine ⟨rfl,i,rfl, ?_,h1,h2⟩
 unfold gapAt at h2
 split at h2
 ·simp at h2;exact h2.1
 ·cases h2
theorem rowGaps_sorted (t:Nat) (r:List Ins):∀ n,(rowGaps t r n).Pairwise gpLt:=by
 intro n
 induction n with
 | zero=>rw [rowGaps_zero];exact List.Pairwise.nil
 | succ n ih =>
  rw [rowGaps_succ,List.pairwise_append]
  refine ⟨ih, ?_, ?_⟩
  ·by_cases e:gapAt r n=true <;> simp [e]
  ·intro a ha b hb
   obtain ⟨h1,i,h2, -,h3, -⟩:=rowGaps_mem n a ha
   by_cases e:gapAt r n=true
   ·rw [if_pos e] at hb
    simp at hb;subst hb
    exact .inr ⟨h1,by rw [h2];show (i:Int) < (n:Int);omega⟩
   ·rw [if_neg e] at hb;simp at hb
theorem gapsTo_mem {p:List (List Ins)}:∀ j,j≤p.length→∀ g∈gapsTo p j,∃ (t i:Nat) (r:List Ins),g=⟨t,i⟩∧t < j∧p[t]? = some r∧1≤i∧i < r.length∧gapAt r i=true:=by
 intro j
 induction j with
 | zero=>intro _ g hg;simp [gapsTo] at hg
 | succ j ih =>
  intro h g hg
  obtain ⟨r,hr⟩:=get_of_lt (xs:=p) (k:=j) h
  rw [gapsTo_succ hr,List.mem_append] at hg
  rcases hg with hg | hg
  ·obtain ⟨t,i,r',h1,h2,h3⟩:=ih (by omega) g hg
   exact ⟨t,i,r',h1,by omega,h3⟩
  ·obtain ⟨h1,i,h2,h3,h4,h5⟩:=rowGaps_mem _ g hg
   obtain ⟨gt,gi⟩:=g
   simp only at h1 h2
   subst h1;subst h2
   exact ⟨j,i,r,rfl,by omega,hr,h3,h4,h5⟩
theorem gapsTo_sorted (p:List (List Ins)):∀ j,j≤p.length→(gapsTo p j).Pairwise gpLt:=by
 intro j
 induction j with
 | zero=>intro _;simp [gapsTo]
 | succ j ih =>
  intro h
  obtain ⟨r,hr⟩:=get_of_lt (xs:=p) (k:=j) h
  rw [gapsTo_succ hr,List.pairwise_append]
  refine ⟨ih (by omega),rowGaps_sorted _ _ _, ?_⟩
  intro a ha b hb
  obtain ⟨t,i,r',rfl,h2, -⟩:=gapsTo_mem j (by omega) a ha
  obtain ⟨h3, -⟩:=rowGaps_mem _ b hb
  refine .inl ?_
  rw [h3];show (t:Int) < (j:Int);omega
theorem gapsP_mem {p:List (List Ins)} {g:Gp} (h:g∈gapsP p):∃ (t i:Nat) (r:List Ins),g=⟨t,i⟩∧p[t]? = some r∧1≤i∧i < r.length∧gapAt r i=true:=by
 obtain ⟨t,i,r,h1, -,h3⟩:=gapsTo_mem _ (Nat.le_refl _) g h
 exact ⟨t,i,r,h1,h3⟩
def putS (L all:List Gp) (j:Nat) (x:Gp):Bool:=decide (x∈L)&&decide (x∈all.drop j)
theorem putS_all {L all:List Gp} (x:Gp):putS L all all.length x=false:=by simp [putS]
theorem putS_zero {L all:List Gp} (h:∀ g∈L,g∈all) (x:Gp):putS L all 0 x=decide (x∈L):=by
 unfold putS
 by_cases e:x∈L
 ·simp [e,h x e]
 ·simp [e]
theorem drop_mem {all:List Gp} {j:Nat} {g:Gp} (hg:all[j]? = some g) (x:Gp):x∈all.drop j↔x=g∨x∈all.drop (j+1):=by
 have hj:=(List.getElem?_eq_some_iff.1 hg)
 obtain ⟨h1,h2⟩:=hj
 rw [List.drop_eq_getElem_cons h1,h2,List.mem_cons]
theorem putS_skip {L all:List Gp} {j:Nat} {g:Gp} (hg:all[j]? = some g) (hL:g∉L) (x:Gp):putS L all j x=putS L all (j+1) x:=by
 unfold putS
 by_cases e:x=g
 ·subst e;simp [hL]
 ·simp [drop_mem hg,e]
theorem putS_put {L all:List Gp} {j:Nat} {g:Gp} (hg:all[j]? = some g) (hL:g∈L) (x:Gp):putS L all j x=(putS L all (j+1) x||decide (x=g)):=by
 unfold putS
 by_cases e:x=g
 ·subst e;simp [hL,drop_mem hg]
 ·simp [drop_mem hg,e]
theorem sorted_drop {all:List Gp} (hs:all.Pairwise gpLt) {j:Nat} {g x:Gp} (hg:all[j]? = some g) (hx:x∈all.drop (j+1)):gpLt g x:=by
 obtain ⟨h1,h2⟩:=List.getElem?_eq_some_iff.1 hg
 have h3:=hs.sublist (List.drop_sublist j all)
 rw [List.drop_eq_getElem_cons h1,h2,List.pairwise_cons] at h3
 exact h3.1 x hx
theorem putP_step {p:List (List Ins)} {L:List Gp} {j t i:Nat} {r:List Ins} (hg:(gapsP p)[j]? = some ⟨t,i⟩) (hL:(⟨t,i⟩:Gp)∈L) (hr:p[t]? = some r) (hi:i < r.length) :
 (putP (putS L (gapsP p) (j+1)) p).set t ((putI (fun k=>putS L (gapsP p) (j+1) ⟨t,k⟩) r).take i++fenceI :: (putI (fun k=>putS L (gapsP p) (j+1) ⟨t,k⟩) r).drop i)=putP (putS L (gapsP p) j) p:=by
 have hsort:=gapsTo_sorted p _ (Nat.le_refl _)
 apply List.ext_getElem?
 intro k
 rw [List.getElem?_set]
 by_cases e:t=k
 ·subst e
  rw [if_pos rfl,if_pos (by rw [putP_length];exact (List.getElem?_eq_some_iff.1 hr).1),putP_get hr]
  congr 1
  unfold putI
  rw [← putTo_insert (k:=i) (fun q hq => ?_) _ hi (Nat.le_refl _)]
  ·refine putTo_congr _ (fun q _ => ?_)
   rw [putS_put hg hL]
   congr 1
   rw [Bool.eq_iff_iff]
   simp
  ·unfold putS
   by_cases hm:(⟨t,q⟩:Gp)∈(gapsP p).drop (j+1)
   ·rcases sorted_drop hsort hg hm with h | ⟨-,h⟩
    ·exact absurd h (by show ¬ (t:Int) < t;omega)
    ·have:(i:Int) < (q:Int):=h
     omega
   ·simp [hm]
 ·rw [if_neg e]
  by_cases hk:k < p.length
  ·obtain ⟨r',hr'⟩:=get_of_lt (xs:=p) (k:=k) hk
   rw [putP_get hr',putP_get hr']
   congr 1
   refine putTo_congr _ (fun q _ => ?_)
   rw [putS_put hg hL]
   have:decide ((⟨(k:Int),(q:Int)⟩:Gp)=⟨t,i⟩)=false:=by simp;omega
   rw [this,Bool.or_false]
  ·rw [List.getElem?_eq_none (by rw [putP_length];omega),List.getElem?_eq_none (by rw [putP_length];omega)]
theorem putP_skip {p:List (List Ins)} {L:List Gp} {j:Nat} {g:Gp} (hg:(gapsP p)[j]? = some g) (hL:g∉L):putP (putS L (gapsP p) (j+1)) p=putP (putS L (gapsP p) j) p:=
 putP_congr fun x=>(putS_skip hg hL x).symm
def inL (L:List Gp) (x:Gp):Bool:=decide (x∈L)
def subG (L all:List Gp):Bool:=L.all fun g=>decide (g∈all)
def putOk (p:List (List Ins)) (L:List Gp):Bool:=progValid p&&subG L (gapsP p)&&progValid (putP (inL L) p)
def putV (p:List (List Ins)) (L:List Gp):List (List Ins):=if putOk p L=true then putP (inL L) p else []
theorem putI_le (f:Int→Bool) (r:List Ins):(putI f r).length≤2 * r.length:=(putTo_le f r _ (Nat.le_refl _)).2
theorem putP_rows {f:Gp→Bool} {p:List (List Ins)} {n:Nat} (h:∀ r∈p,r.length≤n):∀ r∈putP f p,r.length≤2 * n:=by
 intro r hr
 obtain ⟨k,hk⟩:=List.mem_iff_getElem?.1 hr
 have hkl:k < p.length:=by have:=(List.getElem?_eq_some_iff.1 hk).1;rwa [putP_length] at this
 obtain ⟨r',hr'⟩:=get_of_lt (xs:=p) (k:=k) hkl
 rw [putP_get hr'] at hk
 simp at hk;subst hk
 have:=putI_le (fun i=>f ⟨k,i⟩) r'
 have:=h r' (List.mem_of_getElem? hr')
 omega
end Go.Proofs.YtlddmagfbcomgaaGreat
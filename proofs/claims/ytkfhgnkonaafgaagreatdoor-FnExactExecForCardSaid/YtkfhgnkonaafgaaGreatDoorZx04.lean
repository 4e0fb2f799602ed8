/-
  A law that answers true and turns nothing that was there, beside package-level variables. No condition.
-/
import Derived.Test.YtkfhgnkonaafgaaGreatDoorZx00
import Derived.OrdersIn
import Derived.Orders
import Derived.Test.YtkfhgnkonaafgaaGreatDoorRows
import Derived.ProofKit
import Derived.Deep.Slices
import Derived.OpenVars
import Derived.ChangeSame
import Derived.ChangeVars
import Derived.JoinedOf
import Derived.RowKitTokens
import Derived.LaidLaws
import Derived.LaidMore
import Derived.Stop.Joined
set_option maxHeartbeats 6400000
set_option maxRecDepth 100000
namespace Go.Proofs.YtkfhgnkonaafgaaGreatDoor
open Go.RowKit
def fRW (writes:Bool) (loc:Int) (x:Ins):Bool:=x.loc==loc&&(if writes=true then isWop x.op else isRop x.op)
theorem fRW_yes {b:Bool} {loc:Int} {x:Ins} (h:x.loc=loc):fRW b loc x=(if b=true then isWop x.op else isRop x.op):=by simp [fRW,h]
theorem fRW_no {b:Bool} {loc:Int} {x:Ins} (h:x.loc≠loc):fRW b loc x=false:=by simp [fRW,h]
theorem l1Count_any (v:Value) (p:List (List Ins)) (loc:Int) (wr?:Bool) (w:World) (hp:RepP w v p) (hl:p.flatten.length≤1048576) (hpl:p.length≤1048576) :
 Calls Tryz.prog 144 #[v, .int .i64 loc, .bool wr?] w fun e w'=>e = .returned (.int .i64 (cnt (fRW wr? loc) p:Nat))∧Below w.heap.size w w':=by
 obtain ⟨a,c,rfl,hc1,hc2,hc3,hp⟩:=hp.open
 have HP:=hide hp;clear hp
 have HL:=hide hl;clear hl
 generalize hn:p.length=n at *
 have H:=hide hn;clear hn
 generalize hF:fRW wr? loc=F at *
 have HF:=hide hF;clear hF
 go_enter Tryz.func144,Tryz.ntmps144
 go_wp2_with fail
 go_loopw [7,8] (fun r i wr => ∃ j:Nat,j≤n∧i = .int .i64 j∧r = .int .i64 (cnt F (p.take j):Nat)∧Below w.heap.size w wr) (fun _ i _=>n - (intOf i).toNat)
 case atStart=>exact ⟨0,by omega,rfl,by simp [cnt],Below.refl _ _⟩
 case round =>
  obtain ⟨j,hj,rfl,rfl,hb2⟩:=hrel
  by_cases hlt2:j < n
  ·obtain ⟨wm,rfl⟩:∃ wm:World,wm=wr:=⟨_,rfl⟩
   obtain ⟨x,hxk⟩:=get_of_lt (xs:=p) (k:=j) (by rw [H.out];exact hlt2)
   obtain ⟨b,o,ra,rc,rfl,hbl,i0,i1⟩:=(HP.out.below hb2).row hxk
   have hlt2':=nat_of_lt hlt2
   obtain ⟨_,_,_,_,hr2,_,_⟩:=i1.open
   have CR:=hide (cnt_take_succ F hxk)
   have hbR:=Nat.le_trans (cnt_take_le F p j) HL.out
   have hxl:=Nat.le_trans (row_le_flatten hxk) HL.out
   have I1:=hide i1;have X:=hide hxk
   clear i1 hxk
   generalize hR:cnt F (p.take j)=R at *
   clear hR
   go_wp2_with fail
   go_loopw [7,9] (fun r i wr => ∃ t:Nat,t≤x.length∧i = .int .i64 t∧r = .int .i64 (R+(x.take t).countP F:Nat)∧Below wm.heap.size wm wr) (fun _ i _=>x.length - (intOf i).toNat)
   case atStart=>exact ⟨0,by omega,rfl,by simp,Below.refl _ _⟩
   case round =>
    obtain ⟨t,ht,rfl,rfl,hb3⟩:=hrel
    have hbR2:(x.take t).countP F≤1048576:=Nat.le_trans List.countP_le_length (by simp;omega)
    have i0':wr.cell? ⟨b,o+j,none⟩=some (.slice ra x.length rc):=(hb3.cell (p:=⟨b,o+j,none⟩) hbl).trans i0
    by_cases hlt3:t < x.length
    ·obtain ⟨y,hyk⟩:=get_of_lt (xs:=x) (k:=t) hlt3
     obtain ⟨b',o',rfl,hbl',j0,j1,j2,j3⟩:=(I1.out.below hb3).ins hyk
     have hlt3':=nat_of_lt hlt3
     have CR2:=hide (countP_take_succ F hyk)
     have Y:=hide hyk;clear hyk
     generalize hR2:(x.take t).countP F=R2 at *
     clear hR2
     by_cases hloc:y.loc=loc
     ·have CR3:Hid ((x.take (t+1)).countP F=R2+if (if wr? = true then isWop y.op else isRop y.op)=true then 1 else 0):=by have h:=CR2.out;rwa [← HF.out,fRW_yes hloc,HF.out] at h
      clear CR2
      rw [hloc] at j1
      clear hloc HF
      have hkk:(loc==loc)=true:=by simp
      generalize hro:isRop y.op=ro at *
      generalize hwo:isWop y.op=wo at *
      have RO:=hide hro;have WO:=hide hwo;clear hro hwo
      cases wr?
      ·cases ro
       all_goals
        go_wp2_with (go_at_call 115;(with_reducible refine (l1Reads_raw _ _ _ _ _).mono ?_);rw [RO.out];rintro e w3 ⟨rfl,hb4⟩)
        go_roundw
        case rel=>exact ⟨t+1,by omega,by go_num,by rw [CR3.out];simp;try omega,(hb3.alloc hb3.size _).trans (hb4.mono (by have:=hb3.size;simp;omega))⟩
        case measure=>simp [intOf];omega
      ·cases wo
       all_goals
        go_wp2_with (go_at_call 116;(with_reducible refine (l1Writes_raw _ _ _ _ _).mono ?_);rw [WO.out];rintro e w3 ⟨rfl,hb4⟩)
        go_roundw
        case rel=>exact ⟨t+1,by omega,by go_num,by rw [CR3.out];simp;try omega,(hb3.alloc hb3.size _).trans (hb4.mono (by have:=hb3.size;simp;omega))⟩
        case measure=>simp [intOf];omega
     ·have CR3:Hid ((x.take (t+1)).countP F=R2):=hide (by have h:=CR2.out;rw [← HF.out,fRW_no hloc,HF.out] at h;simpa using h)
      clear CR2
      have hkk:(y.loc==loc)=false:=by simpa using hloc
      clear hloc
      go_wp2_with fail
      go_roundw
      case rel=>exact ⟨t+1,by omega,by go_num,by rw [CR3.out],hb3.alloc hb3.size _⟩
      case measure=>simp [intOf];omega
    ·have e:t=x.length:=by omega
     have CR4:Hid (cnt F (p.take (j+1))=R+(x.take t).countP F):=by have h:=CR.out;rwa [e,List.take_length]
     generalize hR2:(x.take t).countP F=R2 at *
     clear hR2 e
     go_wp2_with fail
     go_roundw
     case rel=>exact ⟨j+1,by omega,by go_num,by rw [CR4.out],hb2.trans (hb3.mono hb2.size)⟩
     case measure=>simp [intOf];omega
  ·have e:j=n:=by omega
   have hpt:p.take j=p:=List.take_of_length_le (by rw [H.out];omega)
   rw [hpt]
   clear hpt
   go_wp2_with fail
   go_ret
   exact ⟨rfl,hb2⟩
theorem fRW_true (loc:Int):fRW true loc=fW loc:=by funext x;simp [fRW,fW]
theorem fRW_false (loc:Int):fRW false loc=fR loc:=by funext x;simp [fRW,fR]
theorem l1Execs_any (v:Value) (p:List (List Ins)) (w:World) (hp:RepP w v p) (hl:p.flatten.length≤1048576) (hpl:p.length≤1048576) :
 Calls Tryz.prog 107 #[v, .int .i64 3000] w fun e w'=>e = .returned (.int .i64 (cap (prodP p):Nat))∧Below w.heap.size w w':=by
 have HP:=hide hp;clear hp
 have HL:=hide hl;clear hl
 have hPP:prodTo p 3=prodP p:=rfl
 have PP:=hide hPP;clear hPP
 go_enter Tryz.func107,Tryz.ntmps107
 go_wp2_with fail
 go_loopw [5,6] (fun q i wr => ∃ k N:Nat,k≤3∧i = .int .i64 k∧q = .int .i64 N∧Hid (cap N=cap (prodTo p k))∧N≤3145731000∧Below w.heap.size w wr) (fun _ i _=>3 - (intOf i).toNat)
 case atStart=>exact ⟨0,1,by omega,rfl,rfl,hide rfl,by omega,Below.refl _ _⟩
 case round =>
  obtain ⟨k,N,hk,rfl,rfl,hN,hNb,hb⟩:=hrel
  by_cases hlt:k < 3
  ·have hlt':(k:Int)≤2:=by omega
   have hbR:=Nat.le_trans (cnt_le_flatten (fR k) p) HL.out
   have hbW:=Nat.le_trans (cnt_le_flatten (fW k) p) HL.out
   have PS:Hid (prodTo p (k+1)=prodTo p k * ((cnt (fW k) p+1) ^ cnt (fR k) p * fact (cnt (fW k) p))):=hide rfl
   have C1:∀ w',RepP w' v p→Calls Tryz.prog 144 #[v, .int .i64 (k:Int), .bool true] w' fun e w2=>e = .returned (.int .i64 (cnt (fW k) p:Nat))∧Below w'.heap.size w' w2:=fun w' h=>by
    have:=l1Count_any v p k true w' h HL.out hpl;rwa [fRW_true] at this
   have C2:∀ w',RepP w' v p→Calls Tryz.prog 144 #[v, .int .i64 (k:Int), .bool false] w' fun e w2=>e = .returned (.int .i64 (cnt (fR k) p:Nat))∧Below w'.heap.size w' w2:=fun w' h=>by
    have:=l1Count_any v p k false w' h HL.out hpl;rwa [fRW_false] at this
   generalize hR:cnt (fR k) p=R at *
   generalize hW:cnt (fW k) p=W at *
   generalize hQ:prodTo p k=Q at *
   have D1:=hide C1;have D2:=hide C2
   clear hR hW hQ C1 C2
   go_wp2_with (go_at_call 144;(with_reducible refine (D1.out _ (HP.out.below hb)).mono ?_);rintro e w1 ⟨rfl,hb1⟩)
   have hb:=hb.trans (hb1.mono hb.size)
   clear hb1
   go_loopw [5,8] (fun q i wr => ∃ t M:Nat,t≤R∧i = .int .i64 t∧q = .int .i64 M∧Hid (cap M=cap (Q * (W+1) ^ t))∧M≤3145731000∧Below w.heap.size w wr) (fun _ i _=>R - (intOf i).toNat)
   case atStart=>exact ⟨0,N,by omega,rfl,rfl,hide (by simpa using hN.out),hNb,hb⟩
   case round =>
    clear hb hN hNb
    obtain ⟨t,M,ht,rfl,rfl,hM,hMb,hb⟩:=hrel
    by_cases hgo:t < R∧M≤3000
    ·obtain ⟨hlt3,hM3⟩:=hgo
     have hlt3':=nat_of_lt hlt3
     have hM3':(M:Int)≤3000:=by omega
     have hmul:M * (W+1)≤3000 * 1048577:=Nat.mul_le_mul hM3 (by omega)
     have e1:((M * (W+1):Nat):Int)=(M:Int) * (W+1):=by simp
     have hmul2:(M:Int) * (W+1)≤3145731000:=by omega
     have hmul3:0≤(M:Int) * (W+1):=by omega
     have E:Hid (cap (M * (W+1))=cap (Q * (W+1) ^ (t+1))):=hide (by rw [cap_mul' hM.out _ (by omega),Nat.pow_succ,Nat.mul_assoc])
     have E1:=hide e1;clear e1
     go_wp2_with (go_at_call 144;(with_reducible refine (D2.out _ (HP.out.below hb)).mono ?_);rintro e w1 ⟨rfl,hb1⟩)
     go_roundw
     case rel=>exact ⟨t+1,M * (W+1),by omega,by go_num,by rw [E1.out],E,by omega,hb.trans (hb1.mono hb.size)⟩
     case measure=>simp [intOf];omega
    ·have hM2:Hid (cap M=cap (Q * (W+1) ^ R)):=hide (by
      by_cases h3:3000 < M
      ·obtain ⟨m,h1,h2⟩:=pow_mul_rest (a:=W) ht
       rw [h2,← Nat.mul_assoc]
       exact cap_past hM.out h3 m h1
      ·rw [show R=t by omega];exact hM.out)
     have PS2:Hid (prodTo p (k+1)=(Q * (W+1) ^ R) * fact W):=hide (by rw [PS.out,Nat.mul_assoc])
     by_cases hlt3:t < R
     all_goals
      have hM3:t < R→3000 < (M:Int):=fun h=>by omega
      have HM3:=hide hM3;clear hM3
      try (have hM4:3000 < (M:Int):=HM3.out hlt3)
      go_wp2_with (go_at_call 144;(with_reducible refine (D2.out _ (HP.out.below hb)).mono ?_);rintro e w1 ⟨rfl,hb1⟩)
      have hb:=hb.trans (hb1.mono hb.size)
      clear hb1
      generalize hQ2:Q * (W+1) ^ R=Q2 at *
      clear hQ2
      go_loopw [5,9] (fun q i wr => ∃ s L:Nat,1≤s∧s≤W+1∧i = .int .i64 (s+1)∧q = .int .i64 L∧Hid (cap L=cap (Q2 * fact s))∧L≤3145731000∧Hid (s≤W∨s=1)∧Below w.heap.size w wr) (fun _ i _=>W+1 - (intOf i).toNat)
      case atStart=>exact ⟨1,M,by omega,by omega,rfl,rfl,hide (by simpa [fact] using hM2.out),hMb,hide (.inr rfl),hb⟩
      case round =>
       clear hb
       obtain ⟨s,L,hs1,hs2,rfl,rfl,hL,hLb,hsW,hb⟩:=hrel
       by_cases hgo2:s+1≤W∧L≤3000
       ·obtain ⟨hlt5,hL3⟩:=hgo2
        have hlt5':(s:Int)+1≤W:=by omega
        have hL3':(L:Int)≤3000:=by omega
        have hmul:L * (s+1)≤3000 * 1048577:=Nat.mul_le_mul hL3 (by omega)
        have e1:((L * (s+1):Nat):Int)=(L:Int) * (s+1):=by simp
        have hmul2:(L:Int) * (s+1)≤3145731000:=by omega
        have hmul3:0≤(L:Int) * (s+1):=by omega
        have E:Hid (cap (L * (s+1))=cap (Q2 * fact (s+1))):=hide (by rw [cap_mul' hL.out _ (by omega),fact,Nat.mul_assoc])
        have E1:=hide e1;clear e1
        go_wp2_with fail
        go_roundw
        case rel=>exact ⟨s+1,L * (s+1),by omega,by omega,by go_num,by rw [E1.out],E,by omega,hide (.inl hlt5),hb⟩
        case measure=>simp [intOf];omega
       ·have hL2:Hid (cap L=cap (prodTo p (k+1))):=hide (by
         rw [PS2.out]
         by_cases h3:3000 < L
         ·rcases hsW.out with h | h
          ·obtain ⟨m,h1,h2⟩:=fact_mul h
           rw [h2,← Nat.mul_assoc]
           exact cap_past hL.out h3 m h1
          ·have hl:=hL.out
           rw [h,show fact 1=1 from rfl,Nat.mul_one] at hl
           exact cap_past hl h3 _ (fact_pos W)
         ·by_cases hs:s=W
          ·rw [← hs];exact hL.out
          ·rcases hsW.out with h | h
           ·omega
           ·have h0:W=0:=by omega
            have hl:=hL.out
            rw [h] at hl
            rw [h0];exact hl)
        by_cases hlt5:s+1≤W
        all_goals
         have hlt5':s+1≤W→3000 < (L:Int):=fun h=>by omega
         have HL3:=hide hlt5';clear hlt5'
         try (have hL4:3000 < (L:Int):=HL3.out hlt5)
         go_wp2_with fail
         go_roundw
         case rel=>exact ⟨k+1,L,by omega,by go_num,rfl,hL2,hLb,hb⟩
         case measure=>simp [intOf];omega
  ·have e:k=3:=by omega
   subst e
   have hN2:Hid (cap N=cap (prodP p)):=hide (by rw [hN.out,PP.out])
   by_cases h3:3000 < N
   ·have E:Hid (((cap (prodP p):Nat):Int)=3001):=hide (by rw [← hN2.out];unfold cap;omega)
    have h3':(3000:Int) < N:=by omega
    go_wp2_with fail
    go_ret
    rw [E.out]
    exact ⟨rfl,hb⟩
   ·have E:Hid (((cap (prodP p):Nat):Int)=N):=hide (by rw [← hN2.out];unfold cap;omega)
    have h3':(N:Int)≤3000:=by omega
    go_wp2_with fail
    go_ret
    rw [E.out]
    exact ⟨rfl,hb⟩
end Go.Proofs.YtkfhgnkonaafgaaGreatDoor
namespace Go.Proofs.YtkfhgnkonaafgaaGreatDoor
open Go.RowKit
end Go.Proofs.YtkfhgnkonaafgaaGreatDoor
namespace Go.Proofs.YtkfhgnkonaafgaaGreatDoor
open Go.RowKit
structure MayCome (md:Region.Mode) (ops:Array Oper) (listed:Array Bool) (i:Nat) (o:Oper):Prop where
 op:ops[i]? = some o
 new:listed[i]? = some false
 after:∀ e∈o.after,Region.binds md e=true→listed[e.on]? = some true
theorem ready_spec {md:Region.Mode} {ops:Array Oper} {listed:Array Bool} (hs:listed.size=ops.size) {i:Nat} (h:i∈Region.ready md ops listed):∃ o,MayCome md ops listed i o:=by
 unfold Region.ready at h
 rw [List.mem_filter] at h
 obtain ⟨h1,h2⟩:=h
 rw [List.mem_range] at h1
 rw [Bool.and_eq_true] at h2
 obtain ⟨h2,h3⟩:=h2
 rw [Array.getElem?_eq_getElem h1] at h3
 refine ⟨ops[i],Array.getElem?_eq_getElem h1, ?_,fun e he hb => ?_⟩
 ·rw [Array.getElem?_eq_getElem (by omega)]
  have:listed.getD i true=listed[i]'(by omega):=by simp [Array.getD,show i < listed.size by omega]
  rw [this] at h2
  simpa using h2
 ·simp only [Option.map_some,Option.getD_some,Array.all_eq_true'] at h3
  have h4:=h3 e he
  rw [hb] at h4
  simp only [Bool.not_true,Bool.false_or] at h4
  by_cases hl:e.on < listed.size
  ·rw [Array.getElem?_eq_getElem hl]
   have:listed.getD e.on false=listed[e.on]:=by simp [Array.getD,hl]
   rw [this] at h4;rw [h4]
  ·have:listed.getD e.on false=false:=by simp [Array.getD,hl]
   rw [this] at h4;cases h4
def earlier (ops:Array Oper):Bool:=(List.range ops.size).all fun i=>(ops[i]?.map fun o=>o.after.all fun e=>decide (e.on < i)).getD true
theorem ready_nil {md:Region.Mode} {ops:Array Oper} {listed:Array Bool} (hs:listed.size=ops.size) (he:earlier ops=true) (h:Region.ready md ops listed=[]):∀ i,i < ops.size→listed[i]? = some true:=by
 intro i
 induction i using Nat.strongRecOn with
 | ind i ih =>
  intro hi
  rw [Array.getElem?_eq_getElem (by omega)]
  by_cases e:listed[i]'(by omega)=true
  ·rw [e]
  ·exfalso
   have hm:i∈Region.ready md ops listed:=by
    unfold Region.ready
    rw [List.mem_filter,List.mem_range]
    refine ⟨hi, ?_⟩
    rw [Bool.and_eq_true]
    refine ⟨?_, ?_⟩
    ·have:listed.getD i true=listed[i]'(by omega):=by simp [Array.getD,show i < listed.size by omega]
     rw [this];simpa using e
    ·rw [Array.getElem?_eq_getElem hi]
     simp only [Option.map_some,Option.getD_some,Array.all_eq_true']
     intro x hx
     unfold earlier at he
     rw [List.all_eq_true] at he
     have h1:=he i (by simpa using hi)
     rw [Array.getElem?_eq_getElem hi] at h1
     simp only [Option.map_some,Option.getD_some,Array.all_eq_true'] at h1
     have h2:=h1 x hx
     simp only [decide_eq_true_eq] at h2
     have h3:=ih x.on h2 (by omega)
     have:listed.getD x.on false=true:=by
      have hl:x.on < listed.size:=by omega
      rw [Array.getElem?_eq_getElem hl] at h3
      simp only [Option.some.injEq] at h3
      simp [Array.getD,hl,h3]
     rw [this,Bool.or_true]
   rw [h] at hm;cases hm
def falses (l:Array Bool):Nat:=l.toList.countP fun b => !b
theorem falses_set {l:Array Bool} {i:Nat} (h:l[i]? = some false):falses (l.setIfInBounds i true)+1=falses l:=by
 unfold falses
 rw [Array.toList_setIfInBounds]
 have h':l.toList[i]? = some false:=by rw [Array.getElem?_toList];exact h
 obtain ⟨h1,h2⟩:=List.getElem?_eq_some_iff.1 h'
 generalize l.toList=L at *
 clear h h' l
 induction L generalizing i with
 | nil=>simp at h1
 | cons x L ih =>
  cases i with
  | zero=>simp at h2;subst h2;simp
  | succ i =>
   simp at h1 h2
   have:=ih h1 h2
   simp only [List.set_cons_succ,List.countP_cons]
   omega
theorem falses_zero {l:Array Bool} (h:falses l=0) (i:Nat):l[i]?≠some false:=by
 intro e
 have:=falses_set e
 omega
variable {F : Fence} {n : Nat} {P : Program} {ops : Array Oper} {Q : Exit → Act → World → Prop}
end Go.Proofs.YtkfhgnkonaafgaaGreatDoor
namespace Go.Proofs.YtkfhgnkonaafgaaGreatDoor
open Go.RowKit
section
variable {P : Program} {ops : Array Oper} {Q : Exit → Act → World → Prop}
theorem wpAny_invR {md:Region.Mode} (I:Array Bool→Act→World→Prop) (he:earlier ops=true)
 (hstep:∀ (listed:Array Bool) (a:Act) (w:World),listed.size=ops.size→I listed a w→∀ (i:Nat) (o:Oper),MayCome md ops listed i o→∀ K:Act→World→Prop,(∀ a' w',I (listed.setIfInBounds i true) a' w'→K a' w') →
  if Region.wanted o (yielded ops a.tmps)=true then Oper.wp P o a w K Q else K (a.put o.dst undef) w)
 (hend:∀ (listed:Array Bool) (a:Act) (w:World),(∀ i,i < ops.size→listed[i]? = some true)→I listed a w→Q .normal a w) :
 ∀ (fuel:Nat) (listed:Array Bool) (a:Act) (w:World),listed.size=ops.size→falses listed≤fuel→I listed a w→wpAny P md ops Q fuel listed a w:=by
 intro fuel
 induction fuel with
 | zero =>
  intro listed a w hs hf hi
  have hr:Region.ready md ops listed=[]:=by
   rcases hq:Region.ready md ops listed with _ | ⟨i,rest⟩
   ·rfl
   ·exfalso
    obtain ⟨o,ho⟩:=ready_spec hs (i:=i) (by rw [hq];simp)
    exact falses_zero (by omega) i ho.new
  exact ⟨hr,hend listed a w (ready_nil hs he hr) hi⟩
 | succ fuel ih =>
  intro listed a w hs hf hi
  refine ⟨fun hr=>hend listed a w (ready_nil hs he hr) hi,fun i hm => ?_⟩
  obtain ⟨o,ho⟩:=ready_spec hs hm
  have hK:=hstep listed a w hs hi i o ho (wpAny P md ops Q fuel (listed.setIfInBounds i true)) (fun a' w' h=>ih _ a' w' (by simp [hs]) (by have:=falses_set ho.new;omega) h)
  unfold wpOp
  rw [ho.op]
  simp only
  split
  ·rename_i hw
   rw [if_pos hw] at hK
   exact .inl hK
  ·rename_i hw
   rw [if_neg hw] at hK
   exact hK
def lastWaits (ops:Array Oper) (n:Nat):Bool:=(List.range n).all fun i=>(ops[n]?.map fun o=>o.after.any fun e=>e.on==i&&Region.binds .any e).getD false
theorem wp_region_inv {id n:Nat} {a:Act} {w:World} (hm:P.follows .mixedOrders=true) (hn:ops.size=n+1) (he:earlier ops=true) (hlw:lastWaits ops n=true) (I:Act→Array Bool→Act→World→Prop)
 (h0:I a (Array.replicate (n+1) false) a w.drew)
 (hstep:∀ (ls:Array Bool) (a':Act) (w':World),ls.size=n+1→ls[n]? = some false→I a ls a' w'→∀ (i:Nat) (o:Oper),i < n→MayCome .any ops ls i o→∀ K:Act→World→Prop,(∀ a'' w'',I a (ls.setIfInBounds i true) a'' w''→K a'' w'') →
  if Region.wanted o (yielded ops a'.tmps)=true then Oper.wp P o a' w' K Q else K (a'.put o.dst undef) w')
 (hlast:∀ (ls:Array Bool) (a':Act) (w':World),(∀ i,i < n→ls[i]? = some true)→I a ls a' w'→∀ o,ops[n]? = some o →
  if Region.wanted o (yielded ops a'.tmps)=true then Oper.wp P o a' w' (fun a'' w''=>Q .normal a'' w'') Q else Q .normal (a'.put o.dst undef) w') :
 (Code.region id ops true).wp P Q a w:=by
 refine wp_region_any hm (wpAny_invR (fun ls a' w'=>(ls[n]? = some false∧I a ls a' w')∨(ls[n]? = some true∧(∀ i,i < n→ls[i]? = some true)∧Q .normal a' w')) he ?_ ?_ ops.size _ a _ (by simp) (by unfold falses;refine Nat.le_trans List.countP_le_length ?_;simp) (.inl ⟨by simp [hn],by rw [hn];exact h0⟩))
 ·intro ls a' w' hs hI i o mc K hK
  rcases hI with ⟨hf,hI⟩ | ⟨ht,hal,hQ⟩
  ·by_cases hi:i=n
   ·subst hi
    have hall:∀ j,j < i→ls[j]? = some true:=fun j hj=>by
     unfold lastWaits at hlw
     rw [List.all_eq_true] at hlw
     have h1:=hlw j (List.mem_range.2 hj)
     rw [mc.op] at h1
     simp only [Option.map_some,Option.getD_some,Array.any_eq_true'] at h1
     obtain ⟨e,he1,he2⟩:=h1
     rw [Bool.and_eq_true] at he2
     have h3:=mc.after e he1 he2.2
     have h4:e.on=j:=by simpa using he2.1
     rw [h4] at h3;exact h3
    have h:=hlast ls a' w' hall hI o mc.op
    have hset:(ls.setIfInBounds i true)[i]? = some true:=by
     rw [Array.getElem?_setIfInBounds];simp [hs,hn]
    have hall2:∀ j,j < i→(ls.setIfInBounds i true)[j]? = some true:=fun j hj=>by
     rw [Array.getElem?_setIfInBounds,if_neg (by omega)];exact hall j hj
    split
    ·rename_i hw
     rw [if_pos hw] at h
     exact Oper.wp_mono (fun a2 w2 h2=>hK a2 w2 (.inr ⟨hset,hall2,h2⟩)) h
    ·rename_i hw
     rw [if_neg hw] at h
     exact hK _ _ (.inr ⟨hset,hall2,h⟩)
   ·have hlt:i < n:=by
     have:=(Array.getElem?_eq_some_iff.1 mc.op).1
     omega
    have h:=hstep ls a' w' (by rw [hs,hn]) hf hI i o hlt mc K (fun a2 w2 h2=>hK a2 w2 (.inl ⟨by rw [Array.getElem?_setIfInBounds];simp [hi];exact hf,h2⟩))
    exact h
  ·exfalso
   by_cases hi:i=n
   ·subst hi;rw [mc.new] at ht;cases ht
   ·have hlt:i < n:=by
     have:=(Array.getElem?_eq_some_iff.1 mc.op).1
     omega
    have:=hal i hlt
    rw [mc.new] at this;cases this
 ·intro ls a' w' hall hI
  rcases hI with ⟨hf, -⟩ | ⟨-, -,hQ⟩
  ·have:=hall n (by omega)
   rw [hf] at this;cases this
  ·exact hQ
end
def putAll (a:Act):List (Tmp × Value)→Act
 | []=>a
 | (d,v) :: l=>putAll (a.put (some d) v) l
def Vd (ls:Array Bool) (k:Nat) (D:List Nat) (x v:Value):Prop:=ls[k]? = some true→(∀ d∈D,ls[d]? = some true)∧x=v
theorem ls_set {ls:Array Bool} {i j:Nat} (h:i≠j):(ls.setIfInBounds i true)[j]? = ls[j]?:=by
 rw [Array.getElem?_setIfInBounds,if_neg h]
theorem ls_got {ls:Array Bool} {i:Nat} (h:i < ls.size):(ls.setIfInBounds i true)[i]? = some true:=by
 rw [Array.getElem?_setIfInBounds,if_pos rfl,if_pos h]
theorem ls_keep {ls:Array Bool} {i j:Nat} (h:ls[j]? = some true):(ls.setIfInBounds i true)[j]? = some true:=by
 by_cases e:i=j
 ·subst e;exact ls_got (Array.getElem?_eq_some_iff.1 h).1
 ·rw [ls_set e];exact h
theorem Vd.start {n k:Nat} {D:List Nat} {x v:Value}:Vd (Array.replicate n false) k D x v:=fun h=>by
 rw [Array.getElem?_replicate] at h;split at h <;> simp at h
theorem Vd.set {ls:Array Bool} {i k:Nat} {D:List Nat} {x v:Value} (h:Vd ls k D x v) (hik:i≠k):Vd (ls.setIfInBounds i true) k D x v:=fun e=>by
 rw [ls_set hik] at e
 exact ⟨fun d hd=>ls_keep ((h e).1 d hd),(h e).2⟩
theorem Vd.same {ls:Array Bool} {k:Nat} {D:List Nat} {v:Value} (hD:∀ d∈D,ls[d]? = some true):Vd (ls.setIfInBounds k true) k D v v:=fun _=>⟨fun d hd=>ls_keep (hD d hd),rfl⟩
theorem Vd.void {ls:Array Bool} {i k:Nat} {D:List Nat} {x v v':Value} (h:Vd ls k D x v) (hd:i∈D) (hik:i≠k) (hn:ls[i]? = some false):Vd (ls.setIfInBounds i true) k D x v':=fun e=>by
 rw [ls_set hik] at e
 have:=(h e).1 i hd
 rw [hn] at this;cases this
theorem Vd.get {ls:Array Bool} {k:Nat} {D:List Nat} {x v:Value} (h:Vd ls k D x v) (e:ls[k]? = some true):x=v:=(h e).2
def fl (ls:Array Bool) (k:Nat):Bool:=ls[k]? == some true
theorem fl_start {n k:Nat}:fl (Array.replicate n false) k=false:=by
 unfold fl;rw [Array.getElem?_replicate];split <;> simp
theorem fl_set {ls:Array Bool} {i k:Nat} (h:i≠k):fl (ls.setIfInBounds i true) k=fl ls k:=by unfold fl;rw [ls_set h]
theorem fl_got {ls:Array Bool} {n k:Nat} (hs:ls.size=n+1) (h:k < n):fl (ls.setIfInBounds k true) k=true:=by unfold fl;rw [ls_got (by omega)];rfl
theorem fl_no {ls:Array Bool} {k:Nat} (h:ls[k]? = some false):fl ls k=false:=by unfold fl;rw [h];rfl
theorem fl_yes {ls:Array Bool} {k:Nat} (h:ls[k]? = some true):fl ls k=true:=by unfold fl;rw [h];rfl
end Go.Proofs.YtkfhgnkonaafgaaGreatDoor
namespace Go.Proofs.YtkfhgnkonaafgaaGreatDoor
open Go.RowKit
section
variable {P : Program} {ops : Array Oper} {Q : Exit → Act → World → Prop}
end
end Go.Proofs.YtkfhgnkonaafgaaGreatDoor
namespace Go.Proofs.YtkfhgnkonaafgaaGreatDoor
open Go.RowKit Go.Deep Go.ChangeShapes Go.WideShapes Go.ChangeAt
theorem addr_of_cell {w:World} {a:Addr} {v:Value} (h:w.cell? a=some v):a.spot=none:=by
 unfold World.cell? at h
 split at h
 ·cases hs:a.spot with
  | none=>rfl
  | some x=>simp [hs] at h
 ·cases h
theorem cells_get {w:World} {base:Nat} {a:Addr} {n:Nat} {cs:List Value} (h:w.cells? base a n=some cs) {j:Nat} {u:Value} (hu:cs[j]? = some u):w.cell? (a.add j)=some u:=by
 unfold World.cells? at h
 split at h
 ·have hl:=mapM_some_length h
  have hj:j < n:=by
   have:=(List.getElem?_eq_some_iff.1 hu).1
   rw [hl] at this;simpa using this
  have:=mapM_some_get h j j (by simp [hj])
  rw [this];exact hu
 ·cases h
theorem add_none (b o j:Nat):(⟨b,o,none⟩:Addr).add j=⟨b,o+j,none⟩:=by unfold Addr.add;split <;> simp_all
section
variable {H : Type} {enc : TypeId × Value → H} {P : Program} {w : World} {base : Nat} {spare : Nat → Bool} {held : Bool} {fuel : Nat} {cs : List Value} {x : DataW H × List MemPlace}
theorem rep_of_trod {α:Type} [Inhabited α] (E:El α) {t e:TypeId} (ht:P.underlying t=some (.slice e)) (hc:P.cellsOf e=E.sz) (Q:α→Prop)
 (hel:∀ n cs x,DataW.trod enc P w base spare held n e cs=some x→∃ y,cs=E.c y∧Q y) (h:DataW.trod enc P w base spare held fuel t cs=some x):∃ v xs,cs=[v]∧Rep E w v xs∧∀ y∈xs,Q y:=by
 rcases open_slice ht h with ⟨rfl,_⟩ | ⟨a,len,cap,m,n,D,Pl,rfl,hb,hl,hm,hmm,_,hx⟩
 ·exact ⟨_,[],rfl,Rep.nil w,fun y h=>by simp at h⟩
 ·have hlm:len≤m:=by rw [hmm];split <;> omega
  have each:∀ i,i < len→∃ y,w.cells? base (a.add (i * E.sz)) E.sz=some (E.c y)∧Q y:=fun i hi=>by
   obtain ⟨cs',h1,h2⟩:=hx i (by omega)
   obtain ⟨y,rfl,hq⟩:=hel n cs' _ h2
   rw [hc] at h1
   exact ⟨y,h1,hq⟩
  obtain ⟨f,hf⟩:=choose_lt each
  refine ⟨_,(List.range len).map f,rfl,⟨some a,cap,by simp,by simpa using hl,hm,fun i y hy => ?_⟩, ?_⟩
  ·simp only [List.getElem?_map] at hy
   have hi:i < len:=by
    rcases Nat.lt_or_ge i len with h | h
    ·exact h
    ·rw [List.getElem?_eq_none (by simpa using h)] at hy;simp at hy
   rw [List.getElem?_range hi] at hy
   simp at hy
   subst hy
   have h0:=cells_get (hf 0 (by omega)).1 (El.first (E:=E) (f 0)).choose_spec
   rw [Nat.zero_mul] at h0
   have hsp:a.spot=none:=addr_of_cell (a:=a) (by simpa [Addr.add] using h0)
   obtain ⟨ab,ao,asp⟩:=a
   simp at hsp
   subst hsp
   refine ⟨ab,ao,rfl,fun j u hu => ?_⟩
   have:=cells_get (hf i hi).1 hu
   rwa [add_none,add_none] at this
  ·intro y hy
   simp only [List.mem_map,List.mem_range] at hy
   obtain ⟨i,hi,rfl⟩:=hy
   exact (hf i hi).2
theorem trod_one {t:TypeId} {k:IntKind} (ht:P.underlying t=some (.int k)) {v:Value} {y:Option (DataW H × List MemPlace)} {n:Nat} (h:DataW.trod enc P w base spare held n t [v]=y) (hy:y≠none):∃ i,v = .int k i:=by
 cases y with
 | none=>exact absurd rfl hy
 | some x =>
  obtain ⟨i,h1,_⟩:=DataW.trod_int ht h
  exact ⟨i,by simpa using h1⟩
theorem choose_rows {α β:Type} {Q:α→β→Prop}:∀ (us:List α),(∀ u∈us,∃ r,Q u r)→∃ p:List β,p.length=us.length∧∀ (i:Nat) (u:α) (r:β),us[i]? = some u→p[i]? = some r→Q u r
 | [],_=>⟨[],rfl,fun i u r h=>by simp at h⟩
 | u :: us,h=>by
  obtain ⟨r,hr⟩:=h u (List.mem_cons_self ..)
  obtain ⟨p,h1,h2⟩:=choose_rows us (fun u hu=>h u (List.mem_cons_of_mem _ hu))
  refine ⟨r :: p,by simp [h1],fun i u' r' hu hr' => ?_⟩
  cases i with
  | zero=>simp at hu hr';subst hu;subst hr';exact hr
  | succ i=>exact h2 i u' r' (by simpa using hu) (by simpa using hr')
instance:Inhabited Slc:=⟨⟨none,0,0⟩⟩
instance:Inhabited Ins:=⟨⟨0,0,0,0⟩⟩
theorem rep2_of_trod {α:Type} [Inhabited α] (E:El α) {t e q:TypeId} (ht:P.underlying t=some (.slice e)) (he:P.underlying e=some (.slice q)) (hc:P.cellsOf e=1) (hc2:P.cellsOf q=E.sz)
 (hel:∀ n cs x,DataW.trod enc P w base spare held n q cs=some x→∃ y,cs=E.c y) (h:DataW.trod enc P w base spare held fuel t cs=some x):∃ v p,cs=[v]∧Rep2 E w v p:=by
 obtain ⟨v,us,rfl,h1,h2⟩:=rep_of_trod SlcE ht hc (fun s => ∃ r,Rep E w s.v r) (fun n cs x hx=>by
  obtain ⟨v,r,rfl,hr,_⟩:=rep_of_trod E he hc2 (fun _=>True) (fun n cs x hx=>by obtain ⟨y,hy⟩:=hel n cs x hx;exact ⟨y,hy,trivial⟩) hx
  obtain ⟨a,c,rfl,h1,h2,h3⟩:=hr
  exact ⟨⟨a,r.length,c⟩,rfl,r,a,c,rfl,h1,h2,h3⟩) h
 obtain ⟨p,h3,h4⟩:=choose_rows us h2
 exact ⟨v,p,rfl,us,h3.symm,h1,h4⟩
end
section
variable {H : Type} {enc : TypeId × Value → H} {P : Program}
theorem trodAll_below (hl:laidOutB P=true) {W W':World} (hb:Below W.heap.size W W'):∀ {ts:List TypeId} {vs:List Value} {ds:List (DataW H)} {ps:List MemPlace},(∀ t∈ts,P.readableRec t=true∧t < P.types.size) →
 DataW.TrodAll enc P W 0 (fun _=>true) true ts vs ds ps→DataW.TrodAll enc P W' 0 (fun b=>decide (b < W.heap.size)) true ts vs ds ps
 | [],[],[],ps,_,h=>h
 | t :: ts,v :: vs,d :: ds,ps,ht,h=>by
  have hlt:=DataW.TrodAll.lt h
  obtain ⟨p,q,h1,h2,rfl⟩:=h
  exact ⟨p,q,Below.trod hl (ht t (List.mem_cons_self ..)).1 (ht t (List.mem_cons_self ..)).2 h1 hb (fun x hx=>hlt x (List.mem_append_left _ hx)),trodAll_below hl hb (fun t ht'=>ht t (List.mem_cons_of_mem _ ht')) h2,rfl⟩
 | [],[],_ :: _,_,_,h=>h.elim
 | [],_ :: _,_,_,_,h=>h.elim
 | _ :: _,[],_,_,_,h=>h.elim
 | _ :: _,_ :: _,[],_,_,h=>h.elim
end
end Go.Proofs.YtkfhgnkonaafgaaGreatDoor
namespace Go.Proofs.YtkfhgnkonaafgaaGreatDoor
open Go.RowKit
def l3L:List Int→List Int→Int
 | x :: xs,y :: ys=>if x < y then -1 else if y < x then 1 else l3L xs ys
 | _,_=>0
theorem l3L_drop {a b:List Int} {k:Nat} {x y:Int} (hx:a[k]? = some x) (hy:b[k]? = some y):l3L (a.drop k) (b.drop k)=if x < y then -1 else if y < x then 1 else l3L (a.drop (k+1)) (b.drop (k+1)):=by
 obtain ⟨hk,rfl⟩:=List.getElem?_eq_some_iff.1 hx
 obtain ⟨hk',rfl⟩:=List.getElem?_eq_some_iff.1 hy
 rw [List.drop_eq_getElem_cons hk,List.drop_eq_getElem_cons hk',l3L]
theorem l3L_end {a b:List Int} {k:Nat} (h:a.length≤k∨b.length≤k):l3L (a.drop k) (b.drop k)=0:=by
 rcases h with h | h
 ·rw [List.drop_of_length_le h];simp [l3L]
 ·rw [List.drop_of_length_le h];cases a.drop k <;> simp [l3L]
theorem l3Less_any (v v':Value) (xs ys:List Int) (w:World) (hx:Rep IntE w v xs) (hy:Rep IntE w v' ys) :
 Calls Tryz.prog 37 #[v,v'] w fun e w'=>e = .returned (.int .i64 (l3L xs ys))∧Below w.heap.size w w':=by
 obtain ⟨a,c,rfl,hc1,hc2,hc3,hx⟩:=hx.open
 obtain ⟨a',c',rfl,hc1',hc2',hc3',hy⟩:=hy.open
 have HX:=hide hx;clear hx
 have HY:=hide hy;clear hy
 have HS:Hid (l3L (xs.drop 0) (ys.drop 0)=l3L xs ys):=hide (by simp)
 generalize hR:l3L xs ys=R at *
 clear hR
 generalize hn:xs.length=n at *
 generalize hn':ys.length=n' at *
 have H:=hide hn;clear hn
 have H':=hide hn';clear hn'
 go_enter Tryz.func37,Tryz.ntmps37
 go_wp2_with fail
 go_loopw [5] (fun v wr => ∃ k:Nat,k≤n∧k≤n'∧v = .int .i64 k∧Hid (l3L (xs.drop k) (ys.drop k)=R)∧Below w.heap.size w wr) (fun v _=>n - (intOf v).toNat)
 case atStart=>exact ⟨0,Nat.zero_le _,Nat.zero_le _,rfl,HS,Below.refl _ _⟩
 case round =>
  obtain ⟨k,hk,hk',rfl,T,hb⟩:=hrel
  by_cases hlt:k < n
  ·have hlt1:=nat_of_lt hlt
   by_cases hlt2:k < n'
   ·have hlt3:=nat_of_lt hlt2
    obtain ⟨x,hxk⟩:=get_of_lt (xs:=xs) (k:=k) (by rw [H.out];exact hlt)
    obtain ⟨y,hyk⟩:=get_of_lt (xs:=ys) (k:=k) (by rw [H'.out];exact hlt2)
    obtain ⟨b,o,rfl,hbl,i0⟩:=(HX.out.below hb).int hxk
    obtain ⟨b',o',rfl,hbl',j0⟩:=(HY.out.below hb).int hyk
    have ST:=hide (l3L_drop hxk hyk)
    clear hxk hyk
    by_cases hxy:x < y
    ·have E:Hid (R = -1):=hide (by rw [← T.out,ST.out,if_pos hxy])
     go_wp2_with fail
     refine wp_region_bw (by kernel_rfl) (by kernel_rfl) ?_
     repeat (go_big_quiet_step (fail))
     refine wpQuiet_nil ?_
     intro w1 hw1
     obtain ⟨c1, -⟩:=bcell hw1
     go_wp2_with fail
     go_ret
     rw [E.out]
     exact ⟨rfl,hb.trans (hw1.mono hb.size)⟩
    ·have E0:Hid ((if y < x then 1 else l3L (xs.drop (k+1)) (ys.drop (k+1)))=R):=hide (by rw [← T.out,ST.out,if_neg hxy])
     have hxy':y≤x:=Int.not_lt.1 hxy
     clear hxy
     go_wp2_with fail
     refine wp_region_bw (by kernel_rfl) (by kernel_rfl) ?_
     repeat (go_big_quiet_step (fail))
     refine wpQuiet_nil ?_
     intro w1 hw1
     obtain ⟨c1, -⟩:=bcell hw1
     have hbl1:b < w1.heap.size:=by have:=hw1.size;omega
     have hbl1':b' < w1.heap.size:=by have:=hw1.size;omega
     have i1:=(c1 b (o+k) hbl).trans i0
     have j1:=(c1 b' (o'+k) hbl').trans j0
     by_cases hyx:y < x
     ·have E:Hid (R=1):=hide (by rw [← E0.out,if_pos hyx])
      go_wp2_with fail
      refine wp_region_bw (by kernel_rfl) (by kernel_rfl) ?_
      repeat (go_big_quiet_step (fail))
      refine wpQuiet_nil ?_
      intro w2 hw2
      go_wp2_with fail
      go_ret
      rw [E.out]
      exact ⟨rfl,(hb.trans (hw1.mono hb.size)).trans (hw2.mono (by have:=hb.size;have:=hw1.size;omega))⟩
     ·have E:Hid (l3L (xs.drop (k+1)) (ys.drop (k+1))=R):=hide (by rw [← E0.out,if_neg hyx])
      have hyx':x≤y:=Int.not_lt.1 hyx
      clear hyx
      go_wp2_with fail
      refine wp_region_bw (by kernel_rfl) (by kernel_rfl) ?_
      repeat (go_big_quiet_step (fail))
      refine wpQuiet_nil ?_
      intro w2 hw2
      go_wp2_with fail
      go_roundw
      case rel=>exact ⟨k+1,by omega,by omega,by go_num,E,(hb.trans (hw1.mono hb.size)).trans (hw2.mono (by have:=hb.size;have:=hw1.size;omega))⟩
      case measure=>simp [intOf];omega
   ·have hlt3:decide ((k:Int) < n')=false:=by simp;omega
    have E:Hid (R=0):=hide (by rw [← T.out];exact l3L_end (.inr (by rw [H'.out];omega)))
    go_wp2_with fail
    go_ret
    rw [E.out]
    exact ⟨rfl,hb⟩
  ·have hlt3:decide ((k:Int) < n)=false:=by simp;omega
   have E:Hid (R=0):=hide (by rw [← T.out];exact l3L_end (.inl (by rw [H.out];omega)))
   go_wp2_with fail
   go_ret
   rw [E.out]
   exact ⟨rfl,hb⟩
end Go.Proofs.YtkfhgnkonaafgaaGreatDoor
namespace Go.Proofs.YtkfhgnkonaafgaaGreatDoor
open Go.RowKit Go.Deep Go.ChangeShapes Go.WideShapes Go.ChangeAt
theorem Tryz.own:ownKnob Tryz.prog.godebug=none:=by kernel_rfl
theorem Tryz.laidOut:laidOutB Tryz.prog=true:=by kernel_rfl
section
variable {H : Type} {enc : TypeId × Value → H} {w : World} {base : Nat} {spare : Nat → Bool} {held : Bool}
end
end Go.Proofs.YtkfhgnkonaafgaaGreatDoor
namespace Go.Proofs.YtkfhgnkonaafgaaGreatDoor
open Go.RowKit Go.ChangeShapes Go.WideShapes Go.ChangeAt
section
variable {H : Type} {enc : TypeId × Value → H} {P : Program}
theorem post_lawV {f:Func} {s:ChangeSpec} {apart:Bool} {W W':World} {args:Array Value} {ds gs:List (DataW H)} {before:List MemPlace} {tb:TypeId} (hl:laidOutB P=true) (hts:∀ t∈f.params.toList,P.readableRec t=true∧t < P.types.size)
 (hv:varsRowed P s.vars=true) (hs:s.fn H (ds++gs) = { results:=[.lit (.bool true)],args:=ds,vars:=gs }) (hr:f.resultTypes = #[tb]) (htb:P.underlying tb=some .bool)
 (hW:DataW.Whole enc P f.params.toList s.vars apart W args.toList ds gs before) (hb:Below W.heap.size W W'):s.post enc P f apart true false false W args (.bool true) W':=by
 have hW2:=hW
 obtain ⟨p,q,hA,hV,rfl,hfz,hnd⟩:=hW2
 refine ⟨ds,gs,_,[],p,q,hW, ?_, ?_, ?_,hb.frame _,fun h=>by cases h⟩
 ·rw [hs,hr]
  exact trodAll_mk1 (shut_bool htb _)
 ·rw [hs]
  exact trodAll_below hl hb hts hA
 ·rw [hs]
  exact hb.trodVars hl hv hV
end
end Go.Proofs.YtkfhgnkonaafgaaGreatDoor
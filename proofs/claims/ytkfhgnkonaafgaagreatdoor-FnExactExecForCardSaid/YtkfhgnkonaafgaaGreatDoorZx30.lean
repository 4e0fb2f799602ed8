/-
  The reference's l6All. Condition: bounds on lengths.
-/
import Derived.Test.YtkfhgnkonaafgaaGreatDoorZx24
import Derived.Test.YtkfhgnkonaafgaaGreatDoorZx17
import Derived.Test.YtkfhgnkonaafgaaGreatDoorZx25
import Derived.Deep.AppendLies
import Derived.Deep.RegionLaw
import Derived.Test.YtkfhgnkonaafgaaGreatDoorZx22
import Derived.Test.YtkfhgnkonaafgaaGreatDoorZx26
set_option maxHeartbeats 6400000
set_option maxRecDepth 100000
namespace Go.Proofs.YtkfhgnkonaafgaaGreatDoor
open Go.RowKit
theorem CountRel_any (v:Value) (n:Nat) (f:Nat→Nat→Bool) (w:World) (hx:Rep IntE w v (relOf n f)) (hn:n≤15) :
 Calls Tryz.prog 192 #[v] w fun e w'=>e = .returned (.int .i64 (pairsTo n f n:Nat))∧Below w.heap.size w w':=by
 have HA:=hide (RelValid_any v n f w hx (by omega))
 obtain ⟨a,c,rfl, -, -, -,hx⟩:=hx.open
 simp only [relOf_length] at *
 have HX:=hide hx
 have HS:Hid (∀ k,pairsTo n f (k+1)=pairsTo n f k+cntB (f k) n):=hide (fun k=>rfl)
 have hq0:Hid (pairsTo n f 0=0):=hide rfl
 have HL:=hide (fun k=>pairsTo_le n f k)
 have HC:=hide (fun k=>cntB_le (f k) n)
 have HO:=hide (fun k w'=>OnesCount_any (maskTo (f k) n) w' (Nat.lt_of_lt_of_le (maskTo_lt (f k) n) (Nat.pow_le_pow_right (by decide:0 < 2) hn)))
 have HM:=hide (fun k=>ones_mask (f k) hn)
 have HB:=hide (fun k=>bitsTo_mask (f k) n (by omega))
 have HT:=hide (fun k=>Nat.lt_of_lt_of_le (maskTo_lt (f k) n) (Nat.pow_le_pow_right (by decide:0 < 2) hn))
 clear hx
 generalize hG:relOf n f=G at *
 have HG:=hide hG;clear hG
 generalize hq:pairsTo n f=Q at *
 clear hq
 go_enter Tryz.func192,Tryz.ntmps192
 go_wp2_with fail
 (with_reducible refine HA.out.mono ?_);rintro e w0 ⟨rfl,hb0⟩
 have HB0:=hide hb0;clear hb0 HA
 go_wp2_with fail
 go_loopw [3,11] (fun s i wr => ∃ k:Nat,k≤n∧i = .int .i64 k∧s = .int .i64 (Q k:Nat)∧wr=w0) (fun _ i _=>n - (intOf i).toNat)
 case atStart=>exact ⟨0,Nat.zero_le _,rfl,by rw [hq0.out];rfl,rfl⟩
 case round =>
  obtain ⟨k,hk,rfl,rfl,rfl⟩:=hrel
  by_cases hlt:k < n
  ·have hlt':=nat_of_lt hlt
   obtain ⟨b,o,rfl,hbl,i0⟩:=(HX.out.below HB0.out).int (by rw [← HG.out];exact relOf_get hlt)
   rw [HB.out] at i0
   have ho:=HO.out k
   rw [HM.out] at ho
   have HO1:=hide ho
   have hm:=HT.out k
   have hs:=HS.out k
   have hl:=HL.out (k+1)
   have hc:=HC.out k
   have hm2:IntKind.u64.wrap (maskTo (f k) n:Int)=(maskTo (f k) n:Int):=by rw [IntKind.wrap_u64];omega
   have hkn:(k+1) * n≤225:=by
    have h1:(k+1) * n≤15 * 15:=Nat.mul_le_mul (by omega) hn
    omega
   have hq1:wrap64 ((Q k:Int)+(cntB (f k) n:Int))=(Q (k+1):Int):=by unfold wrap64;omega
   clear hs hl
   generalize maskTo (f k) n=m at *
   generalize cntB (f k) n=z at *
   go_wp2_with fail
   (with_reducible refine (HO1.out _).mono ?_);rintro e w2 ⟨rfl,rfl⟩
   go_wp2_with fail
   go_roundw
   case rel=>exact ⟨k+1,by omega,by go_num,by first | rw [← hq1] | simp [hq1],by first | exact rfl | trivial⟩
   case measure=>simp [intOf];omega
  ·go_wp2_with fail
   go_ret
   obtain rfl:k=n:=by omega
   exact ⟨rfl,HB0.out⟩
end Go.Proofs.YtkfhgnkonaafgaaGreatDoor
namespace Go.Proofs.YtkfhgnkonaafgaaGreatDoor
open Go.RowKit
theorem irrB_all {n:Nat} {f:Nat→Nat→Bool} (h:∀ j,j < n→f j j=false):irrB n f=true:=by
 simp only [irrB,List.all_eq_true,List.mem_range,Bool.not_eq_true']
 exact h
theorem irrB_not {n j:Nat} {f:Nat→Nat→Bool} (hj:j < n) (h:f j j=true):irrB n f=false:=by
 cases hh:irrB n f with
 | false=>rfl
 | true =>
  simp only [irrB,List.all_eq_true,List.mem_range,Bool.not_eq_true'] at hh
  have:=hh j hj
  rw [h] at this;cases this
theorem isIrreflexive_any (v:Value) (n:Nat) (f:Nat→Nat→Bool) (w:World) (hx:Rep IntE w v (relOf n f)) (hn:n≤60) :
 Calls Tryz.prog 191 #[v] w fun e w'=>e = .returned (.bool (irrB n f))∧w=w':=by
 have HRX:=hide hx
 obtain ⟨a,c,rfl,hc1,hc2,hc3,hx⟩:=hx.open
 simp only [relOf_length] at *
 have HC:=hide (fun k (hk:k < n)=>related_any (.slice a n c) n k k f w HRX.out hn hk hk)
 have HT:=hide (@irrB_all n f)
 have HN:=hide (fun (j:Nat) (hj:j < n) (h:f j j=true)=>irrB_not hj h)
 clear hx HRX
 generalize hR:irrB n f=R at *
 clear hR
 go_enter Tryz.func191,Tryz.ntmps191
 go_wp2_with fail
 go_loop [6] (fun i => ∃ k:Nat,k≤n∧i = .int .i64 k∧Hid (∀ j,j < k→f j j=false)) (fun i=>n - (intOf i).toNat)
 case atStart=>exact ⟨0,Nat.zero_le _,rfl,hide (fun j h=>by omega)⟩
 case round =>
  obtain ⟨k,hk,rfl,T⟩:=hrel
  by_cases hlt:k < n
  ·have hlt':=nat_of_lt hlt
   have HC1:=hide (HC.out k hlt)
   have HN1:=hide (HN.out k hlt)
   generalize hfk:f k k=fk at *
   have FK:=hide hfk;clear hfk
   cases fk
   ·have T2:Hid (∀ j,j < k+1→f j j=false):=hide (fun j hj=>by
     by_cases e:j=k
     ·rw [e];exact FK.out
     ·exact T.out j (by omega))
    go_wp2_with fail
    (with_reducible refine HC1.out.mono ?_);rintro e w2 ⟨rfl,rfl⟩
    go_wp2_with fail
    go_round
    case rel=>exact ⟨k+1,by omega,by go_num,T2⟩
    case measure=>simp [intOf];omega
   ·have RF:Hid (R=false):=hide (by have:=HN1.out rfl;exact this)
    go_wp2_with fail
    (with_reducible refine HC1.out.mono ?_);rintro e w2 ⟨rfl,rfl⟩
    go_wp2_with fail
    go_ret
    exact ⟨by rw [RF.out];rfl,rfl⟩
  ·obtain rfl:k=n:=by omega
   have RT:Hid (R=true):=hide (HT.out T.out)
   go_wp2_with fail
   go_ret
   exact ⟨by rw [RT.out];rfl,rfl⟩
theorem acyB_irr (n:Nat) (f:Nat→Nat→Bool):acyB n f=irrB n (fClo n f):=rfl
theorem AcyclicRel_any (v:Value) (n:Nat) (f:Nat→Nat→Bool) (w:World) (hx:Rep IntE w v (relOf n f)) (hn:n≤16) :
 Calls Tryz.prog 190 #[v] w fun e w'=>e = .returned (.bool (acyB n f))∧Below w.heap.size w w':=by
 have HV:=hide (RelValid_any v n f w hx hn)
 have HC:=hide (fun w' (hb:Below w.heap.size w w')=>ClosureRel_any v n f w' (hx.below hb) hn)
 have HI:=hide (fun u w' h=>isIrreflexive_any u n (fClo n f) w' h (by omega))
 obtain ⟨a,c,rfl, -, -, -, -⟩:=hx.open
 simp only [relOf_length] at *
 rw [acyB_irr]
 clear hx
 generalize irrB n (fClo n f)=R at *
 go_enter Tryz.func190,Tryz.ntmps190
 go_wp2_with fail
 (with_reducible refine HV.out.mono ?_);rintro e w1 ⟨rfl,hb1⟩
 have HC1:=hide (HC.out _ hb1)
 have HB1:=hide hb1;clear hb1
 go_wp2_with fail
 (with_reducible refine HC1.out.mono ?_);rintro e w2 ⟨u,rfl,ou,hb2⟩
 have HI2:=hide (HI.out u w2 ou.rep)
 have HB2:=hide (HB1.out.trans (hb2.mono HB1.out.size));clear hb2 ou
 go_wp2_with fail
 (with_reducible refine HI2.out.mono ?_);rintro e w3 ⟨rfl,rfl⟩
 go_wp2_with fail
 go_ret
 exact ⟨rfl,HB2.out⟩
theorem empB_pairs (n:Nat) (f:Nat→Nat→Bool):(((pairsTo n f n:Nat):Int)==0)=empB n f:=by
 rw [Bool.eq_iff_iff,beq_iff_eq]
 simp only [empB,List.all_eq_true,List.mem_range,Bool.not_eq_true']
 constructor
 ·intro h i hi k hk
  exact pairsTo_zero' n (by omega) i k hi hk
 ·intro h
  rw [pairsTo_zero n fun i k hi hk=>h i hi k hk];rfl
theorem fulfilled_any (k:Int) (v:Value) (n:Nat) (f:Nat→Nat→Bool) (w:World) (hx:Rep IntE w v (relOf n f)) (hn:n≤15) :
 Calls Tryz.prog 142 #[.int .i64 k,v] w fun e w'=>e = .returned (.bool (holdsB n k f))∧Below w.heap.size w w':=by
 have HA:=hide (AcyclicRel_any v n f w hx (by omega))
 have HI:=hide (isIrreflexive_any v n f w hx (by omega))
 have HN:=hide (CountRel_any v n f w hx hn)
 have HE:=hide (empB_pairs n f)
 have HH:Hid (holdsB n k f=if k=1 then acyB n f else if k=2 then irrB n f else empB n f):=hide rfl
 obtain ⟨a,c,rfl, -, -, -, -⟩:=hx.open
 simp only [relOf_length] at *
 clear hx
 generalize holdsB n k f=R at *
 generalize acyB n f=RA at *
 generalize irrB n f=RI at *
 generalize empB n f=RE at *
 generalize ((pairsTo n f n:Nat):Int)=PZ at *
 by_cases h1:k=1
 ·subst h1
  have E:Hid (R=RA):=hide (by rw [HH.out];rfl)
  go_enter Tryz.func142,Tryz.ntmps142
  go_wp2_with fail
  (with_reducible refine HA.out.mono ?_);rintro e w1 ⟨rfl,hb1⟩
  go_wp2_with fail
  go_ret
  exact ⟨by rw [E.out];rfl,hb1⟩
 ·by_cases h2:k=2
  ·subst h2
   have E:Hid (R=RI):=hide (by rw [HH.out];rfl)
   go_enter Tryz.func142,Tryz.ntmps142
   go_wp2_with fail
   (with_reducible refine HI.out.mono ?_);rintro e w1 ⟨rfl,rfl⟩
   go_wp2_with fail
   go_ret
   exact ⟨by rw [E.out];rfl,Below.refl _ _⟩
  ·have E:Hid (R=RE):=hide (by rw [HH.out,if_neg h1,if_neg h2])
   have g1:(k==1)=false:=by simp [h1]
   have g2:(k==2)=false:=by simp [h2]
   clear h1 h2
   go_enter Tryz.func142,Tryz.ntmps142
   go_wp2_with fail
   (with_reducible refine HN.out.mono ?_);rintro e w1 ⟨rfl,hb1⟩
   go_wp2_with fail
   go_ret
   exact ⟨by rw [E.out,← HE.out];rfl,hb1⟩
theorem l2Loose_any (v:Value) (n:Nat) (f:Nat→Nat→Bool) (w:World) (hx:Rep IntE w v (relOf n f)) (hn:n≤60) :
 Calls Tryz.prog 150 #[v] w fun e w'=>e = .returned (.bool (irrB n f))∧w=w':=by
 have HRX:=hide hx
 obtain ⟨a,c,rfl,hc1,hc2,hc3,hx⟩:=hx.open
 simp only [relOf_length] at *
 have HC:=hide (fun k (hk:k < n)=>l2Has_any (.slice a n c) n k k f w HRX.out hn hk hk)
 have HT:=hide (@irrB_all n f)
 have HN:=hide (fun (j:Nat) (hj:j < n) (h:f j j=true)=>irrB_not hj h)
 clear hx HRX
 generalize hR:irrB n f=R at *
 clear hR
 go_enter Tryz.func150,Tryz.ntmps150
 go_wp2_with fail
 go_loop [3] (fun i => ∃ k:Nat,k≤n∧i = .int .i64 k∧Hid (∀ j,j < k→f j j=false)) (fun i=>n - (intOf i).toNat)
 case atStart=>exact ⟨0,Nat.zero_le _,rfl,hide (fun j h=>by omega)⟩
 case round =>
  obtain ⟨k,hk,rfl,T⟩:=hrel
  by_cases hlt:k < n
  ·have hlt':=nat_of_lt hlt
   have HC1:=hide (HC.out k hlt)
   have HN1:=hide (HN.out k hlt)
   generalize hfk:f k k=fk at *
   have FK:=hide hfk;clear hfk
   cases fk
   ·have T2:Hid (∀ j,j < k+1→f j j=false):=hide (fun j hj=>by
     by_cases e:j=k
     ·rw [e];exact FK.out
     ·exact T.out j (by omega))
    go_wp2_with fail
    (with_reducible refine HC1.out.mono ?_);rintro e w2 ⟨rfl,rfl⟩
    go_wp2_with fail
    go_round
    case rel=>exact ⟨k+1,by omega,by go_num,T2⟩
    case measure=>simp [intOf];omega
   ·have RF:Hid (R=false):=hide (by have:=HN1.out rfl;exact this)
    go_wp2_with fail
    (with_reducible refine HC1.out.mono ?_);rintro e w2 ⟨rfl,rfl⟩
    go_wp2_with fail
    go_ret
    exact ⟨by rw [RF.out];rfl,rfl⟩
  ·obtain rfl:k=n:=by omega
   have RT:Hid (R=true):=hide (HT.out T.out)
   go_wp2_with fail
   go_ret
   exact ⟨by rw [RT.out];rfl,rfl⟩
theorem l2Acyclic_any (v:Value) (n:Nat) (f:Nat→Nat→Bool) (w:World) (hx:Rep IntE w v (relOf n f)) (hn:n≤60) :
 Calls Tryz.prog 149 #[v] w fun e w'=>e = .returned (.bool (acyB n f))∧Below w.heap.size w w':=by
 have HC:=hide (l2Closure_any v n f w hx hn)
 have HI:=hide (fun u w' h=>l2Loose_any u n (fClo n f) w' h hn)
 obtain ⟨a,c,rfl, -, -, -, -⟩:=hx.open
 rw [acyB_irr]
 clear hx
 generalize irrB n (fClo n f)=R at *
 go_enter Tryz.func149,Tryz.ntmps149
 go_wp2_with fail
 (with_reducible refine HC.out.mono ?_);rintro e w2 ⟨u,rfl,ou,hb2⟩
 have HI2:=hide (HI.out u w2 ou.rep)
 have HB2:=hide hb2;clear hb2 ou
 go_wp2_with fail
 (with_reducible refine HI2.out.mono ?_);rintro e w3 ⟨rfl,rfl⟩
 go_wp2_with fail
 go_ret
 exact ⟨rfl,HB2.out⟩
theorem pairsTo_succ (n:Nat) (f:Nat→Nat→Bool) (k:Nat):pairsTo n f (k+1)=pairsTo n f k+cntB (f k) n:=rfl
theorem cntB_succ (f:Nat→Bool) (k:Nat):cntB f (k+1)=cntB f k+if f k=true then 1 else 0:=rfl
theorem l2Count_any (v:Value) (n:Nat) (f:Nat→Nat→Bool) (w:World) (hx:Rep IntE w v (relOf n f)) (hn:n≤60) :
 Calls Tryz.prog 151 #[v] w fun e w'=>e = .returned (.int .i64 ((pairsTo n f n:Nat):Int))∧w=w':=by
 have HRX:=hide hx
 obtain ⟨a,c,rfl,hc1,hc2,hc3,hx⟩:=hx.open
 simp only [relOf_length] at *
 have HC:=hide (fun i k (hi:i < n) (hk:k < n)=>l2Has_any (.slice a n c) n i k f w HRX.out hn hi hk)
 have HS:=hide (pairsTo_succ n f)
 have HL:=hide (fun k=>pairsTo_le n f k)
 have hq0:Hid (pairsTo n f 0=0):=hide rfl
 clear hx HRX
 generalize hQ:pairsTo n f=Q at *
 clear hQ
 go_enter Tryz.func151,Tryz.ntmps151
 go_wp2_with fail
 go_loop [3,4,5] (fun s i q => ∃ k:Nat,k≤n∧i = .int .i64 k∧s = .int .i64 (Q k:Nat)) (fun _ i _=>n - (intOf i).toNat)
 case atStart=>exact ⟨0,Nat.zero_le _,rfl,by rw [hq0.out];rfl⟩
 case round =>
  obtain ⟨k,hk,rfl,rfl⟩:=hrel
  by_cases hlt:k < n
  ·have hlt':=nat_of_lt hlt
   have hQl:=HL.out k
   have hQk:Q k≤3600:=by
    have h1:k * n≤60 * 60:=Nat.mul_le_mul (by omega) hn
    omega
   have HK:=hide (HS.out k)
   generalize hq:Q k=qk at *
   clear hQl hq
   go_wp2_with fail
   go_loop [3,5] (fun s i => ∃ j:Nat,j≤n∧i = .int .i64 j∧s = .int .i64 ((qk+cntB (f k) j:Nat):Int)) (fun _ i=>n - (intOf i).toNat)
   case atStart=>exact ⟨0,Nat.zero_le _,rfl,rfl⟩
   case round =>
    obtain ⟨j,hj,rfl,rfl⟩:=hrel
    by_cases hltj:j < n
    ·have hltj':=nat_of_lt hltj
     have hcl:=cntB_le (f k) j
     have HC1:=hide (HC.out k j hlt hltj)
     have HS1:=hide (cntB_succ (f k) j)
     generalize f k j=fk at *
     generalize cntB (f k) j=c1 at *
     cases fk
     ·have E:Hid (cntB (f k) (j+1)=c1):=hide (by rw [HS1.out];rfl)
      go_wp2_with fail
      (with_reducible refine HC1.out.mono ?_);rintro e w2 ⟨rfl,rfl⟩
      go_wp2_with fail
      go_round
      case rel=>exact ⟨j+1,by omega,by go_num,by rw [E.out];exact congrArg _ (by omega)⟩
      case measure=>simp [intOf];omega
     ·have E:Hid (cntB (f k) (j+1)=c1+1):=hide (by rw [HS1.out];rfl)
      have hw1:IntKind.i64.wrap (((qk+c1:Nat):Int)+1)=((qk+(c1+1):Nat):Int):=by rw [IntKind.wrap_i64];omega
      go_wp2_with fail
      (with_reducible refine HC1.out.mono ?_);rintro e w2 ⟨rfl,rfl⟩
      go_wp2_with fail
      go_round
      case rel=>exact ⟨j+1,by omega,by go_num,by rw [E.out];exact congrArg _ (by omega)⟩
      case measure=>simp [intOf];omega
    ·obtain rfl:j=n:=by omega
     go_wp2_with fail
     go_round
     case rel=>exact ⟨k+1,by omega,by go_num,by rw [HK.out]⟩
     case measure=>simp [intOf];omega
  ·obtain rfl:k=n:=by omega
   go_wp2_with fail
   go_ret
   exact ⟨rfl,rfl⟩
theorem l7Holds_any (k:Int) (v:Value) (n:Nat) (f:Nat→Nat→Bool) (w:World) (hx:Rep IntE w v (relOf n f)) (hn:n≤60) :
 Calls Tryz.prog 113 #[.int .i64 k,v] w fun e w'=>e = .returned (.bool (holdsB n k f))∧Below w.heap.size w w':=by
 have HA:=hide (l2Acyclic_any v n f w hx (by omega))
 have HI:=hide (l2Loose_any v n f w hx (by omega))
 have HN:=hide (l2Count_any v n f w hx hn)
 have HE:=hide (empB_pairs n f)
 have HH:Hid (holdsB n k f=if k=1 then acyB n f else if k=2 then irrB n f else empB n f):=hide rfl
 obtain ⟨a,c,rfl, -, -, -, -⟩:=hx.open
 simp only [relOf_length] at *
 clear hx
 generalize holdsB n k f=R at *
 generalize acyB n f=RA at *
 generalize irrB n f=RI at *
 generalize empB n f=RE at *
 generalize ((pairsTo n f n:Nat):Int)=PZ at *
 by_cases h1:k=1
 ·subst h1
  have E:Hid (R=RA):=hide (by rw [HH.out];rfl)
  go_enter Tryz.func113,Tryz.ntmps113
  go_wp2_with fail
  (with_reducible refine HA.out.mono ?_);rintro e w1 ⟨rfl,hb1⟩
  go_wp2_with fail
  go_ret
  exact ⟨by rw [E.out];rfl,hb1⟩
 ·by_cases h2:k=2
  ·subst h2
   have E:Hid (R=RI):=hide (by rw [HH.out];rfl)
   go_enter Tryz.func113,Tryz.ntmps113
   go_wp2_with fail
   (with_reducible refine HI.out.mono ?_);rintro e w1 ⟨rfl,rfl⟩
   go_wp2_with fail
   go_ret
   exact ⟨by rw [E.out];rfl,Below.refl _ _⟩
  ·have E:Hid (R=RE):=hide (by rw [HH.out,if_neg h1,if_neg h2])
   have g1:(k==1)=false:=by simp [h1]
   have g2:(k==2)=false:=by simp [h2]
   clear h1 h2
   go_enter Tryz.func113,Tryz.ntmps113
   go_wp2_with fail
   (with_reducible refine HN.out.mono ?_);rintro e w1 ⟨rfl,rfl⟩
   go_wp2_with fail
   go_ret
   exact ⟨by rw [E.out,← HE.out];rfl,Below.refl _ _⟩
end Go.Proofs.YtkfhgnkonaafgaaGreatDoor
namespace Go.Proofs.YtkfhgnkonaafgaaGreatDoor
open Go.RowKit
structure CpI (wr:World) (B X R O:Nat) (f s:Slc) (vf vo:Value) (xs:List Int) (L:List (List Int)):Prop where
 bx:wr.heap[X]? = some (.cells #[vf,vo] 29 (0,0))
 br:wr.heap[R]? = some (.cells #[.slice none 0 0, .slice none 0 0] 29 (0,0))
 bo:wr.heap[O]? = some (.cells #[.slice f.a f.n f.cap, .slice s.a s.n s.cap] 29 (0,0))
 of:Own IntE 3 wr B f.v xs
 os:RowsI wr (O+1) s.v L
theorem OwnFU.setLow {α β:Type} {E:El α} {T:TypeId} {R:Dd→Dd→Prop} {φ:Dd→World→α→β→Prop} {us:List α} {ds:List Dd} {w:World} {base g j:Nat} {v u:Value} {xs:List β} (h:OwnFU E T R φ us ds w base v xs) (hg:g < base):OwnFU E T R φ us ds (w.setCell ⟨g,j,none⟩ u) base v xs:=
 ⟨h.lu,h.ld,h.pw,h.own.sameV fun q hq=>heap_setCell_other w ⟨g,j,none⟩ q u (show q≠g by have:=(World.ownsRow.lt h.own q hq).1;omega),fun i u' d x h1 h2 h3=>⟨(h.rows i u' d x h1 h2 h3).1,(h.rows i u' d x h1 h2 h3).2.step (by simp) fun k ob h4 _ h6 _=>by
  rw [heap_setCell_other w ⟨g,j,none⟩ k u (show k≠g by have:=(h.rows i u' d x h1 h2 h3).1;omega)];exact h6⟩⟩
theorem notT_of {T U:TypeId} {a:Array Value} {fz:Nat × Nat} (h:U≠T):notT T (.cells a U fz):=fun a' fz' e=>by simp at e;exact h e.2.1
theorem grown_keep {α:Type} {E:El α} {T:TypeId} {w w':World} {base:Nat} {v:Value} {xs:List α} (ho:Own E T w base v xs) (hg:w.grownBy w' v.ownBlock) {k:Nat} {ob:Obj} (h:w.heap[k]? = some ob) (hn:notT T ob):w'.heap[k]? = some ob:=
 (hg.block k (Array.getElem?_eq_some_iff.1 h).1 (fun e=>by
  obtain ⟨a,ha⟩:=ho.typed e.symm
  rw [h] at ha
  exact hn a _ (Option.some.inj ha))).trans h
theorem RowsI.loc {w:World} {base:Nat} {v:Value} {L:List (List Int)} {T:TypeId} (h:RowsI w base v L) (h1:24≠T) (h2:3≠T):LocR T base w.heap.size w (fun W=>RepNN W v L):=by
 obtain ⟨us,ds,h⟩:=h
 have k1:=LocR.own h1 h.own
 have k2:LocR T base w.heap.size w (fun W => ∀ (i:Nat) (u:Slc) (r:List Int),us[i]? = some u→L[i]? = some r→Rep IntE W u.v r):=by
  refine LocR.all (Nat.le_refl _) fun i=>LocR.all (Nat.le_refl _) fun u=>LocR.all (Nat.le_refl _) fun r=>LocR.imp (Nat.le_refl _) fun hu=>LocR.imp (Nat.le_refl _) fun hr => ?_
  obtain ⟨d,hd⟩:=get_of_lt (xs:=ds) (k:=i) (by rw [h.ld];exact (List.getElem?_eq_some_iff.1 hr).1)
  obtain ⟨r1,r2⟩:=h.rows i u d r hu hd hr
  exact ((LocR.own h2 r2.now.1).wide r1 (Nat.le_refl _) (Nat.le_refl _)).map fun V k=>k.rep
 exact (k1.and k2).map fun V ⟨a,b⟩=>⟨us,h.lu,a.rep,b⟩
def RetX (w:World) (x:Xc) (e:Ending) (w':World):Prop:=∃ f o:Slc,e = .returned (.agg #[.slice f.a f.n f.cap, .slice o.a o.n o.cap])∧Own IntE 3 w' w.heap.size f.v x.fr∧RowsI w' w.heap.size o.v x.od∧Below w.heap.size w w'
theorem own_loc {w:World} {lo:Nat} {f o:Slc} {x:Xc} (h:Own IntE 3 w lo f.v x.fr) (k:RowsI w lo o.v x.od):LocR 29 lo w.heap.size w (fun W=>RepX W f.v o.v x):=
 ((LocR.own (T:=29) (by decide) h).and (RowsI.loc (T:=29) k (by decide) (by decide))).map (fun V ⟨a,b⟩=>⟨a.rep,b⟩)
def RetXA (w:World) (x:Xc) (e:Ending) (w':World):Prop:=∃ (f o:Slc) (m:Nat),e = .returned (.agg #[.slice f.a f.n f.cap, .slice o.a o.n o.cap])∧Own IntE 3 w' w.heap.size f.v x.fr∧(∀ q,f.v.ownBlock=some q→q < m)∧w.heap.size≤m∧RowsI w' m o.v x.od∧Below w.heap.size w w'
theorem RetXA.ret {w:World} {x:Xc} {e:Ending} {w':World} (h:RetXA w x e w'):RetX w x e w':=by
 obtain ⟨f,o,m,h1,h2, -,h3,⟨us,ds,h4⟩,h5⟩:=h
 exact ⟨f,o,h1,h2,⟨us,ds,h4.mono h3⟩,h5⟩
theorem l6Copy_anyA (vf vo:Value) (x:Xc) (w:World) (hx:RepX w vf vo x) (hl:x.fr.length≤1048576) (hol:x.od.length≤1048576) (hrl:∀ o∈x.od,o.length≤1048576) :
 Calls Tryz.prog 112 #[.agg #[vf,vo]] w (RetXA w x):=by
 have HX:=hide hx
 obtain ⟨fa,fc,rfl, -, -, -, -⟩:=hx.fr.open
 obtain ⟨oa,oc,rfl, -, -, -, -⟩:=hx.od.open
 have HB0:=hide (((Below.refl w.heap.size w).alloc (Nat.le_refl _) (.cells #[.slice fa x.fr.length fc, .slice oa x.od.length oc] 29)).alloc (by simp) (.cells #[.slice none 0 0, .slice none 0 0] 29))
 clear hx
 generalize hfn:x.fr.length=fn at *
 generalize hon:x.od.length=on at *
 have HFN:=hide hfn;have HON:=hide hon
 have hz2:(((w.alloc (.cells #[.slice fa fn fc, .slice oa on oc] 29)).alloc (.cells #[.slice none 0 0, .slice none 0 0] 29)).heap.size)=w.heap.size+1+1:=by simp
 have hx0:((w.alloc (.cells #[.slice fa fn fc, .slice oa on oc] 29)).alloc (.cells #[.slice none 0 0, .slice none 0 0] 29)).heap[w.heap.size]? = some (.cells #[.slice fa fn fc, .slice oa on oc] 29 (0,0)):=by
  rw [heap_alloc_old _ _ (by simp)];exact heap_alloc_new w _
 have hr0:((w.alloc (.cells #[.slice fa fn fc, .slice oa on oc] 29)).alloc (.cells #[.slice none 0 0, .slice none 0 0] 29)).heap[w.heap.size+1]? = some (.cells #[.slice none 0 0, .slice none 0 0] 29 (0,0)):=by
  have h:=heap_alloc_new (w.alloc (.cells #[.slice fa fn fc, .slice oa on oc] 29)) (.cells #[.slice none 0 0, .slice none 0 0] 29)
  simpa using h
 have HX2:=hide hx0;have HR2:=hide hr0
 have HZ2:=hide hz2
 have OE:=hide (Own.empty (E:=IntE) 3 ((w.alloc (.cells #[.slice fa fn fc, .slice oa on oc] 29)).alloc (.cells #[.slice none 0 0, .slice none 0 0] 29)) (base:=w.heap.size) (by simp;omega))
 rw [hz2] at OE
 have FR:=hide (HX.out.fr.below (HB0.out.alloc (by simp;omega) (.cells #[] 3)))
 have hln:([]:List Int).length+x.fr.length≤68719476736:=by rw [hfn];simp;omega
 clear hfn hon hx0 hr0 hz2
 go_enter Tryz.func112,Tryz.ntmps112
 go_wp2_with (at_builtin;refine wpList_appS IntE 3 Tryz.infoInt rfl Tryz.underlying24 w.heap.size _ [] x.fr _ OE.out FR.out (by decide) hln (by simp;omega) rfl _ _ rfl rfl rfl ?_;intro v4 w4 hown4 hgr4;obtain ⟨⟨fa',fn',fc'⟩,rfl, -⟩:=hown4.toSlc;have B4:=hide ((HB0.out.alloc (by simp;omega) (.cells #[] 3)).grown hgr4 (by simp;omega) (fun q hq=>by simp [Value.ownBlock] at hq;omega));have O4:=hide hown4;have HG4:=hide hgr4;clear hown4 hgr4)
 have hg4:=HG4.out.size
 simp only [World.size_alloc] at hg4
 have HC4:Hid (CpI (w4.alloc (.cells #[.slice fa' fn' fc', .slice none 0 0] 29)) w.heap.size w.heap.size (w.heap.size+1) w4.heap.size ⟨fa',fn',fc'⟩ ⟨none,0,0⟩ (.slice fa fn fc) (.slice oa on oc) x.fr []):=hide (by
  have e1:∀ k ob,k < w.heap.size+1+1→((w.alloc (.cells #[.slice fa fn fc, .slice oa on oc] 29)).alloc (.cells #[.slice none 0 0, .slice none 0 0] 29)).heap[k]? = some ob→(w4.alloc (.cells #[.slice fa' fn' fc', .slice none 0 0] 29)).heap[k]? = some ob:=fun k ob hk h=>by
   rw [heap_alloc_old _ _ (by omega)]
   rw [HG4.out.block k (by simp;omega) (fun e=>by simp [Value.ownBlock] at e;omega),heap_alloc_old _ _ (by simp;omega)]
   exact h
  exact ⟨e1 _ _ (by omega) HX2.out,e1 _ _ (by omega) HR2.out,heap_alloc_new w4 _,(by have h:=O4.out;rw [List.nil_append] at h;exact h.alloc _),OwnF.nil _ _ _⟩)
 have HB4:=hide (B4.out.alloc (by omega) (.cells #[.slice fa' fn' fc', .slice none 0 0] 29))
 have hq4:w.heap.size+1+1 < w4.heap.size:=by omega
 have HFM:=hide (fun q (hq:(Slc.v ⟨fa',fn',fc'⟩).ownBlock=some q)=>(World.ownsRow.lt O4.out q hq).2)
 clear hg4 HG4 O4 B4 FR OE HX2 HR2 HZ2 hln HB0
 go_loopw [4] (fun i wr => ∃ k:Nat,k≤on∧i = .int .i64 k∧(∃ s:Slc,CpI wr w.heap.size w.heap.size (w.heap.size+1) w4.heap.size ⟨fa',fn',fc'⟩ s (.slice fa fn fc) (.slice oa on oc) x.fr (x.od.take k))∧Below w.heap.size w wr) (fun i _=>on - (intOf i).toNat)
 case atStart=>exact ⟨0,Nat.zero_le _,rfl,⟨_,HC4.out⟩,HB4.out⟩
 case round =>
  obtain ⟨k,hk,rfl,⟨⟨sa,sn,sc⟩,hc⟩,hbr⟩:=hrel
  have x1:wr.cell? ⟨w.heap.size,1,none⟩=some (.slice oa on oc):=cell_of_heapV hc.bx (k:=1) rfl
  have o1:wr.cell? ⟨w4.heap.size,1,none⟩=some (.slice sa sn sc):=cell_of_heapV hc.bo (k:=1) rfl
  have ofz:=frozen_of_heapV hc.bo
  have xl:=lt_of_cell x1
  have ol:=lt_of_cell o1
  by_cases hlt:k < on
  ·obtain ⟨r,hrk⟩:=get_of_lt (xs:=x.od) (k:=k) (by rw [HON.out];exact hlt)
   have hltk:=nat_of_lt hlt
   obtain ⟨b2,o2,ra,rc,rfl,hbl2,q0,q1⟩:=HX.out.od.row hrk
   have q0:=(hbr.cell (p:=⟨b2,o2+k,none⟩) hbl2).trans q0
   have hbl2':=Nat.lt_of_lt_of_le hbl2 hbr.size
   have RS:Hid (x.od.take (k+1)=x.od.take k++[r]):=hide (by rw [List.take_add_one,hrk];rfl)
   have hn1:([]:List Int).length+r.length≤68719476736:=by have:=hrl r (List.mem_of_getElem? hrk);simp;omega
   have HRP:=hide ((q1.below hbr).below ((Below.refl wr.heap.size wr).alloc (Nat.le_refl _) (.cells #[] 3)).drew)
   have HLT:Hid (Own IntE 3 (wr.alloc (.cells #[] 3)).drew wr.heap.size (.slice (some ⟨wr.heap.size,0,none⟩) 0 0) []):=hide (Own.empty (E:=IntE) 3 wr (Nat.le_refl _))
   have hlen:(x.od.take k).length≤68719476736:=by rw [List.length_take];omega
   have HC:=hide hc
   obtain ⟨us,ds,hU⟩:=hc.os
   have HU:=hide hU
   have HUL:Hid (us.length≤68719476736):=hide (by rw [hU.lu];exact hlen)
   have HBR:=hide hbr
   have hbs:w.heap.size≤wr.heap.size:=hbr.size
   generalize x.od.take k=GG at *
   clear hrk q1 hlen hU hbr hc
   go_wp2_with fail
   go_region_law (first
    | (refine step_appS IntE 3 Tryz.infoInt rfl Tryz.underlying24 wr.heap.size _ [] r _ HLT.out HRP.out (by decide) hn1 (by simp) (by rfl) _ _ (by rfl) (by rfl) (by rfl) ?_;intro v6 w6 hown6 hgr6;obtain ⟨⟨a6,n6,c6⟩,rfl, -⟩:=hown6.toSlc;have O6:=hide hown6;have hk6:(∀ o,w6.cell? ⟨w4.heap.size,o,none⟩=wr.cell? ⟨w4.heap.size,o,none⟩):=(kept_d hgr6 ol (fun q hq=>by simp [Value.ownBlock] at hq;omega));have B6:=hide (below_lit hgr6);have hb6:=B6.out.size;have ol6:w4.heap.size < w6.heap.size:=(Nat.lt_of_lt_of_le ol hb6);clear hown6 hgr6)
    | (refine step_app SlcE 24 Tryz.infoIntS rfl Tryz.underlying27 (w4.heap.size+1) _ us ⟨a6,n6,c6⟩ ((HU.out.own.below B6.out).alloc _) (by decide) HUL.out (by simp;omega) (by rfl) _ _ (by rfl) (by rfl) w6.heap.size 0 1 (by rfl) news_alloc ?_;intro v8 w8 hown8 hgr8;obtain ⟨⟨a8,n8,c8⟩,rfl, -⟩:=hown8.toSlc;have K8:=(fun k ob (h:wr.heap[k]? = some ob) hn=>grown_keep ((HU.out.own.below B6.out).alloc _) hgr8 (show _=some ob from (heap_alloc_old _ _ (Nat.lt_of_lt_of_le (Array.getElem?_eq_some_iff.1 h).1 hb6)).trans ((B6.out.block k (Array.getElem?_eq_some_iff.1 h).1).trans h)) hn);have bo8:=K8 _ _ HC.out.bo (notT_of (by decide));have o8:w8.cell? ⟨w4.heap.size,1,none⟩=some (.slice sa sn sc):=cell_of_heapV bo8 (k:=1) rfl;have ofz8:=frozen_of_heapV bo8;have ol8:=lt_of_cell o8))
   all_goals
    have R8:=RowsI.app HU.out B6.out (by omega) rfl O6.out hown8 hgr8
    have B8:=(HBR.out.trans (B6.out.mono hbs)).alloc (by omega) (.cells #[.slice a6 n6 c6] 24)
    have B9:=B8.grown hgr8 (by simp;omega) (fun q hq=>by have:=(World.ownsRow.lt HU.out.own q hq).1;omega)
    have C9:CpI (w8.setCell ⟨w4.heap.size,1,none⟩ (.slice a8 n8 c8)) w.heap.size w.heap.size (w.heap.size+1) w4.heap.size ⟨fa',fn',fc'⟩ ⟨a8,n8,c8⟩ (.slice fa fn fc) (.slice (some ⟨b2,o2,none⟩) on oc) x.fr (GG++[r]):=by
     have hc:=HC.out
     refine ⟨?_, ?_, ?_, ?_, ?_⟩
     ·rw [heap_setCell_other w8 ⟨w4.heap.size,1,none⟩ _ _ (show w.heap.size≠w4.heap.size by omega)];exact K8 _ _ hc.bx (notT_of (by decide))
     ·rw [heap_setCell_other w8 ⟨w4.heap.size,1,none⟩ _ _ (show w.heap.size+1≠w4.heap.size by omega)];exact K8 _ _ hc.br (notT_of (by decide))
     ·exact heap_setCell_same w8 w4.heap.size 1 _ _ _ bo8
     ·refine hc.of.sameV fun q hq => ?_
      obtain ⟨a,ha⟩:=hc.of.typed hq
      have h2:=K8 _ _ ha (notT_of (by decide))
      rw [heap_setCell_other w8 ⟨w4.heap.size,1,none⟩ q _ (show q≠w4.heap.size by rintro rfl;rw [hc.bo] at ha;simp at ha),h2,ha]
     ·obtain ⟨us',ds',h⟩:=R8
      exact ⟨us',ds',h.setLow (by omega)⟩
    have HC9:=hide C9
    have HB9:=hide (B9.setCell (p:=⟨w4.heap.size,1,none⟩) (show w.heap.size≤w4.heap.size by omega) (.slice a8 n8 c8))
    clear C9 R8 B8 B9
    go_wp2_with fail
    go_roundw
    case rel=>exact ⟨k+1,by omega,by go_num,⟨⟨a8,n8,c8⟩,by rw [RS.out];exact HC9.out⟩,HB9.out⟩
    case measure=>simp [intOf];omega
  ·obtain rfl:k=on:=by omega
   rw [List.take_of_length_le (by rw [HON.out];exact Nat.le_refl _)] at hc
   have o0:wr.cell? ⟨w4.heap.size,0,none⟩=some (.slice fa' fn' fc'):=cell_of_heapV hc.bo (k:=0) rfl
   have r0:wr.cell? ⟨w.heap.size+1,0,none⟩=some (.slice none 0 0):=cell_of_heapV hc.br (k:=0) rfl
   have r1:wr.cell? ⟨w.heap.size+1,1,none⟩=some (.slice none 0 0):=cell_of_heapV hc.br (k:=1) rfl
   have rfz:=frozen_of_heapV hc.br
   have rl:=lt_of_cell r0
   go_wp2_with fail
   have hne:∀ q,(Slc.v ⟨fa',fn',fc'⟩).ownBlock=some q→q≠w.heap.size+1:=fun q hq=>by
    rintro rfl
    obtain ⟨a,ha⟩:=hc.of.typed hq
    rw [hc.br] at ha
    simp at ha
   refine bodyPost_ret (v:=.agg #[.slice fa' fn' fc', .slice sa sn sc]) (by simp [results,Tryz.results112,go_sem, *]) rfl ⟨⟨fa',fn',fc'⟩,⟨sa,sn,sc⟩,w4.heap.size+1,rfl, ?_,fun q hq=>by have:=HFM.out q hq;omega,by omega, ?_, ?_⟩
   ·exact (hc.of.sameV fun q hq=>heap_setCell_other _ ⟨w.heap.size+1,0,none⟩ q _ (hne q hq)).sameV fun q hq=>heap_setCell_other _ ⟨w.heap.size+1,1,none⟩ q _ (hne q hq)
   ·obtain ⟨us,ds,hU⟩:=hc.os
    have h1:=(hU.setLow (j:=0) (u:=.slice fa' fn' fc') (show w.heap.size+1 < w4.heap.size+1 by omega)).setLow (j:=1) (u:=.slice sa sn sc) (show w.heap.size+1 < w4.heap.size+1 by omega)
    exact ⟨us,ds,h1⟩
   ·exact (hbr.setCell (p:=⟨w.heap.size+1,0,none⟩) (show w.heap.size≤w.heap.size+1 by omega) _).setCell (p:=⟨w.heap.size+1,1,none⟩) (show w.heap.size≤w.heap.size+1 by omega) _
theorem l6Copy_any (vf vo:Value) (x:Xc) (w:World) (hx:RepX w vf vo x) (hl:x.fr.length≤1048576) (hol:x.od.length≤1048576) (hrl:∀ o∈x.od,o.length≤1048576) :
 Calls Tryz.prog 112 #[.agg #[vf,vo]] w (RetX w x):=(l6Copy_anyA vf vo x w hx hl hol hrl).mono fun _ _ h=>h.ret
end Go.Proofs.YtkfhgnkonaafgaaGreatDoor
namespace Go.Proofs.YtkfhgnkonaafgaaGreatDoor
open Go.RowKit
theorem ruleOk_eq (k o:Int) (p:ByteArray) (ks:List Re):ruleOk ⟨k, .mk o p ks⟩=(inB k 1 3&&validR (.mk o p ks)):=rfl
theorem ModelValid_1 (k o:Int) (p:ByteArray) (a:Option Addr) (n c:Nat) (ks:List Re) (w:World) (h:RepRk 0 w ⟨a,n,c⟩ ks) (hg:Glob w) :
 Calls Tryz.prog 77 #[.agg #[.int .i64 k, .int .i64 o, .string p, .slice a n c]] w fun e w'=>e = .returned (.bool (!ruleOk ⟨k, .mk o p ks⟩))∧Below w.heap.size w w':=by
 have HB:=hide (belowAlloc w (.cells #[.int .i64 k, .int .i64 o, .string p, .slice a n c] 77))
 have HV:=hide (RelExprValid_raw o p ks a n c _ (h.below HB.out) (hg.below HB.out))
 have HW:=hide (within_any k 1 3)
 rw [ruleOk_eq]
 generalize inB k 1 3=b1 at *
 generalize validR (.mk o p ks)=b2 at *
 clear h hg
 cases b1
 ·go_enter Tryz.func77,Tryz.ntmps77
  go_wp2_with fail
  (with_reducible refine (HW.out _).mono ?_);rintro e w1 ⟨rfl,rfl⟩
  go_wp2_with fail
  go_ret
  exact ⟨rfl,HB.out⟩
 ·go_enter Tryz.func77,Tryz.ntmps77
  go_wp2_with fail
  (with_reducible refine (HW.out _).mono ?_);rintro e w1 ⟨rfl,rfl⟩
  go_wp2_with fail
  (with_reducible refine HV.out.mono ?_);rintro e w2 ⟨rfl,hb2⟩
  go_wp2_with fail
  go_ret
  exact ⟨by cases b2 <;> rfl,HB.out.trans (hb2.mono HB.out.size)⟩
def IdxBad (m:List Ru) (q:Int):Prop:=(q = -1∧m.all ruleOk=true)∨(∃ t:Nat,q=t∧m.all ruleOk=false)
theorem allR_take {f:Ru→Bool} {m:List Ru} {k:Nat} (h:∀ r∈m.take k,f r=true) (hk:m.length≤k):m.all f=true:=by
 rw [List.take_of_length_le hk] at h
 exact List.all_eq_true.2 h
theorem allR_succ {f:Ru→Bool} {m:List Ru} {k:Nat} {r:Ru} (h:∀ r∈m.take k,f r=true) (hr:m[k]? = some r) (hf:f r=true):∀ r∈m.take (k+1),f r=true:=by
 intro y hy
 rw [List.take_add_one,hr] at hy
 simp at hy
 rcases hy with hy | rfl
 ·exact h y hy
 ·exact hf
theorem allR_not {f:Ru→Bool} {m:List Ru} {k:Nat} {r:Ru} (hr:m[k]? = some r) (hf:f r=false):m.all f=false:=by
 cases h:m.all f with
 | false=>rfl
 | true =>
  have:=List.all_eq_true.1 h r (List.mem_of_getElem? hr)
  rw [hf] at this;cases this
theorem IndexFunc_mv (a:Option Addr) (n c:Nat) (m:List Ru) (w:World) (hx:RepM 0 w ⟨a,n,c⟩ m) (hg:Glob w) :
 Calls Tryz.prog 119 #[.slice a n c, .func (.func 77) #[] #[]] w fun e w'=>(∃ q:Int,e = .returned (.int .i64 q)∧IdxBad m q)∧Below w.heap.size w w':=by
 obtain ⟨e1,hc1,hc2,hc3⟩:=hx.open
 simp only at e1 hc1 hc2 hc3
 have HX:=hide hx;have HG:=hide hg
 clear hx hg
 have H:=hide e1.symm;clear e1
 rw [H.out] at hc1 hc2
 go_enter Tryz.func119,Tryz.ntmps119
 go_wp2_with fail
 go_loopw [8] (fun i wr => ∃ t:Nat,t≤n∧i = .int .i64 t∧Hid (∀ r∈m.take t,ruleOk r=true)∧Below w.heap.size w wr) (fun i _=>n - (intOf i).toNat)
 case atStart=>exact ⟨0,Nat.zero_le _,rfl,hide (by simp),Below.refl _ _⟩
 case round =>
  obtain ⟨t,ht,rfl,hno,hb⟩:=hrel
  by_cases hlt:t < n
  ·obtain ⟨r,hrk⟩:=get_of_lt (xs:=m) (k:=t) (by rw [H.out];exact hlt)
   obtain ⟨b,o,s,rfl,hbl,i0,i1,i2,i3,i4⟩:=(HX.out.below hb).row hrk
   have hlt':=nat_of_lt hlt
   have hcall:=ModelValid_1 r.kind r.e.op r.e.nm s.a s.n s.cap r.e.kids wr i4 (HG.out.below hb)
   rw [Ru.eta] at hcall
   have X:=hide hrk;clear hrk i4
   generalize hfx:ruleOk r=fx at *
   have FX:=hide hfx;clear hfx
   have HC:=hide hcall;clear hcall
   cases fx
   ·have NO:=hide (allR_not X.out FX.out)
    go_wp2_with fail
    (with_reducible refine HC.out.mono ?_);rintro e w2 ⟨rfl,hb2⟩
    go_wp2_with fail
    go_ret
    exact ⟨⟨_,rfl, .inr ⟨t,rfl,NO.out⟩⟩,hb.trans (hb2.mono hb.size)⟩
   ·have NO:=hide (allR_succ hno.out X.out FX.out)
    go_wp2_with fail
    (with_reducible refine HC.out.mono ?_);rintro e w2 ⟨rfl,hb2⟩
    go_wp2_with fail
    go_roundw
    case rel=>exact ⟨t+1,by omega,by go_num,NO,hb.trans (hb2.mono hb.size)⟩
    case measure=>simp [intOf];omega
  ·have NO:=hide (allR_take hno.out (by rw [H.out];omega))
   go_wp2_with fail
   go_ret
   exact ⟨⟨_,rfl, .inl ⟨rfl,NO.out⟩⟩,hb⟩
theorem ContainsFunc_mv (a:Option Addr) (n c:Nat) (m:List Ru) (w:World) (hx:RepM 0 w ⟨a,n,c⟩ m) (hg:Glob w) :
 Calls Tryz.prog 76 #[.slice a n c, .func (.func 77) #[] #[]] w fun e w'=>e = .returned (.bool (!m.all ruleOk))∧Below w.heap.size w w':=by
 have HI:=hide (IndexFunc_mv a n c m w hx hg)
 clear hx hg
 go_enter Tryz.func76,Tryz.ntmps76
 go_wp2_with fail
 (with_reducible refine HI.out.mono ?_);rintro e w1 ⟨⟨q,rfl,hq⟩,hb1⟩
 have HQ:Hid (decide (q≥0) = !m.all ruleOk):=hide (by
  rcases hq with ⟨rfl,h⟩ | ⟨t,rfl,h⟩
  ·rw [h];rfl
  ·rw [h];simp)
 clear hq
 go_wp2_with fail
 go_ret
 exact ⟨by rw [← HQ.out];rfl,hb1⟩
theorem modelOk_eq (m:List Ru):modelOk m=(inB (m.length:Int) 1 5&&m.all ruleOk):=by
 unfold modelOk inB
 have h1:decide (1≤m.length)=decide ((1:Int)≤(m.length:Int)):=by rw [decide_eq_decide];omega
 have h2:decide (m.length≤5)=decide ((m.length:Int)≤5):=by rw [decide_eq_decide];omega
 rw [h1,h2,Bool.and_assoc]
theorem ModelValid_any (a:Option Addr) (n c:Nat) (m:List Ru) (w:World) (hx:RepM 0 w ⟨a,n,c⟩ m) (hg:Glob w) :
 Calls Tryz.prog 42 #[.slice a n c] w fun e w'=>e = .returned (.bool (modelOk m))∧Below w.heap.size w w':=by
 obtain ⟨e1,hc1,hc2,hc3⟩:=hx.open
 simp only at e1 hc1 hc2 hc3
 have HC:=hide (ContainsFunc_mv a n c m w hx hg)
 have HW:=hide (within_any (n:Int) 1 5)
 rw [modelOk_eq,← e1]
 clear hx hg e1
 generalize inB (n:Int) 1 5=b1 at *
 generalize m.all ruleOk=b2 at *
 cases b1
 ·go_enter Tryz.func42,Tryz.ntmps42
  go_wp2_with fail
  (with_reducible refine (HW.out _).mono ?_);rintro e w1 ⟨rfl,rfl⟩
  go_wp2_with fail
  go_ret
  exact ⟨rfl,Below.refl _ _⟩
 ·go_enter Tryz.func42,Tryz.ntmps42
  go_wp2_with fail
  (with_reducible refine (HW.out _).mono ?_);rintro e w1 ⟨rfl,rfl⟩
  go_wp2_with fail
  (with_reducible refine HC.out.mono ?_);rintro e w2 ⟨rfl,hb2⟩
  go_wp2_with fail
  go_ret
  exact ⟨by cases b2 <;> rfl,hb2⟩
theorem RepM.bound {w:World} {s:Slc} {m:List Ru} (_:RepM 0 w s m) {r:Ru} (hr:r∈m) (hl:wtM m≤1048576):descR r.e.kids≤1048576:=by
 have h1:=wtM_mem hr;have h2:=descR_le_wtR r.e.kids;omega
theorem sModelValid_any (a:Option Addr) (n c:Nat) (m:List Ru) (w:World) (hx:RepM 0 w ⟨a,n,c⟩ m) (hl:wtM m≤1048576) :
 Calls Tryz.prog 34 #[.slice a n c] w fun e w'=>e = .returned (.bool (modelOk m))∧Below w.heap.size w w':=by
 obtain ⟨e1,hc1,hc2,hc3⟩:=hx.open
 simp only at e1 hc1 hc2 hc3
 have HX:=hide hx
 have HBD:=hide (fun r (hr:r∈m)=>hx.bound hr hl)
 have ME:=hide (modelOk_eq m)
 have IE:Hid (inB (m.length:Int) 1 5=(decide (1≤(m.length:Int))&&decide ((m.length:Int)≤5))):=hide rfl
 clear hx
 have H:=hide e1.symm;clear e1
 rw [H.out] at hc1 hc2 ME IE
 generalize modelOk m=R at *
 generalize inB (n:Int) 1 5=I5 at *
 go_enter Tryz.func34,Tryz.ntmps34
 go_wp2_with fail
 go_loopw [3] (fun i wr => ∃ t:Nat,t≤n∧t≤6∧i = .int .i64 t∧Hid (∀ r∈m.take t,ruleOk r=true)∧Below w.heap.size w wr) (fun i _=>n - (intOf i).toNat)
 case atStart=>exact ⟨0,Nat.zero_le _,by omega,rfl,hide (by simp),Below.refl _ _⟩
 case round =>
  obtain ⟨t,ht,ht6,rfl,hno,hb⟩:=hrel
  by_cases hlt:t < n
  ·have hlt':=nat_of_lt hlt
   by_cases h5:t≤5
   ·obtain ⟨r,hrk⟩:=get_of_lt (xs:=m) (k:=t) (by rw [H.out];exact hlt)
    obtain ⟨b,o,s,rfl,hbl,i0,i1,i2,i3,i4⟩:=(HX.out.below hb).row hrk
    have h5':(t:Int)≤5:=by omega
    have HV:=hide (RelExprValidS_raw r.e.op r.e.nm r.e.kids s.a s.n s.cap wr i4 (HBD.out r (List.mem_of_getElem? hrk)))
    have RO:Hid (ruleOk r=(inB r.kind 1 3&&validR (.mk r.e.op r.e.nm r.e.kids))):=hide (by rw [Re.eta];rfl)
    have X:=hide hrk;clear hrk i4
    generalize validR (.mk r.e.op r.e.nm r.e.kids)=b2 at *
    generalize hfx:ruleOk r=fx at *
    have FX:=hide hfx;clear hfx
    generalize r.kind=kd at *
    by_cases g1:kd < 1
    ·have g1':decide (kd < 1)=true:=decide_eq_true g1
     obtain rfl:fx=false:=by rw [RO.out];unfold inB;rw [decide_eq_false (show ¬ 1≤kd by omega)];rfl
     have NO:=hide (allR_not X.out FX.out)
     have RF:Hid (R=false):=hide (by rw [ME.out,NO.out,Bool.and_false])
     clear g1
     go_wp2_with fail
     go_ret
     exact ⟨by rw [RF.out];rfl,hb⟩
    ·have g1':decide (kd < 1)=false:=decide_eq_false g1
     by_cases g2:kd > 3
     ·have g2':decide (kd > 3)=true:=decide_eq_true g2
      obtain rfl:fx=false:=by rw [RO.out];unfold inB;rw [decide_eq_false (show ¬ kd≤3 by omega),Bool.and_false];rfl
      have NO:=hide (allR_not X.out FX.out)
      have RF:Hid (R=false):=hide (by rw [ME.out,NO.out,Bool.and_false])
      clear g1 g2
      go_wp2_with fail
      go_ret
      exact ⟨by rw [RF.out];rfl,hb⟩
     ·have g2':decide (kd > 3)=false:=decide_eq_false g2
      obtain rfl:fx=b2:=by rw [RO.out];unfold inB;rw [decide_eq_true (show 1≤kd by omega),decide_eq_true (show kd≤3 by omega)];rfl
      clear g1 g2
      cases fx
      ·have NO:=hide (allR_not X.out FX.out)
       have RF:Hid (R=false):=hide (by rw [ME.out,NO.out,Bool.and_false])
       go_wp2_with fail
       (with_reducible refine HV.out.mono ?_);rintro e w5 ⟨rfl,hb5⟩
       go_wp2_with fail
       go_ret
       exact ⟨by rw [RF.out];rfl,hb.trans (hb5.mono hb.size)⟩
      ·have NO:=hide (allR_succ hno.out X.out FX.out)
       go_wp2_with fail
       (with_reducible refine HV.out.mono ?_);rintro e w5 ⟨rfl,hb5⟩
       go_wp2_with fail
       go_roundw
       case rel=>exact ⟨t+1,by omega,by omega,by go_num,NO,hb.trans (hb5.mono hb.size)⟩
       case measure=>simp [intOf];omega
   ·have h5':decide ((t:Int)≤5)=false:=decide_eq_false (by omega)
    have h6:decide ((n:Int)≤5)=false:=decide_eq_false (by omega)
    have RF:Hid (R=false):=hide (by rw [ME.out,IE.out,h6,Bool.and_false];rfl)
    have h7:(n:Int) > 0:=by omega
    go_wp2_with fail
    go_ret
    exact ⟨by rw [RF.out];rfl,hb⟩
  ·obtain rfl:t=n:=by omega
   have NO:=hide (allR_take hno.out (by rw [H.out];omega))
   have RF:Hid (R=(decide (1≤(t:Int))&&decide ((t:Int)≤5))):=hide (by rw [ME.out,IE.out,NO.out,Bool.and_true])
   by_cases h0:(t:Int) > 0
   ·have RG:Hid (R=decide ((t:Int)≤5)):=hide (by rw [RF.out,decide_eq_true (show (1:Int)≤t by omega)];rfl)
    go_wp2_with fail
    go_ret
    exact ⟨by rw [RG.out];rfl,hb⟩
   ·have h0':decide ((t:Int) > 0)=false:=decide_eq_false h0
    have RG:Hid (R=false):=hide (by rw [RF.out,decide_eq_false (show ¬ (1:Int)≤t by omega)];rfl)
    go_wp2_with fail
    go_ret
    exact ⟨by rw [RG.out];rfl,hb⟩
end Go.Proofs.YtkfhgnkonaafgaaGreatDoor
namespace Go.Proofs.YtkfhgnkonaafgaaGreatDoor
open Go.RowKit
theorem Tryz.infoExecY:(Tryz.prog.info? 29).map (fun i=>(i.zero,i.size,i.bytes))=some (some (.agg #[.slice none 0 0, .slice none 0 0]),2,48):=by kernel_rfl
structure Sl2 where
 f:Slc
 o:Slc
def XE:El Sl2:=⟨2,by decide,fun x=>[.slice x.f.a x.f.n x.f.cap, .slice x.o.a x.o.n x.o.cap],fun _=>rfl,fun x u h=>by simp at h;rcases h with rfl | rfl <;> rfl⟩
def PhiX (_:Dd) (W:World) (u:Sl2) (x:Xc):Prop:=RepX W u.f.v u.o.v x
abbrev RowsX (w:World) (base:Nat) (v:Value) (L:List Xc):Prop:=OwnF XE 29 Rafter PhiX w base v L
theorem RowsX.app {us:List Sl2} {ds:List Dd} {w w1 w2:World} {base:Nat} {v v':Value} {L:List Xc} (h:OwnFU XE 29 Rafter PhiX us ds w base v L) (hb:Below w.heap.size w w1) (hbase:base≤w.heap.size) {x:Xc} {s:Sl2} {ob:Obj}
 (hu:LocR 29 w.heap.size w1.heap.size w1 (fun W=>RepX W s.f.v s.o.v x)) (ho:Own XE 29 w2 base v' (us++[s])) (hg:(w1.alloc ob).grownBy w2 v.ownBlock):RowsX w2 base v' (L++[x]):=by
 have hba:=(Below.refl w1.heap.size w1).alloc (Nat.le_refl _) ob
 have hd:=h.hi
 exact ⟨us++[s],ds++[⟨w.heap.size,w1.heap.size,[]⟩],OwnFU.app (d:=⟨w.heap.size,w1.heap.size,[]⟩) ((h.below hb).below hba) ho hg hbase (hu.below hba) (fun d' h'=>(hd d' h':d'.hi≤w.heap.size))⟩
theorem permsL_mem:∀ (n:Nat) (xs:List Int),xs.length=n→∀ r∈permsL xs,r.length=xs.length:=fun n xs h r hr=>by rw [permsL_row n xs h r hr,h]
theorem ordsL_inner {es:List Ev}:∀ (n l:Nat),l+n=3→∀ o∈ordsL es l,∀ r∈o,r.length≤es.length+1:=by
 intro n
 induction n with
 | zero =>
  intro l hl o ho
  obtain rfl:l=3:=by omega
  rw [ordsL_end] at ho;simp at ho;subst ho;simp
 | succ n ih =>
  intro l hl o ho r hr
  rw [ordsL_step (by omega),List.mem_flatMap] at ho
  obtain ⟨q,hq1,hq⟩:=ho
  rw [List.mem_map] at hq
  obtain ⟨y,hy,rfl⟩:=hq
  rcases List.mem_cons.1 hr with rfl | hr
  ·rw [List.length_cons,permsL_mem _ _ rfl q hq1,List.length_tail]
   have:=wrL_length es l
   omega
  ·exact ih (l+1) (by omega) y hy r hr
theorem l6All_any (v:Value) (p:List (List Ins)) (w:World) (hp:RepP w v p) (hl:p.flatten.length≤1048576) (hpv:progValid p=true) :
 Calls Tryz.prog 66 #[v] w fun e w' => ∃ u:Slc,e = .returned (.slice u.a u.n u.cap)∧RowsX w' w.heap.size u.v (allX (evAll p))∧Below w.heap.size w w':=by
 have hfew:=few hpv
 have hen:=evAll_le hpv
 have HE:=hide (fun w' h=>l6Events_any v p w' h hl)
 have HFR:=hide (fun ve w' h=>l6Froms_any (evAll p) (by omega) hfew.froms (evAll p).length ve 0 w' (by omega) h)
 have HOR:=hide (fun ve w' h=>l6Orders_any (evAll p) (by omega) hfew.ords hfew.perms (fun l hl3=>wrL_pos (p:=p) hl3) 3 ve 0 w' (by omega) h)
 simp only [Int.natCast_zero] at HFR HOR
 have HFL:=hide (hfew.froms 0);have HOL:=hide (hfew.ords 0);have HAL:=hide hfew.all
 have HFW:=hide (fun r (hr:r∈fromsL (evAll p) 0)=>fromsL_row (evAll p).length 0 (by omega) r hr)
 have HOW:=hide (fun o (ho:o∈ordsL (evAll p) 0)=>ordsL_row 3 0 (by omega) o ho)
 have HOI:=hide (fun o (ho:o∈ordsL (evAll p) 0)=>ordsL_inner 3 0 (by omega) o ho)
 have HA:Hid (allX (evAll p)=(fromsL (evAll p) 0).flatMap fun f=>(ordsL (evAll p) 0).map (⟨f,·⟩)):=hide rfl
 have HP:=hide hp
 obtain ⟨pa,pc,rfl, -,hpn, -, -⟩:=hp.open
 clear hp hfew hpv
 generalize allX (evAll p)=R at *
 generalize fromsL (evAll p) 0=FS at *
 generalize ordsL (evAll p) 0=OS at *
 generalize hes:evAll p=es at *
 clear hes
 generalize hpn':p.length=pn at *
 clear hpn'
 go_enter Tryz.func66,Tryz.ntmps66
 go_wp2_with fail
 (with_reducible refine (HE.out _ HP.out).mono ?_);rintro e w2 ⟨ve,rfl,oe,hb2⟩
 have HRE:=hide oe.rep
 obtain ⟨⟨ea,en,ec⟩,rfl, -⟩:=oe.toSlc
 have HB2:=hide hb2
 have HF2:=hide (HFR.out _ w2 HRE.out)
 clear oe hb2 HE HFR
 go_wp2_with fail
 (with_reducible refine HF2.out.mono ?_);rintro e w3 ⟨⟨fa,fn,fc⟩,rfl,ofr,hb3⟩
 have HFN:Hid (FS.length=fn):=hide (RowsI.len ofr).symm
 have HFS:=hide ofr
 have HO3:=hide (HOR.out _ w3 (HRE.out.below hb3))
 have HB3:=hide (HB2.out.trans (hb3.mono HB2.out.size))
 clear ofr hb3 HF2 HOR HB2
 go_wp2_with fail
 (with_reducible refine HO3.out.mono ?_);rintro e w4 ⟨⟨oa,on,oc⟩,rfl,oor,hb4⟩
 have HON:Hid (OS.length=on):=hide (RowsO.len oor).symm
 have HOS:=hide oor
 have HFS4:=hide (OwnF.below HFS.out hb4)
 have HB4:=hide (HB3.out.trans (hb4.mono HB3.out.size))
 have hfb:fn≤3000:=by have:=HFN.out;have:=HFL.out;omega
 have hob:on≤3000:=by have:=HON.out;have:=HOL.out;omega
 clear oor hb4 HFS HB3 HO3
 go_wp2_with fail
 go_loopw [6,7] (fun s i wr => ∃ k:Nat,k≤fn∧i = .int .i64 k∧RowsX wr w4.heap.size s ((FS.take k).flatMap fun f=>OS.map (⟨f,·⟩))∧Below w4.heap.size w4 wr) (fun _ i _=>fn - (intOf i).toNat)
 case atStart=>exact ⟨0,Nat.zero_le _,rfl,OwnF.empty _ w4 (Nat.le_refl _),(Below.refl _ _).alloc (Nat.le_refl _) _⟩
 case round =>
  obtain ⟨k,hk,rfl,hrows,hbr⟩:=hrel
  by_cases hlt:k < fn
  ·obtain ⟨x,hxk⟩:=get_of_lt (xs:=FS) (k:=k) (by rw [HFN.out];exact hlt)
   have hltk:=nat_of_lt hlt
   have GS:=hide (flatMap_take_succ (fun f=>OS.map (Xc.mk f ·)) hxk)
   have HGL:Hid (((FS.take k).flatMap fun f=>OS.map (Xc.mk f ·)).length≤3000):=hide (by
    have h1:=flatMap_length_le (fun f=>OS.map (Xc.mk f ·)) OS.length (FS.take k) (fun f _=>by rw [List.length_map];exact Nat.le_refl _)
    have h2:=HAL.out
    have h3:(FS.take k).length * OS.length≤FS.length * OS.length:=Nat.mul_le_mul_right _ (by rw [List.length_take];omega)
    omega)
   have HXK:=hide hxk
   have HXL:=hide (HFW.out x (List.mem_of_getElem? hxk))
   generalize ((FS.take k).flatMap fun f=>OS.map (Xc.mk f ·))=G at *
   have HRO:=hide hrows;have HBR:=hide hbr
   clear hrows hbr hxk
   go_wp2_with fail
   go_loopw [6,8] (fun s i wr => ∃ j:Nat,j≤on∧i = .int .i64 j∧RowsX wr w4.heap.size s (G++(OS.take j).map (Xc.mk x ·))∧Below w4.heap.size w4 wr) (fun _ i _=>on - (intOf i).toNat)
   case atStart=>exact ⟨0,Nat.zero_le _,rfl,by rw [List.take_zero,List.map_nil,List.append_nil];exact HRO.out,HBR.out⟩
   case round =>
    obtain ⟨j,hj,rfl,hrows,hbr⟩:=hrel
    by_cases hltj:j < on
    ·obtain ⟨o,hoj⟩:=get_of_lt (xs:=OS) (k:=j) (by rw [HON.out];exact hltj)
     have hltj':=nat_of_lt hltj
     obtain ⟨⟨sa,sn,sc⟩,g,hga,hg,g0,hrep⟩:=RowsI.row (OwnF.below HFS4.out hbr) HXK.out
     obtain ⟨⟨ta,tn,tc⟩,uss,g2,p1,p2,hga2,hg2,h0,hphi⟩:=RowsO.row (OwnF.below HOS.out hbr) hoj
     subst hga;subst hga2
     have RS:Hid (G++(OS.take (j+1)).map (Xc.mk x ·)=(G++(OS.take j).map (Xc.mk x ·))++[⟨x,o⟩]):=hide (by rw [map_take_succ (Xc.mk x ·) hoj,List.append_assoc])
     have hX:RepX wr (.slice sa sn sc) (.slice ta tn tc) ⟨x,o⟩:=⟨hrep,hphi.now.rep2⟩
     have HC:=hide (fun W (hb:Below wr.heap.size wr W)=>l6Copy_any _ _ ⟨x,o⟩ W (hX.below hb) (show x.length≤_ by rw [HXL.out];omega) (show o.length≤_ by rw [HOW.out o (List.mem_of_getElem? hoj)];omega) (fun r hr=>by have:=HOI.out o (List.mem_of_getElem? hoj) r hr;omega))
     have hlen:(G++(OS.take j).map (Xc.mk x ·)).length≤68719476736:=by
      rw [List.length_append,List.length_map,List.length_take]
      have:=HGL.out;omega
     obtain ⟨us,ds,hU⟩:=hrows
     have HUL:Hid (us.length≤68719476736):=hide (by rw [hU.lu];exact hlen)
     have HU:=hide hU;have HBR:=hide hbr
     have hbs:w4.heap.size≤wr.heap.size:=hbr.size
     have hg4:g < w4.heap.size:=by
      obtain ⟨-,g',hga',hgc, -⟩:=RowsI.row HFS4.out HXK.out
      simp at hga';omega
     have hg5:g2 < w4.heap.size:=by
      obtain ⟨-, -,g', -, -,hga',hgc, -⟩:=RowsO.row HOS.out hoj
      simp at hga';omega
     have HG4:=hide hg4;have HG5:=hide hg5
     generalize G++(OS.take j).map (Xc.mk x ·)=GG at *
     clear hoj hlen hU hbr hX hrep hphi hg4 hg5
     go_wp2_with fail
     go_region_held3 (fun V=>V.cell? ⟨g,k,none⟩=some (.slice sa sn sc)∧V.cell? ⟨g2,j,none⟩=some (.slice ta tn tc)) ((simp [go_sem, *]))
      (first
       | (go_at_call 112;(with_reducible refine (HC.out _ (Below.refl _ _).drew).mono ?_);rintro e w6 ⟨⟨f1,f2,f3⟩,⟨o1,o2,o3⟩,rfl,hof,hos,hb6⟩;have HLO:=hide (own_loc hof hos);have B6:=hide ((Below.refl wr.heap.size wr).drew.trans (hb6.mono (by simp)));obtain ⟨hc6,hf6⟩:=bcell B6.out;have hb7:=B6.out.size;have hz6:g < w6.heap.size:=(Nat.lt_of_lt_of_le hg hb7);have hz7:g2 < w6.heap.size:=(Nat.lt_of_lt_of_le hg2 hb7);clear hof hos hb6)
       | (refine step_app XE 29 Tryz.infoExecY rfl Tryz.underlying54 w4.heap.size _ us ⟨⟨f1,f2,f3⟩,⟨o1,o2,o3⟩⟩ ((HU.out.own.below B6.out).alloc _) (by decide) HUL.out (by simp;omega) (by rfl) _ _ (by rfl) (by rfl) w6.heap.size 0 1 (by rfl) news_alloc ?_;intro v8 w8 hown8 hgr8;have hk8:(∀ o,w8.cell? ⟨g,o,none⟩=wr.cell? ⟨g,o,none⟩):=(fun o=>(kept_cell hgr8 (by omega) (fun q hq=>by have:=(World.ownsRow.lt HU.out.own q hq).1;have:=HG4.out;omega) o).trans (hc6 _ _ hg));have hk9:(∀ o,w8.cell? ⟨g2,o,none⟩=wr.cell? ⟨g2,o,none⟩):=(fun o=>(kept_cell hgr8 (by omega) (fun q hq=>by have:=(World.ownsRow.lt HU.out.own q hq).1;have:=HG5.out;omega) o).trans (hc6 _ _ hg2))))
     all_goals
      have R8:=RowsX.app HU.out B6.out hbs (s:=⟨⟨f1,f2,f3⟩,⟨o1,o2,o3⟩⟩) (x:=⟨x,o⟩) HLO.out hown8 hgr8
      have B8:=(HBR.out.trans (B6.out.mono hbs)).alloc (by omega) (.cells #[.slice f1 f2 f3, .slice o1 o2 o3] 29)
      have B9:=B8.grown hgr8 (by simp;omega) (fun q hq=>(World.ownsRow.lt HU.out.own q hq).1)
      have HR8:=hide R8;have HB9:=hide B9
      clear R8 B8 B9
      go_wp2_with fail
      go_roundw
      case rel=>exact ⟨j+1,by omega,by go_num,by rw [RS.out];exact HR8.out,HB9.out⟩
      case measure=>simp [intOf];omega
    ·obtain rfl:j=on:=by omega
     rw [List.take_of_length_le (by rw [HON.out];exact Nat.le_refl _),← GS.out] at hrows
     go_wp2_with fail
     go_roundw
     case rel=>exact ⟨k+1,by omega,by go_num,hrows,hbr⟩
     case measure=>simp [intOf];omega
  ·obtain rfl:k=fn:=by omega
   obtain ⟨us,ds,hU⟩:=hrows
   obtain ⟨⟨qa,qn,qc⟩,rfl, -⟩:=hU.own.toSlc
   have hrows:RowsX _ _ _ _:=⟨us,ds,hU⟩
   clear hU
   go_wp2_with fail
   go_ret
   refine ⟨⟨qa,qn,qc⟩,rfl, ?_, ?_⟩
   ·rw [HA.out]
    have h:=hrows
    rw [List.take_of_length_le (by rw [HFN.out];exact Nat.le_refl _)] at h
    exact h.mono HB4.out.size
   ·exact HB4.out.trans (hbr.mono HB4.out.size)
end Go.Proofs.YtkfhgnkonaafgaaGreatDoor
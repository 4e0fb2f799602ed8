/-
  Arguments that are bytes, as the laws take them.
-/
import Derived.Test.YtlddmagfbcomgaaGreatZq00
import Derived.Laws.BytesArg
import Derived.OrdersIn
import Derived.Orders
import Derived.Sort.Statements
import Derived.Test.YtlddmagfbcomgaaGreatRows
import Derived.ProofKit
import Derived.Deep.Slices
set_option maxHeartbeats 6400000
set_option maxRecDepth 100000
namespace Go.Proofs.YtlddmagfbcomgaaGreat
def inR (x hi:Int):Bool:=decide (0≤x)&&decide (x≤hi)
def nodeR (o t p x:Int) (n:Nat):Bool:=
 if o=1 then inR t 2&&inR p 2&&inR x 3&&decide (n=0)
 else if o=2 then decide (t=0)&&inR p 2&&inR x 3&&decide (n=0)
 else if o=3∨o=4 then decide (t=0)&&decide (p=0)&&decide (x=0)&&decide (n=2)
 else decide (o=5)&&decide (t=0)&&decide (p=0)&&decide (x=0)&&decide (n=1)
def nodeB (c:Cd):Bool:=nodeR c.op c.th c.pl c.val c.kids.length
def shapeF:Nat→Cd→Bool
 | 0,_=>false
 | d+1,c=>nodeB c&&c.kids.all (shapeF d)
def nodes (c:Cd):Nat:=descs c.kids+1
def validC (c:Cd):Bool:=shapeF 10 c&&decide (nodes c≤30)
theorem shapeF_succ (d:Nat) (c:Cd):shapeF (d+1) c=true↔nodeB c=true∧∀ k∈c.kids,shapeF d k=true:=by
 simp [shapeF]
structure SzOK (d:Nat) (c:Cd) (r:Int):Prop where
 low:1≤r
 high:r≤31+30 * d
 iff:r≤30↔(shapeF d c=true∧nodes c≤30)
 eq:r≤30→r=nodes c
theorem SzOK.bad0 (c:Cd):SzOK 0 c 31:=⟨by omega,by omega,by simp [shapeF],by omega⟩
theorem SzOK.bad {d:Nat} {c:Cd} (h:nodeB c=false):SzOK (d+1) c 31:=⟨by omega,by omega,by
 constructor
 ·intro h;omega
 ·rintro ⟨h1,_⟩
  rw [shapeF_succ,h] at h1
  simp at h1,by omega⟩
structure SzTo (d:Nat) (ks:List Cd) (k:Nat) (r:Int):Prop where
 eq:r=1+descs (ks.take k)
 le:r≤30
 all:∀ c∈ks.take k,shapeF d c=true
theorem SzTo.zero (d:Nat) (ks:List Cd):SzTo d ks 0 1:=⟨by simp [descs],by omega,by simp⟩
theorem SzTo.low {d:Nat} {ks:List Cd} {k:Nat} {r:Int} (h:SzTo d ks k r):1≤r:=by have:=h.eq;omega
theorem SzTo.next {d:Nat} {ks:List Cd} {k:Nat} {r r':Int} {x:Cd} (h:SzTo d ks k r) (hx:ks[k]? = some x) (hr:SzOK d x r') (hle:r+r'≤30):SzTo d ks (k+1) (r+r'):=by
 have h1:=h.low
 have h2:=hr.eq (by omega)
 obtain ⟨h3,h4⟩:=hr.iff.1 (by omega)
 refine ⟨?_,hle, ?_⟩
 ·rw [descs_take_succ hx,h.eq,h2];unfold nodes;omega
 ·intro c hc
  rw [List.take_add_one,hx] at hc
  simp at hc
  rcases hc with hc | rfl
  ·exact h.all c hc
  ·exact h3
theorem SzTo.more {d:Nat} {c:Cd} {k:Nat} {r r':Int} {x:Cd} (h:SzTo d c.kids k r) (hx:c.kids[k]? = some x) (hr:SzOK d x r') (hgt:¬ r+r'≤30):SzOK (d+1) c (r+r'):=by
 have h1:=h.low
 have h0:=hr.low
 have h5:=hr.high
 refine ⟨by omega,by have:=h.le;omega,⟨fun h=>absurd h hgt, ?_⟩,fun h=>absurd h hgt⟩
 rintro ⟨hs,hn⟩
 exfalso
 apply hgt
 rw [shapeF_succ] at hs
 have hm:=List.mem_of_getElem? hx
 have hk:=descs_kid hx
 have h6:=hr.iff.2 ⟨hs.2 x hm,by unfold nodes at hn ⊢;omega⟩
 have h7:=hr.eq h6
 rw [h.eq,h7]
 unfold nodes at hn ⊢;omega
theorem SzTo.done {d:Nat} {c:Cd} {k:Nat} {r:Int} (h:SzTo d c.kids k r) (hn:nodeB c=true) (hk:c.kids.length≤k):SzOK (d+1) c r:=by
 have h1:=h.low
 have h2:=h.le
 have h3:=h.eq
 have h4:=h.all
 rw [List.take_of_length_le hk] at h3 h4
 exact ⟨h1,by omega,⟨fun _=>⟨(shapeF_succ d c).2 ⟨hn,h4⟩,by unfold nodes;omega⟩,fun _=>h2⟩,fun _=>by unfold nodes;omega⟩
theorem SzOK.valid {c:Cd} {r:Int} (h:SzOK 10 c r):decide (r≤30)=validC c:=by
 unfold validC
 rw [Bool.eq_iff_iff]
 simp [h.iff]
structure CnOK (c:Cd) (m r:Int):Prop where
 low:1≤r
 high:r≤nodes c
 eq:r≤m→r=nodes c
structure CnTo (ks:List Cd) (m:Int) (k:Nat) (r:Int):Prop where
 low:1≤r
 high:r≤1+descs (ks.take k)
 eq:r≤m→r=1+descs (ks.take k)
theorem CnTo.zero (ks:List Cd) (m:Int):CnTo ks m 0 1:=⟨by omega,by omega,fun _=>by simp [descs]⟩
theorem CnTo.next {ks:List Cd} {m:Int} {k:Nat} {r r':Int} {x:Cd} (h:CnTo ks m k r) (hx:ks[k]? = some x) (hm:r≤m) (hr:CnOK x (m - r) r'):CnTo ks m (k+1) (r+r'):=by
 have h1:=h.low;have h2:=h.high;have h3:=h.eq hm
 have h4:=hr.low;have h5:=hr.high
 unfold nodes at h5
 refine ⟨by omega,by rw [descs_take_succ hx];omega,fun hle => ?_⟩
 have:=hr.eq (by omega)
 unfold nodes at this
 rw [descs_take_succ hx];omega
theorem CnTo.done {c:Cd} {m:Int} {k:Nat} {r:Int} (h:CnTo c.kids m k r) (hk:c.kids.length≤k∨¬ r≤m):CnOK c m r:=by
 have h1:=h.low;have h2:=h.high;have h3:=descs_take_le c.kids k
 refine ⟨h1,by unfold nodes;omega,fun hm => ?_⟩
 rcases hk with hk | hk
 ·have:=h.eq hm
  rw [List.take_of_length_le hk] at this
  unfold nodes;omega
 ·exact absurd hm hk
theorem CnOK.le {c:Cd} {r:Int} (h:CnOK c 30 r):decide (r≤30)=decide (nodes c≤30):=by
 have h1:=h.high
 rw [Bool.eq_iff_iff]
 simp only [decide_eq_true_eq]
 constructor
 ·intro hr;have:=h.eq hr;omega
 ·intro hn;omega
end Go.Proofs.YtlddmagfbcomgaaGreat
namespace Go.Proofs.YtlddmagfbcomgaaGreat
open Go.RowKit
theorem nat_eq_int (n k:Nat):((n:Int)==(k:Int))=decide (n=k):=by rw [Bool.eq_iff_iff];simp only [beq_iff_eq,decide_eq_true_eq];omega
theorem nodeR_1 (t p x:Int) (n:Nat):nodeR 1 t p x n=(inB t 0 2&&(inB p 0 2&&(inB x 0 3&&((n:Int)==((0:Nat):Int))))):=by
 rw [nat_eq_int];simp [nodeR,inR,inB,Bool.and_assoc]
theorem nodeR_2 (t p x:Int) (n:Nat):nodeR 2 t p x n=((t==0)&&(inB p 0 2&&(inB x 0 3&&((n:Int)==((0:Nat):Int))))):=by
 rw [nat_eq_int];simp [nodeR,inR,inB,Bool.and_assoc];rw [show (t==0)=decide (t=0) from rfl]
theorem nodeR_3 (o t p x:Int) (n:Nat) (h:o=3∨o=4):nodeR o t p x n=((t==0)&&((p==0)&&((x==0)&&((n:Int)==((2:Nat):Int))))):=by
 rw [nat_eq_int]
 rcases h with rfl | rfl <;> simp [nodeR,Bool.and_assoc] <;> rfl
theorem nodeR_5 (t p x:Int) (n:Nat):nodeR 5 t p x n=((t==0)&&((p==0)&&((x==0)&&((n:Int)==((1:Nat):Int))))):=by
 rw [nat_eq_int];simp [nodeR,Bool.and_assoc];rfl
theorem nodeR_0 (o t p x:Int) (n:Nat) (h1:o≠1) (h2:o≠2) (h3:o≠3) (h4:o≠4) (h5:o≠5):nodeR o t p x n=false:=by
 simp [nodeR,h1,h2,h3,h4,h5]
theorem isCondNode_raw (o t p x:Int) (a:Option Addr) (n c:Nat) (w:World) :
 Calls Tryz.prog 137 #[.agg #[.int .i64 o, .int .i64 t, .int .i64 p, .int .i64 x, .slice a n c]] w fun e w'=>e = .returned (.bool (nodeR o t p x n))∧Below w.heap.size w w':=by
 have HB:=hide ((Below.refl w.heap.size w).alloc (Nat.le_refl _) (.cells #[.int .i64 o, .int .i64 t, .int .i64 p, .int .i64 x, .slice a n c] 45))
 by_cases h1:o=1
 ·subst h1
  have E:=hide (nodeR_1 t p x n)
  generalize nodeR 1 t p x n=R at *
  have HA:=hide (fun w'=>within_any t 0 2 w')
  generalize inB t 0 2=A at *
  have HBB:=hide (fun w'=>within_any p 0 2 w')
  generalize inB p 0 2=B at *
  have HC:=hide (fun w'=>within_any x 0 3 w')
  generalize inB x 0 3=C at *
  cases A
  ·go_enter Tryz.func137,Tryz.ntmps137
   go_wp2_with (first | (go_at_call 86;(with_reducible refine (HA.out _).mono ?_);rintro e w1 ⟨rfl,rfl⟩) | (go_at_call 86;(with_reducible refine (HBB.out _).mono ?_);rintro e w1 ⟨rfl,rfl⟩) | (go_at_call 86;(with_reducible refine (HC.out _).mono ?_);rintro e w1 ⟨rfl,rfl⟩))
   go_ret
   exact ⟨by rw [E.out];rfl,HB.out⟩
  ·cases B
   ·go_enter Tryz.func137,Tryz.ntmps137
    go_wp2_with (first | (go_at_call 86;(with_reducible refine (HA.out _).mono ?_);rintro e w1 ⟨rfl,rfl⟩) | (go_at_call 86;(with_reducible refine (HBB.out _).mono ?_);rintro e w1 ⟨rfl,rfl⟩) | (go_at_call 86;(with_reducible refine (HC.out _).mono ?_);rintro e w1 ⟨rfl,rfl⟩))
    go_ret
    exact ⟨by rw [E.out];rfl,HB.out⟩
   ·cases C
    ·go_enter Tryz.func137,Tryz.ntmps137
     go_wp2_with (first | (go_at_call 86;(with_reducible refine (HA.out _).mono ?_);rintro e w1 ⟨rfl,rfl⟩) | (go_at_call 86;(with_reducible refine (HBB.out _).mono ?_);rintro e w1 ⟨rfl,rfl⟩) | (go_at_call 86;(with_reducible refine (HC.out _).mono ?_);rintro e w1 ⟨rfl,rfl⟩))
     go_ret
     exact ⟨by rw [E.out];rfl,HB.out⟩
    ·go_enter Tryz.func137,Tryz.ntmps137
     go_wp2_with (first | (go_at_call 86;(with_reducible refine (HA.out _).mono ?_);rintro e w1 ⟨rfl,rfl⟩) | (go_at_call 86;(with_reducible refine (HBB.out _).mono ?_);rintro e w1 ⟨rfl,rfl⟩) | (go_at_call 86;(with_reducible refine (HC.out _).mono ?_);rintro e w1 ⟨rfl,rfl⟩))
     go_ret
     exact ⟨by rw [E.out];rfl,HB.out⟩
 by_cases h2:o=2
 ·subst h2
  have E:=hide (nodeR_2 t p x n)
  generalize nodeR 2 t p x n=R at *
  generalize hA:(t==0)=A at *
  have HBB:=hide (fun w'=>within_any p 0 2 w')
  generalize inB p 0 2=B at *
  have HC:=hide (fun w'=>within_any x 0 3 w')
  generalize inB x 0 3=C at *
  cases A
  ·go_enter Tryz.func137,Tryz.ntmps137
   go_wp2_with (first | (go_at_call 86;(with_reducible refine (HBB.out _).mono ?_);rintro e w1 ⟨rfl,rfl⟩) | (go_at_call 86;(with_reducible refine (HC.out _).mono ?_);rintro e w1 ⟨rfl,rfl⟩))
   go_ret
   exact ⟨by rw [E.out];rfl,HB.out⟩
  ·cases B
   ·go_enter Tryz.func137,Tryz.ntmps137
    go_wp2_with (first | (go_at_call 86;(with_reducible refine (HBB.out _).mono ?_);rintro e w1 ⟨rfl,rfl⟩) | (go_at_call 86;(with_reducible refine (HC.out _).mono ?_);rintro e w1 ⟨rfl,rfl⟩))
    go_ret
    exact ⟨by rw [E.out];rfl,HB.out⟩
   ·cases C
    ·go_enter Tryz.func137,Tryz.ntmps137
     go_wp2_with (first | (go_at_call 86;(with_reducible refine (HBB.out _).mono ?_);rintro e w1 ⟨rfl,rfl⟩) | (go_at_call 86;(with_reducible refine (HC.out _).mono ?_);rintro e w1 ⟨rfl,rfl⟩))
     go_ret
     exact ⟨by rw [E.out];rfl,HB.out⟩
    ·go_enter Tryz.func137,Tryz.ntmps137
     go_wp2_with (first | (go_at_call 86;(with_reducible refine (HBB.out _).mono ?_);rintro e w1 ⟨rfl,rfl⟩) | (go_at_call 86;(with_reducible refine (HC.out _).mono ?_);rintro e w1 ⟨rfl,rfl⟩))
     go_ret
     exact ⟨by rw [E.out];rfl,HB.out⟩
 by_cases h3:o=3
 ·subst h3
  have E:=hide (nodeR_3 3 t p x n (.inl rfl))
  generalize nodeR 3 t p x n=R at *
  generalize hA:(t==0)=A at *
  generalize hB:(p==0)=B at *
  generalize hC:(x==0)=C at *
  cases A
  ·go_enter Tryz.func137,Tryz.ntmps137
   go_wp2_with fail
   go_ret
   exact ⟨by rw [E.out];rfl,HB.out⟩
  ·cases B
   ·go_enter Tryz.func137,Tryz.ntmps137
    go_wp2_with fail
    go_ret
    exact ⟨by rw [E.out];rfl,HB.out⟩
   ·cases C
    ·go_enter Tryz.func137,Tryz.ntmps137
     go_wp2_with fail
     go_ret
     exact ⟨by rw [E.out];rfl,HB.out⟩
    ·go_enter Tryz.func137,Tryz.ntmps137
     go_wp2_with fail
     go_ret
     exact ⟨by rw [E.out];rfl,HB.out⟩
 by_cases h4:o=4
 ·subst h4
  have E:=hide (nodeR_3 4 t p x n (.inr rfl))
  generalize nodeR 4 t p x n=R at *
  generalize hA:(t==0)=A at *
  generalize hB:(p==0)=B at *
  generalize hC:(x==0)=C at *
  cases A
  ·go_enter Tryz.func137,Tryz.ntmps137
   go_wp2_with fail
   go_ret
   exact ⟨by rw [E.out];rfl,HB.out⟩
  ·cases B
   ·go_enter Tryz.func137,Tryz.ntmps137
    go_wp2_with fail
    go_ret
    exact ⟨by rw [E.out];rfl,HB.out⟩
   ·cases C
    ·go_enter Tryz.func137,Tryz.ntmps137
     go_wp2_with fail
     go_ret
     exact ⟨by rw [E.out];rfl,HB.out⟩
    ·go_enter Tryz.func137,Tryz.ntmps137
     go_wp2_with fail
     go_ret
     exact ⟨by rw [E.out];rfl,HB.out⟩
 by_cases h5:o=5
 ·subst h5
  have E:=hide (nodeR_5 t p x n)
  generalize nodeR 5 t p x n=R at *
  generalize hA:(t==0)=A at *
  generalize hB:(p==0)=B at *
  generalize hC:(x==0)=C at *
  cases A
  ·go_enter Tryz.func137,Tryz.ntmps137
   go_wp2_with fail
   go_ret
   exact ⟨by rw [E.out];rfl,HB.out⟩
  ·cases B
   ·go_enter Tryz.func137,Tryz.ntmps137
    go_wp2_with fail
    go_ret
    exact ⟨by rw [E.out];rfl,HB.out⟩
   ·cases C
    ·go_enter Tryz.func137,Tryz.ntmps137
     go_wp2_with fail
     go_ret
     exact ⟨by rw [E.out];rfl,HB.out⟩
    ·go_enter Tryz.func137,Tryz.ntmps137
     go_wp2_with fail
     go_ret
     exact ⟨by rw [E.out];rfl,HB.out⟩
 have E:=hide (nodeR_0 o t p x n h1 h2 h3 h4 h5)
 generalize nodeR o t p x n=R at *
 have g1:(o==1)=false:=by simp [h1]
 have g2:(o==2)=false:=by simp [h2]
 have g3:(o==3)=false:=by simp [h3]
 have g4:(o==4)=false:=by simp [h4]
 have g5:(o==5)=false:=by simp [h5]
 clear h1 h2 h3 h4 h5
 go_enter Tryz.func137,Tryz.ntmps137
 go_wp2_with fail
 go_ret
 exact ⟨by rw [E.out];rfl,HB.out⟩
theorem l11Kids_1 (w:World):Calls Tryz.prog 200 #[.int .i64 1] w fun e w'=>e = .returned (.int .i64 0)∧w=w':=by
 go_enter Tryz.func200,Tryz.ntmps200
 go_wp2
 go_ret
 exact ⟨rfl,rfl⟩
theorem l11Kids_2 (w:World):Calls Tryz.prog 200 #[.int .i64 2] w fun e w'=>e = .returned (.int .i64 0)∧w=w':=by
 go_enter Tryz.func200,Tryz.ntmps200
 go_wp2
 go_ret
 exact ⟨rfl,rfl⟩
theorem l11Kids_3 (w:World):Calls Tryz.prog 200 #[.int .i64 3] w fun e w'=>e = .returned (.int .i64 2)∧w=w':=by
 go_enter Tryz.func200,Tryz.ntmps200
 go_wp2
 go_ret
 exact ⟨rfl,rfl⟩
theorem l11Kids_4 (w:World):Calls Tryz.prog 200 #[.int .i64 4] w fun e w'=>e = .returned (.int .i64 2)∧w=w':=by
 go_enter Tryz.func200,Tryz.ntmps200
 go_wp2
 go_ret
 exact ⟨rfl,rfl⟩
theorem l11Kids_5 (w:World):Calls Tryz.prog 200 #[.int .i64 5] w fun e w'=>e = .returned (.int .i64 1)∧w=w':=by
 go_enter Tryz.func200,Tryz.ntmps200
 go_wp2
 go_ret
 exact ⟨rfl,rfl⟩
theorem l11Kids_0 (o:Int) (w:World) (g1:(o==1)=false) (g2:(o==2)=false) (g3:(o==3)=false) (g4:(o==4)=false) (g5:(o==5)=false):Calls Tryz.prog 200 #[.int .i64 o] w fun e w'=>e = .returned (.int .i64 (-1))∧w=w':=by
 go_enter Tryz.func200,Tryz.ntmps200
 go_wp2_with fail
 go_ret
 exact ⟨rfl,rfl⟩
theorem l11Own_raw (o t p x:Int) (a:Option Addr) (n c:Nat) (w:World) :
 Calls Tryz.prog 176 #[.agg #[.int .i64 o, .int .i64 t, .int .i64 p, .int .i64 x, .slice a n c]] w fun e w'=>e = .returned (.bool (nodeR o t p x n))∧Below w.heap.size w w':=by
 have HB:=hide ((Below.refl w.heap.size w).alloc (Nat.le_refl _) (.cells #[.int .i64 o, .int .i64 t, .int .i64 p, .int .i64 x, .slice a n c] 45))
 by_cases h1:o=1
 ·subst h1
  have E0:=hide (nodeR_1 t p x n)
  generalize nodeR 1 t p x n=R at *
  have HA:=hide (fun w'=>l1In_any t 2 w')
  generalize inB t 0 2=A at *
  have HBB:=hide (fun w'=>l1In_any p 2 w')
  generalize inB p 0 2=B at *
  have HC:=hide (fun w'=>l1In_any x 3 w')
  generalize inB x 0 3=C at *
  by_cases hn:n=0
  ·subst hn
   have E:Hid (R=(A&&(B&&C))):=hide (by rw [E0.out];simp)
   cases A
   ·go_enter Tryz.func176,Tryz.ntmps176
    go_wp2_with fail
    refine wp_region_bw (by kernel_rfl) (by kernel_rfl) ?_
    repeat (go_big_quiet_step ((go_at_call 200;exact Calls.bw_same (l11Kids_1 _))))
    refine wpQuiet_nil ?_
    intro w1 hb1
    obtain ⟨hc1,hf1⟩:=bcell hb1
    have HB1:=hide hb1;clear hb1
    go_wp2_with (first | (go_at_call 132;(with_reducible refine (HA.out _).mono ?_);rintro e w2 ⟨rfl,rfl⟩) | (go_at_call 132;(with_reducible refine (HBB.out _).mono ?_);rintro e w2 ⟨rfl,rfl⟩) | (go_at_call 132;(with_reducible refine (HC.out _).mono ?_);rintro e w2 ⟨rfl,rfl⟩))
    go_ret
    exact ⟨by rw [E.out];rfl,HB.out.trans (HB1.out.mono HB.out.size)⟩
   ·cases B
    ·go_enter Tryz.func176,Tryz.ntmps176
     go_wp2_with fail
     refine wp_region_bw (by kernel_rfl) (by kernel_rfl) ?_
     repeat (go_big_quiet_step ((go_at_call 200;exact Calls.bw_same (l11Kids_1 _))))
     refine wpQuiet_nil ?_
     intro w1 hb1
     obtain ⟨hc1,hf1⟩:=bcell hb1
     have HB1:=hide hb1;clear hb1
     go_wp2_with (first | (go_at_call 132;(with_reducible refine (HA.out _).mono ?_);rintro e w2 ⟨rfl,rfl⟩) | (go_at_call 132;(with_reducible refine (HBB.out _).mono ?_);rintro e w2 ⟨rfl,rfl⟩) | (go_at_call 132;(with_reducible refine (HC.out _).mono ?_);rintro e w2 ⟨rfl,rfl⟩))
     go_ret
     exact ⟨by rw [E.out];rfl,HB.out.trans (HB1.out.mono HB.out.size)⟩
    ·cases C
     ·go_enter Tryz.func176,Tryz.ntmps176
      go_wp2_with fail
      refine wp_region_bw (by kernel_rfl) (by kernel_rfl) ?_
      repeat (go_big_quiet_step ((go_at_call 200;exact Calls.bw_same (l11Kids_1 _))))
      refine wpQuiet_nil ?_
      intro w1 hb1
      obtain ⟨hc1,hf1⟩:=bcell hb1
      have HB1:=hide hb1;clear hb1
      go_wp2_with (first | (go_at_call 132;(with_reducible refine (HA.out _).mono ?_);rintro e w2 ⟨rfl,rfl⟩) | (go_at_call 132;(with_reducible refine (HBB.out _).mono ?_);rintro e w2 ⟨rfl,rfl⟩) | (go_at_call 132;(with_reducible refine (HC.out _).mono ?_);rintro e w2 ⟨rfl,rfl⟩))
      go_ret
      exact ⟨by rw [E.out];rfl,HB.out.trans (HB1.out.mono HB.out.size)⟩
     ·go_enter Tryz.func176,Tryz.ntmps176
      go_wp2_with fail
      refine wp_region_bw (by kernel_rfl) (by kernel_rfl) ?_
      repeat (go_big_quiet_step ((go_at_call 200;exact Calls.bw_same (l11Kids_1 _))))
      refine wpQuiet_nil ?_
      intro w1 hb1
      obtain ⟨hc1,hf1⟩:=bcell hb1
      have HB1:=hide hb1;clear hb1
      go_wp2_with (first | (go_at_call 132;(with_reducible refine (HA.out _).mono ?_);rintro e w2 ⟨rfl,rfl⟩) | (go_at_call 132;(with_reducible refine (HBB.out _).mono ?_);rintro e w2 ⟨rfl,rfl⟩) | (go_at_call 132;(with_reducible refine (HC.out _).mono ?_);rintro e w2 ⟨rfl,rfl⟩))
      go_ret
      exact ⟨by rw [E.out];rfl,HB.out.trans (HB1.out.mono HB.out.size)⟩
  ·have gn:((n:Int) != 0)=true:=by simp;omega
   have E:Hid (R=false):=hide (by rw [E0.out,nat_eq_int];simp [hn])
   clear hn
   go_enter Tryz.func176,Tryz.ntmps176
   go_wp2_with fail
   refine wp_region_bw (by kernel_rfl) (by kernel_rfl) ?_
   repeat (go_big_quiet_step ((go_at_call 200;exact Calls.bw_same (l11Kids_1 _))))
   refine wpQuiet_nil ?_
   intro w1 hb1
   obtain ⟨hc1,hf1⟩:=bcell hb1
   have HB1:=hide hb1;clear hb1
   go_wp2_with fail
   go_ret
   exact ⟨by rw [E.out];rfl,HB.out.trans (HB1.out.mono HB.out.size)⟩
 by_cases h2:o=2
 ·subst h2
  have E0:=hide (nodeR_2 t p x n)
  generalize nodeR 2 t p x n=R at *
  generalize hA:(t==0)=A at *
  have HBB:=hide (fun w'=>l1In_any p 2 w')
  generalize inB p 0 2=B at *
  have HC:=hide (fun w'=>l1In_any x 3 w')
  generalize inB x 0 3=C at *
  by_cases hn:n=0
  ·subst hn
   have E:Hid (R=(A&&(B&&C))):=hide (by rw [E0.out];simp)
   cases A
   ·go_enter Tryz.func176,Tryz.ntmps176
    go_wp2_with fail
    refine wp_region_bw (by kernel_rfl) (by kernel_rfl) ?_
    repeat (go_big_quiet_step ((go_at_call 200;exact Calls.bw_same (l11Kids_2 _))))
    refine wpQuiet_nil ?_
    intro w1 hb1
    obtain ⟨hc1,hf1⟩:=bcell hb1
    have HB1:=hide hb1;clear hb1
    go_wp2_with (first | (go_at_call 132;(with_reducible refine (HBB.out _).mono ?_);rintro e w2 ⟨rfl,rfl⟩) | (go_at_call 132;(with_reducible refine (HC.out _).mono ?_);rintro e w2 ⟨rfl,rfl⟩))
    go_ret
    exact ⟨by rw [E.out];rfl,HB.out.trans (HB1.out.mono HB.out.size)⟩
   ·cases B
    ·go_enter Tryz.func176,Tryz.ntmps176
     go_wp2_with fail
     refine wp_region_bw (by kernel_rfl) (by kernel_rfl) ?_
     repeat (go_big_quiet_step ((go_at_call 200;exact Calls.bw_same (l11Kids_2 _))))
     refine wpQuiet_nil ?_
     intro w1 hb1
     obtain ⟨hc1,hf1⟩:=bcell hb1
     have HB1:=hide hb1;clear hb1
     go_wp2_with (first | (go_at_call 132;(with_reducible refine (HBB.out _).mono ?_);rintro e w2 ⟨rfl,rfl⟩) | (go_at_call 132;(with_reducible refine (HC.out _).mono ?_);rintro e w2 ⟨rfl,rfl⟩))
     go_ret
     exact ⟨by rw [E.out];rfl,HB.out.trans (HB1.out.mono HB.out.size)⟩
    ·cases C
     ·go_enter Tryz.func176,Tryz.ntmps176
      go_wp2_with fail
      refine wp_region_bw (by kernel_rfl) (by kernel_rfl) ?_
      repeat (go_big_quiet_step ((go_at_call 200;exact Calls.bw_same (l11Kids_2 _))))
      refine wpQuiet_nil ?_
      intro w1 hb1
      obtain ⟨hc1,hf1⟩:=bcell hb1
      have HB1:=hide hb1;clear hb1
      go_wp2_with (first | (go_at_call 132;(with_reducible refine (HBB.out _).mono ?_);rintro e w2 ⟨rfl,rfl⟩) | (go_at_call 132;(with_reducible refine (HC.out _).mono ?_);rintro e w2 ⟨rfl,rfl⟩))
      go_ret
      exact ⟨by rw [E.out];rfl,HB.out.trans (HB1.out.mono HB.out.size)⟩
     ·go_enter Tryz.func176,Tryz.ntmps176
      go_wp2_with fail
      refine wp_region_bw (by kernel_rfl) (by kernel_rfl) ?_
      repeat (go_big_quiet_step ((go_at_call 200;exact Calls.bw_same (l11Kids_2 _))))
      refine wpQuiet_nil ?_
      intro w1 hb1
      obtain ⟨hc1,hf1⟩:=bcell hb1
      have HB1:=hide hb1;clear hb1
      go_wp2_with (first | (go_at_call 132;(with_reducible refine (HBB.out _).mono ?_);rintro e w2 ⟨rfl,rfl⟩) | (go_at_call 132;(with_reducible refine (HC.out _).mono ?_);rintro e w2 ⟨rfl,rfl⟩))
      go_ret
      exact ⟨by rw [E.out];rfl,HB.out.trans (HB1.out.mono HB.out.size)⟩
  ·have gn:((n:Int) != 0)=true:=by simp;omega
   have E:Hid (R=false):=hide (by rw [E0.out,nat_eq_int];simp [hn])
   clear hn
   go_enter Tryz.func176,Tryz.ntmps176
   go_wp2_with fail
   refine wp_region_bw (by kernel_rfl) (by kernel_rfl) ?_
   repeat (go_big_quiet_step ((go_at_call 200;exact Calls.bw_same (l11Kids_2 _))))
   refine wpQuiet_nil ?_
   intro w1 hb1
   obtain ⟨hc1,hf1⟩:=bcell hb1
   have HB1:=hide hb1;clear hb1
   go_wp2_with fail
   go_ret
   exact ⟨by rw [E.out];rfl,HB.out.trans (HB1.out.mono HB.out.size)⟩
 by_cases h3:o=3
 ·subst h3
  have E0:=hide (nodeR_3 3 t p x n (.inl rfl))
  generalize nodeR 3 t p x n=R at *
  generalize hA:(t==0)=A at *
  generalize hB:(p==0)=B at *
  generalize hC:(x==0)=C at *
  by_cases hn:n=2
  ·subst hn
   have E:Hid (R=(A&&(B&&C))):=hide (by rw [E0.out];simp)
   cases A
   ·go_enter Tryz.func176,Tryz.ntmps176
    go_wp2_with fail
    refine wp_region_bw (by kernel_rfl) (by kernel_rfl) ?_
    repeat (go_big_quiet_step ((go_at_call 200;exact Calls.bw_same (l11Kids_3 _))))
    refine wpQuiet_nil ?_
    intro w1 hb1
    obtain ⟨hc1,hf1⟩:=bcell hb1
    have HB1:=hide hb1;clear hb1
    go_wp2_with fail
    go_ret
    exact ⟨by rw [E.out];rfl,HB.out.trans (HB1.out.mono HB.out.size)⟩
   ·cases B
    ·go_enter Tryz.func176,Tryz.ntmps176
     go_wp2_with fail
     refine wp_region_bw (by kernel_rfl) (by kernel_rfl) ?_
     repeat (go_big_quiet_step ((go_at_call 200;exact Calls.bw_same (l11Kids_3 _))))
     refine wpQuiet_nil ?_
     intro w1 hb1
     obtain ⟨hc1,hf1⟩:=bcell hb1
     have HB1:=hide hb1;clear hb1
     go_wp2_with fail
     go_ret
     exact ⟨by rw [E.out];rfl,HB.out.trans (HB1.out.mono HB.out.size)⟩
    ·cases C
     ·go_enter Tryz.func176,Tryz.ntmps176
      go_wp2_with fail
      refine wp_region_bw (by kernel_rfl) (by kernel_rfl) ?_
      repeat (go_big_quiet_step ((go_at_call 200;exact Calls.bw_same (l11Kids_3 _))))
      refine wpQuiet_nil ?_
      intro w1 hb1
      obtain ⟨hc1,hf1⟩:=bcell hb1
      have HB1:=hide hb1;clear hb1
      go_wp2_with fail
      go_ret
      exact ⟨by rw [E.out];rfl,HB.out.trans (HB1.out.mono HB.out.size)⟩
     ·go_enter Tryz.func176,Tryz.ntmps176
      go_wp2_with fail
      refine wp_region_bw (by kernel_rfl) (by kernel_rfl) ?_
      repeat (go_big_quiet_step ((go_at_call 200;exact Calls.bw_same (l11Kids_3 _))))
      refine wpQuiet_nil ?_
      intro w1 hb1
      obtain ⟨hc1,hf1⟩:=bcell hb1
      have HB1:=hide hb1;clear hb1
      go_wp2_with fail
      go_ret
      exact ⟨by rw [E.out];rfl,HB.out.trans (HB1.out.mono HB.out.size)⟩
  ·have gn:((n:Int) != 2)=true:=by simp;omega
   have E:Hid (R=false):=hide (by rw [E0.out,nat_eq_int];simp [hn])
   clear hn
   go_enter Tryz.func176,Tryz.ntmps176
   go_wp2_with fail
   refine wp_region_bw (by kernel_rfl) (by kernel_rfl) ?_
   repeat (go_big_quiet_step ((go_at_call 200;exact Calls.bw_same (l11Kids_3 _))))
   refine wpQuiet_nil ?_
   intro w1 hb1
   obtain ⟨hc1,hf1⟩:=bcell hb1
   have HB1:=hide hb1;clear hb1
   go_wp2_with fail
   go_ret
   exact ⟨by rw [E.out];rfl,HB.out.trans (HB1.out.mono HB.out.size)⟩
 by_cases h4:o=4
 ·subst h4
  have E0:=hide (nodeR_3 4 t p x n (.inr rfl))
  generalize nodeR 4 t p x n=R at *
  generalize hA:(t==0)=A at *
  generalize hB:(p==0)=B at *
  generalize hC:(x==0)=C at *
  by_cases hn:n=2
  ·subst hn
   have E:Hid (R=(A&&(B&&C))):=hide (by rw [E0.out];simp)
   cases A
   ·go_enter Tryz.func176,Tryz.ntmps176
    go_wp2_with fail
    refine wp_region_bw (by kernel_rfl) (by kernel_rfl) ?_
    repeat (go_big_quiet_step ((go_at_call 200;exact Calls.bw_same (l11Kids_4 _))))
    refine wpQuiet_nil ?_
    intro w1 hb1
    obtain ⟨hc1,hf1⟩:=bcell hb1
    have HB1:=hide hb1;clear hb1
    go_wp2_with fail
    go_ret
    exact ⟨by rw [E.out];rfl,HB.out.trans (HB1.out.mono HB.out.size)⟩
   ·cases B
    ·go_enter Tryz.func176,Tryz.ntmps176
     go_wp2_with fail
     refine wp_region_bw (by kernel_rfl) (by kernel_rfl) ?_
     repeat (go_big_quiet_step ((go_at_call 200;exact Calls.bw_same (l11Kids_4 _))))
     refine wpQuiet_nil ?_
     intro w1 hb1
     obtain ⟨hc1,hf1⟩:=bcell hb1
     have HB1:=hide hb1;clear hb1
     go_wp2_with fail
     go_ret
     exact ⟨by rw [E.out];rfl,HB.out.trans (HB1.out.mono HB.out.size)⟩
    ·cases C
     ·go_enter Tryz.func176,Tryz.ntmps176
      go_wp2_with fail
      refine wp_region_bw (by kernel_rfl) (by kernel_rfl) ?_
      repeat (go_big_quiet_step ((go_at_call 200;exact Calls.bw_same (l11Kids_4 _))))
      refine wpQuiet_nil ?_
      intro w1 hb1
      obtain ⟨hc1,hf1⟩:=bcell hb1
      have HB1:=hide hb1;clear hb1
      go_wp2_with fail
      go_ret
      exact ⟨by rw [E.out];rfl,HB.out.trans (HB1.out.mono HB.out.size)⟩
     ·go_enter Tryz.func176,Tryz.ntmps176
      go_wp2_with fail
      refine wp_region_bw (by kernel_rfl) (by kernel_rfl) ?_
      repeat (go_big_quiet_step ((go_at_call 200;exact Calls.bw_same (l11Kids_4 _))))
      refine wpQuiet_nil ?_
      intro w1 hb1
      obtain ⟨hc1,hf1⟩:=bcell hb1
      have HB1:=hide hb1;clear hb1
      go_wp2_with fail
      go_ret
      exact ⟨by rw [E.out];rfl,HB.out.trans (HB1.out.mono HB.out.size)⟩
  ·have gn:((n:Int) != 2)=true:=by simp;omega
   have E:Hid (R=false):=hide (by rw [E0.out,nat_eq_int];simp [hn])
   clear hn
   go_enter Tryz.func176,Tryz.ntmps176
   go_wp2_with fail
   refine wp_region_bw (by kernel_rfl) (by kernel_rfl) ?_
   repeat (go_big_quiet_step ((go_at_call 200;exact Calls.bw_same (l11Kids_4 _))))
   refine wpQuiet_nil ?_
   intro w1 hb1
   obtain ⟨hc1,hf1⟩:=bcell hb1
   have HB1:=hide hb1;clear hb1
   go_wp2_with fail
   go_ret
   exact ⟨by rw [E.out];rfl,HB.out.trans (HB1.out.mono HB.out.size)⟩
 by_cases h5:o=5
 ·subst h5
  have E0:=hide (nodeR_5 t p x n)
  generalize nodeR 5 t p x n=R at *
  generalize hA:(t==0)=A at *
  generalize hB:(p==0)=B at *
  generalize hC:(x==0)=C at *
  by_cases hn:n=1
  ·subst hn
   have E:Hid (R=(A&&(B&&C))):=hide (by rw [E0.out];simp)
   cases A
   ·go_enter Tryz.func176,Tryz.ntmps176
    go_wp2_with fail
    refine wp_region_bw (by kernel_rfl) (by kernel_rfl) ?_
    repeat (go_big_quiet_step ((go_at_call 200;exact Calls.bw_same (l11Kids_5 _))))
    refine wpQuiet_nil ?_
    intro w1 hb1
    obtain ⟨hc1,hf1⟩:=bcell hb1
    have HB1:=hide hb1;clear hb1
    go_wp2_with fail
    go_ret
    exact ⟨by rw [E.out];rfl,HB.out.trans (HB1.out.mono HB.out.size)⟩
   ·cases B
    ·go_enter Tryz.func176,Tryz.ntmps176
     go_wp2_with fail
     refine wp_region_bw (by kernel_rfl) (by kernel_rfl) ?_
     repeat (go_big_quiet_step ((go_at_call 200;exact Calls.bw_same (l11Kids_5 _))))
     refine wpQuiet_nil ?_
     intro w1 hb1
     obtain ⟨hc1,hf1⟩:=bcell hb1
     have HB1:=hide hb1;clear hb1
     go_wp2_with fail
     go_ret
     exact ⟨by rw [E.out];rfl,HB.out.trans (HB1.out.mono HB.out.size)⟩
    ·cases C
     ·go_enter Tryz.func176,Tryz.ntmps176
      go_wp2_with fail
      refine wp_region_bw (by kernel_rfl) (by kernel_rfl) ?_
      repeat (go_big_quiet_step ((go_at_call 200;exact Calls.bw_same (l11Kids_5 _))))
      refine wpQuiet_nil ?_
      intro w1 hb1
      obtain ⟨hc1,hf1⟩:=bcell hb1
      have HB1:=hide hb1;clear hb1
      go_wp2_with fail
      go_ret
      exact ⟨by rw [E.out];rfl,HB.out.trans (HB1.out.mono HB.out.size)⟩
     ·go_enter Tryz.func176,Tryz.ntmps176
      go_wp2_with fail
      refine wp_region_bw (by kernel_rfl) (by kernel_rfl) ?_
      repeat (go_big_quiet_step ((go_at_call 200;exact Calls.bw_same (l11Kids_5 _))))
      refine wpQuiet_nil ?_
      intro w1 hb1
      obtain ⟨hc1,hf1⟩:=bcell hb1
      have HB1:=hide hb1;clear hb1
      go_wp2_with fail
      go_ret
      exact ⟨by rw [E.out];rfl,HB.out.trans (HB1.out.mono HB.out.size)⟩
  ·have gn:((n:Int) != 1)=true:=by simp;omega
   have E:Hid (R=false):=hide (by rw [E0.out,nat_eq_int];simp [hn])
   clear hn
   go_enter Tryz.func176,Tryz.ntmps176
   go_wp2_with fail
   refine wp_region_bw (by kernel_rfl) (by kernel_rfl) ?_
   repeat (go_big_quiet_step ((go_at_call 200;exact Calls.bw_same (l11Kids_5 _))))
   refine wpQuiet_nil ?_
   intro w1 hb1
   obtain ⟨hc1,hf1⟩:=bcell hb1
   have HB1:=hide hb1;clear hb1
   go_wp2_with fail
   go_ret
   exact ⟨by rw [E.out];rfl,HB.out.trans (HB1.out.mono HB.out.size)⟩
 have E:=hide (nodeR_0 o t p x n h1 h2 h3 h4 h5)
 generalize nodeR o t p x n=R at *
 have g1:(o==1)=false:=by simp [h1]
 have g2:(o==2)=false:=by simp [h2]
 have g3:(o==3)=false:=by simp [h3]
 have g4:(o==4)=false:=by simp [h4]
 have g5:(o==5)=false:=by simp [h5]
 have gn:((n:Int) != -1)=true:=by simp
 clear h1 h2 h3 h4 h5
 go_enter Tryz.func176,Tryz.ntmps176
 go_wp2_with fail
 refine wp_region_bw (by kernel_rfl) (by kernel_rfl) ?_
 repeat (go_big_quiet_step ((go_at_call 200;exact Calls.bw_same (l11Kids_0 o _ g1 g2 g3 g4 g5))))
 refine wpQuiet_nil ?_
 intro w1 hb1
 obtain ⟨hc1,hf1⟩:=bcell hb1
 have HB1:=hide hb1;clear hb1
 go_wp2_with fail
 go_ret
 exact ⟨by rw [E.out];rfl,HB.out.trans (HB1.out.mono HB.out.size)⟩
end Go.Proofs.YtlddmagfbcomgaaGreat
namespace Go.Proofs.YtlddmagfbcomgaaGreat
open Go.RowKit
def RetSz (w:World) (d:Nat) (c:Cd) (e:Ending) (w':World):Prop:=∃ r:Int,e = .returned (.int .i64 r)∧SzOK d c r∧Below w.heap.size w w'
theorem condSize_any:∀ (d:Nat),d≤10→∀ (o t p x:Int) (ks:List Cd) (a:Option Addr) (n c:Nat) (w:World),RepK 0 w ⟨a,n,c⟩ ks →
 Calls Tryz.prog 83 #[.agg #[.int .i64 o, .int .i64 t, .int .i64 p, .int .i64 x, .slice a n c], .int .i64 d] w (RetSz w d (.mk o t p x ks)):=by
 intro d
 induction d with
 | zero =>
  intro _ o t p x ks a n c w h
  have HB:=hide ((Below.refl w.heap.size w).alloc (Nat.le_refl _) (.cells #[.int .i64 o, .int .i64 t, .int .i64 p, .int .i64 x, .slice a n c] 45))
  go_enter Tryz.func83,Tryz.ntmps83
  go_wp2_with fail
  go_ret
  exact ⟨31,rfl,SzOK.bad0 _,HB.out⟩
 | succ d ih =>
  intro hd o t p x ks a n c w h
  have IH:=hide (ih (by omega))
  clear ih
  obtain ⟨e1,hc1,hc2,hc3⟩:=h.open
  simp only at e1 hc1 hc2 hc3
  subst e1
  have HB:=hide ((Below.refl w.heap.size w).alloc (Nat.le_refl _) (.cells #[.int .i64 o, .int .i64 t, .int .i64 p, .int .i64 x, .slice a ks.length c] 45))
  have HP:=hide (h.below HB.out)
  have HI:=hide (fun w'=>isCondNode_raw o t p x a ks.length c w')
  have hD0:(((d+1:Nat):Int)==0)=false:=by simp;omega
  have hD1:((d+1:Nat):Int) - 1=(d:Int):=by omega
  have hD2:1≤((d+1:Nat):Int):=by omega
  have hD3:((d+1:Nat):Int)≤10:=by omega
  generalize ((d+1:Nat):Int)=D at *
  have NB:Hid (nodeR o t p x ks.length=nodeB (.mk o t p x ks)):=hide rfl
  have KK:Hid ((Cd.mk o t p x ks).kids=ks):=hide rfl
  generalize hC:Cd.mk o t p x ks=C at *
  clear hC h
  generalize nodeR o t p x ks.length=b at *
  cases b
  ·go_enter Tryz.func83,Tryz.ntmps83
   go_wp2_with fail
   (with_reducible refine (HI.out _).mono ?_);rintro e w1 ⟨rfl,hb1⟩
   go_wp2_with fail
   go_ret
   exact ⟨31,rfl,SzOK.bad NB.out.symm,HB.out.trans (hb1.mono HB.out.size)⟩
  ·go_enter Tryz.func83,Tryz.ntmps83
   go_wp2_with fail
   (with_reducible refine (HI.out _).mono ?_);rintro e w1 ⟨rfl,hb1⟩
   obtain ⟨hcc,hff⟩:=bcell hb1
   have HB1:=hide (HB.out.trans (hb1.mono HB.out.size))
   have HP1:=hide (HP.out.below hb1)
   clear hb1
   go_wp2_with fail
   clear hcc hff hD0
   go_loopw [5,18] (fun q i wr => ∃ (k:Nat) (r:Int),k≤ks.length∧i = .int .i64 k∧q = .int .i64 r∧Hid (SzTo d ks k r)∧1≤r∧r≤30∧Below w1.heap.size w1 wr) (fun _ i _=>ks.length - (intOf i).toNat)
   case atStart=>exact ⟨0,1,by omega,rfl,rfl,hide (SzTo.zero _ _),by omega,by omega,Below.refl _ _⟩
   case round =>
    obtain ⟨k,r,hk,rfl,rfl,T,hr1,hr2,hb⟩:=hrel
    by_cases hlt:k < ks.length
    ·obtain ⟨x1,hxk⟩:=get_of_lt (xs:=ks) (k:=k) hlt
     obtain ⟨b1,o1,s,rfl,hbl,i0,i1,i2,i3,i4,i5⟩:=(HP1.out.below hb).kid hxk
     have hlt':=nat_of_lt hlt
     have hba:=(Below.refl wr.heap.size wr).alloc (Nat.le_refl _) (.cells #[.int .i64 x1.op, .int .i64 x1.th, .int .i64 x1.pl, .int .i64 x1.val, .slice s.a s.n s.cap] 45)
     have HC:=hide (IH.out x1.op x1.th x1.pl x1.val x1.kids s.a s.n s.cap _ (i5.below hba))
     have X:=hide hxk;have HBA:=hide hba
     clear hxk i5 hba
     go_wp2_with fail
     (with_reducible refine HC.out.mono ?_);rintro e w2 ⟨r',rfl,hr',hb2⟩
     rw [Cd.eta] at hr'
     have h1:=hr'.low
     have h2:=hr'.high
     have HR:=hide hr';clear hr'
     have hb3:=hb.trans ((HBA.out.trans (hb2.mono HBA.out.size)).mono hb.size)
     by_cases hle:r+r'≤30
     ·have T2:=hide (T.out.next X.out HR.out hle)
      have hle':decide (r+r' > 30)=false:=by simp;omega
      go_wp2_with fail
      go_roundw
      case rel=>exact ⟨k+1,r+r',by omega,by go_num,rfl,T2,by omega,by omega,hb3⟩
      case measure=>simp [intOf];omega
     ·have hle':decide (r+r' > 30)=true:=by simp;omega
      have T2:=hide (SzTo.more (c:=C) (by rw [KK.out];exact T.out) (by rw [KK.out];exact X.out) HR.out hle)
      go_wp2_with fail
      go_ret
      exact ⟨r+r',rfl,T2.out,HB1.out.trans (hb3.mono HB1.out.size)⟩
    ·have e:ks.length≤k:=by omega
     have T2:=hide (SzTo.done (c:=C) (by rw [KK.out];exact T.out) NB.out.symm (by rw [KK.out];exact e))
     go_wp2_with fail
     go_ret
     exact ⟨r,rfl,T2.out,HB1.out.trans (hb.mono HB1.out.size)⟩
theorem CondValid_raw (o t p x:Int) (ks:List Cd) (a:Option Addr) (n c:Nat) (w:World) (h:RepK 0 w ⟨a,n,c⟩ ks) :
 Calls Tryz.prog 31 #[.agg #[.int .i64 o, .int .i64 t, .int .i64 p, .int .i64 x, .slice a n c]] w fun e w'=>e = .returned (.bool (validC (.mk o t p x ks)))∧Below w.heap.size w w':=by
 have HB:=hide ((Below.refl w.heap.size w).alloc (Nat.le_refl _) (.cells #[.int .i64 o, .int .i64 t, .int .i64 p, .int .i64 x, .slice a n c] 45))
 have HC:=hide (condSize_any 10 (Nat.le_refl _) o t p x ks a n c _ (h.below HB.out))
 have e10:((10:Nat):Int)=10:=rfl
 rw [e10] at HC
 clear e10
 generalize Cd.mk o t p x ks=C at *
 go_enter Tryz.func31,Tryz.ntmps31
 go_wp2_with fail
 (with_reducible refine HC.out.mono ?_);rintro e w2 ⟨r,rfl,hr,hb2⟩
 have E:=hide hr.valid
 clear hr
 go_wp2_with fail
 go_ret
 exact ⟨by rw [← E.out];rfl,HB.out.trans (hb2.mono HB.out.size)⟩
theorem l11Shape_any:∀ (d:Nat),d≤10→∀ (o t p x:Int) (ks:List Cd) (a:Option Addr) (n c:Nat) (w:World),RepK 0 w ⟨a,n,c⟩ ks →
 Calls Tryz.prog 135 #[.agg #[.int .i64 o, .int .i64 t, .int .i64 p, .int .i64 x, .slice a n c], .int .i64 d] w fun e w'=>e = .returned (.bool (shapeF d (.mk o t p x ks)))∧Below w.heap.size w w':=by
 intro d
 induction d with
 | zero =>
  intro _ o t p x ks a n c w h
  have HB:=hide ((Below.refl w.heap.size w).alloc (Nat.le_refl _) (.cells #[.int .i64 o, .int .i64 t, .int .i64 p, .int .i64 x, .slice a n c] 45))
  go_enter Tryz.func135,Tryz.ntmps135
  go_wp2_with fail
  go_ret
  exact ⟨rfl,HB.out⟩
 | succ d ih =>
  intro hd o t p x ks a n c w h
  have IH:=hide (ih (by omega))
  clear ih
  obtain ⟨e1,hc1,hc2,hc3⟩:=h.open
  simp only at e1 hc1 hc2 hc3
  subst e1
  have HB:=hide ((Below.refl w.heap.size w).alloc (Nat.le_refl _) (.cells #[.int .i64 o, .int .i64 t, .int .i64 p, .int .i64 x, .slice a ks.length c] 45))
  have HP:=hide (h.below HB.out)
  have HI:=hide (fun w'=>l11Own_raw o t p x a ks.length c w')
  have hd0:decide (((d+1:Nat):Int) < 1)=false:=by simp;omega
  have NB:Hid (nodeR o t p x ks.length=nodeB (.mk o t p x ks)):=hide rfl
  have KK:Hid ((Cd.mk o t p x ks).kids=ks):=hide rfl
  generalize hC:Cd.mk o t p x ks=C at *
  clear hC h
  generalize nodeR o t p x ks.length=b at *
  have SH:=hide (shapeF_succ d C)
  generalize shapeF (d+1) C=R at *
  cases b
  ·obtain rfl:R=false:=by rw [Bool.eq_false_iff,ne_eq,SH.out,← NB.out];simp
   go_enter Tryz.func135,Tryz.ntmps135
   go_wp2_with fail
   (with_reducible refine (HI.out _).mono ?_);rintro e w1 ⟨rfl,hb1⟩
   go_wp2_with fail
   go_ret
   exact ⟨rfl,HB.out.trans (hb1.mono HB.out.size)⟩
  ·go_enter Tryz.func135,Tryz.ntmps135
   go_wp2_with fail
   (with_reducible refine (HI.out _).mono ?_);rintro e w1 ⟨rfl,hb1⟩
   obtain ⟨hcc,hff⟩:=bcell hb1
   have HB1:=hide (HB.out.trans (hb1.mono HB.out.size))
   have HP1:=hide (HP.out.below hb1)
   have k1:w1.cell? ⟨w.heap.size,4,none⟩=some (.slice a ks.length c):=by rw [hcc _ _ (by simp)];simp [go_sem]
   have k2:w.heap.size < w1.heap.size:=by have:=hb1.size;simp at this;omega
   clear hb1
   go_wp2_with fail
   clear hcc hff hd0
   go_loopw [5] (fun i wr => ∃ (k:Nat),k≤ks.length∧i = .int .i64 k∧Hid (∀ y∈ks.take k,shapeF d y=true)∧Below w1.heap.size w1 wr) (fun i _=>ks.length - (intOf i).toNat)
   case atStart=>exact ⟨0,by omega,rfl,hide (by simp),Below.refl _ _⟩
   case round =>
    obtain ⟨k,hk,rfl,T,hb⟩:=hrel
    have hsz:=hb.size
    have l1:=(hb.cell (p:=⟨w.heap.size,4,none⟩) k2).trans k1
    have l3:w.heap.size < wr.heap.size:=by omega
    by_cases hlt:k < ks.length
    ·obtain ⟨x1,hxk⟩:=get_of_lt (xs:=ks) (k:=k) hlt
     obtain ⟨b1,o1,s,rfl,hbl,i0,i1,i2,i3,i4,i5⟩:=(HP1.out.below hb).kid hxk
     have hlt':=nat_of_lt hlt
     have HC:=hide (IH.out x1.op x1.th x1.pl x1.val x1.kids s.a s.n s.cap _ i5)
     have hb1x:shapeF d (Cd.mk x1.op x1.th x1.pl x1.val x1.kids)=shapeF d x1:=by rw [Cd.eta]
     rw [hb1x] at HC
     have X:=hide hxk
     clear hxk i5 hb1x
     generalize hy:shapeF d x1=y at *
     have Y:=hide hy;clear hy
     go_wp2_with fail
     (with_reducible refine HC.out.mono ?_);rintro e w2 ⟨rfl,hb2⟩
     have hb3:=hb.trans (hb2.mono hb.size)
     cases y
     ·go_wp2_with fail
      go_ret
      obtain rfl:R=false:=by
       rw [Bool.eq_false_iff,ne_eq,SH.out,KK.out]
       intro h
       have:=h.2 x1 (List.mem_of_getElem? X.out)
       rw [Y.out] at this;simp at this
      exact ⟨rfl,HB1.out.trans (hb3.mono HB1.out.size)⟩
     ·have T2:Hid (∀ y∈ks.take (k+1),shapeF d y=true):=hide (by
       intro y hy
       rw [List.take_add_one,X.out] at hy
       simp at hy
       rcases hy with hy | rfl
       ·exact T.out y hy
       ·exact Y.out)
      go_wp2_with fail
      go_roundw
      case rel=>exact ⟨k+1,by omega,by go_num,T2,hb3⟩
      case measure=>simp [intOf];omega
    ·obtain rfl:R=true:=by
      rw [SH.out,KK.out]
      exact ⟨NB.out.symm,by have:=T.out;rwa [List.take_of_length_le (by omega)] at this⟩
     go_wp2_with fail
     go_ret
     exact ⟨rfl,HB1.out.trans (hb.mono HB1.out.size)⟩
def RetCn (w:World) (c:Cd) (m:Int) (e:Ending) (w':World):Prop:=∃ r:Int,e = .returned (.int .i64 r)∧CnOK c m r∧Below w.heap.size w w'
def CntK (xs:List Cd):Prop:=∀ (o t p x:Int) (a:Option Addr) (n c:Nat) (m:Int) (w:World),RepK 0 w ⟨a,n,c⟩ xs→descs xs≤1048576→0≤m→m≤30 →
 Calls Tryz.prog 136 #[.agg #[.int .i64 o, .int .i64 t, .int .i64 p, .int .i64 x, .slice a n c], .int .i64 m] w (RetCn w (.mk o t p x xs) m)
theorem cntK_any:∀ xs,CntK xs:=Cd.all (by
 intro ks ih o t p x a n c m w h hl hm0 hm1
 obtain ⟨e1,hc1,hc2,hc3⟩:=h.open
 simp only at e1 hc1 hc2 hc3
 subst e1
 have HB:=hide ((Below.refl w.heap.size w).alloc (Nat.le_refl _) (.cells #[.int .i64 o, .int .i64 t, .int .i64 p, .int .i64 x, .slice a ks.length c] 45))
 have HP:=hide (h.below HB.out)
 have IH:=hide ih
 have KK:Hid ((Cd.mk o t p x ks).kids=ks):=hide rfl
 generalize hC:Cd.mk o t p x ks=C at *
 clear hC h ih
 go_enter Tryz.func136,Tryz.ntmps136
 go_wp2_with fail
 generalize hW:w.alloc (.cells #[.int .i64 o, .int .i64 t, .int .i64 p, .int .i64 x, .slice a ks.length c] 45)=W at *
 have k1:W.cell? ⟨w.heap.size,4,none⟩=some (.slice a ks.length c):=by rw [← hW];simp [go_sem]
 have k2:w.heap.size < W.heap.size:=by rw [← hW];simp
 clear hW
 go_loopw [5,6] (fun q i wr => ∃ (k:Nat) (r:Int),k≤ks.length∧i = .int .i64 k∧q = .int .i64 r∧Hid (CnTo ks m k r)∧1≤r∧r≤1048577∧Below W.heap.size W wr) (fun _ i _=>ks.length - (intOf i).toNat)
 case atStart=>exact ⟨0,1,by omega,rfl,rfl,hide (CnTo.zero _ _),by omega,by omega,Below.refl _ _⟩
 case round =>
  obtain ⟨k,r,hk,rfl,rfl,T,hr1,hr2,hb⟩:=hrel
  have hsz:=hb.size
  have l1:=(hb.cell (p:=⟨w.heap.size,4,none⟩) k2).trans k1
  have l3:w.heap.size < wr.heap.size:=by omega
  by_cases hlt:k < ks.length
  ·by_cases hle:r≤m
   ·obtain ⟨x1,hxk⟩:=get_of_lt (xs:=ks) (k:=k) hlt
    obtain ⟨b1,o1,s,rfl,hbl,i0,i1,i2,i3,i4,i5⟩:=(HP.out.below hb).kid hxk
    have hlt':=nat_of_lt hlt
    have hdk:=descs_kid hxk
    have HC:=hide (IH.out x1 (List.mem_of_getElem? hxk) x1.op x1.th x1.pl x1.val s.a s.n s.cap (m - r) _ i5 (by omega) (by omega) (by omega))
    have X:=hide hxk
    clear hxk i5
    go_wp2_with fail
    (with_reducible refine HC.out.mono ?_);rintro e w2 ⟨r',rfl,hr',hb2⟩
    rw [Cd.eta] at hr'
    have h1:=hr'.low
    have h2:=hr'.high
    have HR:=hide hr';clear hr'
    have hb3:=hb.trans (hb2.mono hb.size)
    have T2:=hide (T.out.next X.out hle HR.out)
    have h3:r+r'≤1048577:=by have:=T2.out.high;have:=descs_take_le ks (k+1);omega
    clear h2
    go_wp2_with fail
    go_roundw
    case rel=>exact ⟨k+1,r+r',by omega,by go_num,rfl,T2,by omega,h3,hb3⟩
    case measure=>simp [intOf];omega
   ·have hle':decide (r≤m)=false:=by simp;omega
    have hlt':=nat_of_lt hlt
    have T2:=hide (CnTo.done (c:=C) (by rw [KK.out];exact T.out) (.inr hle))
    go_wp2_with fail
    go_ret
    exact ⟨r,rfl,T2.out,HB.out.trans (hb.mono HB.out.size)⟩
  ·have e:ks.length≤k:=by omega
   have T2:=hide (CnTo.done (c:=C) (m:=m) (by rw [KK.out];exact T.out) (.inl (by rw [KK.out];exact e)))
   go_wp2_with fail
   go_ret
   exact ⟨r,rfl,T2.out,HB.out.trans (hb.mono HB.out.size)⟩)
theorem CondValidS_raw (o t p x:Int) (ks:List Cd) (a:Option Addr) (n c:Nat) (w:World) (h:RepK 0 w ⟨a,n,c⟩ ks) (hl:descs ks≤1048576) :
 Calls Tryz.prog 80 #[.agg #[.int .i64 o, .int .i64 t, .int .i64 p, .int .i64 x, .slice a n c]] w fun e w'=>e = .returned (.bool (validC (.mk o t p x ks)))∧Below w.heap.size w w':=by
 have HB:=hide ((Below.refl w.heap.size w).alloc (Nat.le_refl _) (.cells #[.int .i64 o, .int .i64 t, .int .i64 p, .int .i64 x, .slice a n c] 45))
 have HC:=hide (l11Shape_any 10 (Nat.le_refl _) o t p x ks a n c _ (h.below HB.out))
 have e10:((10:Nat):Int)=10:=rfl
 rw [e10] at HC
 clear e10
 have HN:=hide (fun w' h'=>cntK_any ks o t p x a n c 30 w' h' hl (by omega) (by omega))
 have HP:=hide (h.below HB.out)
 have E:Hid (validC (.mk o t p x ks)=(shapeF 10 (.mk o t p x ks)&&decide (nodes (.mk o t p x ks)≤30))):=hide rfl
 clear h
 generalize Cd.mk o t p x ks=C at *
 generalize validC C=R at *
 generalize shapeF 10 C=b at *
 cases b
 ·obtain rfl:R=false:=by rw [E.out];rfl
  go_enter Tryz.func80,Tryz.ntmps80
  go_wp2_with fail
  (with_reducible refine HC.out.mono ?_);rintro e w2 ⟨rfl,hb2⟩
  go_wp2_with fail
  go_ret
  exact ⟨rfl,HB.out.trans (hb2.mono HB.out.size)⟩
 ·go_enter Tryz.func80,Tryz.ntmps80
  go_wp2_with fail
  (with_reducible refine HC.out.mono ?_);rintro e w2 ⟨rfl,hb2⟩
  obtain ⟨hc2,hf2⟩:=bcell hb2
  go_wp2_with fail
  (with_reducible refine (HN.out _ (HP.out.below hb2)).mono ?_);rintro e w3 ⟨r,rfl,hr,hb3⟩
  have E2:Hid (R=decide (r≤30)):=hide (by rw [E.out,hr.le];rfl)
  clear hr
  go_wp2_with fail
  go_ret
  exact ⟨by rw [E2.out];rfl,HB.out.trans ((hb2.trans (hb3.mono hb2.size)).mono HB.out.size)⟩
end Go.Proofs.YtlddmagfbcomgaaGreat
namespace Go.Proofs.YtlddmagfbcomgaaGreat
open Go.RowKit
theorem one_byte (u:World) (B:Int):(convert 22 9 (.slice (some ⟨u.heap.size,0,none⟩) 1 1)).run Tryz.prog (u.alloc (.cells #[.int .u8 B] 5)) = .ok (.string (strOfNums [B])) (u.alloc (.cells #[.int .u8 B] 5)):=
 run_convert_bytes_arg (u.alloc (.cells #[.int .u8 B] 5)) 22 5 Tryz.underlying22 Tryz.underlying5 u.heap.size 0 1 1 [B] rfl (fun i hi=>by
  obtain rfl:i=0:=by omega
  simp [go_sem]) 9 Tryz.underlying9
theorem strN_app (a b:List Int):strOfNums a++strOfNums b=strOfNums (a++b):=by
 apply ByteArray.ext
 simp [strOfNums]
theorem strN_nil:strOfNums []=⟨#[]⟩:=by
 apply ByteArray.ext
 simp [strOfNums]
theorem strN_empty (a:List Int):strOfNums a++⟨#[]⟩=strOfNums a:=by rw [← strN_nil,strN_app,List.append_nil]
theorem l17Dec_dig (x:Int) (w:World) (h0:0≤x) (h1:x≤9) :
 Calls Tryz.prog 202 #[.int .i64 x] w fun e w'=>e = .returned (.string (strOfNums [48+x]))∧Below w.heap.size w w':=by
 have kc:=one_byte
 go_enter Tryz.func202,Tryz.ntmps202
 go_wp2_with fail
 go_loopw [0,3] (fun q i wr=>q = .int .i64 x∧i = .string ⟨#[]⟩∧wr=w) (fun _ i _=>0)
 case atStart=>exact ⟨rfl,rfl,rfl⟩
 case round =>
  obtain ⟨rfl,rfl,rfl⟩:=hrel
  go_wp2_with fail
  go_ret
  exact ⟨by rw [← strN_empty];rfl,(Below.refl _ _).alloc (Nat.le_refl _) _⟩
theorem l1Letter_any (b x:Int) (w:World) (h0:0≤x) (h1:x≤9) (h2:0≤b) (h3:b≤200) :
 Calls Tryz.prog 201 #[.int .u8 b, .int .i64 x] w fun e w'=>e = .returned (.string (strOfNums [b+x]))∧Below w.heap.size w w':=by
 have kc:=one_byte
 go_enter Tryz.func201,Tryz.ntmps201
 go_wp2_with fail
 go_ret
 exact ⟨rfl,(Below.refl _ _).alloc (Nat.le_refl _) _⟩
def Cd.kid (c:Cd) (i:Nat):Cd:=c.kids.getD i (.mk 0 0 0 0 [])
theorem nodeR_cases {o t p x:Int} {n:Nat} (h:nodeR o t p x n=true) :
 (o=1∧0≤t∧t≤2∧0≤p∧p≤2∧0≤x∧x≤3∧n=0)∨(o=2∧0≤p∧p≤2∧0≤x∧x≤3∧n=0∧t=0)∨(o=3∧n=2∧t=0∧p=0∧x=0)∨(o=4∧n=2∧t=0∧p=0∧x=0)∨(o=5∧n=1∧t=0∧p=0∧x=0):=by
 unfold nodeR inR at h
 split at h
 ·simp only [Bool.and_eq_true,decide_eq_true_eq] at h;omega
 ·split at h
  ·simp only [Bool.and_eq_true,decide_eq_true_eq] at h;omega
  ·split at h
   ·simp only [Bool.and_eq_true,decide_eq_true_eq] at h;omega
   ·simp only [Bool.and_eq_true,decide_eq_true_eq] at h;omega
theorem kid_of {o t p x:Int} {ks:List Cd} {i:Nat} {k:Cd} (h:ks[i]? = some k):(Cd.mk o t p x ks).kid i=k:=by
 unfold Cd.kid Cd.kids
 rw [List.getD_eq_getElem?_getD,h];rfl
theorem size_strN (l:List Int):(strOfNums l).size=l.length:=by simp [strOfNums,ByteArray.size]
end Go.Proofs.YtlddmagfbcomgaaGreat
namespace Go.Proofs.YtlddmagfbcomgaaGreat
open Go.RowKit
structure MayCome (md:Region.Mode) (ops:Array Oper) (listed:Array Bool) (i:Nat) (o:Oper):Prop where
 op:ops[i]? = some o
 new:listed[i]? = some false
 after:∀ e∈o.after,Region.binds md e=true→listed[e.on]? = some true
theorem ready_spec {md:Region.Mode} {ops:Array Oper} {listed:Array Bool} (hs:listed.size=ops.size) {i:Nat} (h:i∈Region.ready md ops listed):∃ o,MayCome md ops listed i o:=by
 unfold Region.ready at h
 rw [List.mem_filter] at h
 obtain ⟨h1,h2⟩:=h
 rw [List.mem_range] at h1
 rw [Bool.and_eq_true] at h2
 obtain ⟨h2,h3⟩:=h2
 rw [Array.getElem?_eq_getElem h1] at h3
 refine ⟨ops[i],Array.getElem?_eq_getElem h1, ?_,fun e he hb => ?_⟩
 ·rw [Array.getElem?_eq_getElem (by omega)]
  have:listed.getD i true=listed[i]'(by omega):=by simp [Array.getD,show i < listed.size by omega]
  rw [this] at h2
  simpa using h2
 ·simp only [Option.map_some,Option.getD_some,Array.all_eq_true'] at h3
  have h4:=h3 e he
  rw [hb] at h4
  simp only [Bool.not_true,Bool.false_or] at h4
  by_cases hl:e.on < listed.size
  ·rw [Array.getElem?_eq_getElem hl]
   have:listed.getD e.on false=listed[e.on]:=by simp [Array.getD,hl]
   rw [this] at h4;rw [h4]
  ·have:listed.getD e.on false=false:=by simp [Array.getD,hl]
   rw [this] at h4;cases h4
def earlier (ops:Array Oper):Bool:=(List.range ops.size).all fun i=>(ops[i]?.map fun o=>o.after.all fun e=>decide (e.on < i)).getD true
theorem ready_nil {md:Region.Mode} {ops:Array Oper} {listed:Array Bool} (hs:listed.size=ops.size) (he:earlier ops=true) (h:Region.ready md ops listed=[]):∀ i,i < ops.size→listed[i]? = some true:=by
 intro i
 induction i using Nat.strongRecOn with
 | ind i ih =>
  intro hi
  rw [Array.getElem?_eq_getElem (by omega)]
  by_cases e:listed[i]'(by omega)=true
  ·rw [e]
  ·exfalso
   have hm:i∈Region.ready md ops listed:=by
    unfold Region.ready
    rw [List.mem_filter,List.mem_range]
    refine ⟨hi, ?_⟩
    rw [Bool.and_eq_true]
    refine ⟨?_, ?_⟩
    ·have:listed.getD i true=listed[i]'(by omega):=by simp [Array.getD,show i < listed.size by omega]
     rw [this];simpa using e
    ·rw [Array.getElem?_eq_getElem hi]
     simp only [Option.map_some,Option.getD_some,Array.all_eq_true']
     intro x hx
     unfold earlier at he
     rw [List.all_eq_true] at he
     have h1:=he i (by simpa using hi)
     rw [Array.getElem?_eq_getElem hi] at h1
     simp only [Option.map_some,Option.getD_some,Array.all_eq_true'] at h1
     have h2:=h1 x hx
     simp only [decide_eq_true_eq] at h2
     have h3:=ih x.on h2 (by omega)
     have:listed.getD x.on false=true:=by
      have hl:x.on < listed.size:=by omega
      rw [Array.getElem?_eq_getElem hl] at h3
      simp only [Option.some.injEq] at h3
      simp [Array.getD,hl,h3]
     rw [this,Bool.or_true]
   rw [h] at hm;cases hm
def falses (l:Array Bool):Nat:=l.toList.countP fun b => !b
theorem falses_set {l:Array Bool} {i:Nat} (h:l[i]? = some false):falses (l.setIfInBounds i true)+1=falses l:=by
 unfold falses
 rw [Array.toList_setIfInBounds]
 have h':l.toList[i]? = some false:=by rw [Array.getElem?_toList];exact h
 obtain ⟨h1,h2⟩:=List.getElem?_eq_some_iff.1 h'
 generalize l.toList=L at *
 clear h h' l
 induction L generalizing i with
 | nil=>simp at h1
 | cons x L ih =>
  cases i with
  | zero=>simp at h2;subst h2;simp
  | succ i =>
   simp at h1 h2
   have:=ih h1 h2
   simp only [List.set_cons_succ,List.countP_cons]
   omega
theorem falses_zero {l:Array Bool} (h:falses l=0) (i:Nat):l[i]?≠some false:=by
 intro e
 have:=falses_set e
 omega
variable {F : Fence} {n : Nat} {P : Program} {ops : Array Oper} {Q : Exit → Act → World → Prop}
theorem wpAnyIn_inv {md:Region.Mode} (I:Array Bool→Act→World→Prop) (he:earlier ops=true)
 (hstep:∀ (listed:Array Bool) (a:Act) (w:World),listed.size=ops.size→I listed a w→∀ (i:Nat) (o:Oper),MayCome md ops listed i o→∀ K:Act→World→Prop,(∀ a' w',I (listed.setIfInBounds i true) a' w'→K a' w') →
  if Region.wanted o (yielded ops a.tmps)=true then Oper.wpIn F n P o a w K Q else (∀ f,o.about P w a.eval=some f→F.fn f)∧K (a.put o.dst undef) w)
 (hend:∀ (listed:Array Bool) (a:Act) (w:World),(∀ i,i < ops.size→listed[i]? = some true)→I listed a w→Q .normal a w) :
 ∀ (fuel:Nat) (listed:Array Bool) (a:Act) (w:World),listed.size=ops.size→falses listed≤fuel→I listed a w→wpAnyIn F n P md ops Q fuel listed a w:=by
 intro fuel
 induction fuel with
 | zero =>
  intro listed a w hs hf hi
  have hr:Region.ready md ops listed=[]:=by
   rcases hq:Region.ready md ops listed with _ | ⟨i,rest⟩
   ·rfl
   ·exfalso
    obtain ⟨o,ho⟩:=ready_spec hs (i:=i) (by rw [hq];simp)
    exact falses_zero (by omega) i ho.new
  exact ⟨hr,hend listed a w (ready_nil hs he hr) hi⟩
 | succ fuel ih =>
  intro listed a w hs hf hi
  refine ⟨fun hr=>hend listed a w (ready_nil hs he hr) hi,fun i hm => ?_⟩
  obtain ⟨o,ho⟩:=ready_spec hs hm
  have hK:=hstep listed a w hs hi i o ho (wpAnyIn F n P md ops Q fuel (listed.setIfInBounds i true)) (fun a' w' h=>ih _ a' w' (by simp [hs]) (by have:=falses_set ho.new;omega) h)
  unfold wpOpIn
  rw [ho.op]
  simp only
  exact hK
theorem wpIn_region_inv {id:Nat} {a:Act} {w:World} (hm:P.follows .mixedOrders=true) (I:Array Bool→Act→World→Prop) (he:earlier ops=true)
 (h0:I (Array.replicate ops.size false) a w.drew)
 (hstep:∀ (listed:Array Bool) (a:Act) (w:World),listed.size=ops.size→I listed a w→∀ (i:Nat) (o:Oper),MayCome .any ops listed i o→∀ K:Act→World→Prop,(∀ a' w',I (listed.setIfInBounds i true) a' w'→K a' w') →
  if Region.wanted o (yielded ops a.tmps)=true then Oper.wpIn F n P o a w K Q else (∀ f,o.about P w a.eval=some f→F.fn f)∧K (a.put o.dst undef) w)
 (hend:∀ (listed:Array Bool) (a:Act) (w:World),(∀ i,i < ops.size→listed[i]? = some true)→I listed a w→Q .normal a w) :
 (Code.region id ops true).wpIn F n P Q a w:=
 wpIn_region_any hm (wpAnyIn_inv I he hstep hend ops.size _ a _ (by simp) (by unfold falses;refine Nat.le_trans List.countP_le_length ?_;simp) h0)
end Go.Proofs.YtlddmagfbcomgaaGreat
namespace Go.Proofs.YtlddmagfbcomgaaGreat
open Go.RowKit
section
variable {P : Program} {ops : Array Oper} {Q : Exit → Act → World → Prop}
theorem wpAny_invR {md:Region.Mode} (I:Array Bool→Act→World→Prop) (he:earlier ops=true)
 (hstep:∀ (listed:Array Bool) (a:Act) (w:World),listed.size=ops.size→I listed a w→∀ (i:Nat) (o:Oper),MayCome md ops listed i o→∀ K:Act→World→Prop,(∀ a' w',I (listed.setIfInBounds i true) a' w'→K a' w') →
  if Region.wanted o (yielded ops a.tmps)=true then Oper.wp P o a w K Q else K (a.put o.dst undef) w)
 (hend:∀ (listed:Array Bool) (a:Act) (w:World),(∀ i,i < ops.size→listed[i]? = some true)→I listed a w→Q .normal a w) :
 ∀ (fuel:Nat) (listed:Array Bool) (a:Act) (w:World),listed.size=ops.size→falses listed≤fuel→I listed a w→wpAny P md ops Q fuel listed a w:=by
 intro fuel
 induction fuel with
 | zero =>
  intro listed a w hs hf hi
  have hr:Region.ready md ops listed=[]:=by
   rcases hq:Region.ready md ops listed with _ | ⟨i,rest⟩
   ·rfl
   ·exfalso
    obtain ⟨o,ho⟩:=ready_spec hs (i:=i) (by rw [hq];simp)
    exact falses_zero (by omega) i ho.new
  exact ⟨hr,hend listed a w (ready_nil hs he hr) hi⟩
 | succ fuel ih =>
  intro listed a w hs hf hi
  refine ⟨fun hr=>hend listed a w (ready_nil hs he hr) hi,fun i hm => ?_⟩
  obtain ⟨o,ho⟩:=ready_spec hs hm
  have hK:=hstep listed a w hs hi i o ho (wpAny P md ops Q fuel (listed.setIfInBounds i true)) (fun a' w' h=>ih _ a' w' (by simp [hs]) (by have:=falses_set ho.new;omega) h)
  unfold wpOp
  rw [ho.op]
  simp only
  split
  ·rename_i hw
   rw [if_pos hw] at hK
   exact .inl hK
  ·rename_i hw
   rw [if_neg hw] at hK
   exact hK
end
def putAll (a:Act):List (Tmp × Value)→Act
 | []=>a
 | (d,v) :: l=>putAll (a.put (some d) v) l
def Vd (ls:Array Bool) (k:Nat) (D:List Nat) (x v:Value):Prop:=ls[k]? = some true→(∀ d∈D,ls[d]? = some true)∧x=v
theorem ls_set {ls:Array Bool} {i j:Nat} (h:i≠j):(ls.setIfInBounds i true)[j]? = ls[j]?:=by
 rw [Array.getElem?_setIfInBounds,if_neg h]
theorem ls_got {ls:Array Bool} {i:Nat} (h:i < ls.size):(ls.setIfInBounds i true)[i]? = some true:=by
 rw [Array.getElem?_setIfInBounds,if_pos rfl,if_pos h]
theorem ls_keep {ls:Array Bool} {i j:Nat} (h:ls[j]? = some true):(ls.setIfInBounds i true)[j]? = some true:=by
 by_cases e:i=j
 ·subst e;exact ls_got (Array.getElem?_eq_some_iff.1 h).1
 ·rw [ls_set e];exact h
theorem Vd.start {n k:Nat} {D:List Nat} {x v:Value}:Vd (Array.replicate n false) k D x v:=fun h=>by
 rw [Array.getElem?_replicate] at h;split at h <;> simp at h
theorem Vd.set {ls:Array Bool} {i k:Nat} {D:List Nat} {x v:Value} (h:Vd ls k D x v) (hik:i≠k):Vd (ls.setIfInBounds i true) k D x v:=fun e=>by
 rw [ls_set hik] at e
 exact ⟨fun d hd=>ls_keep ((h e).1 d hd),(h e).2⟩
theorem Vd.same {ls:Array Bool} {k:Nat} {D:List Nat} {v:Value} (hD:∀ d∈D,ls[d]? = some true):Vd (ls.setIfInBounds k true) k D v v:=fun _=>⟨fun d hd=>ls_keep (hD d hd),rfl⟩
theorem Vd.void {ls:Array Bool} {i k:Nat} {D:List Nat} {x v v':Value} (h:Vd ls k D x v) (hd:i∈D) (hik:i≠k) (hn:ls[i]? = some false):Vd (ls.setIfInBounds i true) k D x v':=fun e=>by
 rw [ls_set hik] at e
 have:=(h e).1 i hd
 rw [hn] at this;cases this
theorem Vd.get {ls:Array Bool} {k:Nat} {D:List Nat} {x v:Value} (h:Vd ls k D x v) (e:ls[k]? = some true):x=v:=(h e).2
def fl (ls:Array Bool) (k:Nat):Bool:=ls[k]? == some true
theorem fl_start {n k:Nat}:fl (Array.replicate n false) k=false:=by
 unfold fl;rw [Array.getElem?_replicate];split <;> simp
theorem fl_set {ls:Array Bool} {i k:Nat} (h:i≠k):fl (ls.setIfInBounds i true) k=fl ls k:=by unfold fl;rw [ls_set h]
theorem fl_got {ls:Array Bool} {n k:Nat} (hs:ls.size=n+1) (h:k < n):fl (ls.setIfInBounds k true) k=true:=by unfold fl;rw [ls_got (by omega)];rfl
theorem fl_no {ls:Array Bool} {k:Nat} (h:ls[k]? = some false):fl ls k=false:=by unfold fl;rw [h];rfl
theorem fl_yes {ls:Array Bool} {k:Nat} (h:ls[k]? = some true):fl ls k=true:=by unfold fl;rw [h];rfl
end Go.Proofs.YtlddmagfbcomgaaGreat
namespace Go.Proofs.YtlddmagfbcomgaaGreat
open Go.RowKit
section
variable {P : Program} {ops : Array Oper} {Q : Exit → Act → World → Prop}
def ClosedL (ops:Array Oper) (ls:Array Bool):Prop:=∀ (i:Nat) (o:Oper),ls[i]? = some true→ops[i]? = some o→∀ e∈o.after,Region.binds .any e=true→ls[e.on]? = some true
theorem ClosedL.start (ops:Array Oper) (n:Nat):ClosedL ops (Array.replicate n false):=fun i o h=>by
 rw [Array.getElem?_replicate] at h;split at h <;> simp at h
theorem ClosedL.set {ls:Array Bool} {i:Nat} {o:Oper} (h:ClosedL ops ls) (mc:MayCome .any ops ls i o):ClosedL ops (ls.setIfInBounds i true):=by
 intro j o' hj ho e he hb
 have hk:∀ q,ls[q]? = some true→(ls.setIfInBounds i true)[q]? = some true:=fun q hq=>ls_keep hq
 by_cases hij:i=j
 ·subst hij
  rw [mc.op] at ho
  obtain rfl:=Option.some.inj ho
  exact hk _ (mc.after e he hb)
 ·rw [ls_set hij] at hj
  exact hk _ (h j o' hj ho e he hb)
def waitsAll (ops:Array Oper) (n:Nat):Bool:=(List.range n).all fun j=>(List.range (n+1)).any fun i=>decide (j < i)&&(ops[i]?.map fun o=>o.after.any fun e=>e.on==j&&Region.binds .any e).getD false
theorem waits_all {n:Nat} {ls:Array Bool} {o:Oper} (hw:waitsAll ops n=true) (hc:ClosedL ops ls) (mc:MayCome .any ops ls n o):∀ j,j < n→ls[j]? = some true:=by
 have key:∀ d j,j < n→n - j≤d→ls[j]? = some true:=by
  intro d
  induction d with
  | zero=>intro j h1 h2;omega
  | succ d ih =>
   intro j hj hd
   unfold waitsAll at hw
   rw [List.all_eq_true] at hw
   have h1:=hw j (List.mem_range.2 hj)
   rw [List.any_eq_true] at h1
   obtain ⟨i,hi,h1⟩:=h1
   rw [List.mem_range] at hi
   rw [Bool.and_eq_true,decide_eq_true_eq] at h1
   obtain ⟨hji,h1⟩:=h1
   cases ho:ops[i]? with
   | none=>rw [ho] at h1;simp at h1
   | some oi =>
    rw [ho] at h1
    simp only [Option.map_some,Option.getD_some,Array.any_eq_true'] at h1
    obtain ⟨e,he1,he2⟩:=h1
    rw [Bool.and_eq_true] at he2
    have h4:e.on=j:=by simpa using he2.1
    by_cases hin:i=n
    ·subst hin
     rw [mc.op] at ho
     obtain rfl:=Option.some.inj ho
     have h3:=mc.after e he1 he2.2
     rw [h4] at h3;exact h3
    ·have h3:=hc i oi (ih i (by omega) (by omega)) ho e he1 he2.2
     rw [h4] at h3;exact h3
 exact fun j hj=>key (n - j) j hj (Nat.le_refl _)
theorem wp_region_inv3 {id n:Nat} {a:Act} {w:World} (hm:P.follows .mixedOrders=true) (hn:ops.size=n+1) (he:earlier ops=true) (hlw:waitsAll ops n=true) (I:Act→Array Bool→Act→World→Prop)
 (h0:I a (Array.replicate (n+1) false) a w.drew)
 (hstep:∀ (ls:Array Bool) (a':Act) (w':World),ls.size=n+1→ls[n]? = some false→I a ls a' w'→∀ (i:Nat) (o:Oper),i < n→MayCome .any ops ls i o→∀ K:Act→World→Prop,(∀ a'' w'',I a (ls.setIfInBounds i true) a'' w''→K a'' w'') →
  if Region.wanted o (yielded ops a'.tmps)=true then Oper.wp P o a' w' K Q else K (a'.put o.dst undef) w')
 (hlast:∀ (ls:Array Bool) (a':Act) (w':World),(∀ i,i < n→ls[i]? = some true)→I a ls a' w'→∀ o,ops[n]? = some o →
  if Region.wanted o (yielded ops a'.tmps)=true then Oper.wp P o a' w' (fun a'' w''=>Q .normal a'' w'') Q else Q .normal (a'.put o.dst undef) w') :
 (Code.region id ops true).wp P Q a w:=by
 refine wp_region_any hm (wpAny_invR (fun ls a' w'=>ClosedL ops ls∧((ls[n]? = some false∧I a ls a' w')∨(ls[n]? = some true∧(∀ i,i < n→ls[i]? = some true)∧Q .normal a' w'))) he ?_ ?_ ops.size _ a _ (by simp) (by unfold falses;refine Nat.le_trans List.countP_le_length ?_;simp) ⟨ClosedL.start _ _, .inl ⟨by simp [hn],by rw [hn];exact h0⟩⟩)
 ·intro ls a' w' hs hI i o mc K hK
  obtain ⟨hcl,hI⟩:=hI
  have hcl2:=hcl.set mc
  rcases hI with ⟨hf,hI⟩ | ⟨ht,hal,hQ⟩
  ·by_cases hi:i=n
   ·subst hi
    have hall:∀ j,j < i→ls[j]? = some true:=waits_all hlw hcl mc
    have h:=hlast ls a' w' hall hI o mc.op
    have hset:(ls.setIfInBounds i true)[i]? = some true:=by
     rw [Array.getElem?_setIfInBounds];simp [hs,hn]
    have hall2:∀ j,j < i→(ls.setIfInBounds i true)[j]? = some true:=fun j hj=>by
     rw [Array.getElem?_setIfInBounds,if_neg (by omega)];exact hall j hj
    split
    ·rename_i hw
     rw [if_pos hw] at h
     exact Oper.wp_mono (fun a2 w2 h2=>hK a2 w2 ⟨hcl2, .inr ⟨hset,hall2,h2⟩⟩) h
    ·rename_i hw
     rw [if_neg hw] at h
     exact hK _ _ ⟨hcl2, .inr ⟨hset,hall2,h⟩⟩
   ·have hlt:i < n:=by
     have:=(Array.getElem?_eq_some_iff.1 mc.op).1
     omega
    have h:=hstep ls a' w' (by rw [hs,hn]) hf hI i o hlt mc K (fun a2 w2 h2=>hK a2 w2 ⟨hcl2, .inl ⟨by rw [Array.getElem?_setIfInBounds];simp [hi];exact hf,h2⟩⟩)
    exact h
  ·exfalso
   by_cases hi:i=n
   ·subst hi;rw [mc.new] at ht;cases ht
   ·have hlt:i < n:=by
     have:=(Array.getElem?_eq_some_iff.1 mc.op).1
     omega
    have:=hal i hlt
    rw [mc.new] at this;cases this
 ·intro ls a' w' hall hI
  rcases hI.2 with ⟨hf, -⟩ | ⟨-, -,hQ⟩
  ·have:=hall n (by omega)
   rw [hf] at this;cases this
  ·exact hQ
end
end Go.Proofs.YtlddmagfbcomgaaGreat
namespace Go.Proofs.YtlddmagfbcomgaaGreat
open Go.RowKit
def cmpI (x y:Int):Int:=if x < y then -1 else if y < x then 1 else 0
def cmpL:List Int→List Int→Int
 | [],[]=>0
 | [],_ :: _ => -1
 | _ :: _,[]=>1
 | x :: xs,y :: ys=>if x < y then -1 else if y < x then 1 else cmpL xs ys
theorem cmpL_same:∀ (l:List Int),cmpL l l=0
 | []=>rfl
 | x :: l=>by unfold cmpL;simp;exact cmpL_same l
theorem cmpL_trans:∀ (a b c:List Int),cmpL a b < 0→cmpL b c < 0→cmpL a c < 0
 | [],[],c=>fun h _=>by simp [cmpL] at h
 | [],b :: l2,[]=>fun _ h=>by simp [cmpL] at h
 | [],b :: l2,c :: l3=>fun _ _=>by simp [cmpL]
 | a :: l1,[],c=>fun h _=>by simp [cmpL] at h
 | a :: l1,b :: l2,[]=>fun _ h=>by simp [cmpL] at h
 | a :: l1,b :: l2,c :: l3=>fun h1 h2=>by
  have ih:=cmpL_trans l1 l2 l3
  simp only [cmpL] at h1 h2 ⊢
  by_cases e1:a < b
  ·by_cases e2:b < c
   ·rw [if_pos (by omega)];omega
   ·rw [if_neg e2] at h2
    by_cases e3:c < b
    ·rw [if_pos e3] at h2;omega
    ·rw [if_pos (by omega)];omega
  ·rw [if_neg e1] at h1
   by_cases e4:b < a
   ·rw [if_pos e4] at h1;omega
   ·rw [if_neg e4] at h1
    by_cases e2:b < c
    ·rw [if_pos (by omega)];omega
    ·rw [if_neg e2] at h2
     by_cases e3:c < b
     ·rw [if_pos e3] at h2;omega
     ·rw [if_neg e3] at h2
      rw [if_neg (by omega),if_neg (by omega)]
      exact ih h1 h2
theorem cmpL_ntrans:∀ (a b c:List Int),¬ cmpL a b < 0→¬ cmpL b c < 0→¬ cmpL a c < 0
 | [],[],c=>fun _ h=>h
 | [],b :: l2,c=>fun h _=>absurd (show cmpL [] (b :: l2) < 0 by simp [cmpL]) h
 | a :: l1,b,[]=>fun _ _=>by simp [cmpL]
 | a :: l1,[],c :: l3=>fun _ h=>absurd (show cmpL [] (c :: l3) < 0 by simp [cmpL]) h
 | a :: l1,b :: l2,c :: l3=>fun h1 h2=>by
  have ih:=cmpL_ntrans l1 l2 l3
  simp only [cmpL] at h1 h2 ⊢
  by_cases e1:a < b
  ·rw [if_pos e1] at h1;omega
  ·rw [if_neg e1] at h1
   by_cases e2:b < c
   ·rw [if_pos e2] at h2;omega
   ·rw [if_neg e2] at h2
    rw [if_neg (show ¬ a < c by omega)]
    by_cases e4:b < a
    ·rw [if_pos (by omega)];omega
    ·rw [if_neg e4] at h1
     by_cases e3:c < b
     ·rw [if_pos (by omega)];omega
     ·rw [if_neg e3] at h2
      rw [if_neg (by omega)]
      exact ih h1 h2
theorem cmpL_step {xs ys:List Int} {k:Nat} {x y:Int} (hx:xs[k]? = some x) (hy:ys[k]? = some y):cmpL (xs.drop k) (ys.drop k)=if cmpI x y=0 then cmpL (xs.drop (k+1)) (ys.drop (k+1)) else cmpI x y:=by
 obtain ⟨h1,e1⟩:=List.getElem?_eq_some_iff.1 hx
 obtain ⟨h2,e2⟩:=List.getElem?_eq_some_iff.1 hy
 rw [List.drop_eq_getElem_cons h1,List.drop_eq_getElem_cons h2,e1,e2]
 simp only [cmpL,cmpI]
 by_cases c1:x < y
 ·simp [c1]
 ·by_cases c2:y < x
  ·simp [c1,c2]
  ·simp [c1,c2]
theorem isNaN_any (x:Int) (w:World):Calls Tryz.prog 213 #[.int .i64 x] w fun e w'=>e = .returned (.bool false)∧w=w':=by
 go_enter Tryz.func213,Tryz.ntmps213
 go_wp2_with fail
 go_ret
 exact ⟨by simp,rfl⟩
theorem cmpInt_any (x y:Int) (w:World):Calls Tryz.prog 191 #[.int .i64 x, .int .i64 y] w fun e w'=>e = .returned (.int .i64 (cmpI x y))∧w=w':=by
 have h1:x < y→cmpI x y = -1:=fun h=>by unfold cmpI;rw [if_pos h]
 have h2:¬ x < y→y < x→cmpI x y=1:=fun h h'=>by unfold cmpI;rw [if_neg h,if_pos h']
 have h3:¬ x < y→¬ y < x→cmpI x y=0:=fun h h'=>by unfold cmpI;rw [if_neg h,if_neg h']
 have H1:=hide h1;have H2:=hide h2;have H3:=hide h3
 clear h1 h2 h3
 generalize cmpI x y=r at *
 by_cases c1:x < y
 ·obtain rfl:=H1.out c1
  go_enter Tryz.func191,Tryz.ntmps191
  go_wp2_with (go_at_call 213;(with_reducible refine (isNaN_any _ w).mono ?_);rintro e w1 ⟨rfl,rfl⟩)
  go_ret
  exact ⟨rfl,rfl⟩
 ·by_cases c2:y < x
  ·obtain rfl:=H2.out c1 c2
   go_enter Tryz.func191,Tryz.ntmps191
   go_wp2_with (go_at_call 213;(with_reducible refine (isNaN_any _ w).mono ?_);rintro e w1 ⟨rfl,rfl⟩)
   go_ret
   exact ⟨rfl,rfl⟩
  ·obtain rfl:=H3.out c1 c2
   go_enter Tryz.func191,Tryz.ntmps191
   go_wp2_with (go_at_call 213;(with_reducible refine (isNaN_any _ w).mono ?_);rintro e w1 ⟨rfl,rfl⟩)
   go_ret
   exact ⟨rfl,rfl⟩
theorem Compare_any (v u:Value) (xs ys:List Int) (w:World) (hx:Rep IntE w v xs) (hy:Rep IntE w u ys):Calls Tryz.prog 168 #[v,u] w fun e w'=>e = .returned (.int .i64 (cmpL xs ys))∧w=w':=by
 obtain ⟨va,vc,rfl,hc1,hc2,hc3,hx⟩:=hx.open
 obtain ⟨ua,uc,rfl,hd1,hd2,hd3,hy⟩:=hy.open
 have HX:=hide hx;have HY:=hide hy
 clear hx hy hc1 hd1 hc3 hd3
 obtain ⟨R,hR⟩:∃ R,R=cmpL xs ys:=⟨_,rfl⟩
 rw [← hR]
 have HR:Hid (R=cmpL (xs.drop 0) (ys.drop 0)):=hide (by simpa using hR)
 clear hR
 generalize hn:xs.length=n at *
 generalize hm:ys.length=m at *
 have HN:=hide hn;have HM:=hide hm
 clear hn hm
 go_enter Tryz.func168,Tryz.ntmps168
 go_wp2_with fail
 go_loopw [11] (fun i wr => ∃ k:Nat,k≤n∧k≤m∧i = .int .i64 k∧Hid (R=cmpL (xs.drop k) (ys.drop k))∧w=wr) (fun i _=>n - (intOf i).toNat)
 case atStart=>exact ⟨0,Nat.zero_le _,Nat.zero_le _,rfl,HR.out |> hide,rfl⟩
 case round =>
  obtain ⟨k,hk,hkm,rfl,hr,rfl⟩:=hrel
  by_cases hlt:k < n
  ·have hlt':=nat_of_lt hlt
   obtain ⟨x,hxe⟩:=get_of_lt (xs:=xs) (k:=k) (by rw [HN.out];exact hlt)
   obtain ⟨b,o,rfl,hbl,i0⟩:=HX.out.int hxe
   by_cases hlm:k < m
   ·have hlm':=nat_of_lt hlm
    obtain ⟨y,hye⟩:=get_of_lt (xs:=ys) (k:=k) (by rw [HM.out];exact hlm)
    obtain ⟨b2,o2,rfl,hbl2,j0⟩:=HY.out.int hye
    have ST:=hide (cmpL_step hxe hye)
    clear hxe hye
    by_cases hc:cmpI x y=0
    ·have NR:Hid (R=cmpL (xs.drop (k+1)) (ys.drop (k+1))):=hide (by rw [hr.out,ST.out,if_pos hc])
     have HC:=hide hc
     clear hc hr
     go_wp2_with (go_at_call 191;(with_reducible refine (cmpInt_any x y w).mono ?_);rintro e w1 ⟨rfl,rfl⟩;rw [HC.out])
     go_roundw
     case rel=>exact ⟨k+1,by omega,by omega,by go_num,NR,trivial⟩
     case measure=>simp [intOf];omega
    ·have NR:Hid (R=cmpI x y):=hide (by rw [hr.out,ST.out,if_neg hc])
     clear hr
     have HCI:=hide (cmpInt_any x y w)
     generalize cmpI x y=z at *
     clear ST
     obtain rfl:R=z:=NR.out
     have hc':(R==0)=false:=by simpa using hc
     have hc2:¬ R=0:=hc
     go_wp2_with (go_at_call 191;(with_reducible refine HCI.out.mono ?_);rintro e w1 ⟨rfl,rfl⟩)
     go_ret
     exact ⟨rfl,rfl⟩
   ·obtain rfl:k=m:=by omega
    have E:Hid (R=1):=hide (by
     rw [hr.out,List.drop_of_length_le (l:=ys) (by rw [HM.out];exact Nat.le_refl _)]
     obtain ⟨h1,e1⟩:=List.getElem?_eq_some_iff.1 hxe
     rw [List.drop_eq_getElem_cons h1]
     simp [cmpL])
    clear hxe hr
    obtain rfl:=E.out
    go_wp2_with fail
    go_ret
    exact ⟨rfl,rfl⟩
  ·obtain rfl:k=n:=by omega
   by_cases hlm:k < m
   ·have hlm':=nat_of_lt hlm
    have E:Hid (R = -1):=hide (by
     rw [hr.out,List.drop_of_length_le (l:=xs) (by rw [HN.out];exact Nat.le_refl _)]
     have h1:k < ys.length:=by rw [HM.out];exact hlm
     rw [List.drop_eq_getElem_cons h1]
     simp [cmpL])
    clear hr
    obtain rfl:=E.out
    go_wp2_with fail
    go_ret
    exact ⟨rfl,rfl⟩
   ·obtain rfl:k=m:=by omega
    have E:Hid (R=0):=hide (by
     rw [hr.out,List.drop_of_length_le (l:=xs) (by rw [HN.out];exact Nat.le_refl _),List.drop_of_length_le (l:=ys) (by rw [HM.out];exact Nat.le_refl _)]
     rfl)
    clear hr
    obtain rfl:=E.out
    go_wp2_with fail
    go_ret
    exact ⟨rfl,rfl⟩
end Go.Proofs.YtlddmagfbcomgaaGreat
namespace Go.Proofs.YtlddmagfbcomgaaGreat
open Go.RowKit Go.Deep Go.ChangeShapes Go.WideShapes Go.ChangeAt
theorem addr_of_cell {w:World} {a:Addr} {v:Value} (h:w.cell? a=some v):a.spot=none:=by
 unfold World.cell? at h
 split at h
 ·cases hs:a.spot with
  | none=>rfl
  | some x=>simp [hs] at h
 ·cases h
theorem cells_get {w:World} {base:Nat} {a:Addr} {n:Nat} {cs:List Value} (h:w.cells? base a n=some cs) {j:Nat} {u:Value} (hu:cs[j]? = some u):w.cell? (a.add j)=some u:=by
 unfold World.cells? at h
 split at h
 ·have hl:=mapM_some_length h
  have hj:j < n:=by
   have:=(List.getElem?_eq_some_iff.1 hu).1
   rw [hl] at this;simpa using this
  have:=mapM_some_get h j j (by simp [hj])
  rw [this];exact hu
 ·cases h
theorem add_none (b o j:Nat):(⟨b,o,none⟩:Addr).add j=⟨b,o+j,none⟩:=by unfold Addr.add;split <;> simp_all
section
variable {H : Type} {enc : TypeId × Value → H} {P : Program} {w : World} {base : Nat} {spare : Nat → Bool} {held : Bool} {fuel : Nat} {cs : List Value} {x : DataW H × List MemPlace}
theorem rep_of_trod {α:Type} [Inhabited α] (E:El α) {t e:TypeId} (ht:P.underlying t=some (.slice e)) (hc:P.cellsOf e=E.sz) (Q:α→Prop)
 (hel:∀ n cs x,DataW.trod enc P w base spare held n e cs=some x→∃ y,cs=E.c y∧Q y) (h:DataW.trod enc P w base spare held fuel t cs=some x):∃ v xs,cs=[v]∧Rep E w v xs∧∀ y∈xs,Q y:=by
 rcases open_slice ht h with ⟨rfl,_⟩ | ⟨a,len,cap,m,n,D,Pl,rfl,hb,hl,hm,hmm,_,hx⟩
 ·exact ⟨_,[],rfl,Rep.nil w,fun y h=>by simp at h⟩
 ·have hlm:len≤m:=by rw [hmm];split <;> omega
  have each:∀ i,i < len→∃ y,w.cells? base (a.add (i * E.sz)) E.sz=some (E.c y)∧Q y:=fun i hi=>by
   obtain ⟨cs',h1,h2⟩:=hx i (by omega)
   obtain ⟨y,rfl,hq⟩:=hel n cs' _ h2
   rw [hc] at h1
   exact ⟨y,h1,hq⟩
  obtain ⟨f,hf⟩:=choose_lt each
  refine ⟨_,(List.range len).map f,rfl,⟨some a,cap,by simp,by simpa using hl,hm,fun i y hy => ?_⟩, ?_⟩
  ·simp only [List.getElem?_map] at hy
   have hi:i < len:=by
    rcases Nat.lt_or_ge i len with h | h
    ·exact h
    ·rw [List.getElem?_eq_none (by simpa using h)] at hy;simp at hy
   rw [List.getElem?_range hi] at hy
   simp at hy
   subst hy
   have h0:=cells_get (hf 0 (by omega)).1 (El.first (E:=E) (f 0)).choose_spec
   rw [Nat.zero_mul] at h0
   have hsp:a.spot=none:=addr_of_cell (a:=a) (by simpa [Addr.add] using h0)
   obtain ⟨ab,ao,asp⟩:=a
   simp at hsp
   subst hsp
   refine ⟨ab,ao,rfl,fun j u hu => ?_⟩
   have:=cells_get (hf i hi).1 hu
   rwa [add_none,add_none] at this
  ·intro y hy
   simp only [List.mem_map,List.mem_range] at hy
   obtain ⟨i,hi,rfl⟩:=hy
   exact (hf i hi).2
instance:Inhabited Slc:=⟨⟨none,0,0⟩⟩
instance:Inhabited Ins:=⟨⟨0,0,0,0⟩⟩
end
section
variable {H : Type} {enc : TypeId × Value → H} {P : Program}
theorem trodAll_below (hl:laidOutB P=true) {W W':World} (hb:Below W.heap.size W W'):∀ {ts:List TypeId} {vs:List Value} {ds:List (DataW H)} {ps:List MemPlace},(∀ t∈ts,P.readableRec t=true∧t < P.types.size) →
 DataW.TrodAll enc P W 0 (fun _=>true) true ts vs ds ps→DataW.TrodAll enc P W' 0 (fun b=>decide (b < W.heap.size)) true ts vs ds ps
 | [],[],[],ps,_,h=>h
 | t :: ts,v :: vs,d :: ds,ps,ht,h=>by
  have hlt:=DataW.TrodAll.lt h
  obtain ⟨p,q,h1,h2,rfl⟩:=h
  exact ⟨p,q,Below.trod hl (ht t (List.mem_cons_self ..)).1 (ht t (List.mem_cons_self ..)).2 h1 hb (fun x hx=>hlt x (List.mem_append_left _ hx)),trodAll_below hl hb (fun t ht'=>ht t (List.mem_cons_of_mem _ ht')) h2,rfl⟩
 | [],[],_ :: _,_,_,h=>h.elim
 | [],_ :: _,_,_,_,h=>h.elim
 | _ :: _,[],_,_,_,h=>h.elim
 | _ :: _,_ :: _,[],_,_,h=>h.elim
theorem post_law {f:Func} {s:ChangeSpec} {apart:Bool} {W W':World} {args:Array Value} {ds:List (DataW H)} {before:List MemPlace} {tb:TypeId} (hl:laidOutB P=true) (hts:∀ t∈f.params.toList,P.readableRec t=true∧t < P.types.size)
 (hv:s.vars=[]) (hs:s.fn H (ds++[]) = { results:=[.lit (.bool true)],args:=ds,vars:=[] }) (hr:f.resultTypes = #[tb]) (htb:P.underlying tb=some .bool)
 (hW:DataW.Whole enc P f.params.toList s.vars apart W args.toList ds [] before) (hb:Below W.heap.size W W'):s.post enc P f apart true false false W args (.bool true) W':=by
 have hW2:=hW
 obtain ⟨p,q,hA,hV,rfl,hfz,hnd⟩:=hW2
 rw [hv] at hV
 obtain ⟨_,rfl⟩:=trodVars_none hV
 refine ⟨ds,[],_,[],p,[],hW, ?_, ?_, ?_,hb.frame _,fun h=>by cases h⟩
 ·rw [hs,hr]
  exact trodAll_mk1 (shut_bool htb _)
 ·rw [hs]
  exact trodAll_below hl hb hts hA
 ·rw [hs,hv]
  rfl
end
end Go.Proofs.YtlddmagfbcomgaaGreat
namespace Go.Proofs.YtlddmagfbcomgaaGreat
open Go.RowKit Go.Deep Go.ChangeShapes Go.WideShapes Go.ChangeAt
theorem Tryz.own:ownKnob Tryz.prog.godebug=none:=by kernel_rfl
theorem Tryz.laidOut:laidOutB Tryz.prog=true:=by kernel_rfl
theorem Tryz.cellsByte:Tryz.prog.cellsOf 5=1:=by kernel_rfl
section
variable {H : Type} {enc : TypeId × Value → H} {w : World} {base : Nat} {spare : Nat → Bool} {held : Bool}
theorem bytes_of_trod {v:Value} {d:DataW H} {ps:List MemPlace} (hok:∃ a len cap,v = .slice a len cap) (h:DataW.Trod enc Tryz.prog w base spare held 22 v d ps):∃ p,Rep ByteE w v p∧∀ x∈p,0≤x∧x≤255:=by
 obtain ⟨fuel,hf⟩:=h
 obtain ⟨v',p,hv,hp,hq⟩:=rep_of_trod ByteE Tryz.underlying22 Tryz.cellsByte (fun x=>0≤x∧x≤255) (fun n cs x hx=>by
  obtain ⟨i,rfl,hi⟩:=DataW.trod_int Tryz.underlying5 hx
  exact ⟨i,rfl,by
   have:=hi.2
   simp only [Lit.wf,Bool.and_eq_true,decide_eq_true_eq,show IntKind.u8.min=0 from by decide,show IntKind.u8.max=255 from by decide] at this
   omega⟩) hf
 obtain ⟨a,len,cap,rfl⟩:=hok
 simp [Value.cells] at hv
 subst hv
 exact ⟨p,hp,hq⟩
end
end Go.Proofs.YtlddmagfbcomgaaGreat
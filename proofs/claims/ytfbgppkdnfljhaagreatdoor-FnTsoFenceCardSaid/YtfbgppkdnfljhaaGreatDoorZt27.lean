/-
  The reference's l6All. Condition: bounds on lengths.
-/
import Derived.Test.YtfbgppkdnfljhaaGreatDoorZt22
import Derived.Test.YtfbgppkdnfljhaaGreatDoorZt21
import Derived.Test.YtfbgppkdnfljhaaGreatDoorZt16
import Derived.Deep.AppendLies
import Derived.Deep.RegionLaw
set_option maxHeartbeats 6400000
set_option maxRecDepth 100000
namespace Go.Proofs.YtfbgppkdnfljhaaGreatDoor
open Go.RowKit
theorem ruleOk_eq (k o:Int) (p:ByteArray) (ks:List Re):ruleOk ⟨k, .mk o p ks⟩=(inB k 1 3&&validR (.mk o p ks)):=rfl
theorem ModelValid_1 (k o:Int) (p:ByteArray) (a:Option Addr) (n c:Nat) (ks:List Re) (w:World) (h:RepRk 0 w ⟨a,n,c⟩ ks) (hg:Glob w) :
 Calls Tryz.prog 73 #[.agg #[.int .i64 k, .int .i64 o, .string p, .slice a n c]] w fun e w'=>e = .returned (.bool (!ruleOk ⟨k, .mk o p ks⟩))∧Below w.heap.size w w':=by
 have HB:=hide (belowAlloc w (.cells #[.int .i64 k, .int .i64 o, .string p, .slice a n c] 54))
 have HV:=hide (RelExprValid_raw o p ks a n c _ (h.below HB.out) (hg.below HB.out))
 have HW:=hide (within_any k 1 3)
 rw [ruleOk_eq]
 generalize inB k 1 3=b1 at *
 generalize validR (.mk o p ks)=b2 at *
 clear h hg
 cases b1
 ·go_enter Tryz.func73,Tryz.ntmps73
  go_wp2_with fail
  (with_reducible refine (HW.out _).mono ?_);rintro e w1 ⟨rfl,rfl⟩
  go_wp2_with fail
  go_ret
  exact ⟨rfl,HB.out⟩
 ·go_enter Tryz.func73,Tryz.ntmps73
  go_wp2_with fail
  (with_reducible refine (HW.out _).mono ?_);rintro e w1 ⟨rfl,rfl⟩
  go_wp2_with fail
  (with_reducible refine HV.out.mono ?_);rintro e w2 ⟨rfl,hb2⟩
  go_wp2_with fail
  go_ret
  exact ⟨by cases b2 <;> rfl,HB.out.trans (hb2.mono HB.out.size)⟩
def IdxBad (m:List Ru) (q:Int):Prop:=(q = -1∧m.all ruleOk=true)∨(∃ t:Nat,q=t∧m.all ruleOk=false)
theorem allR_take {f:Ru→Bool} {m:List Ru} {k:Nat} (h:∀ r∈m.take k,f r=true) (hk:m.length≤k):m.all f=true:=by
 rw [List.take_of_length_le hk] at h
 exact List.all_eq_true.2 h
theorem allR_succ {f:Ru→Bool} {m:List Ru} {k:Nat} {r:Ru} (h:∀ r∈m.take k,f r=true) (hr:m[k]? = some r) (hf:f r=true):∀ r∈m.take (k+1),f r=true:=by
 intro y hy
 rw [List.take_add_one,hr] at hy
 simp at hy
 rcases hy with hy | rfl
 ·exact h y hy
 ·exact hf
theorem allR_not {f:Ru→Bool} {m:List Ru} {k:Nat} {r:Ru} (hr:m[k]? = some r) (hf:f r=false):m.all f=false:=by
 cases h:m.all f with
 | false=>rfl
 | true =>
  have:=List.all_eq_true.1 h r (List.mem_of_getElem? hr)
  rw [hf] at this;cases this
theorem IndexFunc_mv (a:Option Addr) (n c:Nat) (m:List Ru) (w:World) (hx:RepM 0 w ⟨a,n,c⟩ m) (hg:Glob w) :
 Calls Tryz.prog 125 #[.slice a n c, .func (.func 73) #[] #[]] w fun e w'=>(∃ q:Int,e = .returned (.int .i64 q)∧IdxBad m q)∧Below w.heap.size w w':=by
 obtain ⟨e1,hc1,hc2,hc3⟩:=hx.open
 simp only at e1 hc1 hc2 hc3
 have HX:=hide hx;have HG:=hide hg
 clear hx hg
 have H:=hide e1.symm;clear e1
 rw [H.out] at hc1 hc2
 go_enter Tryz.func125,Tryz.ntmps125
 go_wp2_with fail
 go_loopw [8] (fun i wr => ∃ t:Nat,t≤n∧i = .int .i64 t∧Hid (∀ r∈m.take t,ruleOk r=true)∧Below w.heap.size w wr) (fun i _=>n - (intOf i).toNat)
 case atStart=>exact ⟨0,Nat.zero_le _,rfl,hide (by simp),Below.refl _ _⟩
 case round =>
  obtain ⟨t,ht,rfl,hno,hb⟩:=hrel
  by_cases hlt:t < n
  ·obtain ⟨r,hrk⟩:=get_of_lt (xs:=m) (k:=t) (by rw [H.out];exact hlt)
   obtain ⟨b,o,s,rfl,hbl,i0,i1,i2,i3,i4⟩:=(HX.out.below hb).row hrk
   have hlt':=nat_of_lt hlt
   have hcall:=ModelValid_1 r.kind r.e.op r.e.nm s.a s.n s.cap r.e.kids wr i4 (HG.out.below hb)
   rw [Ru.eta] at hcall
   have X:=hide hrk;clear hrk i4
   generalize hfx:ruleOk r=fx at *
   have FX:=hide hfx;clear hfx
   have HC:=hide hcall;clear hcall
   cases fx
   ·have NO:=hide (allR_not X.out FX.out)
    go_wp2_with fail
    (with_reducible refine HC.out.mono ?_);rintro e w2 ⟨rfl,hb2⟩
    go_wp2_with fail
    go_ret
    exact ⟨⟨_,rfl, .inr ⟨t,rfl,NO.out⟩⟩,hb.trans (hb2.mono hb.size)⟩
   ·have NO:=hide (allR_succ hno.out X.out FX.out)
    go_wp2_with fail
    (with_reducible refine HC.out.mono ?_);rintro e w2 ⟨rfl,hb2⟩
    go_wp2_with fail
    go_roundw
    case rel=>exact ⟨t+1,by omega,by go_num,NO,hb.trans (hb2.mono hb.size)⟩
    case measure=>simp [intOf];omega
  ·have NO:=hide (allR_take hno.out (by rw [H.out];omega))
   go_wp2_with fail
   go_ret
   exact ⟨⟨_,rfl, .inl ⟨rfl,NO.out⟩⟩,hb⟩
theorem ContainsFunc_mv (a:Option Addr) (n c:Nat) (m:List Ru) (w:World) (hx:RepM 0 w ⟨a,n,c⟩ m) (hg:Glob w) :
 Calls Tryz.prog 72 #[.slice a n c, .func (.func 73) #[] #[]] w fun e w'=>e = .returned (.bool (!m.all ruleOk))∧Below w.heap.size w w':=by
 have HI:=hide (IndexFunc_mv a n c m w hx hg)
 clear hx hg
 go_enter Tryz.func72,Tryz.ntmps72
 go_wp2_with fail
 (with_reducible refine HI.out.mono ?_);rintro e w1 ⟨⟨q,rfl,hq⟩,hb1⟩
 have HQ:Hid (decide (q≥0) = !m.all ruleOk):=hide (by
  rcases hq with ⟨rfl,h⟩ | ⟨t,rfl,h⟩
  ·rw [h];rfl
  ·rw [h];simp)
 clear hq
 go_wp2_with fail
 go_ret
 exact ⟨by rw [← HQ.out];rfl,hb1⟩
theorem modelOk_eq (m:List Ru):modelOk m=(inB (m.length:Int) 1 5&&m.all ruleOk):=by
 unfold modelOk inB
 have h1:decide (1≤m.length)=decide ((1:Int)≤(m.length:Int)):=by rw [decide_eq_decide];omega
 have h2:decide (m.length≤5)=decide ((m.length:Int)≤5):=by rw [decide_eq_decide];omega
 rw [h1,h2,Bool.and_assoc]
theorem ModelValid_any (a:Option Addr) (n c:Nat) (m:List Ru) (w:World) (hx:RepM 0 w ⟨a,n,c⟩ m) (hg:Glob w) :
 Calls Tryz.prog 26 #[.slice a n c] w fun e w'=>e = .returned (.bool (modelOk m))∧Below w.heap.size w w':=by
 obtain ⟨e1,hc1,hc2,hc3⟩:=hx.open
 simp only at e1 hc1 hc2 hc3
 have HC:=hide (ContainsFunc_mv a n c m w hx hg)
 have HW:=hide (within_any (n:Int) 1 5)
 rw [modelOk_eq,← e1]
 clear hx hg e1
 generalize inB (n:Int) 1 5=b1 at *
 generalize m.all ruleOk=b2 at *
 cases b1
 ·go_enter Tryz.func26,Tryz.ntmps26
  go_wp2_with fail
  (with_reducible refine (HW.out _).mono ?_);rintro e w1 ⟨rfl,rfl⟩
  go_wp2_with fail
  go_ret
  exact ⟨rfl,Below.refl _ _⟩
 ·go_enter Tryz.func26,Tryz.ntmps26
  go_wp2_with fail
  (with_reducible refine (HW.out _).mono ?_);rintro e w1 ⟨rfl,rfl⟩
  go_wp2_with fail
  (with_reducible refine HC.out.mono ?_);rintro e w2 ⟨rfl,hb2⟩
  go_wp2_with fail
  go_ret
  exact ⟨by cases b2 <;> rfl,hb2⟩
theorem RepM.bound {w:World} {s:Slc} {m:List Ru} (_:RepM 0 w s m) {r:Ru} (hr:r∈m) (hl:wtM m≤1048576):descR r.e.kids≤1048576:=by
 have h1:=wtM_mem hr;have h2:=descR_le_wtR r.e.kids;omega
theorem sModelValid_any (a:Option Addr) (n c:Nat) (m:List Ru) (w:World) (hx:RepM 0 w ⟨a,n,c⟩ m) (hl:wtM m≤1048576) :
 Calls Tryz.prog 32 #[.slice a n c] w fun e w'=>e = .returned (.bool (modelOk m))∧Below w.heap.size w w':=by
 obtain ⟨e1,hc1,hc2,hc3⟩:=hx.open
 simp only at e1 hc1 hc2 hc3
 have HX:=hide hx
 have HBD:=hide (fun r (hr:r∈m)=>hx.bound hr hl)
 have ME:=hide (modelOk_eq m)
 have IE:Hid (inB (m.length:Int) 1 5=(decide (1≤(m.length:Int))&&decide ((m.length:Int)≤5))):=hide rfl
 clear hx
 have H:=hide e1.symm;clear e1
 rw [H.out] at hc1 hc2 ME IE
 generalize modelOk m=R at *
 generalize inB (n:Int) 1 5=I5 at *
 go_enter Tryz.func32,Tryz.ntmps32
 go_wp2_with fail
 go_loopw [3] (fun i wr => ∃ t:Nat,t≤n∧t≤6∧i = .int .i64 t∧Hid (∀ r∈m.take t,ruleOk r=true)∧Below w.heap.size w wr) (fun i _=>n - (intOf i).toNat)
 case atStart=>exact ⟨0,Nat.zero_le _,by omega,rfl,hide (by simp),Below.refl _ _⟩
 case round =>
  obtain ⟨t,ht,ht6,rfl,hno,hb⟩:=hrel
  by_cases hlt:t < n
  ·have hlt':=nat_of_lt hlt
   by_cases h5:t≤5
   ·obtain ⟨r,hrk⟩:=get_of_lt (xs:=m) (k:=t) (by rw [H.out];exact hlt)
    obtain ⟨b,o,s,rfl,hbl,i0,i1,i2,i3,i4⟩:=(HX.out.below hb).row hrk
    have h5':(t:Int)≤5:=by omega
    have HV:=hide (RelExprValidS_raw r.e.op r.e.nm r.e.kids s.a s.n s.cap wr i4 (HBD.out r (List.mem_of_getElem? hrk)))
    have RO:Hid (ruleOk r=(inB r.kind 1 3&&validR (.mk r.e.op r.e.nm r.e.kids))):=hide (by rw [Re.eta];rfl)
    have X:=hide hrk;clear hrk i4
    generalize validR (.mk r.e.op r.e.nm r.e.kids)=b2 at *
    generalize hfx:ruleOk r=fx at *
    have FX:=hide hfx;clear hfx
    generalize r.kind=kd at *
    by_cases g1:kd < 1
    ·have g1':decide (kd < 1)=true:=decide_eq_true g1
     obtain rfl:fx=false:=by rw [RO.out];unfold inB;rw [decide_eq_false (show ¬ 1≤kd by omega)];rfl
     have NO:=hide (allR_not X.out FX.out)
     have RF:Hid (R=false):=hide (by rw [ME.out,NO.out,Bool.and_false])
     clear g1
     go_wp2_with fail
     go_ret
     exact ⟨by rw [RF.out];rfl,hb⟩
    ·have g1':decide (kd < 1)=false:=decide_eq_false g1
     by_cases g2:kd > 3
     ·have g2':decide (kd > 3)=true:=decide_eq_true g2
      obtain rfl:fx=false:=by rw [RO.out];unfold inB;rw [decide_eq_false (show ¬ kd≤3 by omega),Bool.and_false];rfl
      have NO:=hide (allR_not X.out FX.out)
      have RF:Hid (R=false):=hide (by rw [ME.out,NO.out,Bool.and_false])
      clear g1 g2
      go_wp2_with fail
      go_ret
      exact ⟨by rw [RF.out];rfl,hb⟩
     ·have g2':decide (kd > 3)=false:=decide_eq_false g2
      obtain rfl:fx=b2:=by rw [RO.out];unfold inB;rw [decide_eq_true (show 1≤kd by omega),decide_eq_true (show kd≤3 by omega)];rfl
      clear g1 g2
      cases fx
      ·have NO:=hide (allR_not X.out FX.out)
       have RF:Hid (R=false):=hide (by rw [ME.out,NO.out,Bool.and_false])
       go_wp2_with fail
       (with_reducible refine HV.out.mono ?_);rintro e w5 ⟨rfl,hb5⟩
       go_wp2_with fail
       go_ret
       exact ⟨by rw [RF.out];rfl,hb.trans (hb5.mono hb.size)⟩
      ·have NO:=hide (allR_succ hno.out X.out FX.out)
       go_wp2_with fail
       (with_reducible refine HV.out.mono ?_);rintro e w5 ⟨rfl,hb5⟩
       go_wp2_with fail
       go_roundw
       case rel=>exact ⟨t+1,by omega,by omega,by go_num,NO,hb.trans (hb5.mono hb.size)⟩
       case measure=>simp [intOf];omega
   ·have h5':decide ((t:Int)≤5)=false:=decide_eq_false (by omega)
    have h6:decide ((n:Int)≤5)=false:=decide_eq_false (by omega)
    have RF:Hid (R=false):=hide (by rw [ME.out,IE.out,h6,Bool.and_false];rfl)
    have h7:(n:Int) > 0:=by omega
    go_wp2_with fail
    go_ret
    exact ⟨by rw [RF.out];rfl,hb⟩
  ·obtain rfl:t=n:=by omega
   have NO:=hide (allR_take hno.out (by rw [H.out];omega))
   have RF:Hid (R=(decide (1≤(t:Int))&&decide ((t:Int)≤5))):=hide (by rw [ME.out,IE.out,NO.out,Bool.and_true])
   by_cases h0:(t:Int) > 0
   ·have RG:Hid (R=decide ((t:Int)≤5)):=hide (by rw [RF.out,decide_eq_true (show (1:Int)≤t by omega)];rfl)
    go_wp2_with fail
    go_ret
    exact ⟨by rw [RG.out];rfl,hb⟩
   ·have h0':decide ((t:Int) > 0)=false:=decide_eq_false h0
    have RG:Hid (R=false):=hide (by rw [RF.out,decide_eq_false (show ¬ (1:Int)≤t by omega)];rfl)
    go_wp2_with fail
    go_ret
    exact ⟨by rw [RG.out];rfl,hb⟩
end Go.Proofs.YtfbgppkdnfljhaaGreatDoor
namespace Go.Proofs.YtfbgppkdnfljhaaGreatDoor
open Go.RowKit
theorem RowsI.loc {w:World} {base:Nat} {v:Value} {L:List (List Int)} {T:TypeId} (h:RowsI w base v L) (h1:57≠T) (h2:3≠T):LocR T base w.heap.size w (fun W=>RepNN W v L):=by
 obtain ⟨us,ds,h⟩:=h
 have k1:=LocR.own h1 h.own
 have k2:LocR T base w.heap.size w (fun W => ∀ (i:Nat) (u:Slc) (r:List Int),us[i]? = some u→L[i]? = some r→Rep IntE W u.v r):=by
  refine LocR.all (Nat.le_refl _) fun i=>LocR.all (Nat.le_refl _) fun u=>LocR.all (Nat.le_refl _) fun r=>LocR.imp (Nat.le_refl _) fun hu=>LocR.imp (Nat.le_refl _) fun hr => ?_
  obtain ⟨d,hd⟩:=get_of_lt (xs:=ds) (k:=i) (by rw [h.ld];exact (List.getElem?_eq_some_iff.1 hr).1)
  obtain ⟨r1,r2⟩:=h.rows i u d r hu hd hr
  exact ((LocR.own h2 r2.now.1).wide r1 (Nat.le_refl _) (Nat.le_refl _)).map fun V k=>k.rep
 exact (k1.and k2).map fun V ⟨a,b⟩=>⟨us,h.lu,a.rep,b⟩
end Go.Proofs.YtfbgppkdnfljhaaGreatDoor
namespace Go.Proofs.YtfbgppkdnfljhaaGreatDoor
open Go.RowKit
theorem Tryz.infoExecY:(Tryz.prog.info? 60).map (fun i=>(i.zero,i.size,i.bytes))=some (some (.agg #[.slice none 0 0, .slice none 0 0]),2,48):=by kernel_rfl
structure Sl2 where
 f:Slc
 o:Slc
def XE:El Sl2:=⟨2,by decide,fun x=>[.slice x.f.a x.f.n x.f.cap, .slice x.o.a x.o.n x.o.cap],fun _=>rfl,fun x u h=>by simp at h;rcases h with rfl | rfl <;> rfl⟩
def PhiX (_:Dd) (W:World) (u:Sl2) (x:Xc):Prop:=RepX W u.f.v u.o.v x
abbrev RowsX (w:World) (base:Nat) (v:Value) (L:List Xc):Prop:=OwnF XE 60 Rafter PhiX w base v L
theorem RowsX.app {us:List Sl2} {ds:List Dd} {w w1 w2:World} {base:Nat} {v v':Value} {L:List Xc} (h:OwnFU XE 60 Rafter PhiX us ds w base v L) (hb:Below w.heap.size w w1) (hbase:base≤w.heap.size) {x:Xc} {s:Sl2} {ob:Obj}
 (hu:LocR 60 w.heap.size w1.heap.size w1 (fun W=>RepX W s.f.v s.o.v x)) (ho:Own XE 60 w2 base v' (us++[s])) (hg:(w1.alloc ob).grownBy w2 v.ownBlock):RowsX w2 base v' (L++[x]):=by
 have hba:=(Below.refl w1.heap.size w1).alloc (Nat.le_refl _) ob
 have hd:=h.hi
 exact ⟨us++[s],ds++[⟨w.heap.size,w1.heap.size,[]⟩],OwnFU.app (d:=⟨w.heap.size,w1.heap.size,[]⟩) ((h.below hb).below hba) ho hg hbase (hu.below hba) (fun d' h'=>(hd d' h':d'.hi≤w.heap.size))⟩
theorem permsL_mem:∀ (n:Nat) (xs:List Int),xs.length=n→∀ r∈permsL xs,r.length=xs.length:=fun n xs h r hr=>by rw [permsL_row n xs h r hr,h]
end Go.Proofs.YtfbgppkdnfljhaaGreatDoor
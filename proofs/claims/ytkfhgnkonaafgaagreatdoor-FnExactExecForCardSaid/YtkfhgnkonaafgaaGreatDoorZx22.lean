/-
  The program's valuesOf, of a valid candidate. Condition: bounds on lengths.
-/
import Derived.Test.YtkfhgnkonaafgaaGreatDoorZx15
import Derived.Maps.AppendAt
set_option maxHeartbeats 6400000
set_option maxRecDepth 100000
namespace Go.Proofs.YtkfhgnkonaafgaaGreatDoor
open Go.RowKit
def RetSzR (w:World) (d:Nat) (c:Re) (e:Ending) (w':World):Prop:=∃ r:Int,e = .returned (.int .i64 r)∧SzR d c r∧Below w.heap.size w w'
theorem relSize_any:∀ (d:Nat),d≤12→∀ (o:Int) (p:ByteArray) (ks:List Re) (a:Option Addr) (n c:Nat) (w:World),RepRk 0 w ⟨a,n,c⟩ ks→Glob w →
 Calls Tryz.prog 120 #[.agg #[.int .i64 o, .string p, .slice a n c], .int .i64 d] w (RetSzR w d (.mk o p ks)):=by
 intro d
 induction d with
 | zero =>
  intro _ o p ks a n c w h hg
  have HB:=hide ((Below.refl w.heap.size w).alloc (Nat.le_refl _) (.cells #[.int .i64 o, .string p, .slice a n c] 75))
  have HL:=hide (fun w'=>relLevel_any o w')
  go_enter Tryz.func120,Tryz.ntmps120
  go_wp2_with fail
  (with_reducible refine (HL.out _).mono ?_);rintro e w1 ⟨⟨lv,sg,rfl⟩,rfl⟩
  go_wp2_with fail
  refine wp_region_bw (by kernel_rfl) (by kernel_rfl) ?_
  repeat (go_big_quiet_step (fail))
  refine wpQuiet_nil ?_
  intro w5 hb5
  go_wp2_with fail
  go_ret
  exact ⟨41,rfl,SzR.bad0 _,HB.out.trans (hb5.mono HB.out.size)⟩
 | succ d ih =>
  intro hd o p ks a n c w h hg
  have IH:=hide (ih (by omega))
  clear ih
  obtain ⟨e1,hc1,hc2,hc3⟩:=h.open
  simp only at e1 hc1 hc2 hc3
  subst e1
  have HB:=hide ((Below.refl w.heap.size w).alloc (Nat.le_refl _) (.cells #[.int .i64 o, .string p, .slice a ks.length c] 75))
  have HP:=hide (h.below HB.out)
  have HL:=hide (fun w'=>relLevel_any o w')
  have HG:=hide (hg.below HB.out)
  have HNM:=hide (fun (y:BW (w.alloc (.cells #[.int .i64 o, .string p, .slice a ks.length c] 75)))=>isRelName_any p y.val (HG.out.below y.prop))
  have NB2:Hid (nodeO o p ks.length=(((ks.length:Int)==kidsO o)&&(((o==1)==isName p)&&(o==1||(p.toList==[]))))):=hide rfl
  have hD0:(((d+1:Nat):Int)==0)=false:=by simp;omega
  have hD1:((d+1:Nat):Int) - 1=(d:Int):=by omega
  have hD2:1≤((d+1:Nat):Int):=by omega
  have hD3:((d+1:Nat):Int)≤12:=by omega
  generalize ((d+1:Nat):Int)=D at *
  have NB:Hid (nodeO o p ks.length=nodeE (.mk o p ks)):=hide rfl
  have KK:Hid ((Re.mk o p ks).kids=ks):=hide rfl
  generalize hC:Re.mk o p ks=C at *
  clear hC h
  generalize nodeO o p ks.length=b at *
  go_enter Tryz.func120,Tryz.ntmps120
  go_wp2_with fail
  (with_reducible refine (HL.out _).mono ?_);rintro e w1 ⟨⟨lv,sg,rfl⟩,rfl⟩
  go_upto_region 2 with fail
  go_cut [45] (fun s W=>s = .bool (!b)∧Below (w.alloc (.cells #[.int .i64 o, .string p, .slice a ks.length c] 75)).heap.size (w.alloc (.cells #[.int .i64 o, .string p, .slice a ks.length c] 75)) W)
  case first =>
   rcases Bool.eq_false_or_eq_true ((ks.length:Int)==kidsO o) with gA | gA
   ·have gA':((ks.length:Int) != kidsO o)=false:=by simp only [bne,gA];rfl
    rcases Bool.eq_false_or_eq_true (o==1) with gC | gC
    ·have gC':(o != 1)=false:=by simp only [bne,gC];rfl
     rcases Bool.eq_false_or_eq_true (isName p) with gN | gN
     ·have RN:Hid (b=true):=hide (by rw [NB2.out,gA,gC,gN];rfl)
      rw [gN] at HNM
      go_wp2_with fail
      refine wp_region_bw (by kernel_rfl) (by kernel_rfl) ?_
      repeat (go_big_quiet_step ((go_at_call 160;(with_reducible exact Calls.bw_same (HNM.out _)))))
      refine wpQuiet_nil ?_
      intro w5 hb5
      go_wp2_with fail
      go_meet
      exact ⟨by rw [RN.out];rfl,hb5⟩
     ·have RN:Hid (b=false):=hide (by rw [NB2.out,gA,gC,gN];rfl)
      rw [gN] at HNM
      go_wp2_with fail
      refine wp_region_bw (by kernel_rfl) (by kernel_rfl) ?_
      repeat (go_big_quiet_step ((go_at_call 160;(with_reducible exact Calls.bw_same (HNM.out _)))))
      refine wpQuiet_nil ?_
      intro w5 hb5
      go_wp2_with fail
      go_meet
      exact ⟨by rw [RN.out];rfl,hb5⟩
    ·have gC':(o != 1)=true:=by simp only [bne,gC];rfl
     rcases Bool.eq_false_or_eq_true (isName p) with gN | gN
     ·have RN:Hid (b=false):=hide (by rw [NB2.out,gA,gC,gN];rfl)
      rw [gN] at HNM
      go_wp2_with fail
      refine wp_region_bw (by kernel_rfl) (by kernel_rfl) ?_
      repeat (go_big_quiet_step ((go_at_call 160;(with_reducible exact Calls.bw_same (HNM.out _)))))
      refine wpQuiet_nil ?_
      intro w5 hb5
      go_wp2_with fail
      go_meet
      exact ⟨by rw [RN.out];rfl,hb5⟩
     ·rw [gN] at HNM
      rcases Bool.eq_false_or_eq_true (p.toList==[]) with gD | gD
      ·have gD':(p.toList != [])=false:=by simp only [bne,gD];rfl
       have RN:Hid (b=true):=hide (by rw [NB2.out,gA,gC,gN,gD];rfl)
       go_wp2_with fail
       refine wp_region_bw (by kernel_rfl) (by kernel_rfl) ?_
       repeat (go_big_quiet_step ((go_at_call 160;(with_reducible exact Calls.bw_same (HNM.out _)))))
       refine wpQuiet_nil ?_
       intro w5 hb5
       go_wp2_with fail
       go_meet
       exact ⟨by rw [RN.out];rfl,hb5⟩
      ·have gD':(p.toList != [])=true:=by simp only [bne,gD];rfl
       have RN:Hid (b=false):=hide (by rw [NB2.out,gA,gC,gN,gD];rfl)
       go_wp2_with fail
       refine wp_region_bw (by kernel_rfl) (by kernel_rfl) ?_
       repeat (go_big_quiet_step ((go_at_call 160;(with_reducible exact Calls.bw_same (HNM.out _)))))
       refine wpQuiet_nil ?_
       intro w5 hb5
       go_wp2_with fail
       go_meet
       exact ⟨by rw [RN.out];rfl,hb5⟩
   ·have gA':((ks.length:Int) != kidsO o)=true:=by simp only [bne,gA];rfl
    have RN:Hid (b=false):=hide (by rw [NB2.out,gA];rfl)
    go_wp2_with fail
    refine wp_region_bw (by kernel_rfl) (by kernel_rfl) ?_
    repeat (go_big_quiet_step ((go_at_call 160;(with_reducible exact Calls.bw_same (HNM.out _)))))
    refine wpQuiet_nil ?_
    intro w5 hb5
    go_wp2_with fail
    go_meet
    exact ⟨by rw [RN.out];rfl,hb5⟩
  case rest =>
  obtain ⟨rfl,hb1⟩:=hcut
  cases b
  ·go_wp2_with fail
   go_ret
   exact ⟨41,rfl,SzR.bad NB.out.symm,HB.out.trans (hb1.mono HB.out.size)⟩
  ·obtain ⟨hcc,hff⟩:=bcell hb1
   have HB1:=hide (HB.out.trans (hb1.mono HB.out.size))
   have HP1:=hide (HP.out.below hb1)
   have HG1:=hide (HG.out.below hb1)
   clear hb1
   go_wp2_with fail
   clear hcc hff hD0
   go_loopw [8,49] (fun q i wr => ∃ (k:Nat) (r:Int),k≤ks.length∧i = .int .i64 k∧q = .int .i64 r∧Hid (SzRTo d ks k r)∧1≤r∧r≤40∧Below wc.heap.size wc wr) (fun _ i _=>ks.length - (intOf i).toNat)
   case atStart=>exact ⟨0,1,by omega,rfl,rfl,hide (SzRTo.zero _ _),by omega,by omega,Below.refl _ _⟩
   case round =>
    obtain ⟨k,r,hk,rfl,rfl,T,hr1,hr2,hb⟩:=hrel
    by_cases hlt:k < ks.length
    ·obtain ⟨x1,hxk⟩:=get_of_lt (xs:=ks) (k:=k) hlt
     obtain ⟨b1,o1,s,rfl,hbl,i0,i1,i2,i5⟩:=(HP1.out.below hb).kid hxk
     have hlt':=nat_of_lt hlt
     have hba:=(Below.refl wr.heap.size wr).alloc (Nat.le_refl _) (.cells #[.int .i64 x1.op, .string x1.nm, .slice s.a s.n s.cap] 75)
     have HC:=hide (IH.out x1.op x1.nm x1.kids s.a s.n s.cap _ (i5.below hba) ((HG1.out.below hb).below hba))
     have X:=hide hxk;have HBA:=hide hba
     clear hxk i5 hba
     go_wp2_with fail
     (with_reducible refine HC.out.mono ?_);rintro e w2 ⟨r',rfl,hr',hb2⟩
     rw [Re.eta] at hr'
     have h1:=hr'.low
     have h2:=hr'.high
     have HR:=hide hr';clear hr'
     have hb3:=hb.trans ((HBA.out.trans (hb2.mono HBA.out.size)).mono hb.size)
     by_cases hle:r+r'≤40
     ·have T2:=hide (T.out.next X.out HR.out hle)
      have hle':decide (r+r' > 40)=false:=by simp;omega
      go_wp2_with fail
      go_roundw
      case rel =>
       refine ⟨_,_,_,_,_,_,_,_,_,_,_,_,_,_,_, ?_,rfl⟩
       exact ⟨k+1,r+r',by omega,by go_num,rfl,T2,by omega,by omega,hb3⟩
      case measure=>simp [intOf];omega
     ·have hle':decide (r+r' > 40)=true:=by simp;omega
      have T2:=hide (SzRTo.more (c:=C) (by rw [KK.out];exact T.out) (by rw [KK.out];exact X.out) HR.out hle)
      go_wp2_with fail
      go_ret
      exact ⟨r+r',rfl,T2.out,HB1.out.trans (hb3.mono HB1.out.size)⟩
    ·have e:ks.length≤k:=by omega
     have T2:=hide (SzRTo.done (c:=C) (by rw [KK.out];exact T.out) NB.out.symm (by rw [KK.out];exact e))
     go_wp2_with fail
     go_ret
     exact ⟨r,rfl,T2.out,HB1.out.trans (hb.mono HB1.out.size)⟩
theorem RelExprValid_raw (o:Int) (p:ByteArray) (ks:List Re) (a:Option Addr) (n c:Nat) (w:World) (h:RepRk 0 w ⟨a,n,c⟩ ks) (hg:Glob w) :
 Calls Tryz.prog 78 #[.agg #[.int .i64 o, .string p, .slice a n c]] w fun e w'=>e = .returned (.bool (validR (.mk o p ks)))∧Below w.heap.size w w':=by
 have HB:=hide ((Below.refl w.heap.size w).alloc (Nat.le_refl _) (.cells #[.int .i64 o, .string p, .slice a n c] 75))
 have HC:=hide (relSize_any 12 (Nat.le_refl _) o p ks a n c _ (h.below HB.out) (hg.below HB.out))
 have e10:((12:Nat):Int)=12:=rfl
 rw [e10] at HC
 clear e10
 generalize Re.mk o p ks=C at *
 go_enter Tryz.func78,Tryz.ntmps78
 go_wp2_with fail
 (with_reducible refine HC.out.mono ?_);rintro e w2 ⟨r,rfl,hr,hb2⟩
 have E:=hide hr.valid
 clear hr
 go_wp2_with fail
 go_ret
 exact ⟨by rw [← E.out];rfl,HB.out.trans (hb2.mono HB.out.size)⟩
theorem l7Shape_any:∀ (d:Nat),d≤12→∀ (o:Int) (p:ByteArray) (ks:List Re) (a:Option Addr) (n c:Nat) (w:World),RepRk 0 w ⟨a,n,c⟩ ks →
 Calls Tryz.prog 108 #[.agg #[.int .i64 o, .string p, .slice a n c], .int .i64 d] w fun e w'=>e = .returned (.bool (shapeR d (.mk o p ks)))∧Below w.heap.size w w':=by
 intro d
 induction d with
 | zero =>
  intro _ o p ks a n c w h
  have HB:=hide ((Below.refl w.heap.size w).alloc (Nat.le_refl _) (.cells #[.int .i64 o, .string p, .slice a n c] 75))
  go_enter Tryz.func108,Tryz.ntmps108
  go_wp2_with fail
  refine wp_region_bw (by kernel_rfl) (by kernel_rfl) ?_
  repeat (go_big_quiet_step (fail))
  refine wpQuiet_nil ?_
  intro w5 hb5
  go_wp2_with fail
  go_ret
  exact ⟨rfl,HB.out.trans (hb5.mono HB.out.size)⟩
 | succ d ih =>
  intro hd o p ks a n c w h
  have IH:=hide (ih (by omega))
  clear ih
  obtain ⟨e1,hc1,hc2,hc3⟩:=h.open
  simp only at e1 hc1 hc2 hc3
  subst e1
  have HB:=hide ((Below.refl w.heap.size w).alloc (Nat.le_refl _) (.cells #[.int .i64 o, .string p, .slice a ks.length c] 75))
  have HP:=hide (h.below HB.out)
  have HKD:=hide (fun (y:BW (w.alloc (.cells #[.int .i64 o, .string p, .slice a ks.length c] 75)))=>l7Kids_any o y.val)
  have HNM:=hide (fun (y:BW (w.alloc (.cells #[.int .i64 o, .string p, .slice a ks.length c] 75)))=>l6Named_any p y.val)
  have NB2:Hid (nodeO o p ks.length=(((ks.length:Int)==kidsO o)&&(((o==1)==isName p)&&(o==1||(p.toList==[]))))):=hide rfl
  have hd0:decide ((d:Int)+1 < 1)=false:=by simp;omega
  have NB:Hid (nodeO o p ks.length=nodeE (.mk o p ks)):=hide rfl
  have KK:Hid ((Re.mk o p ks).kids=ks):=hide rfl
  generalize hC:Re.mk o p ks=C at *
  clear hC h
  generalize nodeO o p ks.length=b at *
  have SH:=hide (shapeR_succ d C)
  generalize shapeR (d+1) C=R at *
  go_enter Tryz.func108,Tryz.ntmps108
  go_upto_region 1 with fail
  go_cut [35] (fun s W=>s = .bool (!b)∧Below (w.alloc (.cells #[.int .i64 o, .string p, .slice a ks.length c] 75)).heap.size (w.alloc (.cells #[.int .i64 o, .string p, .slice a ks.length c] 75)) W)
  case first =>
   rcases Bool.eq_false_or_eq_true ((ks.length:Int)==kidsO o) with gA | gA
   ·have gA':((ks.length:Int) != kidsO o)=false:=by simp only [bne,gA];rfl
    rcases Bool.eq_false_or_eq_true (o==1) with gC | gC
    ·have gC':(o != 1)=false:=by simp only [bne,gC];rfl
     rcases Bool.eq_false_or_eq_true (isName p) with gN | gN
     ·have RN:Hid (b=true):=hide (by rw [NB2.out,gA,gC,gN];rfl)
      rw [gN] at HNM
      go_wp2_with fail
      refine wp_region_bw (by kernel_rfl) (by kernel_rfl) ?_
      repeat (go_big_quiet_step (first | (go_at_call 145;(with_reducible exact Calls.bw_same (HKD.out _))) | (go_at_call 146;(with_reducible exact Calls.bw (HNM.out _)))))
      refine wpQuiet_nil ?_
      intro w5 hb5
      go_wp2_with fail
      go_meet
      exact ⟨by rw [RN.out];rfl,hb5⟩
     ·have RN:Hid (b=false):=hide (by rw [NB2.out,gA,gC,gN];rfl)
      rw [gN] at HNM
      go_wp2_with fail
      refine wp_region_bw (by kernel_rfl) (by kernel_rfl) ?_
      repeat (go_big_quiet_step (first | (go_at_call 145;(with_reducible exact Calls.bw_same (HKD.out _))) | (go_at_call 146;(with_reducible exact Calls.bw (HNM.out _)))))
      refine wpQuiet_nil ?_
      intro w5 hb5
      go_wp2_with fail
      go_meet
      exact ⟨by rw [RN.out];rfl,hb5⟩
    ·have gC':(o != 1)=true:=by simp only [bne,gC];rfl
     rcases Bool.eq_false_or_eq_true (isName p) with gN | gN
     ·have RN:Hid (b=false):=hide (by rw [NB2.out,gA,gC,gN];rfl)
      rw [gN] at HNM
      go_wp2_with fail
      refine wp_region_bw (by kernel_rfl) (by kernel_rfl) ?_
      repeat (go_big_quiet_step (first | (go_at_call 145;(with_reducible exact Calls.bw_same (HKD.out _))) | (go_at_call 146;(with_reducible exact Calls.bw (HNM.out _)))))
      refine wpQuiet_nil ?_
      intro w5 hb5
      go_wp2_with fail
      go_meet
      exact ⟨by rw [RN.out];rfl,hb5⟩
     ·rw [gN] at HNM
      rcases Bool.eq_false_or_eq_true (p.toList==[]) with gD | gD
      ·have gD':(p.toList != [])=false:=by simp only [bne,gD];rfl
       have RN:Hid (b=true):=hide (by rw [NB2.out,gA,gC,gN,gD];rfl)
       go_wp2_with fail
       refine wp_region_bw (by kernel_rfl) (by kernel_rfl) ?_
       repeat (go_big_quiet_step (first | (go_at_call 145;(with_reducible exact Calls.bw_same (HKD.out _))) | (go_at_call 146;(with_reducible exact Calls.bw (HNM.out _)))))
       refine wpQuiet_nil ?_
       intro w5 hb5
       go_wp2_with fail
       go_meet
       exact ⟨by rw [RN.out];rfl,hb5⟩
      ·have gD':(p.toList != [])=true:=by simp only [bne,gD];rfl
       have RN:Hid (b=false):=hide (by rw [NB2.out,gA,gC,gN,gD];rfl)
       go_wp2_with fail
       refine wp_region_bw (by kernel_rfl) (by kernel_rfl) ?_
       repeat (go_big_quiet_step (first | (go_at_call 145;(with_reducible exact Calls.bw_same (HKD.out _))) | (go_at_call 146;(with_reducible exact Calls.bw (HNM.out _)))))
       refine wpQuiet_nil ?_
       intro w5 hb5
       go_wp2_with fail
       go_meet
       exact ⟨by rw [RN.out];rfl,hb5⟩
   ·have gA':((ks.length:Int) != kidsO o)=true:=by simp only [bne,gA];rfl
    have RN:Hid (b=false):=hide (by rw [NB2.out,gA];rfl)
    go_wp2_with fail
    refine wp_region_bw (by kernel_rfl) (by kernel_rfl) ?_
    repeat (go_big_quiet_step (first | (go_at_call 145;(with_reducible exact Calls.bw_same (HKD.out _))) | (go_at_call 146;(with_reducible exact Calls.bw (HNM.out _)))))
    refine wpQuiet_nil ?_
    intro w5 hb5
    go_wp2_with fail
    go_meet
    exact ⟨by rw [RN.out];rfl,hb5⟩
  case rest =>
  obtain ⟨rfl,hb1⟩:=hcut
  cases b
  ·obtain rfl:R=false:=by rw [Bool.eq_false_iff,ne_eq,SH.out,← NB.out];simp
   go_wp2_with fail
   go_ret
   exact ⟨rfl,HB.out.trans (hb1.mono HB.out.size)⟩
  ·obtain ⟨hcc,hff⟩:=bcell hb1
   have HB1:=hide (HB.out.trans (hb1.mono HB.out.size))
   have HP1:=hide (HP.out.below hb1)
   have k1:wc.cell? ⟨w.heap.size,2,none⟩=some (.slice a ks.length c):=by rw [hcc _ _ (by simp)];simp [go_sem]
   have k2:w.heap.size < wc.heap.size:=by have:=hb1.size;simp at this;omega
   clear hb1
   go_wp2_with fail
   clear hcc hff hd0
   go_loopw [5] (fun i wr => ∃ (k:Nat),k≤ks.length∧i = .int .i64 k∧Hid (∀ y∈ks.take k,shapeR d y=true)∧Below wc.heap.size wc wr) (fun i _=>ks.length - (intOf i).toNat)
   case atStart=>exact ⟨0,by omega,rfl,hide (by simp),Below.refl _ _⟩
   case round =>
    obtain ⟨k,hk,rfl,T,hb⟩:=hrel
    have hsz:=hb.size
    have l1:=(hb.cell (p:=⟨w.heap.size,2,none⟩) k2).trans k1
    have l3:w.heap.size < wr.heap.size:=by omega
    by_cases hlt:k < ks.length
    ·obtain ⟨x1,hxk⟩:=get_of_lt (xs:=ks) (k:=k) hlt
     obtain ⟨b1,o1,s,rfl,hbl,i0,i1,i2,i5⟩:=(HP1.out.below hb).kid hxk
     have hlt':=nat_of_lt hlt
     have HC:=hide (IH.out x1.op x1.nm x1.kids s.a s.n s.cap _ i5)
     have hb1x:shapeR d (Re.mk x1.op x1.nm x1.kids)=shapeR d x1:=by rw [Re.eta]
     rw [hb1x] at HC
     have X:=hide hxk
     clear hxk i5 hb1x
     generalize hy:shapeR d x1=y at *
     have Y:=hide hy;clear hy
     go_wp2_with fail
     (with_reducible refine HC.out.mono ?_);rintro e w2 ⟨rfl,hb2⟩
     have hb3:=hb.trans (hb2.mono hb.size)
     cases y
     ·go_wp2_with fail
      go_ret
      obtain rfl:R=false:=by
       rw [Bool.eq_false_iff,ne_eq,SH.out,KK.out]
       intro h
       have:=h.2 x1 (List.mem_of_getElem? X.out)
       rw [Y.out] at this;simp at this
      exact ⟨rfl,HB1.out.trans (hb3.mono HB1.out.size)⟩
     ·have T2:Hid (∀ y∈ks.take (k+1),shapeR d y=true):=hide (by
       intro y hy
       rw [List.take_add_one,X.out] at hy
       simp at hy
       rcases hy with hy | rfl
       ·exact T.out y hy
       ·exact Y.out)
      go_wp2_with fail
      go_roundw
      case rel =>
       refine ⟨_,_,_,_,_,_,_,_,_,_,_,_,_,_,_,_,_,_, ?_,rfl⟩
       exact ⟨k+1,by omega,by go_num,T2,hb3⟩
      case measure=>simp [intOf];omega
    ·obtain rfl:R=true:=by
      rw [SH.out,KK.out]
      exact ⟨NB.out.symm,by have:=T.out;rwa [List.take_of_length_le (by omega)] at this⟩
     go_wp2_with fail
     go_ret
     exact ⟨rfl,HB1.out.trans (hb.mono HB1.out.size)⟩
def RetCnR (w:World) (c:Re) (m:Int) (e:Ending) (w':World):Prop:=∃ r:Int,e = .returned (.int .i64 r)∧CnR c m r∧Below w.heap.size w w'
def CntR (xs:List Re):Prop:=∀ (o:Int) (p:ByteArray) (a:Option Addr) (n c:Nat) (m:Int) (w:World),RepRk 0 w ⟨a,n,c⟩ xs→descR xs≤1048576→0≤m→m≤40 →
 Calls Tryz.prog 109 #[.agg #[.int .i64 o, .string p, .slice a n c], .int .i64 m] w (RetCnR w (.mk o p xs) m)
theorem cntR_any:∀ xs,CntR xs:=Re.all (by
 intro ks ih o p a n c m w h hl hm0 hm1
 obtain ⟨e1,hc1,hc2,hc3⟩:=h.open
 simp only at e1 hc1 hc2 hc3
 subst e1
 have HB:=hide ((Below.refl w.heap.size w).alloc (Nat.le_refl _) (.cells #[.int .i64 o, .string p, .slice a ks.length c] 75))
 have HP:=hide (h.below HB.out)
 have IH:=hide ih
 have KK:Hid ((Re.mk o p ks).kids=ks):=hide rfl
 generalize hC:Re.mk o p ks=C at *
 clear hC h ih
 go_enter Tryz.func109,Tryz.ntmps109
 go_wp2_with fail
 generalize hW:w.alloc (.cells #[.int .i64 o, .string p, .slice a ks.length c] 75)=W at *
 have k1:W.cell? ⟨w.heap.size,2,none⟩=some (.slice a ks.length c):=by rw [← hW];simp [go_sem]
 have k2:w.heap.size < W.heap.size:=by rw [← hW];simp
 clear hW
 go_loopw [5,6] (fun q i wr => ∃ (k:Nat) (r:Int),k≤ks.length∧i = .int .i64 k∧q = .int .i64 r∧Hid (CnRTo ks m k r)∧1≤r∧r≤1048577∧Below W.heap.size W wr) (fun _ i _=>ks.length - (intOf i).toNat)
 case atStart=>exact ⟨0,1,by omega,rfl,rfl,hide (CnRTo.zero _ _),by omega,by omega,Below.refl _ _⟩
 case round =>
  obtain ⟨k,r,hk,rfl,rfl,T,hr1,hr2,hb⟩:=hrel
  have hsz:=hb.size
  have l1:=(hb.cell (p:=⟨w.heap.size,2,none⟩) k2).trans k1
  have l3:w.heap.size < wr.heap.size:=by omega
  by_cases hlt:k < ks.length
  ·by_cases hle:r≤m
   ·obtain ⟨x1,hxk⟩:=get_of_lt (xs:=ks) (k:=k) hlt
    obtain ⟨b1,o1,s,rfl,hbl,i0,i1,i2,i5⟩:=(HP.out.below hb).kid hxk
    have hlt':=nat_of_lt hlt
    have hdk:=descR_kid hxk
    have HC:=hide (IH.out x1 (List.mem_of_getElem? hxk) x1.op x1.nm s.a s.n s.cap (m - r) _ i5 (by omega) (by omega) (by omega))
    have X:=hide hxk
    clear hxk i5
    go_wp2_with fail
    (with_reducible refine HC.out.mono ?_);rintro e w2 ⟨r',rfl,hr',hb2⟩
    rw [Re.eta] at hr'
    have h1:=hr'.low
    have h2:=hr'.high
    have HR:=hide hr';clear hr'
    have hb3:=hb.trans (hb2.mono hb.size)
    have T2:=hide (T.out.next X.out hle HR.out)
    have h3:r+r'≤1048577:=by have:=T2.out.high;have:=descR_take_le ks (k+1);omega
    clear h2
    go_wp2_with fail
    go_roundw
    case rel=>exact ⟨k+1,r+r',by omega,by go_num,rfl,T2,by omega,h3,hb3⟩
    case measure=>simp [intOf];omega
   ·have hle':decide (r≤m)=false:=by simp;omega
    have hlt':=nat_of_lt hlt
    have T2:=hide (CnRTo.done (c:=C) (by rw [KK.out];exact T.out) (.inr hle))
    go_wp2_with fail
    go_ret
    exact ⟨r,rfl,T2.out,HB.out.trans (hb.mono HB.out.size)⟩
  ·have e:ks.length≤k:=by omega
   have T2:=hide (CnRTo.done (c:=C) (m:=m) (by rw [KK.out];exact T.out) (.inl (by rw [KK.out];exact e)))
   go_wp2_with fail
   go_ret
   exact ⟨r,rfl,T2.out,HB.out.trans (hb.mono HB.out.size)⟩)
theorem RelExprValidS_raw (o:Int) (p:ByteArray) (ks:List Re) (a:Option Addr) (n c:Nat) (w:World) (h:RepRk 0 w ⟨a,n,c⟩ ks) (hl:descR ks≤1048576) :
 Calls Tryz.prog 65 #[.agg #[.int .i64 o, .string p, .slice a n c]] w fun e w'=>e = .returned (.bool (validR (.mk o p ks)))∧Below w.heap.size w w':=by
 have HB:=hide ((Below.refl w.heap.size w).alloc (Nat.le_refl _) (.cells #[.int .i64 o, .string p, .slice a n c] 75))
 have HC:=hide (l7Shape_any 12 (Nat.le_refl _) o p ks a n c _ (h.below HB.out))
 have e10:((12:Nat):Int)=12:=rfl
 rw [e10] at HC
 clear e10
 have HN:=hide (fun w' h'=>cntR_any ks o p a n c 40 w' h' hl (by omega) (by omega))
 have HP:=hide (h.below HB.out)
 have E:Hid (validR (.mk o p ks)=(shapeR 12 (.mk o p ks)&&decide (nodesR (.mk o p ks)≤40))):=hide rfl
 clear h
 generalize Re.mk o p ks=C at *
 generalize validR C=R at *
 generalize shapeR 12 C=b at *
 cases b
 ·obtain rfl:R=false:=by rw [E.out];rfl
  go_enter Tryz.func65,Tryz.ntmps65
  go_wp2_with fail
  (with_reducible refine HC.out.mono ?_);rintro e w2 ⟨rfl,hb2⟩
  go_wp2_with fail
  go_ret
  exact ⟨rfl,HB.out.trans (hb2.mono HB.out.size)⟩
 ·go_enter Tryz.func65,Tryz.ntmps65
  go_wp2_with fail
  (with_reducible refine HC.out.mono ?_);rintro e w2 ⟨rfl,hb2⟩
  obtain ⟨hc2,hf2⟩:=bcell hb2
  go_wp2_with fail
  (with_reducible refine (HN.out _ (HP.out.below hb2)).mono ?_);rintro e w3 ⟨r,rfl,hr,hb3⟩
  have E2:Hid (R=decide (r≤40)):=hide (by rw [E.out,hr.le];rfl)
  clear hr
  go_wp2_with fail
  go_ret
  exact ⟨by rw [E2.out];rfl,HB.out.trans ((hb2.trans (hb3.mono hb2.size)).mono HB.out.size)⟩
end Go.Proofs.YtkfhgnkonaafgaaGreatDoor
namespace Go.Proofs.YtkfhgnkonaafgaaGreatDoor
open Go.RowKit
def RetVal (c:Option Int) (base:Nat) (bs:Slc) (bz:List Bool) (w:World) (e:Ending) (w':World):Prop:=
 e = .returned (.tuple #[.int .i64 (c.getD 0), .bool c.isSome])∧Own BoolE 4 w' base bs.v bz∧w.grownBy w' bs.v.ownBlock
theorem RetVal.some_ {v:Int} {c:Option Int} (hc:c=some v) {base:Nat} {bs:Slc} {bz:List Bool} {w w':World} (h:Own BoolE 4 w base bs.v bz) (hb:Below w.heap.size w w'):RetVal c base bs bz w (.returned (.tuple #[.int .i64 v, .bool true])) w':=by
 subst hc
 exact ⟨rfl,h.below hb,⟨hb.os,hb.tape,hb.output,hb.size,fun k hk _=>hb.block k hk⟩⟩
theorem RetVal.none_ {c:Option Int} (hc:c=none) {base:Nat} {bs:Slc} {bz:List Bool} {w w':World} (h:Own BoolE 4 w base bs.v bz) (hb:Below w.heap.size w w'):RetVal c base bs bz w (.returned (.tuple #[.int .i64 0, .bool false])) w':=by
 subst hc
 exact ⟨rfl,h.below hb,⟨hb.os,hb.tape,hb.output,hb.size,fun k hk _=>hb.block k hk⟩⟩
theorem below_grown_row {w w':World} (hb:Below w.heap.size w w') (row:Option Nat):w.grownBy w' row:=⟨hb.os,hb.tape,hb.output,hb.size,fun k hk _=>hb.block k hk⟩
theorem value_any (pb:Nat) (ps fs os ess vs bs:Slc) (p:List (List Ins)) (es:List Ev) (hes:es=evAll p) (fr:List Int) (w0:World) (hp:RepP w0 ps.v p) (hf:Rep IntE w0 fs.v fr) (he:Rep EvE w0 ess.v es) (hok:fromsOk es fr es.length=true) (hlen:fr.length=es.length) (hl:es.length≤1048676) :
 ∀ (N:Nat) (bz:List Bool) (i:Nat) (w:World),bz.length=es.length→i < es.length→bz.countP (fun b => !b) < N→(∀ b,bz[b]? = some true→∃ m,Reach (depV p es fr) (m+1) b i)→Below w0.heap.size w0 w→VS w pb ps fs os ess vs bs→Own BoolE 4 w w0.heap.size bs.v bz →
  Calls Tryz.prog 121 #[.pointer (some ⟨pb,0,none⟩), .int .i64 i] w (RetVal (chain (depV p es fr) es.length i) w0.heap.size bs bz w):=by
 have HES:=hide hes;have HOK:=hide hok;have HLEN:=hide hlen
 clear hes hok hlen
 intro N
 induction N with
 | zero=>intro bz i w _ _ h;omega
 | succ N ih =>
  intro bz i w hbz hi hN hpath hw0 hvs hown
  obtain ⟨pa,pn,pc⟩:=ps
  obtain ⟨fa,fn,fc⟩:=fs
  obtain ⟨ea,en,ec⟩:=ess
  obtain ⟨ba,bn,bc⟩:=bs
  obtain ⟨e,hek⟩:=get_of_lt (xs:=es) (k:=i) hi
  have hpw:=hp.below hw0
  have hfw:=hf.below hw0
  have hew:=he.below hw0
  obtain ⟨ea',ec',heq, -, -, -,he'⟩:=hew.open
  simp only [Value.slice.injEq] at heq
  obtain ⟨rfl,rfl,rfl⟩:=heq
  obtain ⟨pa',pc',heq, -, -, -,hp'⟩:=hpw.open
  simp only [Value.slice.injEq] at heq
  obtain ⟨rfl,rfl,rfl⟩:=heq
  obtain ⟨fa',fc',heq, -, -, -,hf'⟩:=hfw.open
  simp only [Value.slice.injEq] at heq
  obtain ⟨rfl,rfl,rfl⟩:=heq
  rcases hown.shape with ⟨h0,h1⟩ | ⟨g,cap,hsl,hg1,hg2,hg3,hg4⟩
  ·exfalso;subst h1;simp at hbz;omega
  simp only [Value.slice.injEq] at hsl
  obtain ⟨rfl,rfl,rfl⟩:=hsl
  obtain ⟨b,o,rfl,hbl,i0,i1,i2,i3,i4⟩:=he'.ev hek
  have HVS:=hide hvs;have HOWN:=hide hown;have HP:=hide hp';have HFR:=hide hf'
  have v3:=cell_of_heapV hvs.blk (k:=3) rfl
  have hpbl:=lt_of_cell v3
  have hlt':=nat_of_lt hi
  have HB0:=hide hw0
  have D0:=hide (fun h=>dep_t0 (p:=p) (fr:=fr) hek h)
  have HBZ:=hide hbz;have HPA:=hide hpath;have IH:=hide ih
  have HEK:=hide hek
  have HNN:=hide hN
  clear hvs hown hp' hf' hpw hfw hew he' hbz hpath ih hek hN hw0
  have CE:Hid (∀ v,depV p es fr i = .inl v→chain (depV p es fr) es.length i=some v):=hide (fun v h=>chain_end hi h)
  generalize hn:es.length=n at *
  have HN:=hide hn
  clear hn
  by_cases ht:e.t < 0
  ·have C:=hide (CE.out 0 (D0.out ht))
   have k1:decide (e.t < 0)=true:=by simp [ht]
   have HBA:=hide ((Below.refl w.heap.size w).alloc (Nat.le_refl _) (.cells #[.int .i64 e.t, .int .i64 e.i, .int .i64 e.l, .bool e.r, .bool e.w] 99))
   generalize chain (depV p es fr) n i=R at *
   go_enter Tryz.func121,Tryz.ntmps121
   go_wp2_with fail
   go_ret2
   exact RetVal.some_ C.out HOWN.out HBA.out
  ·have k1:decide (e.t < 0)=false:=by simp [ht]
   have hcs:∃ (t i':Nat) (r:List Ins),e.t=t∧e.i=i'∧p[t]? = some r∧r[i']? = some (insE p e):=by
    rcases ev_cases (p:=p) (k:=i) (e:=e) (by rw [← HES.out];exact HEK.out) with h | ⟨t,i',r,h1,h2,h3,h4, -⟩
    ·exfalso;omega
    ·exact ⟨t,i',r,h1,h2,h3,h4⟩
   obtain ⟨t',i',r,het,hei,hpt,hri⟩:=hcs
   obtain ⟨b2,o2,ra,rc,rfl,hbl2,q0,q1⟩:=HP.out.row hpt
   obtain ⟨b3,o3,rfl,hbl3,r0,r1,r2,r3⟩:=q1.ins hri
   have htn:(t':Int) < (p.length:Int):=by have:=(List.getElem?_eq_some_iff.1 hpt).1;omega
   have hin:(i':Int) < (r.length:Int):=by have:=(List.getElem?_eq_some_iff.1 hri).1;omega
   have v0:=cell_of_heapV HVS.out.blk (k:=0) rfl
   have DO:=hide (fun h=>dep_op (p:=p) (fr:=fr) HEK.out ht h)
   have DR0:=hide (fun h h2=>dep_r0 (p:=p) (fr:=fr) HEK.out ht h h2)
   have DRR:=hide (fun h r j h2 h3=>dep_rr (p:=p) (fr:=fr) (r:=r) (j:=j) HEK.out ht h h2 h3)
   obtain ⟨et,ei,el,er,ew⟩:=e
   simp only at het hei i0 i1 i2 i3 i4 ht k1
   subst het
   subst hei
   generalize hins:insE p ⟨(t':Int),(i':Int),el,er,ew⟩=ix at *
   obtain ⟨xo,xl,xr,xv⟩:=ix
   simp only at r0 r1 r2 r3 DO DR0 DRR
   have HBA:=hide ((Below.refl w.heap.size w).alloc (Nat.le_refl _) (.cells #[.int .i64 (t':Int), .int .i64 (i':Int), .int .i64 el, .bool er, .bool ew] 99))
   have HEV:=hide (heap_alloc_new w (.cells #[.int .i64 (t':Int), .int .i64 (i':Int), .int .i64 el, .bool er, .bool ew] 99))
   clear hpt hri q1 hins D0 HEK
   generalize p.length=pl at *
   generalize r.length=rl at *
   go_enter Tryz.func121,Tryz.ntmps121
   go_wp2_with fail
   go_cut [7] (fun s7 W => ∃ b7:Nat,s7 = .pointer (some ⟨b7,0,none⟩)∧b7 < W.heap.size∧W.cell? ⟨b7,0,none⟩=some (.int .i64 xo)∧W.cell? ⟨b7,2,none⟩=some (.int .i64 xr)∧W.cell? ⟨b7,3,none⟩=some (.int .i64 xv)∧w.heap.size < W.heap.size∧Below (w.alloc (.cells #[.int .i64 (t':Int), .int .i64 (i':Int), .int .i64 el, .bool er, .bool ew] 99)).heap.size (w.alloc (.cells #[.int .i64 (t':Int), .int .i64 (i':Int), .int .i64 el, .bool er, .bool ew] 99)) W)
   case first =>
    go_region_held3 (fun W=>W.cell? ⟨pb,0,none⟩=some (.slice (some ⟨b2,o2,none⟩) pl pc)∧W.cell? ⟨w.heap.size,0,none⟩=some (.int .i64 (t':Int))∧W.cell? ⟨w.heap.size,1,none⟩=some (.int .i64 (i':Int))∧W.cell? ⟨b2,o2+t',none⟩=some (.slice (some ⟨b3,o3,none⟩) rl rc) ∧
     W.cell? ⟨b3,o3+i' * 4,none⟩=some (.int .i64 xo)∧W.cell? ⟨b3,o3+i' * 4+1,none⟩=some (.int .i64 xl)∧W.cell? ⟨b3,o3+i' * 4+2,none⟩=some (.int .i64 xr)∧W.cell? ⟨b3,o3+i' * 4+3,none⟩=some (.int .i64 xv)) ((simp [go_sem, *])) (first | fail)
    all_goals
     go_wp2_with fail
     go_meet
     refine ⟨_,rfl,by first | (simp;done) | (simp;omega),by simp [go_sem],by simp [go_sem],by simp [go_sem],by first | (simp;done) | (simp;omega), ?_⟩
     exact ((Below.refl _ _).alloc (Nat.le_refl _) _).drew
   case rest =>
    obtain ⟨b7,rfl,hb7,m0,m2,m3,hlw,hbW⟩:=hcut
    have HBW:=hide (HBA.out.trans (hbW.mono HBA.out.size))
    have HEVc:=hide ((hbW.block w.heap.size (Array.getElem?_eq_some_iff.1 HEV.out).1).trans HEV.out)
    clear hbW HBA HEV v0 v3 i0 i1 i2 i3 i4 q0 r0 r1 r2 r3
    have VC:=hide (HVS.out.below HBW.out)
    have OC:=hide (HOWN.out.below HBW.out)
    have hpc:=Nat.lt_of_lt_of_le hpbl HBW.out.size
    by_cases hop:xo=3
    ·subst hop
     obtain ⟨bi,hbi⟩:=get_of_lt (xs:=bz) (k:=i) (by rw [HBZ.out];exact hi)
     obtain ⟨hgl,f0,hfr⟩:=OC.out.boolc hbi
     have hin2:(i:Int) < (bz.length:Int):=by have:=HBZ.out;omega
     have v5:=cell_of_heapV VC.out.blk (k:=5) rfl
     cases bi
     ·have HBI:=hide hbi
      have HLR:=hide (lastRead_any pb ⟨some ⟨b2,o2,none⟩,pl,pc⟩ ⟨fa,fr.length,fc⟩ os ⟨some ⟨b,o,none⟩,n,ec⟩ vs ⟨some ⟨g,0,none⟩,bz.length,bc⟩ p es HES.out (t':Int) (i':Int) xr wc VC.out (hp.below (HB0.out.trans (HBW.out.mono HB0.out.size))) (he.below (HB0.out.trans (HBW.out.mono HB0.out.size))) (by rw [HN.out];exact hl))
      have e0:=cell_of_heapV HEVc.out (k:=0) rfl
      have e1:=cell_of_heapV HEVc.out (k:=1) rfl
      have DR0':=hide (DR0.out rfl);have DRR':=hide (DRR.out rfl)
      have HNE:g≠pb:=fun e=>by
       rcases OC.out.2 with ⟨h, -⟩ | ⟨g',cap',cur,h, -,hgg, -⟩
       ·simp at h
       ·simp only [Value.slice.injEq,Option.some.injEq,Addr.mk.injEq,and_true] at h
        obtain ⟨rfl, -, -⟩:=h
        have h2:=VC.out.blk
        rw [← e,hgg] at h2
        simp at h2
      have hgw0:w0.heap.size≤g:=hg1
      clear DR0 DRR DO hbi
      go_wp2_with fail
      (with_reducible refine HLR.out.mono ?_);rintro e w5 ⟨rfl,hb5⟩
      have HB5:=hide (HBW.out.trans (hb5.mono HBW.out.size))
      have V5:=hide (VC.out.below hb5)
      have O5:=hide (OC.out.below hb5)
      have hb7':=Nat.lt_of_lt_of_le hb7 hb5.size
      clear hb5 e0 e1 v5 f0 hfr m0 m2 m3 HLR VC OC HEVc
      rcases lastRd_cases p es (t':Int) (i':Int) xr with hlr | ⟨rr,e2,hlr,he2,hrd⟩
      ·have C:=hide (CE.out 0 (DR0'.out (by rw [hlr];omega)))
       rw [hlr]
       clear hlr DR0' DRR'
       generalize chain (depV p es fr) n i=R at *
       go_wp2_with fail
       go_ret2
       exact RetVal.some_ C.out HOWN.out HB5.out
      ·obtain ⟨j,e3,hfj,hej, -, -, -⟩:=from_write (k:=rr) (by rw [HN.out];exact HOK.out) he2 hrd
       have DD:=hide (DRR'.out rr j hlr hfj)
       rw [hlr]
       obtain ⟨b4,o4,rfl,hb4, -⟩:=hf.int hfj
       have hjn:j < n:=by have:=(List.getElem?_eq_some_iff.1 hej).1;have:=HN.out;omega
       have hrn:(rr:Int) < (fr.length:Int):=by have:=(List.getElem?_eq_some_iff.1 hfj).1;omega
       have hr0:decide ((rr:Int) < 0)=false:=by simp
       obtain ⟨b4',o4',h4,hb4w,j0⟩:=((hf.below HB0.out).below HB5.out).int hfj
       simp only [Option.some.injEq,Addr.mk.injEq,and_true] at h4
       obtain ⟨rfl,rfl⟩:=h4
       have ne1:pb≠g:=fun e=>HNE e.symm
       have ne2:b4≠g:=by omega
       obtain ⟨hgl5,f5,hfr5⟩:=O5.out.boolc HBI.out
       have v5:=cell_of_heapV V5.out.blk (k:=5) rfl
       have v1:=cell_of_heapV V5.out.blk (k:=1) rfl
       have hpb5:=lt_of_cell v1
       have HIV:=hide (IH.out (bz.set i true) j (w5.setCell ⟨g,i,none⟩ (.bool true)) (by rw [List.length_set];exact HBZ.out) hjn (by have:=count_set HBI.out;have:=HNN.out;omega)
        (fun b hb=>by
         rw [List.getElem?_set] at hb
         split at hb
         ·rename_i hib
          subst hib
          exact ⟨0, .step DD.out (.zero j)⟩
         ·obtain ⟨m,hm⟩:=HPA.out b hb
          exact ⟨m+1,hm.snoc DD.out⟩)
        ((HB0.out.trans (HB5.out.mono HB0.out.size)).setCell hgw0 _) ⟨(heap_setCell_other w5 ⟨g,i,none⟩ pb _ ne1).trans V5.out.blk⟩ (by have h:=O5.out.setBool HBI.out true;simpa using h))
       have CN:Hid (chain (depV p es fr) n i=chain (depV p es fr) n j):=hide (by
        rw [← HN.out]
        exact chain_next (fun a b h1 h2=>dep_lt (by rw [HN.out];exact HOK.out) a b h1 h2) (by rw [HN.out];exact hi) DD.out)
       have hinb:(i:Int) < (bz.length:Int):=by have:=HBZ.out;omega
       clear hlr hfj DR0' DRR' he2 hej
       generalize chain (depV p es fr) n i=R at *
       generalize chain (depV p es fr) n j=Rj at *
       go_wp2_with fail
       (with_reducible refine HIV.out.mono ?_);rintro e w7 ⟨rfl,own7,hg7⟩
       have hV7:w7.heap[pb]? = w5.heap[pb]?:=(hg7.block pb (by simpa using hpb5) (by simpa [Value.ownBlock] using ne1)).trans (heap_setCell_other w5 ⟨g,i,none⟩ pb _ ne1)
       have V7:=hV7.trans V5.out.blk
       have hbt:(bz.set i true)[i]? = some true:=by rw [List.getElem?_set,if_pos rfl,if_pos (by rw [HBZ.out];exact hi)]
       obtain ⟨hgl7,f7,hfr7⟩:=own7.boolc (by simpa using hbt)
       have u5:=cell_of_heapV V7 (k:=5) rfl
       have hpb7:=lt_of_cell u5
       have OW:=hide (own7.setBool (by simpa using hbt) false)
       have HG:=hide ((((below_grown_row HB5.out (some g)).trans (grown_set (World.grownBy.refl w5 (some g)) i (.bool true))).trans hg7).trans (grown_set (World.grownBy.refl w7 (some g)) i (.bool false)))
       have SB:=hide (set_back HBI.out)
       clear own7 hg7 hV7 V7 hbt v5 v1 j0 f5 hfr5 HIV
       go_wp2_with fail
       go_ret2
       refine ⟨by rw [CN.out];rfl, ?_,HG.out⟩
       have h:=OW.out
       rw [SB.out] at h
       exact h
     ·have C:Hid (chain (depV p es fr) n i=none):=hide (by
       obtain ⟨m,hm⟩:=HPA.out i hbi
       exact chain_cyc hm n)
      clear hbi
      generalize chain (depV p es fr) n i=R at *
      go_wp2_with fail
      go_ret2
      exact RetVal.none_ C.out HOWN.out HBW.out
    ·have k2:(xo != 3)=true:=by simp [hop]
     have C:=hide (CE.out xv (DO.out hop))
     clear hop
     generalize chain (depV p es fr) n i=R at *
     go_wp2_with fail
     go_ret2
     exact RetVal.some_ C.out HOWN.out HBW.out
end Go.Proofs.YtkfhgnkonaafgaaGreatDoor
namespace Go.Proofs.YtkfhgnkonaafgaaGreatDoor
open Go.RowKit
theorem Tryz.infoBool:(Tryz.prog.info? 4).map (fun i=>(i.zero,i.size,i.bytes))=some (some (.bool false),1,1):=by kernel_rfl
def RetNB (w:World) (r:List Int × Bool) (e:Ending) (w':World):Prop:=∃ u:Slc,e = .returned (.tuple #[.slice u.a u.n u.cap, .bool r.2])∧Own IntE 3 w' w.heap.size u.v r.1∧Below w.heap.size w w'
theorem RetNB.no {w w':World} (h:Below w.heap.size w w'):RetNB w ([],false) (.returned (.tuple #[.slice none 0 0, .bool false])) w':=⟨⟨none,0,0⟩,rfl,Own.nil _ _ _,h⟩
theorem VS.ne {α:Type} {E:El α} {T:TypeId} (hT:T≠151) {w:World} {pb:Nat} {ps fs os es vs bs:Slc} (h:VS w pb ps fs os es vs bs) {base:Nat} {v:Value} {xs:List α} (ho:Own E T w base v xs):∀ q,v.ownBlock=some q→q≠pb:=by
 intro q hq e
 subst e
 rcases ho.2 with ⟨rfl, -⟩ | ⟨g',cap',cur,rfl, -,hgg, -⟩
 ·simp [Value.ownBlock] at hq
 ·simp [Value.ownBlock] at hq
  subst hq
  have h2:=h.blk
  rw [hgg] at h2
  simp at h2
  exact hT h2.2
theorem VS.setVals {w:World} {pb:Nat} {ps fs os es vs bs:Slc} (h:VS w pb ps fs os es vs bs) (u:Slc):VS (w.setCell ⟨pb,4,none⟩ (.slice u.a u.n u.cap)) pb ps fs os es u bs:=⟨(heap_setCell_same w pb 4 _ _ (.slice u.a u.n u.cap) h.blk).trans rfl⟩
theorem VS.setBusy {w:World} {pb:Nat} {ps fs os es vs bs:Slc} (h:VS w pb ps fs os es vs bs) (u:Slc):VS (w.setCell ⟨pb,5,none⟩ (.slice u.a u.n u.cap)) pb ps fs os es vs u:=⟨(heap_setCell_same w pb 5 _ _ (.slice u.a u.n u.cap) h.blk).trans rfl⟩
theorem VS.grown {w w':World} {pb:Nat} {ps fs os es vs bs:Slc} (h:VS w pb ps fs os es vs bs) {row:Option Nat} (hg:w.grownBy w' row) (hr:∀ q,row=some q→q≠pb):VS w' pb ps fs os es vs bs:=
 ⟨(hg.block pb (Array.getElem?_eq_some_iff.1 h.blk).1 (fun e=>hr pb e.symm rfl)).trans h.blk⟩
def LV (w0:World) (pb:Nat) (ps fs os ess bs:Slc) (n:Nat) (vals:List Int) (W:World):Prop:=
 ∃ vs:Slc,VS W pb ps fs os ess vs bs∧Own IntE 3 W w0.heap.size vs.v vals∧Own BoolE 4 W w0.heap.size bs.v (List.replicate n false)∧Below w0.heap.size w0 W
theorem valuesOf_any (v vf vo:Value) (p:List (List Ins)) (x:Xc) (w:World) (hp:RepP w v p) (hx:RepX w vf vo x) (hl:p.flatten.length≤1048576) (hok:execOk p x=true) :
 Calls Tryz.prog 79 #[v, .agg #[vf,vo]] w (RetNB w (if valsOk p x.fr=true then (valsL p x.fr,true) else ([],false))):=by
 have HE:=hide (fun w' h=>events_any v p w' h hl)
 unfold execOk at hok
 simp only [Bool.and_eq_true,decide_eq_true_eq] at hok
 obtain ⟨hpv,hfl,hol,hfo,hoo⟩:=hok
 have HFO:=hide hfo;have HFL:=hide hfl
 have hen:=evAll_le hpv
 clear hpv hol hoo hfo hfl
 have HP:=hide hp;have HX:=hide hx
 obtain ⟨pa,pc,rfl, -,hpn, -, -⟩:=hp.open
 obtain ⟨fa,fc,rfl, -,hfn, -, -⟩:=hx.fr.open
 obtain ⟨oa,oc,rfl, -,hon, -, -⟩:=hx.od.open
 clear hp hx
 have HRV:Hid ((if valsOk p x.fr=true then (valsL p x.fr,true) else ([],false))=if okTo (evAll p) (cX p x.fr) (evAll p).length=true then (valTo (evAll p) (cX p x.fr) (evAll p).length,true) else ([],false)):=hide rfl
 generalize (if valsOk p x.fr=true then (valsL p x.fr,true) else ([],false))=R at *
 have HC:Hid (cX p x.fr=chain (depV p (evAll p) x.fr) (evAll p).length):=hide rfl
 generalize cX p x.fr=c at *
 generalize hes:evAll p=es at *
 have HES:=hide hes.symm
 have HVS:=hide (fun k e h=>valTo_succ (es:=es) c (k:=k) (e:=e) h)
 have HOS:=hide (fun k e h=>okTo_succ (es:=es) c (k:=k) (e:=e) h)
 have HON:=hide (fun k e h hw hc=>okTo_no (es:=es) c (k:=k) (e:=e) h hw hc)
 have HVL:=hide (valTo_length es c)
 clear hes
 have HB0:=hide ((Below.refl w.heap.size w).alloc (Nat.le_refl _) (.cells #[.slice fa x.fr.length fc, .slice oa x.od.length oc] 29))
 have HBX:=hide (heap_alloc_new w (.cells #[.slice fa x.fr.length fc, .slice oa x.od.length oc] 29))
 have HP0:=hide (HP.out.below HB0.out);have HX0:=hide (HX.out.below HB0.out)
 generalize hfn':x.fr.length=fn at *
 generalize hon':x.od.length=on at *
 generalize hpn':p.length=pn at *
 have HFN:=hide hfn';clear hfn' hon' hpn'
 have e0:=cell_of_heapV HBX.out (k:=0) rfl
 have e1:=cell_of_heapV HBX.out (k:=1) rfl
 have lb:=lt_of_cell e0
 go_enter Tryz.func79,Tryz.ntmps79
 go_wp2_with fail
 generalize hw1:w.alloc (.cells #[.slice fa fn fc, .slice oa on oc] 29)=w1 at *
 clear hw1
 go_cut [6] (fun s6 W => ∃ (w0:World) (pb:Nat) (ess:Slc),s6 = .pointer (some ⟨pb,0,none⟩)∧VS W pb ⟨pa,pn,pc⟩ ⟨fa,fn,fc⟩ ⟨oa,on,oc⟩ ess ⟨none,0,0⟩ ⟨none,0,0⟩∧w0.heap.size≤pb∧Rep EvE w0 ess.v es∧Below w1.heap.size w1 w0∧Below w0.heap.size w0 W)
 case first =>
  go_region_held3 (fun V=>V.cell? ⟨w.heap.size,0,none⟩=some (.slice fa fn fc)∧V.cell? ⟨w.heap.size,1,none⟩=some (.slice oa on oc)) ((simp [go_sem, *]))
   (first
    | (go_at_call 80;(with_reducible refine (HE.out _ (HP0.out.below (Below.refl _ _).drew)).mono ?_);rintro e' w4 ⟨ve,rfl,ow,hb4⟩;obtain ⟨⟨ea,en,ec⟩,rfl, -⟩:=ow.toSlc;have HOW:=hide ow;have hb5:=(Below.refl w1.heap.size w1).drew.trans (hb4.mono (by simp));have HB4:=hide hb5;have m0:=(hb5.cell (p:=⟨w.heap.size,0,none⟩) lb).trans e0;have m1:=(hb5.cell (p:=⟨w.heap.size,1,none⟩) lb).trans e1;have l1:=Nat.lt_of_lt_of_le lb hb5.size;clear ow hb4 hb5))
  all_goals
   go_wp2_with fail
   go_meet
   exact ⟨w4,w4.heap.size,⟨ea,en,ec⟩,rfl,⟨heap_alloc_new w4 _⟩,Nat.le_refl _,HOW.out.rep,HB4.out,(Below.refl _ _).alloc (Nat.le_refl _) _⟩
 case rest =>
  obtain ⟨w0,pb,ess,rfl,hV,hpb,hre,hb10,hb0c⟩:=hcut
  obtain ⟨ea,en,ec⟩:=ess
  obtain ⟨ea',ec',heq, -, -, -,hre⟩:=hre.open
  simp only [Value.slice.injEq] at heq
  obtain ⟨rfl,rfl,rfl⟩:=heq
  have HRE:=hide hre
  have HP1:=hide (HP0.out.below hb10);have HX1:=hide (HX0.out.below hb10)
  have HB1:=hide (HB0.out.trans (hb10.mono HB0.out.size))
  have HV:=hide hV;have H0C:=hide hb0c
  have HVA:=hide (fun N bz i w' h1 h2 h3 h4 h5 vs bs h6 h7=>value_any pb ⟨pa,pn,pc⟩ ⟨fa,fn,fc⟩ ⟨oa,on,oc⟩ ⟨ea,es.length,ec⟩ vs bs p es HES.out x.fr w0 HP1.out HX1.out.fr HRE.out HFO.out (HFN.out.trans HFL.out) (by omega) N bz i w' h1 h2 h3 h4 h5 h6 h7)
  rw [← HC.out] at HVA
  clear hre hV hb10 hb0c HP0 HX0 HB0 HBX HP HX HFO HE e0 e1 lb
  generalize hn:es.length=n at *
  have HN:=hide hn;clear hn
  have v3:=cell_of_heapV HV.out.blk (k:=3) rfl
  have v5:=cell_of_heapV HV.out.blk (k:=5) rfl
  have vfz:=frozen_of_heapV HV.out.blk
  have hpl:=lt_of_cell v3
  go_wp2_with (at_make;refine wpList_make BoolE 4 false Tryz.infoBool rfl Tryz.underlying149 n (by decide) (by omega) rfl _ _ rfl rfl rfl ?_;intro w5 hown5 hgr5;have V5:=hide (HV.out.below (below_of_grown hgr5));have H05:=hide (H0C.out.trans ((below_of_grown hgr5).mono H0C.out.size));have u3:=cell_of_heapV V5.out.blk (k:=3) rfl;have u5:=cell_of_heapV V5.out.blk (k:=5) rfl;have ufz:=frozen_of_heapV V5.out.blk;have upl:=lt_of_cell u3;have OB:=hide hown5;clear v3 v5 vfz hown5 hgr5)
  have L0:LV w0 pb ⟨pa,pn,pc⟩ ⟨fa,fn,fc⟩ ⟨oa,on,oc⟩ ⟨ea,n,ec⟩ ⟨some ⟨wc.heap.size,0,none⟩,n,n⟩ n [] (w5.setCell ⟨pb,5,none⟩ (.slice (some ⟨wc.heap.size,0,none⟩) n n)):=by
   have ne:=VS.ne (by decide) V5.out OB.out
   exact ⟨⟨none,0,0⟩,V5.out.setBusy ⟨some ⟨wc.heap.size,0,none⟩,n,n⟩,Own.nil _ _ _,(OB.out.mono H0C.out.size).sameV (fun q hq=>heap_setCell_other w5 ⟨pb,5,none⟩ q _ (ne q hq)),H05.out.setCell hpb _⟩
  have HL0:=hide L0
  clear L0 u3 u5 ufz upl V5 H05 OB
  go_loopw [32] (fun i wr => ∃ k:Nat,k≤n∧i = .int .i64 k∧LV w0 pb ⟨pa,pn,pc⟩ ⟨fa,fn,fc⟩ ⟨oa,on,oc⟩ ⟨ea,n,ec⟩ ⟨some ⟨wc.heap.size,0,none⟩,n,n⟩ n (valTo es c k) wr∧Hid (okTo es c k=true)) (fun i _=>n - (intOf i).toNat)
  case atStart=>exact ⟨0,Nat.zero_le _,rfl,HL0.out,hide (by simp [okTo])⟩
  case round =>
   obtain ⟨k,hk,rfl,⟨vs,hvs,hvals,hbusy,hw0r⟩,hok⟩:=hrel
   by_cases hlt:k < n
   ·obtain ⟨e,hek⟩:=get_of_lt (xs:=es) (k:=k) (by rw [HN.out];exact hlt)
    obtain ⟨b,o,rfl,hbl,i0,i1,i2,i3,i4⟩:=(HRE.out.below hw0r).ev hek
    obtain ⟨va,vn,vc⟩:=vs
    have hlt':=nat_of_lt hlt
    have HS:=hide (HVS.out k e hek)
    have OS:=hide (HOS.out k e hek)
    have ON:=hide (HON.out k e hek)
    have hlen:(valTo es c k).length≤68719476736:=by rw [HVL.out k (by omega)];omega
    clear hek
    obtain ⟨et,ei,el,er,ew⟩:=e
    simp only at i0 i1 i2 i3 i4
    have hba:=(Below.refl wr.heap.size wr).alloc (Nat.le_refl _) (.cells #[.int .i64 et, .int .i64 ei, .int .i64 el, .bool er, .bool ew] 99)
    have VA:=hide (hvs.below hba);have OA:=hide (hvals.below hba);have BA:=hide (hbusy.below hba);have DA:=hide (hw0r.trans (hba.mono hw0r.size))
    have hev:=heap_alloc_new wr (.cells #[.int .i64 et, .int .i64 ei, .int .i64 el, .bool er, .bool ew] 99)
    generalize valTo es c k=G at *
    clear hvs hvals hbusy hw0r hba
    cases ew
    ·have HS2:Hid (valTo es c (k+1)=G++[-1]):=hide (by rw [HS.out];rfl)
     have OK2:Hid (okTo es c (k+1)=true):=hide (by rw [OS.out,hok.out];rfl)
     have a4:=cell_of_heapV VA.out.blk (k:=4) rfl
     have afz:=frozen_of_heapV VA.out.blk
     have apl:=lt_of_cell a4
     clear hev
     go_wp2_with (at_builtin;refine wpList_app IntE 3 Tryz.infoInt rfl Tryz.underlying24 w0.heap.size (.slice va vn vc) G (-1) (OA.out.alloc _) (by decide) hlen (by have h:=DA.out.size;simp at h ⊢;omega) rfl _ _ rfl rfl _ 0 1 rfl (news_allocV (by simp)) ?_;intro v' w8 hown8 hgr8;obtain ⟨⟨a8,n8,c8⟩,rfl, -⟩:=hown8.toSlc;have V8:=hide ((VA.out.below ((Below.refl _ _).alloc (Nat.le_refl _) _)).grown hgr8 (VS.ne (by decide) VA.out OA.out));have q4:=cell_of_heapV V8.out.blk (k:=4) rfl;have qfz:=frozen_of_heapV V8.out.blk;have qpl:=lt_of_cell q4;have O8:=hide hown8;have B8:=hide (((BA.out.alloc (.cells #[.int .i64 (-1)] 3)).grown hgr8 (own_or (by decide) OA.out BA.out)));have D8:=hide ((DA.out.alloc DA.out.size _).grown hgr8 (by have h:=DA.out.size;simp at h ⊢;omega) (fun q hq=>(World.ownsRow.lt OA.out q hq).1));clear hown8 hgr8)
     have L8:LV w0 pb ⟨pa,pn,pc⟩ ⟨fa,fn,fc⟩ ⟨oa,on,oc⟩ ⟨some ⟨b,o,none⟩,n,ec⟩ ⟨some ⟨wc.heap.size,0,none⟩,n,n⟩ n (G++[(-1)]) (w8.setCell ⟨pb,4,none⟩ (.slice a8 n8 c8)):=by
      have ne:=VS.ne (by decide) V8.out O8.out
      have ne2:=VS.ne (by decide) V8.out B8.out
      exact ⟨⟨a8,n8,c8⟩,V8.out.setVals ⟨a8,n8,c8⟩,O8.out.sameV (fun q hq=>heap_setCell_other w8 ⟨pb,4,none⟩ q _ (ne q hq)),B8.out.sameV (fun q hq=>heap_setCell_other w8 ⟨pb,4,none⟩ q _ (ne2 q hq)),D8.out.setCell hpb _⟩
     go_roundw
     case rel=>exact ⟨k+1,by omega,by go_num,by rw [HS2.out];exact L8,OK2⟩
     case measure=>simp [intOf];omega
    ·have HCALL:=HVA.out (n+1) (List.replicate n false) k _ (by simp) hlt (by simp [List.countP_replicate]) (fun b hb=>by
      rw [List.getElem?_replicate] at hb
      split at hb
      ·simp at hb
      ·cases hb) DA.out ⟨va,vn,vc⟩ ⟨some ⟨wc.heap.size,0,none⟩,n,n⟩ VA.out BA.out
     have c4:=cell_of_heapV hev (k:=4) rfl
     have cl:=lt_of_cell c4
     cases hck:c k with
     | none =>
      rw [hck] at HCALL
      have HCL:=hide HCALL
      obtain rfl:R=([],false):=by rw [HRV.out,if_neg (by rw [ON.out rfl hck];simp)]
      clear HCALL hev hck
      go_wp2_with fail
      (with_reducible refine HCL.out.mono ?_);rintro e w7 ⟨rfl,own7,hg7⟩
      have D7:=hide (DA.out.grown hg7 DA.out.size (fun q hq=>(World.ownsRow.lt BA.out q hq).1))
      go_wp2_with fail
      go_ret2
      exact RetNB.no (HB1.out.trans (D7.out.mono HB1.out.size))
     | some v =>
      rw [hck] at HCALL
      have HCL:=hide (HCALL.mono fun _ _ h=>(h:_=Ending.returned (.tuple #[.int .i64 v, .bool true])∧_∧_))
      have HS2:Hid (valTo es c (k+1)=G++[v]):=hide (by rw [HS.out];simp [val1,hck])
      have OK2:Hid (okTo es c (k+1)=true):=hide (by rw [OS.out,hok.out,hck];rfl)
      clear HCALL hev hck
      go_wp2_with fail
      (with_reducible refine HCL.out.mono ?_);rintro e w7 ⟨rfl,own7,hg7⟩
      have D7:=hide (DA.out.grown hg7 DA.out.size (fun q hq=>(World.ownsRow.lt BA.out q hq).1))
      have V7:=hide (VA.out.grown hg7 (VS.ne (by decide) VA.out BA.out))
      have O7:=hide (OA.out.grown hg7 (own_or (by decide) BA.out OA.out))
      have B7:=hide own7
      have a4:=cell_of_heapV V7.out.blk (k:=4) rfl
      have afz:=frozen_of_heapV V7.out.blk
      have apl:=lt_of_cell a4
      clear own7 hg7 c4 cl HCL
      go_wp2_with (at_builtin;refine wpList_app IntE 3 Tryz.infoInt rfl Tryz.underlying24 w0.heap.size (.slice va vn vc) G v (O7.out.alloc _) (by decide) hlen (by have h:=D7.out.size;simp at h ⊢;omega) rfl _ _ rfl rfl _ 0 1 rfl (news_allocV (by simp)) ?_;intro v' w8 hown8 hgr8;obtain ⟨⟨a8,n8,c8⟩,rfl, -⟩:=hown8.toSlc;have V8:=hide ((V7.out.below ((Below.refl _ _).alloc (Nat.le_refl _) _)).grown hgr8 (VS.ne (by decide) V7.out O7.out));have q4:=cell_of_heapV V8.out.blk (k:=4) rfl;have qfz:=frozen_of_heapV V8.out.blk;have qpl:=lt_of_cell q4;have O8:=hide hown8;have B8:=hide (((B7.out.alloc (.cells #[.int .i64 v] 3)).grown hgr8 (own_or (by decide) O7.out B7.out)));have D8:=hide ((D7.out.alloc D7.out.size _).grown hgr8 (by have h:=D7.out.size;simp at h ⊢;omega) (fun q hq=>(World.ownsRow.lt O7.out q hq).1));clear hown8 hgr8)
      have L8:LV w0 pb ⟨pa,pn,pc⟩ ⟨fa,fn,fc⟩ ⟨oa,on,oc⟩ ⟨some ⟨b,o,none⟩,n,ec⟩ ⟨some ⟨wc.heap.size,0,none⟩,n,n⟩ n (G++[v]) (w8.setCell ⟨pb,4,none⟩ (.slice a8 n8 c8)):=by
       have ne:=VS.ne (by decide) V8.out O8.out
       have ne2:=VS.ne (by decide) V8.out B8.out
       exact ⟨⟨a8,n8,c8⟩,V8.out.setVals ⟨a8,n8,c8⟩,O8.out.sameV (fun q hq=>heap_setCell_other w8 ⟨pb,4,none⟩ q _ (ne q hq)),B8.out.sameV (fun q hq=>heap_setCell_other w8 ⟨pb,4,none⟩ q _ (ne2 q hq)),D8.out.setCell hpb _⟩
      go_roundw
      case rel=>exact ⟨k+1,by omega,by go_num,by rw [HS2.out];exact L8,OK2⟩
      case measure=>simp [intOf];omega
   ·have e:k=n:=by omega
    subst e
    obtain rfl:R=(valTo es c k,true):=by rw [HRV.out,if_pos hok.out]
    have a4:=cell_of_heapV hvs.blk (k:=4) rfl
    have apl:=lt_of_cell a4
    have HW:=hide hw0r;have HVA2:=hide hvals
    clear hvals hbusy hw0r hvs
    go_wp2_with fail
    go_ret2
    exact ⟨vs,rfl,HVA2.out.mono HB1.out.size,HB1.out.trans (HW.out.mono HB1.out.size)⟩
end Go.Proofs.YtkfhgnkonaafgaaGreatDoor
/-
  The reference's step with one memory. Condition: bounds on lengths and numbers.
-/
import Derived.Test.YtkfhgnkonaafgaaGreatDoorZs16
import Derived.Test.YtkfhgnkonaafgaaGreatDoorZs18
set_option maxHeartbeats 6400000
set_option maxRecDepth 100000
namespace Go.Proofs.YtkfhgnkonaafgaaGreatDoor
open Go.RowKit
theorem relLevel_any (o:Int) (w:World):Calls Tryz.prog 159 #[.int .i64 o] w fun e w'=>(∃ (lv:Int) (sg:ByteArray),e = .returned (.tuple #[.int .i64 lv, .string sg, .int .i64 (kidsO o)]))∧w=w':=by
 by_cases h1:o=1
 ·subst h1
  go_enter Tryz.func159,Tryz.ntmps159
  go_wp2
  refine bodyPost_ret (v:=.tuple #[.int .i64 0, .string ⟨#[]⟩, .int .i64 0]) (by simp [results,Tryz.results159,go_sem]) rfl ⟨⟨_,_,rfl⟩,rfl⟩
 by_cases h2:o=2
 ·subst h2
  go_enter Tryz.func159,Tryz.ntmps159
  go_wp2
  refine bodyPost_ret (v:=.tuple #[.int .i64 3, .string ⟨#[124]⟩, .int .i64 2]) (by simp [results,Tryz.results159,go_sem]) rfl ⟨⟨_,_,rfl⟩,rfl⟩
 by_cases h3:o=3
 ·subst h3
  go_enter Tryz.func159,Tryz.ntmps159
  go_wp2
  refine bodyPost_ret (v:=.tuple #[.int .i64 2, .string ⟨#[38]⟩, .int .i64 2]) (by simp [results,Tryz.results159,go_sem]) rfl ⟨⟨_,_,rfl⟩,rfl⟩
 by_cases h4:o=4
 ·subst h4
  go_enter Tryz.func159,Tryz.ntmps159
  go_wp2
  refine bodyPost_ret (v:=.tuple #[.int .i64 2, .string ⟨#[45]⟩, .int .i64 2]) (by simp [results,Tryz.results159,go_sem]) rfl ⟨⟨_,_,rfl⟩,rfl⟩
 by_cases h5:o=5
 ·subst h5
  go_enter Tryz.func159,Tryz.ntmps159
  go_wp2
  refine bodyPost_ret (v:=.tuple #[.int .i64 1, .string ⟨#[59]⟩, .int .i64 2]) (by simp [results,Tryz.results159,go_sem]) rfl ⟨⟨_,_,rfl⟩,rfl⟩
 by_cases h6:o=6
 ·subst h6
  go_enter Tryz.func159,Tryz.ntmps159
  go_wp2
  refine bodyPost_ret (v:=.tuple #[.int .i64 0, .string ⟨#[126]⟩, .int .i64 1]) (by simp [results,Tryz.results159,go_sem]) rfl ⟨⟨_,_,rfl⟩,rfl⟩
 by_cases h7:o=7
 ·subst h7
  go_enter Tryz.func159,Tryz.ntmps159
  go_wp2
  refine bodyPost_ret (v:=.tuple #[.int .i64 0, .string ⟨#[43]⟩, .int .i64 1]) (by simp [results,Tryz.results159,go_sem]) rfl ⟨⟨_,_,rfl⟩,rfl⟩
 have g1:(o==1)=false:=by simp [h1]
 have g2:(o==2)=false:=by simp [h2]
 have g3:(o==3)=false:=by simp [h3]
 have g4:(o==4)=false:=by simp [h4]
 have g5:(o==5)=false:=by simp [h5]
 have g6:(o==6)=false:=by simp [h6]
 have g7:(o==7)=false:=by simp [h7]
 have hk:kidsO o = -1:=by simp [kidsO,h1,h2,h3,h4,h5,h6,h7]
 rw [hk]
 clear hk h1 h2 h3 h4 h5 h6 h7
 go_enter Tryz.func159,Tryz.ntmps159
 go_wp2
 refine bodyPost_ret (v:=.tuple #[.int .i64 0, .string ⟨#[]⟩, .int .i64 (-1)]) (by simp [results,Tryz.results159,go_sem]) rfl ⟨⟨_,_,rfl⟩,rfl⟩
theorem l7Kids_any (o:Int) (w:World):Calls Tryz.prog 145 #[.int .i64 o] w fun e w'=>e = .returned (.int .i64 (kidsO o))∧w=w':=by
 by_cases h1:o=1
 ·subst h1
  go_enter Tryz.func145,Tryz.ntmps145
  go_wp2
  go_ret
  exact ⟨rfl,rfl⟩
 by_cases h2:o=2
 ·subst h2
  go_enter Tryz.func145,Tryz.ntmps145
  go_wp2
  go_ret
  exact ⟨rfl,rfl⟩
 by_cases h3:o=3
 ·subst h3
  go_enter Tryz.func145,Tryz.ntmps145
  go_wp2
  go_ret
  exact ⟨rfl,rfl⟩
 by_cases h4:o=4
 ·subst h4
  go_enter Tryz.func145,Tryz.ntmps145
  go_wp2
  go_ret
  exact ⟨rfl,rfl⟩
 by_cases h5:o=5
 ·subst h5
  go_enter Tryz.func145,Tryz.ntmps145
  go_wp2
  go_ret
  exact ⟨rfl,rfl⟩
 by_cases h6:o=6
 ·subst h6
  go_enter Tryz.func145,Tryz.ntmps145
  go_wp2
  go_ret
  exact ⟨rfl,rfl⟩
 by_cases h7:o=7
 ·subst h7
  go_enter Tryz.func145,Tryz.ntmps145
  go_wp2
  go_ret
  exact ⟨rfl,rfl⟩
 have g1:(o==1)=false:=by simp [h1]
 have g2:(o==2)=false:=by simp [h2]
 have g3:(o==3)=false:=by simp [h3]
 have g4:(o==4)=false:=by simp [h4]
 have g5:(o==5)=false:=by simp [h5]
 have g6:(o==6)=false:=by simp [h6]
 have g7:(o==7)=false:=by simp [h7]
 have hk:kidsO o = -1:=by simp [kidsO,h1,h2,h3,h4,h5,h6,h7]
 rw [hk]
 clear hk h1 h2 h3 h4 h5 h6 h7
 go_enter Tryz.func145,Tryz.ntmps145
 go_wp2
 go_ret
 exact ⟨rfl,rfl⟩
theorem l6Names_any (w:World):Calls Tryz.prog 182 #[] w (RetOwn StrE 9 w nameTab):=by
 go_enter Tryz.func182,Tryz.ntmps182
 go_wp2
 go_ret
 exact ⟨_,rfl,Own.lit (E:=StrE) (Nat.le_refl _) nameTab _ 10 rfl rfl (by decide),(Below.refl _ _).alloc (Nat.le_refl _) _⟩
theorem l6Named_any (x:ByteArray) (w:World) :
 Calls Tryz.prog 146 #[.string x] w fun e w'=>e = .returned (.bool (isName x))∧Below w.heap.size w w':=by
 have HN:=hide (l6Names_any w)
 have IE:Hid (isName x=nameTab.any fun s=>x.toList==s.toList):=hide rfl
 have NL:Hid (nameTab.length=10):=hide rfl
 generalize isName x=R at *
 generalize nameTab=xs at *
 go_enter Tryz.func146,Tryz.ntmps146
 go_wp2_with fail
 (with_reducible refine HN.out.mono ?_);rintro e w1 ⟨v1,rfl,o1,hb1⟩
 obtain ⟨a,c,rfl,hc1, -, -,hx⟩:=o1.rep.open
 rw [NL.out] at hx hc1 ⊢
 have HX:=hide hx;have HB:=hide hb1
 clear o1 hb1 hx
 go_wp2_with fail
 go_loop [4] (fun i => ∃ t:Nat,t≤10∧i = .int .i64 t∧Hid ((xs.take t).any (fun s=>x.toList==s.toList)=false)) (fun i=>10 - (intOf i).toNat)
 case atStart=>exact ⟨0,Nat.zero_le _,rfl,hide (by simp)⟩
 case round =>
  obtain ⟨t,ht,rfl,hno⟩:=hrel
  by_cases hlt:t < 10
  ·obtain ⟨y,hy⟩:=get_of_lt (xs:=xs) (k:=t) (by rw [NL.out];exact hlt)
   obtain ⟨b,o,rfl,hbl,i0⟩:=HX.out.str hy
   have hlt':=nat_of_lt hlt
   have X:=hide hy;clear hy
   by_cases hxy:(y.toList==x.toList)=true
   ·have hyx:(x.toList==y.toList)=true:=by have:=beq_iff_eq.1 hxy;simp [this]
    have h1:xs.any (fun s=>x.toList==s.toList)=true:=List.any_eq_true.2 ⟨y,List.mem_of_getElem? X.out,hyx⟩
    have RT:Hid (R=true):=hide (by rw [IE.out,h1])
    clear h1 hyx
    go_wp2_with fail
    go_ret
    exact ⟨by rw [RT.out];rfl,HB.out⟩
   ·have k1:(y.toList==x.toList)=false:=by simpa using hxy
    have NO:Hid ((xs.take (t+1)).any (fun s=>x.toList==s.toList)=false):=hide (by
     rw [List.take_add_one,X.out,List.any_append,hno.out]
     have h2:¬ x.toList=y.toList:=fun e=>hxy (by simp [e])
     simp [h2])
    clear hxy
    go_wp2_with fail
    go_round
    case rel=>exact ⟨t+1,by omega,by go_num,NO⟩
    case measure=>simp [intOf];omega
  ·have h:=hno.out
   rw [List.take_of_length_le (by rw [NL.out];omega)] at h
   have RF:Hid (R=false):=hide (by rw [IE.out,h])
   clear h
   go_wp2_with fail
   go_ret
   exact ⟨by rw [RF.out];rfl,HB.out⟩
end Go.Proofs.YtkfhgnkonaafgaaGreatDoor
namespace Go.Proofs.YtkfhgnkonaafgaaGreatDoor
open Go.RowKit
def RetSzR (w:World) (d:Nat) (c:Re) (e:Ending) (w':World):Prop:=∃ r:Int,e = .returned (.int .i64 r)∧SzR d c r∧Below w.heap.size w w'
theorem relSize_any:∀ (d:Nat),d≤12→∀ (o:Int) (p:ByteArray) (ks:List Re) (a:Option Addr) (n c:Nat) (w:World),RepRk 0 w ⟨a,n,c⟩ ks→Glob w →
 Calls Tryz.prog 120 #[.agg #[.int .i64 o, .string p, .slice a n c], .int .i64 d] w (RetSzR w d (.mk o p ks)):=by
 intro d
 induction d with
 | zero =>
  intro _ o p ks a n c w h hg
  have HB:=hide ((Below.refl w.heap.size w).alloc (Nat.le_refl _) (.cells #[.int .i64 o, .string p, .slice a n c] 75))
  have HL:=hide (fun w'=>relLevel_any o w')
  go_enter Tryz.func120,Tryz.ntmps120
  go_wp2_with fail
  (with_reducible refine (HL.out _).mono ?_);rintro e w1 ⟨⟨lv,sg,rfl⟩,rfl⟩
  go_wp2_with fail
  refine wp_region_bw (by kernel_rfl) (by kernel_rfl) ?_
  repeat (go_big_quiet_step (fail))
  refine wpQuiet_nil ?_
  intro w5 hb5
  go_wp2_with fail
  go_ret
  exact ⟨41,rfl,SzR.bad0 _,HB.out.trans (hb5.mono HB.out.size)⟩
 | succ d ih =>
  intro hd o p ks a n c w h hg
  have IH:=hide (ih (by omega))
  clear ih
  obtain ⟨e1,hc1,hc2,hc3⟩:=h.open
  simp only at e1 hc1 hc2 hc3
  subst e1
  have HB:=hide ((Below.refl w.heap.size w).alloc (Nat.le_refl _) (.cells #[.int .i64 o, .string p, .slice a ks.length c] 75))
  have HP:=hide (h.below HB.out)
  have HL:=hide (fun w'=>relLevel_any o w')
  have HG:=hide (hg.below HB.out)
  have HNM:=hide (fun (y:BW (w.alloc (.cells #[.int .i64 o, .string p, .slice a ks.length c] 75)))=>isRelName_any p y.val (HG.out.below y.prop))
  have NB2:Hid (nodeO o p ks.length=(((ks.length:Int)==kidsO o)&&(((o==1)==isName p)&&(o==1||(p.toList==[]))))):=hide rfl
  have hD0:(((d+1:Nat):Int)==0)=false:=by simp;omega
  have hD1:((d+1:Nat):Int) - 1=(d:Int):=by omega
  have hD2:1≤((d+1:Nat):Int):=by omega
  have hD3:((d+1:Nat):Int)≤12:=by omega
  generalize ((d+1:Nat):Int)=D at *
  have NB:Hid (nodeO o p ks.length=nodeE (.mk o p ks)):=hide rfl
  have KK:Hid ((Re.mk o p ks).kids=ks):=hide rfl
  generalize hC:Re.mk o p ks=C at *
  clear hC h
  generalize nodeO o p ks.length=b at *
  go_enter Tryz.func120,Tryz.ntmps120
  go_wp2_with fail
  (with_reducible refine (HL.out _).mono ?_);rintro e w1 ⟨⟨lv,sg,rfl⟩,rfl⟩
  go_upto_region 2 with fail
  go_cut [45] (fun s W=>s = .bool (!b)∧Below (w.alloc (.cells #[.int .i64 o, .string p, .slice a ks.length c] 75)).heap.size (w.alloc (.cells #[.int .i64 o, .string p, .slice a ks.length c] 75)) W)
  case first =>
   rcases Bool.eq_false_or_eq_true ((ks.length:Int)==kidsO o) with gA | gA
   ·have gA':((ks.length:Int) != kidsO o)=false:=by simp only [bne,gA];rfl
    rcases Bool.eq_false_or_eq_true (o==1) with gC | gC
    ·have gC':(o != 1)=false:=by simp only [bne,gC];rfl
     rcases Bool.eq_false_or_eq_true (isName p) with gN | gN
     ·have RN:Hid (b=true):=hide (by rw [NB2.out,gA,gC,gN];rfl)
      rw [gN] at HNM
      go_wp2_with fail
      refine wp_region_bw (by kernel_rfl) (by kernel_rfl) ?_
      repeat (go_big_quiet_step ((go_at_call 160;(with_reducible exact Calls.bw_same (HNM.out _)))))
      refine wpQuiet_nil ?_
      intro w5 hb5
      go_wp2_with fail
      go_meet
      exact ⟨by rw [RN.out];rfl,hb5⟩
     ·have RN:Hid (b=false):=hide (by rw [NB2.out,gA,gC,gN];rfl)
      rw [gN] at HNM
      go_wp2_with fail
      refine wp_region_bw (by kernel_rfl) (by kernel_rfl) ?_
      repeat (go_big_quiet_step ((go_at_call 160;(with_reducible exact Calls.bw_same (HNM.out _)))))
      refine wpQuiet_nil ?_
      intro w5 hb5
      go_wp2_with fail
      go_meet
      exact ⟨by rw [RN.out];rfl,hb5⟩
    ·have gC':(o != 1)=true:=by simp only [bne,gC];rfl
     rcases Bool.eq_false_or_eq_true (isName p) with gN | gN
     ·have RN:Hid (b=false):=hide (by rw [NB2.out,gA,gC,gN];rfl)
      rw [gN] at HNM
      go_wp2_with fail
      refine wp_region_bw (by kernel_rfl) (by kernel_rfl) ?_
      repeat (go_big_quiet_step ((go_at_call 160;(with_reducible exact Calls.bw_same (HNM.out _)))))
      refine wpQuiet_nil ?_
      intro w5 hb5
      go_wp2_with fail
      go_meet
      exact ⟨by rw [RN.out];rfl,hb5⟩
     ·rw [gN] at HNM
      rcases Bool.eq_false_or_eq_true (p.toList==[]) with gD | gD
      ·have gD':(p.toList != [])=false:=by simp only [bne,gD];rfl
       have RN:Hid (b=true):=hide (by rw [NB2.out,gA,gC,gN,gD];rfl)
       go_wp2_with fail
       refine wp_region_bw (by kernel_rfl) (by kernel_rfl) ?_
       repeat (go_big_quiet_step ((go_at_call 160;(with_reducible exact Calls.bw_same (HNM.out _)))))
       refine wpQuiet_nil ?_
       intro w5 hb5
       go_wp2_with fail
       go_meet
       exact ⟨by rw [RN.out];rfl,hb5⟩
      ·have gD':(p.toList != [])=true:=by simp only [bne,gD];rfl
       have RN:Hid (b=false):=hide (by rw [NB2.out,gA,gC,gN,gD];rfl)
       go_wp2_with fail
       refine wp_region_bw (by kernel_rfl) (by kernel_rfl) ?_
       repeat (go_big_quiet_step ((go_at_call 160;(with_reducible exact Calls.bw_same (HNM.out _)))))
       refine wpQuiet_nil ?_
       intro w5 hb5
       go_wp2_with fail
       go_meet
       exact ⟨by rw [RN.out];rfl,hb5⟩
   ·have gA':((ks.length:Int) != kidsO o)=true:=by simp only [bne,gA];rfl
    have RN:Hid (b=false):=hide (by rw [NB2.out,gA];rfl)
    go_wp2_with fail
    refine wp_region_bw (by kernel_rfl) (by kernel_rfl) ?_
    repeat (go_big_quiet_step ((go_at_call 160;(with_reducible exact Calls.bw_same (HNM.out _)))))
    refine wpQuiet_nil ?_
    intro w5 hb5
    go_wp2_with fail
    go_meet
    exact ⟨by rw [RN.out];rfl,hb5⟩
  case rest =>
  obtain ⟨rfl,hb1⟩:=hcut
  cases b
  ·go_wp2_with fail
   go_ret
   exact ⟨41,rfl,SzR.bad NB.out.symm,HB.out.trans (hb1.mono HB.out.size)⟩
  ·obtain ⟨hcc,hff⟩:=bcell hb1
   have HB1:=hide (HB.out.trans (hb1.mono HB.out.size))
   have HP1:=hide (HP.out.below hb1)
   have HG1:=hide (HG.out.below hb1)
   clear hb1
   go_wp2_with fail
   clear hcc hff hD0
   go_loopw [8,49] (fun q i wr => ∃ (k:Nat) (r:Int),k≤ks.length∧i = .int .i64 k∧q = .int .i64 r∧Hid (SzRTo d ks k r)∧1≤r∧r≤40∧Below wc.heap.size wc wr) (fun _ i _=>ks.length - (intOf i).toNat)
   case atStart=>exact ⟨0,1,by omega,rfl,rfl,hide (SzRTo.zero _ _),by omega,by omega,Below.refl _ _⟩
   case round =>
    obtain ⟨k,r,hk,rfl,rfl,T,hr1,hr2,hb⟩:=hrel
    by_cases hlt:k < ks.length
    ·obtain ⟨x1,hxk⟩:=get_of_lt (xs:=ks) (k:=k) hlt
     obtain ⟨b1,o1,s,rfl,hbl,i0,i1,i2,i5⟩:=(HP1.out.below hb).kid hxk
     have hlt':=nat_of_lt hlt
     have hba:=(Below.refl wr.heap.size wr).alloc (Nat.le_refl _) (.cells #[.int .i64 x1.op, .string x1.nm, .slice s.a s.n s.cap] 75)
     have HC:=hide (IH.out x1.op x1.nm x1.kids s.a s.n s.cap _ (i5.below hba) ((HG1.out.below hb).below hba))
     have X:=hide hxk;have HBA:=hide hba
     clear hxk i5 hba
     go_wp2_with fail
     (with_reducible refine HC.out.mono ?_);rintro e w2 ⟨r',rfl,hr',hb2⟩
     rw [Re.eta] at hr'
     have h1:=hr'.low
     have h2:=hr'.high
     have HR:=hide hr';clear hr'
     have hb3:=hb.trans ((HBA.out.trans (hb2.mono HBA.out.size)).mono hb.size)
     by_cases hle:r+r'≤40
     ·have T2:=hide (T.out.next X.out HR.out hle)
      have hle':decide (r+r' > 40)=false:=by simp;omega
      go_wp2_with fail
      go_roundw
      case rel =>
       refine ⟨_,_,_,_,_,_,_,_,_,_,_,_,_,_,_, ?_,rfl⟩
       exact ⟨k+1,r+r',by omega,by go_num,rfl,T2,by omega,by omega,hb3⟩
      case measure=>simp [intOf];omega
     ·have hle':decide (r+r' > 40)=true:=by simp;omega
      have T2:=hide (SzRTo.more (c:=C) (by rw [KK.out];exact T.out) (by rw [KK.out];exact X.out) HR.out hle)
      go_wp2_with fail
      go_ret
      exact ⟨r+r',rfl,T2.out,HB1.out.trans (hb3.mono HB1.out.size)⟩
    ·have e:ks.length≤k:=by omega
     have T2:=hide (SzRTo.done (c:=C) (by rw [KK.out];exact T.out) NB.out.symm (by rw [KK.out];exact e))
     go_wp2_with fail
     go_ret
     exact ⟨r,rfl,T2.out,HB1.out.trans (hb.mono HB1.out.size)⟩
theorem RelExprValid_raw (o:Int) (p:ByteArray) (ks:List Re) (a:Option Addr) (n c:Nat) (w:World) (h:RepRk 0 w ⟨a,n,c⟩ ks) (hg:Glob w) :
 Calls Tryz.prog 78 #[.agg #[.int .i64 o, .string p, .slice a n c]] w fun e w'=>e = .returned (.bool (validR (.mk o p ks)))∧Below w.heap.size w w':=by
 have HB:=hide ((Below.refl w.heap.size w).alloc (Nat.le_refl _) (.cells #[.int .i64 o, .string p, .slice a n c] 75))
 have HC:=hide (relSize_any 12 (Nat.le_refl _) o p ks a n c _ (h.below HB.out) (hg.below HB.out))
 have e10:((12:Nat):Int)=12:=rfl
 rw [e10] at HC
 clear e10
 generalize Re.mk o p ks=C at *
 go_enter Tryz.func78,Tryz.ntmps78
 go_wp2_with fail
 (with_reducible refine HC.out.mono ?_);rintro e w2 ⟨r,rfl,hr,hb2⟩
 have E:=hide hr.valid
 clear hr
 go_wp2_with fail
 go_ret
 exact ⟨by rw [← E.out];rfl,HB.out.trans (hb2.mono HB.out.size)⟩
theorem l7Shape_any:∀ (d:Nat),d≤12→∀ (o:Int) (p:ByteArray) (ks:List Re) (a:Option Addr) (n c:Nat) (w:World),RepRk 0 w ⟨a,n,c⟩ ks →
 Calls Tryz.prog 108 #[.agg #[.int .i64 o, .string p, .slice a n c], .int .i64 d] w fun e w'=>e = .returned (.bool (shapeR d (.mk o p ks)))∧Below w.heap.size w w':=by
 intro d
 induction d with
 | zero =>
  intro _ o p ks a n c w h
  have HB:=hide ((Below.refl w.heap.size w).alloc (Nat.le_refl _) (.cells #[.int .i64 o, .string p, .slice a n c] 75))
  go_enter Tryz.func108,Tryz.ntmps108
  go_wp2_with fail
  refine wp_region_bw (by kernel_rfl) (by kernel_rfl) ?_
  repeat (go_big_quiet_step (fail))
  refine wpQuiet_nil ?_
  intro w5 hb5
  go_wp2_with fail
  go_ret
  exact ⟨rfl,HB.out.trans (hb5.mono HB.out.size)⟩
 | succ d ih =>
  intro hd o p ks a n c w h
  have IH:=hide (ih (by omega))
  clear ih
  obtain ⟨e1,hc1,hc2,hc3⟩:=h.open
  simp only at e1 hc1 hc2 hc3
  subst e1
  have HB:=hide ((Below.refl w.heap.size w).alloc (Nat.le_refl _) (.cells #[.int .i64 o, .string p, .slice a ks.length c] 75))
  have HP:=hide (h.below HB.out)
  have HKD:=hide (fun (y:BW (w.alloc (.cells #[.int .i64 o, .string p, .slice a ks.length c] 75)))=>l7Kids_any o y.val)
  have HNM:=hide (fun (y:BW (w.alloc (.cells #[.int .i64 o, .string p, .slice a ks.length c] 75)))=>l6Named_any p y.val)
  have NB2:Hid (nodeO o p ks.length=(((ks.length:Int)==kidsO o)&&(((o==1)==isName p)&&(o==1||(p.toList==[]))))):=hide rfl
  have hd0:decide ((d:Int)+1 < 1)=false:=by simp;omega
  have NB:Hid (nodeO o p ks.length=nodeE (.mk o p ks)):=hide rfl
  have KK:Hid ((Re.mk o p ks).kids=ks):=hide rfl
  generalize hC:Re.mk o p ks=C at *
  clear hC h
  generalize nodeO o p ks.length=b at *
  have SH:=hide (shapeR_succ d C)
  generalize shapeR (d+1) C=R at *
  go_enter Tryz.func108,Tryz.ntmps108
  go_upto_region 1 with fail
  go_cut [35] (fun s W=>s = .bool (!b)∧Below (w.alloc (.cells #[.int .i64 o, .string p, .slice a ks.length c] 75)).heap.size (w.alloc (.cells #[.int .i64 o, .string p, .slice a ks.length c] 75)) W)
  case first =>
   rcases Bool.eq_false_or_eq_true ((ks.length:Int)==kidsO o) with gA | gA
   ·have gA':((ks.length:Int) != kidsO o)=false:=by simp only [bne,gA];rfl
    rcases Bool.eq_false_or_eq_true (o==1) with gC | gC
    ·have gC':(o != 1)=false:=by simp only [bne,gC];rfl
     rcases Bool.eq_false_or_eq_true (isName p) with gN | gN
     ·have RN:Hid (b=true):=hide (by rw [NB2.out,gA,gC,gN];rfl)
      rw [gN] at HNM
      go_wp2_with fail
      refine wp_region_bw (by kernel_rfl) (by kernel_rfl) ?_
      repeat (go_big_quiet_step (first | (go_at_call 145;(with_reducible exact Calls.bw_same (HKD.out _))) | (go_at_call 146;(with_reducible exact Calls.bw (HNM.out _)))))
      refine wpQuiet_nil ?_
      intro w5 hb5
      go_wp2_with fail
      go_meet
      exact ⟨by rw [RN.out];rfl,hb5⟩
     ·have RN:Hid (b=false):=hide (by rw [NB2.out,gA,gC,gN];rfl)
      rw [gN] at HNM
      go_wp2_with fail
      refine wp_region_bw (by kernel_rfl) (by kernel_rfl) ?_
      repeat (go_big_quiet_step (first | (go_at_call 145;(with_reducible exact Calls.bw_same (HKD.out _))) | (go_at_call 146;(with_reducible exact Calls.bw (HNM.out _)))))
      refine wpQuiet_nil ?_
      intro w5 hb5
      go_wp2_with fail
      go_meet
      exact ⟨by rw [RN.out];rfl,hb5⟩
    ·have gC':(o != 1)=true:=by simp only [bne,gC];rfl
     rcases Bool.eq_false_or_eq_true (isName p) with gN | gN
     ·have RN:Hid (b=false):=hide (by rw [NB2.out,gA,gC,gN];rfl)
      rw [gN] at HNM
      go_wp2_with fail
      refine wp_region_bw (by kernel_rfl) (by kernel_rfl) ?_
      repeat (go_big_quiet_step (first | (go_at_call 145;(with_reducible exact Calls.bw_same (HKD.out _))) | (go_at_call 146;(with_reducible exact Calls.bw (HNM.out _)))))
      refine wpQuiet_nil ?_
      intro w5 hb5
      go_wp2_with fail
      go_meet
      exact ⟨by rw [RN.out];rfl,hb5⟩
     ·rw [gN] at HNM
      rcases Bool.eq_false_or_eq_true (p.toList==[]) with gD | gD
      ·have gD':(p.toList != [])=false:=by simp only [bne,gD];rfl
       have RN:Hid (b=true):=hide (by rw [NB2.out,gA,gC,gN,gD];rfl)
       go_wp2_with fail
       refine wp_region_bw (by kernel_rfl) (by kernel_rfl) ?_
       repeat (go_big_quiet_step (first | (go_at_call 145;(with_reducible exact Calls.bw_same (HKD.out _))) | (go_at_call 146;(with_reducible exact Calls.bw (HNM.out _)))))
       refine wpQuiet_nil ?_
       intro w5 hb5
       go_wp2_with fail
       go_meet
       exact ⟨by rw [RN.out];rfl,hb5⟩
      ·have gD':(p.toList != [])=true:=by simp only [bne,gD];rfl
       have RN:Hid (b=false):=hide (by rw [NB2.out,gA,gC,gN,gD];rfl)
       go_wp2_with fail
       refine wp_region_bw (by kernel_rfl) (by kernel_rfl) ?_
       repeat (go_big_quiet_step (first | (go_at_call 145;(with_reducible exact Calls.bw_same (HKD.out _))) | (go_at_call 146;(with_reducible exact Calls.bw (HNM.out _)))))
       refine wpQuiet_nil ?_
       intro w5 hb5
       go_wp2_with fail
       go_meet
       exact ⟨by rw [RN.out];rfl,hb5⟩
   ·have gA':((ks.length:Int) != kidsO o)=true:=by simp only [bne,gA];rfl
    have RN:Hid (b=false):=hide (by rw [NB2.out,gA];rfl)
    go_wp2_with fail
    refine wp_region_bw (by kernel_rfl) (by kernel_rfl) ?_
    repeat (go_big_quiet_step (first | (go_at_call 145;(with_reducible exact Calls.bw_same (HKD.out _))) | (go_at_call 146;(with_reducible exact Calls.bw (HNM.out _)))))
    refine wpQuiet_nil ?_
    intro w5 hb5
    go_wp2_with fail
    go_meet
    exact ⟨by rw [RN.out];rfl,hb5⟩
  case rest =>
  obtain ⟨rfl,hb1⟩:=hcut
  cases b
  ·obtain rfl:R=false:=by rw [Bool.eq_false_iff,ne_eq,SH.out,← NB.out];simp
   go_wp2_with fail
   go_ret
   exact ⟨rfl,HB.out.trans (hb1.mono HB.out.size)⟩
  ·obtain ⟨hcc,hff⟩:=bcell hb1
   have HB1:=hide (HB.out.trans (hb1.mono HB.out.size))
   have HP1:=hide (HP.out.below hb1)
   have k1:wc.cell? ⟨w.heap.size,2,none⟩=some (.slice a ks.length c):=by rw [hcc _ _ (by simp)];simp [go_sem]
   have k2:w.heap.size < wc.heap.size:=by have:=hb1.size;simp at this;omega
   clear hb1
   go_wp2_with fail
   clear hcc hff hd0
   go_loopw [5] (fun i wr => ∃ (k:Nat),k≤ks.length∧i = .int .i64 k∧Hid (∀ y∈ks.take k,shapeR d y=true)∧Below wc.heap.size wc wr) (fun i _=>ks.length - (intOf i).toNat)
   case atStart=>exact ⟨0,by omega,rfl,hide (by simp),Below.refl _ _⟩
   case round =>
    obtain ⟨k,hk,rfl,T,hb⟩:=hrel
    have hsz:=hb.size
    have l1:=(hb.cell (p:=⟨w.heap.size,2,none⟩) k2).trans k1
    have l3:w.heap.size < wr.heap.size:=by omega
    by_cases hlt:k < ks.length
    ·obtain ⟨x1,hxk⟩:=get_of_lt (xs:=ks) (k:=k) hlt
     obtain ⟨b1,o1,s,rfl,hbl,i0,i1,i2,i5⟩:=(HP1.out.below hb).kid hxk
     have hlt':=nat_of_lt hlt
     have HC:=hide (IH.out x1.op x1.nm x1.kids s.a s.n s.cap _ i5)
     have hb1x:shapeR d (Re.mk x1.op x1.nm x1.kids)=shapeR d x1:=by rw [Re.eta]
     rw [hb1x] at HC
     have X:=hide hxk
     clear hxk i5 hb1x
     generalize hy:shapeR d x1=y at *
     have Y:=hide hy;clear hy
     go_wp2_with fail
     (with_reducible refine HC.out.mono ?_);rintro e w2 ⟨rfl,hb2⟩
     have hb3:=hb.trans (hb2.mono hb.size)
     cases y
     ·go_wp2_with fail
      go_ret
      obtain rfl:R=false:=by
       rw [Bool.eq_false_iff,ne_eq,SH.out,KK.out]
       intro h
       have:=h.2 x1 (List.mem_of_getElem? X.out)
       rw [Y.out] at this;simp at this
      exact ⟨rfl,HB1.out.trans (hb3.mono HB1.out.size)⟩
     ·have T2:Hid (∀ y∈ks.take (k+1),shapeR d y=true):=hide (by
       intro y hy
       rw [List.take_add_one,X.out] at hy
       simp at hy
       rcases hy with hy | rfl
       ·exact T.out y hy
       ·exact Y.out)
      go_wp2_with fail
      go_roundw
      case rel =>
       refine ⟨_,_,_,_,_,_,_,_,_,_,_,_,_,_,_,_,_,_, ?_,rfl⟩
       exact ⟨k+1,by omega,by go_num,T2,hb3⟩
      case measure=>simp [intOf];omega
    ·obtain rfl:R=true:=by
      rw [SH.out,KK.out]
      exact ⟨NB.out.symm,by have:=T.out;rwa [List.take_of_length_le (by omega)] at this⟩
     go_wp2_with fail
     go_ret
     exact ⟨rfl,HB1.out.trans (hb.mono HB1.out.size)⟩
def RetCnR (w:World) (c:Re) (m:Int) (e:Ending) (w':World):Prop:=∃ r:Int,e = .returned (.int .i64 r)∧CnR c m r∧Below w.heap.size w w'
def CntR (xs:List Re):Prop:=∀ (o:Int) (p:ByteArray) (a:Option Addr) (n c:Nat) (m:Int) (w:World),RepRk 0 w ⟨a,n,c⟩ xs→descR xs≤1048576→0≤m→m≤40 →
 Calls Tryz.prog 109 #[.agg #[.int .i64 o, .string p, .slice a n c], .int .i64 m] w (RetCnR w (.mk o p xs) m)
theorem cntR_any:∀ xs,CntR xs:=Re.all (by
 intro ks ih o p a n c m w h hl hm0 hm1
 obtain ⟨e1,hc1,hc2,hc3⟩:=h.open
 simp only at e1 hc1 hc2 hc3
 subst e1
 have HB:=hide ((Below.refl w.heap.size w).alloc (Nat.le_refl _) (.cells #[.int .i64 o, .string p, .slice a ks.length c] 75))
 have HP:=hide (h.below HB.out)
 have IH:=hide ih
 have KK:Hid ((Re.mk o p ks).kids=ks):=hide rfl
 generalize hC:Re.mk o p ks=C at *
 clear hC h ih
 go_enter Tryz.func109,Tryz.ntmps109
 go_wp2_with fail
 generalize hW:w.alloc (.cells #[.int .i64 o, .string p, .slice a ks.length c] 75)=W at *
 have k1:W.cell? ⟨w.heap.size,2,none⟩=some (.slice a ks.length c):=by rw [← hW];simp [go_sem]
 have k2:w.heap.size < W.heap.size:=by rw [← hW];simp
 clear hW
 go_loopw [5,6] (fun q i wr => ∃ (k:Nat) (r:Int),k≤ks.length∧i = .int .i64 k∧q = .int .i64 r∧Hid (CnRTo ks m k r)∧1≤r∧r≤1048577∧Below W.heap.size W wr) (fun _ i _=>ks.length - (intOf i).toNat)
 case atStart=>exact ⟨0,1,by omega,rfl,rfl,hide (CnRTo.zero _ _),by omega,by omega,Below.refl _ _⟩
 case round =>
  obtain ⟨k,r,hk,rfl,rfl,T,hr1,hr2,hb⟩:=hrel
  have hsz:=hb.size
  have l1:=(hb.cell (p:=⟨w.heap.size,2,none⟩) k2).trans k1
  have l3:w.heap.size < wr.heap.size:=by omega
  by_cases hlt:k < ks.length
  ·by_cases hle:r≤m
   ·obtain ⟨x1,hxk⟩:=get_of_lt (xs:=ks) (k:=k) hlt
    obtain ⟨b1,o1,s,rfl,hbl,i0,i1,i2,i5⟩:=(HP.out.below hb).kid hxk
    have hlt':=nat_of_lt hlt
    have hdk:=descR_kid hxk
    have HC:=hide (IH.out x1 (List.mem_of_getElem? hxk) x1.op x1.nm s.a s.n s.cap (m - r) _ i5 (by omega) (by omega) (by omega))
    have X:=hide hxk
    clear hxk i5
    go_wp2_with fail
    (with_reducible refine HC.out.mono ?_);rintro e w2 ⟨r',rfl,hr',hb2⟩
    rw [Re.eta] at hr'
    have h1:=hr'.low
    have h2:=hr'.high
    have HR:=hide hr';clear hr'
    have hb3:=hb.trans (hb2.mono hb.size)
    have T2:=hide (T.out.next X.out hle HR.out)
    have h3:r+r'≤1048577:=by have:=T2.out.high;have:=descR_take_le ks (k+1);omega
    clear h2
    go_wp2_with fail
    go_roundw
    case rel=>exact ⟨k+1,r+r',by omega,by go_num,rfl,T2,by omega,h3,hb3⟩
    case measure=>simp [intOf];omega
   ·have hle':decide (r≤m)=false:=by simp;omega
    have hlt':=nat_of_lt hlt
    have T2:=hide (CnRTo.done (c:=C) (by rw [KK.out];exact T.out) (.inr hle))
    go_wp2_with fail
    go_ret
    exact ⟨r,rfl,T2.out,HB.out.trans (hb.mono HB.out.size)⟩
  ·have e:ks.length≤k:=by omega
   have T2:=hide (CnRTo.done (c:=C) (m:=m) (by rw [KK.out];exact T.out) (.inl (by rw [KK.out];exact e)))
   go_wp2_with fail
   go_ret
   exact ⟨r,rfl,T2.out,HB.out.trans (hb.mono HB.out.size)⟩)
theorem RelExprValidS_raw (o:Int) (p:ByteArray) (ks:List Re) (a:Option Addr) (n c:Nat) (w:World) (h:RepRk 0 w ⟨a,n,c⟩ ks) (hl:descR ks≤1048576) :
 Calls Tryz.prog 65 #[.agg #[.int .i64 o, .string p, .slice a n c]] w fun e w'=>e = .returned (.bool (validR (.mk o p ks)))∧Below w.heap.size w w':=by
 have HB:=hide ((Below.refl w.heap.size w).alloc (Nat.le_refl _) (.cells #[.int .i64 o, .string p, .slice a n c] 75))
 have HC:=hide (l7Shape_any 12 (Nat.le_refl _) o p ks a n c _ (h.below HB.out))
 have e10:((12:Nat):Int)=12:=rfl
 rw [e10] at HC
 clear e10
 have HN:=hide (fun w' h'=>cntR_any ks o p a n c 40 w' h' hl (by omega) (by omega))
 have HP:=hide (h.below HB.out)
 have E:Hid (validR (.mk o p ks)=(shapeR 12 (.mk o p ks)&&decide (nodesR (.mk o p ks)≤40))):=hide rfl
 clear h
 generalize Re.mk o p ks=C at *
 generalize validR C=R at *
 generalize shapeR 12 C=b at *
 cases b
 ·obtain rfl:R=false:=by rw [E.out];rfl
  go_enter Tryz.func65,Tryz.ntmps65
  go_wp2_with fail
  (with_reducible refine HC.out.mono ?_);rintro e w2 ⟨rfl,hb2⟩
  go_wp2_with fail
  go_ret
  exact ⟨rfl,HB.out.trans (hb2.mono HB.out.size)⟩
 ·go_enter Tryz.func65,Tryz.ntmps65
  go_wp2_with fail
  (with_reducible refine HC.out.mono ?_);rintro e w2 ⟨rfl,hb2⟩
  obtain ⟨hc2,hf2⟩:=bcell hb2
  go_wp2_with fail
  (with_reducible refine (HN.out _ (HP.out.below hb2)).mono ?_);rintro e w3 ⟨r,rfl,hr,hb3⟩
  have E2:Hid (R=decide (r≤40)):=hide (by rw [E.out,hr.le];rfl)
  clear hr
  go_wp2_with fail
  go_ret
  exact ⟨by rw [E2.out];rfl,HB.out.trans ((hb2.trans (hb3.mono hb2.size)).mono HB.out.size)⟩
end Go.Proofs.YtkfhgnkonaafgaaGreatDoor
namespace Go.Proofs.YtkfhgnkonaafgaaGreatDoor
open Go.RowKit
theorem OwnFU.grown_ne {α β γ:Type} {E:El α} {F:El γ} {T:TypeId} {R:Dd→Dd→Prop} {φ:Dd→World→α→β→Prop} {us:List α} {ds:List Dd} {w w':World} {base base':Nat} {v v':Value} {xs:List β} {ys:List γ} (h:OwnFU E T R φ us ds w base v xs)
 (ho:Own F T w base' v' ys) (hg:w.grownBy w' v'.ownBlock) (hne:v.ownBlock=none∨v.ownBlock≠v'.ownBlock):OwnFU E T R φ us ds w' base v xs:=
 ⟨h.lu,h.ld,h.pw,h.own.grown hg hne,fun i u d x h1 h2 h3=>⟨(h.rows i u d x h1 h2 h3).1,(h.rows i u d x h1 h2 h3).2.grown ho hg⟩⟩
theorem OwnF.grown_ne {α β γ:Type} {E:El α} {F:El γ} {T:TypeId} {R:Dd→Dd→Prop} {φ:Dd→World→α→β→Prop} {w w':World} {base base':Nat} {v v':Value} {xs:List β} {ys:List γ} (h:OwnF E T R φ w base v xs)
 (ho:Own F T w base' v' ys) (hg:w.grownBy w' v'.ownBlock) (hne:v.ownBlock=none∨v.ownBlock≠v'.ownBlock):OwnF E T R φ w' base v xs:=by
 obtain ⟨us,ds,h⟩:=h
 exact ⟨us,ds,h.grown_ne ho hg hne⟩
theorem step_appL {α:Type} (E:El α) {P:Program} {w:World} {ops:Array Oper} {o:Oper} {a:Act} {K:Act→World→Prop} {Q:Exit→Act→World→Prop} {F:Prop}
 (T:TypeId) {zv:Value} {bytes:Nat} (hinfo:(P.info? T).map (fun i=>(i.zero,i.size,i.bytes))=some (some zv,E.sz,bytes)) (hz:zv.cells.size=E.sz) {t:TypeId} (h1:P.underlying t=some (.slice T))
 (base:Nat) (v:Value) (xs:List α) (x:α) (hown:Own E T w base v xs) (hby:bytes≤256) (hn:xs.length≤68719476736) (hbase:base≤w.heap.size)
 (hg:o.guard=none) (s y:Operand) (hop:o.op = .call { callee:=.builtin .append,args:=#[s,y],argTypes:=#[t,t] })
 (hs:a.eval s=v) (b off c:Nat) (hy:a.eval y = .slice (some ⟨b,off,none⟩) 1 c) (hnews:∀ j u,(E.c x)[j]? = some u→w.cell? ⟨b,off+j,none⟩=some u)
 (hK:∀ v' w',Own E T w' base v' (xs++[x])→w.grownBy w' v.ownBlock→(v'.ownBlock=v.ownBlock∨v'.ownBlock=some w.heap.size)→K (a.put o.dst v') w') :
 if Region.wanted o (yielded ops a.tmps)=true then Oper.wp P o a w K Q else F:=by
 obtain ⟨it,hi,hz0,hz1,hz2⟩:=info_parts hinfo
 refine step_append_lies w hg s y t hop base T it zv E.sz bytes h1 hi hz0 hz1 hz2 hz E.pos v xs.length _ hs hown ⟨b,off,none⟩ 1 c (E.c x) hy (by rw [E.len,Nat.one_mul]) ?_ (E.one x) (by omega) (by unfold maxLen;omega) ?_ hbase _ rfl ?_
 ·intro j u hu
  have hadd:(⟨b,off,none⟩:Addr).add j=⟨b,off+j,none⟩:=by unfold Addr.add;split <;> simp_all
  rw [hadd]
  exact hnews j u hu
 ·have:=Nat.mul_le_mul (show xs.length+1≤68719476737 by omega) hby
  omega
 ·intro g cap w' h2 h3 h4 _
  refine hK _ w' ?_ h3 ?_
  ·unfold Own
   simpa [List.flatMap_append] using h2
  ·rcases h4 with h4 | h4
   ·exact .inl (by rw [h4];rfl)
   ·exact .inr (by rw [h4];rfl)
theorem Rep.takeI {w:World} {a:Option Addr} {n c:Nat} {xs:List Int} (h:Rep IntE w (.slice a n c) xs) {k:Nat} (hk:k≤xs.length):Rep IntE w (.slice a k c) (xs.take k):=by
 obtain ⟨a',c',hv,h1,h2,h3⟩:=h
 simp only [Value.slice.injEq] at hv
 obtain ⟨rfl,rfl,rfl⟩:=hv
 refine ⟨a,c,by rw [List.length_take,Nat.min_eq_left hk],by rw [List.length_take];omega,h2,fun i x hx => ?_⟩
 rw [List.getElem?_take] at hx
 split at hx
 ·exact h3 i x hx
 ·cases hx
theorem Rep.dropI {w:World} {b o n c:Nat} {xs:List Int} (h:Rep IntE w (.slice (some ⟨b,o,none⟩) n c) xs) {k:Nat} (hk:k≤xs.length):Rep IntE w (.slice (some ⟨b,o+k,none⟩) (n - k) (c - k)) (xs.drop k):=by
 obtain ⟨a',c',hv,h1,h2,h3⟩:=h
 simp only [Value.slice.injEq] at hv
 obtain ⟨rfl,rfl,rfl⟩:=hv
 refine ⟨some ⟨b,o+k,none⟩,c - k,by rw [List.length_drop],by rw [List.length_drop];omega,by omega,fun i x hx => ?_⟩
 rw [List.getElem?_drop] at hx
 obtain ⟨b',o',hb,h4⟩:=h3 (k+i) x hx
 simp only [Option.some.injEq,Addr.mk.injEq,and_true] at hb
 obtain ⟨rfl,rfl⟩:=hb
 refine ⟨b,o+k,rfl,fun j u hu => ?_⟩
 have h5:=h4 j u hu
 rw [show o+k+i * IntE.sz+j=o+(k+i) * IntE.sz+j by simp only [IntE];omega]
 exact h5
theorem Rep.dropV {w:World} {b o n c:Nat} {xs:List Int} (h:Rep IntE w (.slice (some ⟨b,o,none⟩) n c) xs) {k:Nat} (hk:k≤xs.length):Rep IntE w (.slice (if c=k then some ⟨b,o,none⟩ else some ⟨b,o+k,none⟩) (n - k) (c - k)) (xs.drop k):=by
 split
 ·rename_i hc
  obtain ⟨a',c',hv,h1,h2,h3⟩:=h
  simp only [Value.slice.injEq] at hv
  obtain ⟨rfl,rfl,rfl⟩:=hv
  refine ⟨_,_,by rw [List.length_drop],by rw [List.length_drop];omega,by omega,fun i x hx => ?_⟩
  rw [List.getElem?_eq_none (by rw [List.length_drop];omega)] at hx
  cases hx
 ·exact h.dropI hk
def permTo (xs:List Int) (k:Nat):List (List Int):=(List.range k).flatMap fun i=>(permsL (xs.eraseIdx i)).map (xs.getD i 0 :: ·)
theorem permTo_succ (xs:List Int) (k:Nat):permTo xs (k+1)=permTo xs k++(permsL (xs.eraseIdx k)).map (xs.getD k 0 :: ·):=by
 unfold permTo
 rw [List.range_succ,List.flatMap_append]
 simp
theorem permTo_length (xs:List Int) (k:Nat) (hk:k≤xs.length):(permTo xs k).length≤fact xs.length:=by
 have h:=permsL_length xs
 by_cases h0:xs.length=0
 ·have:k=0:=by omega
  subst this
  simp [permTo]
 ·have h1:=flatMap_length_le (fun i=>(permsL (xs.eraseIdx i)).map (xs.getD i 0 :: ·)) (fact (xs.length - 1)) (List.range k) (fun i hi=>by
   rw [List.mem_range] at hi
   rw [List.length_map]
   refine Nat.le_trans (permsL_length _) ?_
   rw [List.length_eraseIdx,if_pos (by omega)]
   exact Nat.le_refl _)
  rw [List.length_range] at h1
  obtain ⟨m,hm⟩:∃ m,xs.length=m+1:=⟨xs.length - 1,by omega⟩
  rw [hm] at h1 ⊢
  rw [fact,Nat.mul_comm]
  exact Nat.le_trans h1 (Nat.mul_le_mul_right _ (by omega))
theorem permsL_row:∀ (n:Nat) (xs:List Int),xs.length=n→∀ r∈permsL xs,r.length=n:=by
 intro n
 induction n with
 | zero =>
  intro xs hx r hr
  have:xs=[]:=List.length_eq_zero_iff.1 hx
  subst this
  rw [permsL_nil] at hr;simp at hr;subst hr;rfl
 | succ n ih =>
  intro xs hx r hr
  rw [permsL_step (by omega),List.mem_flatMap] at hr
  obtain ⟨k,hk1,hk⟩:=hr
  rw [List.mem_range] at hk1
  rw [List.mem_map] at hk
  obtain ⟨y,hy,rfl⟩:=hk
  rw [List.length_cons,ih _ (by rw [List.length_eraseIdx,if_pos hk1,hx];rfl) y hy]
theorem fact_mono {m n:Nat} (h:m≤n):fact m≤fact n:=by
 obtain ⟨k,h1,h2⟩:=fact_mul h
 rw [h2];exact Nat.le_mul_of_pos_right _ h1
theorem fact_lt {n:Nat} (h:fact n≤3000):n≤6:=by
 rcases Nat.lt_or_ge 6 n with h1 | h1
 ·have:=fact_mono h1
  have e:fact (Nat.succ 6)=5040:=by decide
  omega
 ·exact h1
theorem l6Perms_any (n:Nat):∀ (v:Value) (xs:List Int) (w:World),xs.length=n→fact n≤3000→Rep IntE w v xs →
 Calls Tryz.prog 148 #[v] w fun e w' => ∃ u:Slc,e = .returned (.slice u.a u.n u.cap)∧RowsI w' w.heap.size u.v (permsL xs)∧Below w.heap.size w w':=by
 induction n with
 | zero =>
  intro v xs w hx _ he
  obtain rfl:xs=[]:=List.length_eq_zero_iff.1 hx
  obtain ⟨a,c,rfl, -, -, -, -⟩:=he.open
  rw [permsL_nil]
  go_enter Tryz.func148,Tryz.ntmps148
  go_wp2_with fail
  go_ret
  have hb1:=(Below.refl w.heap.size w).alloc (Nat.le_refl _) (.cells #[] 3)
  have h0:=Own.empty (E:=IntE) 3 w (Nat.le_refl _)
  have hz:(w.alloc (.cells #[] 3)).heap.size=w.heap.size+1:=by simp
  have h1:=Own.lit1 (E:=SlcE) (T:=24) (w.alloc (.cells #[] 3)) (base:=w.heap.size) (by omega) ⟨some ⟨w.heap.size,0,none⟩,0,0⟩
  refine ⟨⟨some ⟨w.heap.size+1,0,none⟩,1,1⟩,rfl,⟨[⟨some ⟨w.heap.size,0,none⟩,0,0⟩],[⟨w.heap.size,w.heap.size+1,[]⟩],rfl,rfl,by simp,by rw [hz] at h1;exact h1,fun i u d x h2 h3 h4 => ?_⟩,hb1.alloc (by omega) _⟩
  cases i with
  | succ i=>simp at h2
  | zero =>
   simp at h2 h3 h4
   subst h2;subst h3;subst h4
   refine ⟨Nat.le_refl _, ?_⟩
   have h5:=(PhiI.loc (u:=⟨some ⟨w.heap.size,0,none⟩,0,0⟩) h0).below ((Below.refl _ (w.alloc (.cells #[] 3))).alloc (Nat.le_refl _) (.cells (SlcE.c ⟨some ⟨w.heap.size,0,none⟩,0,0⟩).toArray 24))
   rw [hz] at h5
   exact h5
 | succ n ih =>
  intro v xs w hx hfact he
  have hn6:=fact_lt hfact
  have HI:=hide (fun v ys w' h h'=>ih v ys w' h (Nat.le_trans (fact_mono (Nat.le_succ n)) hfact) h')
  have HPS:=hide (permTo_succ xs)
  have HPL:=hide (fun k (hk:k≤n+1)=>Nat.le_trans (permTo_length xs k (by omega)) (by rw [hx];exact hfact))
  have HP0:Hid (permTo xs 0=[]):=hide rfl
  have HPE:Hid (permsL xs=permTo xs (n+1)):=hide (by rw [permsL_step (by omega),hx];rfl)
  have HE:=hide he
  have HXL:=hide hx
  obtain ⟨a,c,rfl,hnc, -, -, -⟩:=he.open
  obtain ⟨x0,hx0⟩:=get_of_lt (xs:=xs) (k:=0) (by omega)
  obtain ⟨b,o,rfl,hbl, -⟩:=he.int hx0
  rw [hx] at hnc ⊢
  have hne:(((n+1:Nat):Int)==0)=false:=by simp;omega
  rw [hx] at HE
  have HFA:Hid (fact (n+1)≤3000):=hide hfact
  clear he ih hx hx0 hfact
  generalize permsL xs=R at *
  generalize hm:n+1=m at *
  have HM:=hide hm
  clear hm
  go_enter Tryz.func148,Tryz.ntmps148
  go_wp2_with fail
  go_loopw [3,4] (fun s i wr => ∃ k:Nat,k≤m∧i = .int .i64 k∧RowsI wr w.heap.size s (permTo xs k)∧Below w.heap.size w wr) (fun _ i _=>m - (intOf i).toNat)
  case atStart=>exact ⟨0,Nat.zero_le _,rfl,by rw [HP0.out];exact OwnF.empty _ w (Nat.le_refl _),(Below.refl _ _).alloc (Nat.le_refl _) _⟩
  case round =>
   obtain ⟨k,hk,rfl,hrows,hbr⟩:=hrel
   by_cases hlt:k < m
   ·obtain ⟨x,hxk⟩:=get_of_lt (xs:=xs) (k:=k) (by rw [HXL.out];exact hlt)
    have hltk:=nat_of_lt hlt
    have PS:=hide (HPS.out k)
    have hgd:xs.getD k 0=x:=by simp [List.getD,hxk]
    rw [hgd] at PS
    have PL:=hide (HPL.out k hk)
    generalize permTo xs k=G at *
    have HEr:=HE.out.below hbr
    obtain ⟨b',o',hbo,hbf,f0⟩:=HEr.int hxk
    simp only [Option.some.injEq,Addr.mk.injEq,and_true] at hbo
    obtain ⟨rfl,rfl⟩:=hbo
    have hba:=(Below.refl wr.heap.size wr).alloc (Nat.le_refl _) (.cells #[] 3)
    have T1:=hide ((HEr.takeI (k:=k) (by rw [HXL.out];exact hk)).below hba.drew)
    have T2:=hide (HEr.dropV (k:=k+1) (by rw [HXL.out];exact hlt))
    have HES:Hid (xs.take k++xs.drop (k+1)=xs.eraseIdx k):=hide (List.eraseIdx_eq_take_drop_succ xs k).symm
    have hkc:(k:Int)≤(c:Int):=by omega
    have hwk:wrap64 ((k:Int)+1)=(k:Int)+1:=by unfold wrap64;omega
    have hwk2:IntKind.i64.wrap ((k:Int)+1)=(k:Int)+1:=by rw [IntKind.wrap_i64];omega
    have hkm:(k:Int)+1≤(m:Int):=by omega
    have hk0:(0:Int)≤(k:Int)+1:=by omega
    have hmc:(m:Int)≤(c:Int):=by omega
    have hkt:((k:Int)+1).toNat=k+1:=by omega
    have OE:Hid (Own IntE 3 (wr.alloc (.cells #[] 3)).drew wr.heap.size (.slice (some ⟨wr.heap.size,0,none⟩) 0 0) []):=hide (Own.empty (E:=IntE) 3 wr (Nat.le_refl _))
    have hl1:([]:List Int).length+(xs.take k).length≤68719476736:=by rw [List.length_take];simp;omega
    have hl2:([]++xs.take k).length+(xs.drop (k+1)).length≤68719476736:=by rw [List.nil_append,List.length_take,List.length_drop];have:=HXL.out;omega
    go_upto_region 7 with fail
    go_cut [5] (fun s5 W => ∃ f:Slc,s5 = .slice f.a f.n f.cap∧Own IntE 3 W wr.heap.size f.v (xs.eraseIdx k)∧Below wr.heap.size wr W)
    case first =>
     by_cases hck:c=k+1
     ·rw [if_pos hck] at T2
      obtain rfl:m=k+1:=by omega
      subst hck
      rw [Nat.sub_self] at T2
      have hkc:(k:Int)≤(k:Int)+1:=by omega
      clear hmc
      go_region_held3 (fun V=>V.cell? ⟨b,o+k,none⟩=some (.int .i64 x)) ((simp [go_sem, *]))
       (first
        | (refine step_appS IntE 3 Tryz.infoInt rfl Tryz.underlying24 wr.heap.size _ [] (xs.take k) _ OE.out T1.out (by decide) hl1 (by simp) (by rfl) _ _ (by rfl) (by rfl) (by rfl) ?_;intro v6 w6 hown6 hgr6;obtain ⟨⟨a6,n6,c6⟩,rfl, -⟩:=hown6.toSlc;have O6:=hide hown6;have hk6:(∀ o,w6.cell? ⟨b,o,none⟩=wr.cell? ⟨b,o,none⟩):=(kept_d hgr6 hbf (fun q hq=>by simp [Value.ownBlock] at hq;omega));have B6:=hide (below_lit hgr6);have hb6:=B6.out.size;have T3:=hide (T2.out.below B6.out);clear hown6 hgr6)
        | (refine step_appS IntE 3 Tryz.infoInt rfl Tryz.underlying24 wr.heap.size _ ([]++xs.take k) (xs.drop (k+1)) _ O6.out T3.out (by decide) hl2 (by omega) (by rfl) _ _ (by rfl) (by rfl) (by rfl) ?_;intro v7 w7 hown7 hgr7;obtain ⟨⟨a7,n7,c7⟩,rfl, -⟩:=hown7.toSlc;have hk7:(∀ o,w7.cell? ⟨b,o,none⟩=wr.cell? ⟨b,o,none⟩):=(fun o=>(cell_of_block2 (hgr7.block b (Nat.lt_of_lt_of_le hbf hb6) (fun e=>by have:=(World.ownsRow.lt O6.out b e.symm).1;omega)) o).trans (hk6 o))))
      all_goals
       have O7:Hid (Own IntE 3 w7 wr.heap.size (Slc.v ⟨a7,n7,c7⟩) (xs.eraseIdx k)):=hide (by rw [← HES.out];exact hown7)
       have B7:=hide (B6.out.grown hgr7 (Nat.le_of_lt_succ (by have:=B6.out.size;omega)) (fun q hq=>(World.ownsRow.lt O6.out q hq).1))
       go_wp2_with fail
       go_meet
       exact ⟨⟨a7,n7,c7⟩,rfl,O7.out,B7.out⟩
     ·rw [if_neg hck] at T2
      go_region_held3 (fun V=>V.cell? ⟨b,o+k,none⟩=some (.int .i64 x)) ((simp [go_sem, *]))
       (first
        | (refine step_appS IntE 3 Tryz.infoInt rfl Tryz.underlying24 wr.heap.size _ [] (xs.take k) _ OE.out T1.out (by decide) hl1 (by simp) (by rfl) _ _ (by rfl) (by rfl) (by rfl) ?_;intro v6 w6 hown6 hgr6;obtain ⟨⟨a6,n6,c6⟩,rfl, -⟩:=hown6.toSlc;have O6:=hide hown6;have hk6:(∀ o,w6.cell? ⟨b,o,none⟩=wr.cell? ⟨b,o,none⟩):=(kept_d hgr6 hbf (fun q hq=>by simp [Value.ownBlock] at hq;omega));have B6:=hide (below_lit hgr6);have hb6:=B6.out.size;have T3:=hide (T2.out.below B6.out);clear hown6 hgr6)
        | (refine step_appS IntE 3 Tryz.infoInt rfl Tryz.underlying24 wr.heap.size _ ([]++xs.take k) (xs.drop (k+1)) _ O6.out T3.out (by decide) hl2 (by omega) (by rfl) _ _ (by rfl) (by rfl) (by rfl) ?_;intro v7 w7 hown7 hgr7;obtain ⟨⟨a7,n7,c7⟩,rfl, -⟩:=hown7.toSlc;have hk7:(∀ o,w7.cell? ⟨b,o,none⟩=wr.cell? ⟨b,o,none⟩):=(fun o=>(cell_of_block2 (hgr7.block b (Nat.lt_of_lt_of_le hbf hb6) (fun e=>by have:=(World.ownsRow.lt O6.out b e.symm).1;omega)) o).trans (hk6 o))))
      all_goals
       have O7:Hid (Own IntE 3 w7 wr.heap.size (Slc.v ⟨a7,n7,c7⟩) (xs.eraseIdx k)):=hide (by rw [← HES.out];exact hown7)
       have B7:=hide (B6.out.grown hgr7 (Nat.le_of_lt_succ (by have:=B6.out.size;omega)) (fun q hq=>(World.ownsRow.lt O6.out q hq).1))
       go_wp2_with fail
       go_meet
       exact ⟨⟨a7,n7,c7⟩,rfl,O7.out,B7.out⟩
    case rest =>
     obtain ⟨⟨a7,n7,c7⟩,rfl,h7,hb7⟩:=hcut
     have O7:=hide h7;have B7:=hide hb7
     clear h7 hb7
     generalize wc=w7 at *
     have HC:=hide (HI.out _ (xs.eraseIdx k) w7 (by rw [List.length_eraseIdx,HXL.out,if_pos hlt];have:=HM.out;omega) O7.out.rep)
     have HRL:=hide (fun r (hr:r∈permsL (xs.eraseIdx k))=>permsL_row n (xs.eraseIdx k) (by rw [List.length_eraseIdx,HXL.out,if_pos hlt];have:=HM.out;omega) r hr)
     have HRN0:=hide (permsL_length (xs.eraseIdx k))
     have HEL:Hid (fact (xs.eraseIdx k).length≤3000):=hide (by
      rw [List.length_eraseIdx,HXL.out,if_pos hlt]
      refine Nat.le_trans (fact_mono (Nat.sub_le m 1)) ?_
      have:=HFA.out
      exact this)
     have HB7:=hide (hbr.trans (B7.out.mono hbr.size))
     have HR7:=hide (OwnF.below hrows B7.out)
     have hq3:∀ q,u3.ownBlock=some q→q < w7.heap.size:=fun q hq=>by
      obtain ⟨us,ds,hU⟩:=hrows
      exact Nat.lt_of_lt_of_le (World.ownsRow.lt hU.own q hq).2 B7.out.size
     have HQ3:=hide hq3
     have F0:=hide ((hbr.cell (p:=⟨b,o+k,none⟩) hbl).symm.trans f0)
     clear hq3 O7 B7 T1 T2 OE HES hl1 hl2 hba f0 hrows hbr HEr hwk hwk2 hkm hk0 hmc hkt hkc hbf
     generalize permsL (xs.eraseIdx k)=RR at *
     go_wp2_with fail
     (with_reducible refine HC.out.mono ?_);rintro e w8 ⟨⟨ra,rn,rc⟩,rfl,ou,hb8⟩
     have hrn:rn=RR.length:=by
      rcases ou.shape with ⟨h1,h2⟩ | ⟨g,cap,h1, -⟩
      ·simp only [Slc.v,Value.slice.injEq] at h1;rw [h1.2.1,h2];rfl
      ·simp only [Slc.v,Value.slice.injEq] at h1;exact h1.2.1
     have HRN:Hid (RR.length=rn):=hide hrn.symm
     have hrb:rn≤3000:=by have:=HRN0.out;have:=HEL.out;omega
     have HRS:=hide ou
     have HQ8:Hid (∀ q,(Slc.v ⟨ra,rn,rc⟩).ownBlock=some q→w7.heap.size≤q∧q < w8.heap.size):=hide (fun q hq=>by
      obtain ⟨us,ds,hU⟩:=ou
      exact World.ownsRow.lt hU.own q hq)
     have HR8:=hide (OwnF.below HR7.out hb8)
     have HB8:=hide (HB7.out.trans (hb8.mono HB7.out.size))
     have h78:=hb8.size
     clear ou hb8 hrn HR7 HB7 HC
     go_wp2_with fail
     go_loopw [3,7] (fun s i wr => ∃ j:Nat,j≤rn∧i = .int .i64 j∧RowsI wr w.heap.size s (G++(RR.take j).map (x :: ·))∧RowsI wr w7.heap.size (.slice ra rn rc) RR∧Hid (∀ q,s.ownBlock=some q→q < w7.heap.size∨w8.heap.size≤q)∧Below w.heap.size w wr∧w8.heap.size≤wr.heap.size) (fun _ i _=>rn - (intOf i).toNat)
     case atStart=>exact ⟨0,Nat.zero_le _,rfl,by rw [List.take_zero,List.map_nil,List.append_nil];exact HR8.out,HRS.out,hide (fun q hq => .inl (HQ3.out q hq)),HB8.out,Nat.le_refl _⟩
     case round =>
      obtain ⟨j,hj,rfl,hrows,hrest,hsq,hbr,hsz⟩:=hrel
      by_cases hltj:j < rn
      ·obtain ⟨r,hrj⟩:=get_of_lt (xs:=RR) (k:=j) (by rw [HRN.out];exact hltj)
       have hltj':=nat_of_lt hltj
       have f0:=(hbr.cell (p:=⟨b,o+k,none⟩) hbl).trans F0.out
       have hbf:=Nat.lt_of_lt_of_le hbl hbr.size
       obtain ⟨⟨sa,sn,sc⟩,g,hga,hg,g0,hrep⟩:=RowsI.row hrest hrj
       subst hga
       have hgq:=HQ8.out g rfl
       have RS:Hid (G++(RR.take (j+1)).map (x :: ·)=(G++(RR.take j).map (x :: ·))++[x :: r]):=hide (by rw [map_take_succ (x :: ·) hrj,List.append_assoc])
       have hrl:=HRL.out r (List.mem_of_getElem? hrj)
       have hlen:(G++(RR.take j).map (x :: ·)).length≤68719476736:=by
        rw [List.length_append,List.length_map,List.length_take]
        have:=PL.out;have:=HRN.out;omega
       have hn1:([x]:List Int).length+r.length≤68719476736:=by have:=HM.out;simp;omega
       have HRP:=hide (hrep.below ((Below.refl wr.heap.size wr).alloc (Nat.le_refl _) (.cells #[.int .i64 x] 3)).drew)
       obtain ⟨us,ds,hU⟩:=hrows
       have HUL:Hid (us.length≤68719476736):=hide (by rw [hU.lu];exact hlen)
       have HU:=hide hU
       have HBR2:=hide hbr
       have HRS2:=hide hrest
       have HLT:Hid (Own IntE 3 (wr.alloc (.cells #[.int .i64 x] 3)).drew wr.heap.size (.slice (some ⟨wr.heap.size,0,none⟩) 1 1) [x]):=hide (Own.lit1 (E:=IntE) (T:=3) wr (Nat.le_refl _) x)
       have hbs:w.heap.size≤wr.heap.size:=hbr.size
       have HQ7:Hid (∀ q,u3.ownBlock=some q→w.heap.size≤q∧q≠g):=hide (fun q hq=>⟨(World.ownsRow.lt hU.own q hq).1,by have:=hsq.out q hq;omega⟩)
       generalize G++(RR.take j).map (x :: ·)=GG at *
       clear hrj hrep hbr hrl hU hlen hrest
       go_wp2_with fail
       go_region_held3 (fun V=>V.cell? ⟨b,o+k,none⟩=some (.int .i64 x)∧V.cell? ⟨g,j,none⟩=some (.slice sa sn sc)) ((simp [go_sem, *]))
        (first
         | (refine step_appS IntE 3 Tryz.infoInt rfl Tryz.underlying24 wr.heap.size _ [x] r _ HLT.out HRP.out (by decide) hn1 (by simp) (by rfl) _ _ (by rfl) (by rfl) (by rfl) ?_;intro v6 w6 hown6 hgr6;obtain ⟨⟨a6,n6,c6⟩,rfl, -⟩:=hown6.toSlc;have O6:=hide hown6;have hk6:(∀ o,w6.cell? ⟨b,o,none⟩=wr.cell? ⟨b,o,none⟩):=(kept_d hgr6 hbf (fun q hq=>by simp [Value.ownBlock] at hq;omega));have hk7:(∀ o,w6.cell? ⟨g,o,none⟩=wr.cell? ⟨g,o,none⟩):=(kept_d hgr6 hg (fun q hq=>by simp [Value.ownBlock] at hq;omega));have B6:=hide (below_lit hgr6);have hb6:=B6.out.size;have hz6:b < w6.heap.size:=(Nat.lt_of_lt_of_le hbf hb6);have hz7:g < w6.heap.size:=(Nat.lt_of_lt_of_le hg hb6);clear hown6 hgr6)
         | (refine step_appL SlcE 24 Tryz.infoIntS rfl Tryz.underlying27 w.heap.size _ us ⟨a6,n6,c6⟩ ((HU.out.own.below B6.out).alloc _) (by decide) HUL.out (by simp;omega) (by rfl) _ _ (by rfl) (by rfl) w6.heap.size 0 1 (by rfl) news_alloc ?_;intro v8 w9 hown8 hgr8 hv8;have hk8:(∀ o,w9.cell? ⟨b,o,none⟩=wr.cell? ⟨b,o,none⟩):=(fun o=>(kept_cell hgr8 (by omega) (fun q hq=>by have:=HQ7.out q hq;omega) o).trans (hk6 o));have hk9:(∀ o,w9.cell? ⟨g,o,none⟩=wr.cell? ⟨g,o,none⟩):=(fun o=>(kept_cell hgr8 (by omega) (fun q hq=>(HQ7.out q hq).2) o).trans (hk7 o))))
       have R8:=RowsI.app HU.out B6.out hbs rfl O6.out hown8 hgr8
       have B8:=(HBR2.out.trans (B6.out.mono hbs)).alloc (by omega) (.cells #[.slice a6 n6 c6] 24)
       have B9:=B8.grown hgr8 (by simp;omega) (fun q hq=>(HQ7.out q hq).1)
       have ba:=(Below.refl w6.heap.size w6).alloc (Nat.le_refl _) (.cells #[.slice a6 n6 c6] 24)
       have S9:=OwnF.grown_ne (OwnF.below (OwnF.below HRS2.out B6.out) ba) ((HU.out.own.below B6.out).below ba) hgr8 (.inr fun e=>(HQ7.out g e.symm).2 rfl)
       have hs9:=hgr8.size
       simp only [World.size_alloc] at hs9 hv8
       have hq9:∀ q,v8.ownBlock=some q→q < w7.heap.size∨w8.heap.size≤q:=fun q hq=>by
        rcases hv8 with h | h
        ·rw [h] at hq;exact hsq.out q hq
        ·rw [h] at hq;simp at hq;omega
       have HQ9:=hide hq9
       go_wp2_with fail
       go_roundw
       case rel=>exact ⟨j+1,by omega,by go_num,by rw [RS.out];exact R8,S9,HQ9,B9,by omega⟩
       case measure=>simp [intOf];omega
      ·obtain rfl:j=rn:=by omega
       rw [List.take_of_length_le (by rw [HRN.out];exact Nat.le_refl _),← PS.out] at hrows
       go_wp2_with fail
       go_roundw
       case rel=>exact ⟨k+1,by omega,by go_num,hrows,hbr⟩
       case measure=>simp [intOf];omega
   ·obtain rfl:k=m:=by omega
    obtain ⟨us,ds,hU⟩:=hrows
    obtain ⟨⟨qa,qn,qc⟩,rfl, -⟩:=hU.own.toSlc
    have hrows:RowsI _ _ _ _:=⟨us,ds,hU⟩
    clear hU
    go_wp2_with fail
    go_ret
    exact ⟨⟨qa,qn,qc⟩,rfl,by rw [HPE.out];exact hrows,hbr⟩
end Go.Proofs.YtkfhgnkonaafgaaGreatDoor
namespace Go.Proofs.YtkfhgnkonaafgaaGreatDoor
open Go.RowKit
section
variable {A0 W w' : World} {rg mm : List Int} {a f1 f2 : Bool} {A : Nat} {f g s' : Slc}
end
end Go.Proofs.YtkfhgnkonaafgaaGreatDoor
namespace Go.Proofs.YtkfhgnkonaafgaaGreatDoor
open Go.RowKit
section
variable {w V V' : World} {O I m g k : Nat} {xs i : List Value} {y : SV} {s : St} {v : Int}
end
end Go.Proofs.YtkfhgnkonaafgaaGreatDoor
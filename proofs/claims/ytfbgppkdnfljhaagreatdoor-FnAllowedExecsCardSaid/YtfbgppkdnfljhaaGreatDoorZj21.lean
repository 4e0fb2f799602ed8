/-
  The reference's l6Values; ValuesOf of both sides. Condition: bounds on lengths.
-/
import Derived.Test.YtfbgppkdnfljhaaGreatDoorZj15
import Derived.Test.YtfbgppkdnfljhaaGreatDoorZj17
import Derived.Test.YtfbgppkdnfljhaaGreatDoorZj18
set_option maxHeartbeats 6400000
set_option maxRecDepth 100000
namespace Go.Proofs.YtfbgppkdnfljhaaGreatDoor
open Go.RowKit
theorem relLevel_any (o:Int) (w:World):Calls Tryz.prog 169 #[.int .i64 o] w fun e w'=>(∃ (lv:Int) (sg:ByteArray),e = .returned (.tuple #[.int .i64 lv, .string sg, .int .i64 (kidsO o)]))∧w=w':=by
 by_cases h1:o=1
 ·subst h1
  go_enter Tryz.func169,Tryz.ntmps169
  go_wp2
  refine bodyPost_ret (v:=.tuple #[.int .i64 0, .string ⟨#[]⟩, .int .i64 0]) (by simp [results,Tryz.results169,go_sem]) rfl ⟨⟨_,_,rfl⟩,rfl⟩
 by_cases h2:o=2
 ·subst h2
  go_enter Tryz.func169,Tryz.ntmps169
  go_wp2
  refine bodyPost_ret (v:=.tuple #[.int .i64 3, .string ⟨#[124]⟩, .int .i64 2]) (by simp [results,Tryz.results169,go_sem]) rfl ⟨⟨_,_,rfl⟩,rfl⟩
 by_cases h3:o=3
 ·subst h3
  go_enter Tryz.func169,Tryz.ntmps169
  go_wp2
  refine bodyPost_ret (v:=.tuple #[.int .i64 2, .string ⟨#[38]⟩, .int .i64 2]) (by simp [results,Tryz.results169,go_sem]) rfl ⟨⟨_,_,rfl⟩,rfl⟩
 by_cases h4:o=4
 ·subst h4
  go_enter Tryz.func169,Tryz.ntmps169
  go_wp2
  refine bodyPost_ret (v:=.tuple #[.int .i64 2, .string ⟨#[45]⟩, .int .i64 2]) (by simp [results,Tryz.results169,go_sem]) rfl ⟨⟨_,_,rfl⟩,rfl⟩
 by_cases h5:o=5
 ·subst h5
  go_enter Tryz.func169,Tryz.ntmps169
  go_wp2
  refine bodyPost_ret (v:=.tuple #[.int .i64 1, .string ⟨#[59]⟩, .int .i64 2]) (by simp [results,Tryz.results169,go_sem]) rfl ⟨⟨_,_,rfl⟩,rfl⟩
 by_cases h6:o=6
 ·subst h6
  go_enter Tryz.func169,Tryz.ntmps169
  go_wp2
  refine bodyPost_ret (v:=.tuple #[.int .i64 0, .string ⟨#[126]⟩, .int .i64 1]) (by simp [results,Tryz.results169,go_sem]) rfl ⟨⟨_,_,rfl⟩,rfl⟩
 by_cases h7:o=7
 ·subst h7
  go_enter Tryz.func169,Tryz.ntmps169
  go_wp2
  refine bodyPost_ret (v:=.tuple #[.int .i64 0, .string ⟨#[43]⟩, .int .i64 1]) (by simp [results,Tryz.results169,go_sem]) rfl ⟨⟨_,_,rfl⟩,rfl⟩
 have g1:(o==1)=false:=by simp [h1]
 have g2:(o==2)=false:=by simp [h2]
 have g3:(o==3)=false:=by simp [h3]
 have g4:(o==4)=false:=by simp [h4]
 have g5:(o==5)=false:=by simp [h5]
 have g6:(o==6)=false:=by simp [h6]
 have g7:(o==7)=false:=by simp [h7]
 have hk:kidsO o = -1:=by simp [kidsO,h1,h2,h3,h4,h5,h6,h7]
 rw [hk]
 clear hk h1 h2 h3 h4 h5 h6 h7
 go_enter Tryz.func169,Tryz.ntmps169
 go_wp2
 refine bodyPost_ret (v:=.tuple #[.int .i64 0, .string ⟨#[]⟩, .int .i64 (-1)]) (by simp [results,Tryz.results169,go_sem]) rfl ⟨⟨_,_,rfl⟩,rfl⟩
theorem l7Kids_any (o:Int) (w:World):Calls Tryz.prog 187 #[.int .i64 o] w fun e w'=>e = .returned (.int .i64 (kidsO o))∧w=w':=by
 by_cases h1:o=1
 ·subst h1
  go_enter Tryz.func187,Tryz.ntmps187
  go_wp2
  go_ret
  exact ⟨rfl,rfl⟩
 by_cases h2:o=2
 ·subst h2
  go_enter Tryz.func187,Tryz.ntmps187
  go_wp2
  go_ret
  exact ⟨rfl,rfl⟩
 by_cases h3:o=3
 ·subst h3
  go_enter Tryz.func187,Tryz.ntmps187
  go_wp2
  go_ret
  exact ⟨rfl,rfl⟩
 by_cases h4:o=4
 ·subst h4
  go_enter Tryz.func187,Tryz.ntmps187
  go_wp2
  go_ret
  exact ⟨rfl,rfl⟩
 by_cases h5:o=5
 ·subst h5
  go_enter Tryz.func187,Tryz.ntmps187
  go_wp2
  go_ret
  exact ⟨rfl,rfl⟩
 by_cases h6:o=6
 ·subst h6
  go_enter Tryz.func187,Tryz.ntmps187
  go_wp2
  go_ret
  exact ⟨rfl,rfl⟩
 by_cases h7:o=7
 ·subst h7
  go_enter Tryz.func187,Tryz.ntmps187
  go_wp2
  go_ret
  exact ⟨rfl,rfl⟩
 have g1:(o==1)=false:=by simp [h1]
 have g2:(o==2)=false:=by simp [h2]
 have g3:(o==3)=false:=by simp [h3]
 have g4:(o==4)=false:=by simp [h4]
 have g5:(o==5)=false:=by simp [h5]
 have g6:(o==6)=false:=by simp [h6]
 have g7:(o==7)=false:=by simp [h7]
 have hk:kidsO o = -1:=by simp [kidsO,h1,h2,h3,h4,h5,h6,h7]
 rw [hk]
 clear hk h1 h2 h3 h4 h5 h6 h7
 go_enter Tryz.func187,Tryz.ntmps187
 go_wp2
 go_ret
 exact ⟨rfl,rfl⟩
theorem l6Names_any (w:World):Calls Tryz.prog 162 #[] w (RetOwn StrE 9 w nameTab):=by
 go_enter Tryz.func162,Tryz.ntmps162
 go_wp2
 go_ret
 exact ⟨_,rfl,Own.lit (E:=StrE) (Nat.le_refl _) nameTab _ 10 rfl rfl (by decide),(Below.refl _ _).alloc (Nat.le_refl _) _⟩
theorem l6Named_any (x:ByteArray) (w:World) :
 Calls Tryz.prog 188 #[.string x] w fun e w'=>e = .returned (.bool (isName x))∧Below w.heap.size w w':=by
 have HN:=hide (l6Names_any w)
 have IE:Hid (isName x=nameTab.any fun s=>x.toList==s.toList):=hide rfl
 have NL:Hid (nameTab.length=10):=hide rfl
 generalize isName x=R at *
 generalize nameTab=xs at *
 go_enter Tryz.func188,Tryz.ntmps188
 go_wp2_with fail
 (with_reducible refine HN.out.mono ?_);rintro e w1 ⟨v1,rfl,o1,hb1⟩
 obtain ⟨a,c,rfl,hc1, -, -,hx⟩:=o1.rep.open
 rw [NL.out] at hx hc1 ⊢
 have HX:=hide hx;have HB:=hide hb1
 clear o1 hb1 hx
 go_wp2_with fail
 go_loop [4] (fun i => ∃ t:Nat,t≤10∧i = .int .i64 t∧Hid ((xs.take t).any (fun s=>x.toList==s.toList)=false)) (fun i=>10 - (intOf i).toNat)
 case atStart=>exact ⟨0,Nat.zero_le _,rfl,hide (by simp)⟩
 case round =>
  obtain ⟨t,ht,rfl,hno⟩:=hrel
  by_cases hlt:t < 10
  ·obtain ⟨y,hy⟩:=get_of_lt (xs:=xs) (k:=t) (by rw [NL.out];exact hlt)
   obtain ⟨b,o,rfl,hbl,i0⟩:=HX.out.str hy
   have hlt':=nat_of_lt hlt
   have X:=hide hy;clear hy
   by_cases hxy:(y.toList==x.toList)=true
   ·have hyx:(x.toList==y.toList)=true:=by have:=beq_iff_eq.1 hxy;simp [this]
    have h1:xs.any (fun s=>x.toList==s.toList)=true:=List.any_eq_true.2 ⟨y,List.mem_of_getElem? X.out,hyx⟩
    have RT:Hid (R=true):=hide (by rw [IE.out,h1])
    clear h1 hyx
    go_wp2_with fail
    go_ret
    exact ⟨by rw [RT.out];rfl,HB.out⟩
   ·have k1:(y.toList==x.toList)=false:=by simpa using hxy
    have NO:Hid ((xs.take (t+1)).any (fun s=>x.toList==s.toList)=false):=hide (by
     rw [List.take_add_one,X.out,List.any_append,hno.out]
     have h2:¬ x.toList=y.toList:=fun e=>hxy (by simp [e])
     simp [h2])
    clear hxy
    go_wp2_with fail
    go_round
    case rel=>exact ⟨t+1,by omega,by go_num,NO⟩
    case measure=>simp [intOf];omega
  ·have h:=hno.out
   rw [List.take_of_length_le (by rw [NL.out];omega)] at h
   have RF:Hid (R=false):=hide (by rw [IE.out,h])
   clear h
   go_wp2_with fail
   go_ret
   exact ⟨by rw [RF.out];rfl,HB.out⟩
end Go.Proofs.YtfbgppkdnfljhaaGreatDoor
namespace Go.Proofs.YtfbgppkdnfljhaaGreatDoor
open Go.RowKit
def RetSzR (w:World) (d:Nat) (c:Re) (e:Ending) (w':World):Prop:=∃ r:Int,e = .returned (.int .i64 r)∧SzR d c r∧Below w.heap.size w w'
theorem relSize_any:∀ (d:Nat),d≤12→∀ (o:Int) (p:ByteArray) (ks:List Re) (a:Option Addr) (n c:Nat) (w:World),RepRk 0 w ⟨a,n,c⟩ ks→Glob w →
 Calls Tryz.prog 126 #[.agg #[.int .i64 o, .string p, .slice a n c], .int .i64 d] w (RetSzR w d (.mk o p ks)):=by
 intro d
 induction d with
 | zero =>
  intro _ o p ks a n c w h hg
  have HB:=hide ((Below.refl w.heap.size w).alloc (Nat.le_refl _) (.cells #[.int .i64 o, .string p, .slice a n c] 52))
  have HL:=hide (fun w'=>relLevel_any o w')
  go_enter Tryz.func126,Tryz.ntmps126
  go_wp2_with fail
  (with_reducible refine (HL.out _).mono ?_);rintro e w1 ⟨⟨lv,sg,rfl⟩,rfl⟩
  go_wp2_with fail
  refine wp_region_bw (by kernel_rfl) (by kernel_rfl) ?_
  repeat (go_big_quiet_step (fail))
  refine wpQuiet_nil ?_
  intro w5 hb5
  go_wp2_with fail
  go_ret
  exact ⟨41,rfl,SzR.bad0 _,HB.out.trans (hb5.mono HB.out.size)⟩
 | succ d ih =>
  intro hd o p ks a n c w h hg
  have IH:=hide (ih (by omega))
  clear ih
  obtain ⟨e1,hc1,hc2,hc3⟩:=h.open
  simp only at e1 hc1 hc2 hc3
  subst e1
  have HB:=hide ((Below.refl w.heap.size w).alloc (Nat.le_refl _) (.cells #[.int .i64 o, .string p, .slice a ks.length c] 52))
  have HP:=hide (h.below HB.out)
  have HL:=hide (fun w'=>relLevel_any o w')
  have HG:=hide (hg.below HB.out)
  have HNM:=hide (fun (y:BW (w.alloc (.cells #[.int .i64 o, .string p, .slice a ks.length c] 52)))=>isRelName_any p y.val (HG.out.below y.prop))
  have NB2:Hid (nodeO o p ks.length=(((ks.length:Int)==kidsO o)&&(((o==1)==isName p)&&(o==1||(p.toList==[]))))):=hide rfl
  have hD0:(((d+1:Nat):Int)==0)=false:=by simp;omega
  have hD1:((d+1:Nat):Int) - 1=(d:Int):=by omega
  have hD2:1≤((d+1:Nat):Int):=by omega
  have hD3:((d+1:Nat):Int)≤12:=by omega
  generalize ((d+1:Nat):Int)=D at *
  have NB:Hid (nodeO o p ks.length=nodeE (.mk o p ks)):=hide rfl
  have KK:Hid ((Re.mk o p ks).kids=ks):=hide rfl
  generalize hC:Re.mk o p ks=C at *
  clear hC h
  generalize nodeO o p ks.length=b at *
  go_enter Tryz.func126,Tryz.ntmps126
  go_wp2_with fail
  (with_reducible refine (HL.out _).mono ?_);rintro e w1 ⟨⟨lv,sg,rfl⟩,rfl⟩
  go_upto_region 2 with fail
  go_cut [45] (fun s W=>s = .bool (!b)∧Below (w.alloc (.cells #[.int .i64 o, .string p, .slice a ks.length c] 52)).heap.size (w.alloc (.cells #[.int .i64 o, .string p, .slice a ks.length c] 52)) W)
  case first =>
   rcases Bool.eq_false_or_eq_true ((ks.length:Int)==kidsO o) with gA | gA
   ·have gA':((ks.length:Int) != kidsO o)=false:=by simp only [bne,gA];rfl
    rcases Bool.eq_false_or_eq_true (o==1) with gC | gC
    ·have gC':(o != 1)=false:=by simp only [bne,gC];rfl
     rcases Bool.eq_false_or_eq_true (isName p) with gN | gN
     ·have RN:Hid (b=true):=hide (by rw [NB2.out,gA,gC,gN];rfl)
      rw [gN] at HNM
      go_wp2_with fail
      refine wp_region_bw (by kernel_rfl) (by kernel_rfl) ?_
      repeat (go_big_quiet_step ((go_at_call 170;(with_reducible exact Calls.bw_same (HNM.out _)))))
      refine wpQuiet_nil ?_
      intro w5 hb5
      go_wp2_with fail
      go_meet
      exact ⟨by rw [RN.out];rfl,hb5⟩
     ·have RN:Hid (b=false):=hide (by rw [NB2.out,gA,gC,gN];rfl)
      rw [gN] at HNM
      go_wp2_with fail
      refine wp_region_bw (by kernel_rfl) (by kernel_rfl) ?_
      repeat (go_big_quiet_step ((go_at_call 170;(with_reducible exact Calls.bw_same (HNM.out _)))))
      refine wpQuiet_nil ?_
      intro w5 hb5
      go_wp2_with fail
      go_meet
      exact ⟨by rw [RN.out];rfl,hb5⟩
    ·have gC':(o != 1)=true:=by simp only [bne,gC];rfl
     rcases Bool.eq_false_or_eq_true (isName p) with gN | gN
     ·have RN:Hid (b=false):=hide (by rw [NB2.out,gA,gC,gN];rfl)
      rw [gN] at HNM
      go_wp2_with fail
      refine wp_region_bw (by kernel_rfl) (by kernel_rfl) ?_
      repeat (go_big_quiet_step ((go_at_call 170;(with_reducible exact Calls.bw_same (HNM.out _)))))
      refine wpQuiet_nil ?_
      intro w5 hb5
      go_wp2_with fail
      go_meet
      exact ⟨by rw [RN.out];rfl,hb5⟩
     ·rw [gN] at HNM
      rcases Bool.eq_false_or_eq_true (p.toList==[]) with gD | gD
      ·have gD':(p.toList != [])=false:=by simp only [bne,gD];rfl
       have RN:Hid (b=true):=hide (by rw [NB2.out,gA,gC,gN,gD];rfl)
       go_wp2_with fail
       refine wp_region_bw (by kernel_rfl) (by kernel_rfl) ?_
       repeat (go_big_quiet_step ((go_at_call 170;(with_reducible exact Calls.bw_same (HNM.out _)))))
       refine wpQuiet_nil ?_
       intro w5 hb5
       go_wp2_with fail
       go_meet
       exact ⟨by rw [RN.out];rfl,hb5⟩
      ·have gD':(p.toList != [])=true:=by simp only [bne,gD];rfl
       have RN:Hid (b=false):=hide (by rw [NB2.out,gA,gC,gN,gD];rfl)
       go_wp2_with fail
       refine wp_region_bw (by kernel_rfl) (by kernel_rfl) ?_
       repeat (go_big_quiet_step ((go_at_call 170;(with_reducible exact Calls.bw_same (HNM.out _)))))
       refine wpQuiet_nil ?_
       intro w5 hb5
       go_wp2_with fail
       go_meet
       exact ⟨by rw [RN.out];rfl,hb5⟩
   ·have gA':((ks.length:Int) != kidsO o)=true:=by simp only [bne,gA];rfl
    have RN:Hid (b=false):=hide (by rw [NB2.out,gA];rfl)
    go_wp2_with fail
    refine wp_region_bw (by kernel_rfl) (by kernel_rfl) ?_
    repeat (go_big_quiet_step ((go_at_call 170;(with_reducible exact Calls.bw_same (HNM.out _)))))
    refine wpQuiet_nil ?_
    intro w5 hb5
    go_wp2_with fail
    go_meet
    exact ⟨by rw [RN.out];rfl,hb5⟩
  case rest =>
  obtain ⟨rfl,hb1⟩:=hcut
  cases b
  ·go_wp2_with fail
   go_ret
   exact ⟨41,rfl,SzR.bad NB.out.symm,HB.out.trans (hb1.mono HB.out.size)⟩
  ·obtain ⟨hcc,hff⟩:=bcell hb1
   have HB1:=hide (HB.out.trans (hb1.mono HB.out.size))
   have HP1:=hide (HP.out.below hb1)
   have HG1:=hide (HG.out.below hb1)
   clear hb1
   go_wp2_with fail
   clear hcc hff hD0
   go_loopw [8,49] (fun q i wr => ∃ (k:Nat) (r:Int),k≤ks.length∧i = .int .i64 k∧q = .int .i64 r∧Hid (SzRTo d ks k r)∧1≤r∧r≤40∧Below wc.heap.size wc wr) (fun _ i _=>ks.length - (intOf i).toNat)
   case atStart=>exact ⟨0,1,by omega,rfl,rfl,hide (SzRTo.zero _ _),by omega,by omega,Below.refl _ _⟩
   case round =>
    obtain ⟨k,r,hk,rfl,rfl,T,hr1,hr2,hb⟩:=hrel
    by_cases hlt:k < ks.length
    ·obtain ⟨x1,hxk⟩:=get_of_lt (xs:=ks) (k:=k) hlt
     obtain ⟨b1,o1,s,rfl,hbl,i0,i1,i2,i5⟩:=(HP1.out.below hb).kid hxk
     have hlt':=nat_of_lt hlt
     have hba:=(Below.refl wr.heap.size wr).alloc (Nat.le_refl _) (.cells #[.int .i64 x1.op, .string x1.nm, .slice s.a s.n s.cap] 52)
     have HC:=hide (IH.out x1.op x1.nm x1.kids s.a s.n s.cap _ (i5.below hba) ((HG1.out.below hb).below hba))
     have X:=hide hxk;have HBA:=hide hba
     clear hxk i5 hba
     go_wp2_with fail
     (with_reducible refine HC.out.mono ?_);rintro e w2 ⟨r',rfl,hr',hb2⟩
     rw [Re.eta] at hr'
     have h1:=hr'.low
     have h2:=hr'.high
     have HR:=hide hr';clear hr'
     have hb3:=hb.trans ((HBA.out.trans (hb2.mono HBA.out.size)).mono hb.size)
     by_cases hle:r+r'≤40
     ·have T2:=hide (T.out.next X.out HR.out hle)
      have hle':decide (r+r' > 40)=false:=by simp;omega
      go_wp2_with fail
      go_roundw
      case rel =>
       refine ⟨_,_,_,_,_,_,_,_,_,_,_,_,_,_,_, ?_,rfl⟩
       exact ⟨k+1,r+r',by omega,by go_num,rfl,T2,by omega,by omega,hb3⟩
      case measure=>simp [intOf];omega
     ·have hle':decide (r+r' > 40)=true:=by simp;omega
      have T2:=hide (SzRTo.more (c:=C) (by rw [KK.out];exact T.out) (by rw [KK.out];exact X.out) HR.out hle)
      go_wp2_with fail
      go_ret
      exact ⟨r+r',rfl,T2.out,HB1.out.trans (hb3.mono HB1.out.size)⟩
    ·have e:ks.length≤k:=by omega
     have T2:=hide (SzRTo.done (c:=C) (by rw [KK.out];exact T.out) NB.out.symm (by rw [KK.out];exact e))
     go_wp2_with fail
     go_ret
     exact ⟨r,rfl,T2.out,HB1.out.trans (hb.mono HB1.out.size)⟩
theorem RelExprValid_raw (o:Int) (p:ByteArray) (ks:List Re) (a:Option Addr) (n c:Nat) (w:World) (h:RepRk 0 w ⟨a,n,c⟩ ks) (hg:Glob w) :
 Calls Tryz.prog 74 #[.agg #[.int .i64 o, .string p, .slice a n c]] w fun e w'=>e = .returned (.bool (validR (.mk o p ks)))∧Below w.heap.size w w':=by
 have HB:=hide ((Below.refl w.heap.size w).alloc (Nat.le_refl _) (.cells #[.int .i64 o, .string p, .slice a n c] 52))
 have HC:=hide (relSize_any 12 (Nat.le_refl _) o p ks a n c _ (h.below HB.out) (hg.below HB.out))
 have e10:((12:Nat):Int)=12:=rfl
 rw [e10] at HC
 clear e10
 generalize Re.mk o p ks=C at *
 go_enter Tryz.func74,Tryz.ntmps74
 go_wp2_with fail
 (with_reducible refine HC.out.mono ?_);rintro e w2 ⟨r,rfl,hr,hb2⟩
 have E:=hide hr.valid
 clear hr
 go_wp2_with fail
 go_ret
 exact ⟨by rw [← E.out];rfl,HB.out.trans (hb2.mono HB.out.size)⟩
theorem l7Shape_any:∀ (d:Nat),d≤12→∀ (o:Int) (p:ByteArray) (ks:List Re) (a:Option Addr) (n c:Nat) (w:World),RepRk 0 w ⟨a,n,c⟩ ks →
 Calls Tryz.prog 135 #[.agg #[.int .i64 o, .string p, .slice a n c], .int .i64 d] w fun e w'=>e = .returned (.bool (shapeR d (.mk o p ks)))∧Below w.heap.size w w':=by
 intro d
 induction d with
 | zero =>
  intro _ o p ks a n c w h
  have HB:=hide ((Below.refl w.heap.size w).alloc (Nat.le_refl _) (.cells #[.int .i64 o, .string p, .slice a n c] 52))
  go_enter Tryz.func135,Tryz.ntmps135
  go_wp2_with fail
  refine wp_region_bw (by kernel_rfl) (by kernel_rfl) ?_
  repeat (go_big_quiet_step (fail))
  refine wpQuiet_nil ?_
  intro w5 hb5
  go_wp2_with fail
  go_ret
  exact ⟨rfl,HB.out.trans (hb5.mono HB.out.size)⟩
 | succ d ih =>
  intro hd o p ks a n c w h
  have IH:=hide (ih (by omega))
  clear ih
  obtain ⟨e1,hc1,hc2,hc3⟩:=h.open
  simp only at e1 hc1 hc2 hc3
  subst e1
  have HB:=hide ((Below.refl w.heap.size w).alloc (Nat.le_refl _) (.cells #[.int .i64 o, .string p, .slice a ks.length c] 52))
  have HP:=hide (h.below HB.out)
  have HKD:=hide (fun (y:BW (w.alloc (.cells #[.int .i64 o, .string p, .slice a ks.length c] 52)))=>l7Kids_any o y.val)
  have HNM:=hide (fun (y:BW (w.alloc (.cells #[.int .i64 o, .string p, .slice a ks.length c] 52)))=>l6Named_any p y.val)
  have NB2:Hid (nodeO o p ks.length=(((ks.length:Int)==kidsO o)&&(((o==1)==isName p)&&(o==1||(p.toList==[]))))):=hide rfl
  have hd0:decide ((d:Int)+1 < 1)=false:=by simp;omega
  have NB:Hid (nodeO o p ks.length=nodeE (.mk o p ks)):=hide rfl
  have KK:Hid ((Re.mk o p ks).kids=ks):=hide rfl
  generalize hC:Re.mk o p ks=C at *
  clear hC h
  generalize nodeO o p ks.length=b at *
  have SH:=hide (shapeR_succ d C)
  generalize shapeR (d+1) C=R at *
  go_enter Tryz.func135,Tryz.ntmps135
  go_upto_region 1 with fail
  go_cut [35] (fun s W=>s = .bool (!b)∧Below (w.alloc (.cells #[.int .i64 o, .string p, .slice a ks.length c] 52)).heap.size (w.alloc (.cells #[.int .i64 o, .string p, .slice a ks.length c] 52)) W)
  case first =>
   rcases Bool.eq_false_or_eq_true ((ks.length:Int)==kidsO o) with gA | gA
   ·have gA':((ks.length:Int) != kidsO o)=false:=by simp only [bne,gA];rfl
    rcases Bool.eq_false_or_eq_true (o==1) with gC | gC
    ·have gC':(o != 1)=false:=by simp only [bne,gC];rfl
     rcases Bool.eq_false_or_eq_true (isName p) with gN | gN
     ·have RN:Hid (b=true):=hide (by rw [NB2.out,gA,gC,gN];rfl)
      rw [gN] at HNM
      go_wp2_with fail
      refine wp_region_bw (by kernel_rfl) (by kernel_rfl) ?_
      repeat (go_big_quiet_step (first | (go_at_call 187;(with_reducible exact Calls.bw_same (HKD.out _))) | (go_at_call 188;(with_reducible exact Calls.bw (HNM.out _)))))
      refine wpQuiet_nil ?_
      intro w5 hb5
      go_wp2_with fail
      go_meet
      exact ⟨by rw [RN.out];rfl,hb5⟩
     ·have RN:Hid (b=false):=hide (by rw [NB2.out,gA,gC,gN];rfl)
      rw [gN] at HNM
      go_wp2_with fail
      refine wp_region_bw (by kernel_rfl) (by kernel_rfl) ?_
      repeat (go_big_quiet_step (first | (go_at_call 187;(with_reducible exact Calls.bw_same (HKD.out _))) | (go_at_call 188;(with_reducible exact Calls.bw (HNM.out _)))))
      refine wpQuiet_nil ?_
      intro w5 hb5
      go_wp2_with fail
      go_meet
      exact ⟨by rw [RN.out];rfl,hb5⟩
    ·have gC':(o != 1)=true:=by simp only [bne,gC];rfl
     rcases Bool.eq_false_or_eq_true (isName p) with gN | gN
     ·have RN:Hid (b=false):=hide (by rw [NB2.out,gA,gC,gN];rfl)
      rw [gN] at HNM
      go_wp2_with fail
      refine wp_region_bw (by kernel_rfl) (by kernel_rfl) ?_
      repeat (go_big_quiet_step (first | (go_at_call 187;(with_reducible exact Calls.bw_same (HKD.out _))) | (go_at_call 188;(with_reducible exact Calls.bw (HNM.out _)))))
      refine wpQuiet_nil ?_
      intro w5 hb5
      go_wp2_with fail
      go_meet
      exact ⟨by rw [RN.out];rfl,hb5⟩
     ·rw [gN] at HNM
      rcases Bool.eq_false_or_eq_true (p.toList==[]) with gD | gD
      ·have gD':(p.toList != [])=false:=by simp only [bne,gD];rfl
       have RN:Hid (b=true):=hide (by rw [NB2.out,gA,gC,gN,gD];rfl)
       go_wp2_with fail
       refine wp_region_bw (by kernel_rfl) (by kernel_rfl) ?_
       repeat (go_big_quiet_step (first | (go_at_call 187;(with_reducible exact Calls.bw_same (HKD.out _))) | (go_at_call 188;(with_reducible exact Calls.bw (HNM.out _)))))
       refine wpQuiet_nil ?_
       intro w5 hb5
       go_wp2_with fail
       go_meet
       exact ⟨by rw [RN.out];rfl,hb5⟩
      ·have gD':(p.toList != [])=true:=by simp only [bne,gD];rfl
       have RN:Hid (b=false):=hide (by rw [NB2.out,gA,gC,gN,gD];rfl)
       go_wp2_with fail
       refine wp_region_bw (by kernel_rfl) (by kernel_rfl) ?_
       repeat (go_big_quiet_step (first | (go_at_call 187;(with_reducible exact Calls.bw_same (HKD.out _))) | (go_at_call 188;(with_reducible exact Calls.bw (HNM.out _)))))
       refine wpQuiet_nil ?_
       intro w5 hb5
       go_wp2_with fail
       go_meet
       exact ⟨by rw [RN.out];rfl,hb5⟩
   ·have gA':((ks.length:Int) != kidsO o)=true:=by simp only [bne,gA];rfl
    have RN:Hid (b=false):=hide (by rw [NB2.out,gA];rfl)
    go_wp2_with fail
    refine wp_region_bw (by kernel_rfl) (by kernel_rfl) ?_
    repeat (go_big_quiet_step (first | (go_at_call 187;(with_reducible exact Calls.bw_same (HKD.out _))) | (go_at_call 188;(with_reducible exact Calls.bw (HNM.out _)))))
    refine wpQuiet_nil ?_
    intro w5 hb5
    go_wp2_with fail
    go_meet
    exact ⟨by rw [RN.out];rfl,hb5⟩
  case rest =>
  obtain ⟨rfl,hb1⟩:=hcut
  cases b
  ·obtain rfl:R=false:=by rw [Bool.eq_false_iff,ne_eq,SH.out,← NB.out];simp
   go_wp2_with fail
   go_ret
   exact ⟨rfl,HB.out.trans (hb1.mono HB.out.size)⟩
  ·obtain ⟨hcc,hff⟩:=bcell hb1
   have HB1:=hide (HB.out.trans (hb1.mono HB.out.size))
   have HP1:=hide (HP.out.below hb1)
   have k1:wc.cell? ⟨w.heap.size,2,none⟩=some (.slice a ks.length c):=by rw [hcc _ _ (by simp)];simp [go_sem]
   have k2:w.heap.size < wc.heap.size:=by have:=hb1.size;simp at this;omega
   clear hb1
   go_wp2_with fail
   clear hcc hff hd0
   go_loopw [5] (fun i wr => ∃ (k:Nat),k≤ks.length∧i = .int .i64 k∧Hid (∀ y∈ks.take k,shapeR d y=true)∧Below wc.heap.size wc wr) (fun i _=>ks.length - (intOf i).toNat)
   case atStart=>exact ⟨0,by omega,rfl,hide (by simp),Below.refl _ _⟩
   case round =>
    obtain ⟨k,hk,rfl,T,hb⟩:=hrel
    have hsz:=hb.size
    have l1:=(hb.cell (p:=⟨w.heap.size,2,none⟩) k2).trans k1
    have l3:w.heap.size < wr.heap.size:=by omega
    by_cases hlt:k < ks.length
    ·obtain ⟨x1,hxk⟩:=get_of_lt (xs:=ks) (k:=k) hlt
     obtain ⟨b1,o1,s,rfl,hbl,i0,i1,i2,i5⟩:=(HP1.out.below hb).kid hxk
     have hlt':=nat_of_lt hlt
     have HC:=hide (IH.out x1.op x1.nm x1.kids s.a s.n s.cap _ i5)
     have hb1x:shapeR d (Re.mk x1.op x1.nm x1.kids)=shapeR d x1:=by rw [Re.eta]
     rw [hb1x] at HC
     have X:=hide hxk
     clear hxk i5 hb1x
     generalize hy:shapeR d x1=y at *
     have Y:=hide hy;clear hy
     go_wp2_with fail
     (with_reducible refine HC.out.mono ?_);rintro e w2 ⟨rfl,hb2⟩
     have hb3:=hb.trans (hb2.mono hb.size)
     cases y
     ·go_wp2_with fail
      go_ret
      obtain rfl:R=false:=by
       rw [Bool.eq_false_iff,ne_eq,SH.out,KK.out]
       intro h
       have:=h.2 x1 (List.mem_of_getElem? X.out)
       rw [Y.out] at this;simp at this
      exact ⟨rfl,HB1.out.trans (hb3.mono HB1.out.size)⟩
     ·have T2:Hid (∀ y∈ks.take (k+1),shapeR d y=true):=hide (by
       intro y hy
       rw [List.take_add_one,X.out] at hy
       simp at hy
       rcases hy with hy | rfl
       ·exact T.out y hy
       ·exact Y.out)
      go_wp2_with fail
      go_roundw
      case rel =>
       refine ⟨_,_,_,_,_,_,_,_,_,_,_,_,_,_,_,_,_,_, ?_,rfl⟩
       exact ⟨k+1,by omega,by go_num,T2,hb3⟩
      case measure=>simp [intOf];omega
    ·obtain rfl:R=true:=by
      rw [SH.out,KK.out]
      exact ⟨NB.out.symm,by have:=T.out;rwa [List.take_of_length_le (by omega)] at this⟩
     go_wp2_with fail
     go_ret
     exact ⟨rfl,HB1.out.trans (hb.mono HB1.out.size)⟩
def RetCnR (w:World) (c:Re) (m:Int) (e:Ending) (w':World):Prop:=∃ r:Int,e = .returned (.int .i64 r)∧CnR c m r∧Below w.heap.size w w'
def CntR (xs:List Re):Prop:=∀ (o:Int) (p:ByteArray) (a:Option Addr) (n c:Nat) (m:Int) (w:World),RepRk 0 w ⟨a,n,c⟩ xs→descR xs≤1048576→0≤m→m≤40 →
 Calls Tryz.prog 136 #[.agg #[.int .i64 o, .string p, .slice a n c], .int .i64 m] w (RetCnR w (.mk o p xs) m)
theorem cntR_any:∀ xs,CntR xs:=Re.all (by
 intro ks ih o p a n c m w h hl hm0 hm1
 obtain ⟨e1,hc1,hc2,hc3⟩:=h.open
 simp only at e1 hc1 hc2 hc3
 subst e1
 have HB:=hide ((Below.refl w.heap.size w).alloc (Nat.le_refl _) (.cells #[.int .i64 o, .string p, .slice a ks.length c] 52))
 have HP:=hide (h.below HB.out)
 have IH:=hide ih
 have KK:Hid ((Re.mk o p ks).kids=ks):=hide rfl
 generalize hC:Re.mk o p ks=C at *
 clear hC h ih
 go_enter Tryz.func136,Tryz.ntmps136
 go_wp2_with fail
 generalize hW:w.alloc (.cells #[.int .i64 o, .string p, .slice a ks.length c] 52)=W at *
 have k1:W.cell? ⟨w.heap.size,2,none⟩=some (.slice a ks.length c):=by rw [← hW];simp [go_sem]
 have k2:w.heap.size < W.heap.size:=by rw [← hW];simp
 clear hW
 go_loopw [5,6] (fun q i wr => ∃ (k:Nat) (r:Int),k≤ks.length∧i = .int .i64 k∧q = .int .i64 r∧Hid (CnRTo ks m k r)∧1≤r∧r≤1048577∧Below W.heap.size W wr) (fun _ i _=>ks.length - (intOf i).toNat)
 case atStart=>exact ⟨0,1,by omega,rfl,rfl,hide (CnRTo.zero _ _),by omega,by omega,Below.refl _ _⟩
 case round =>
  obtain ⟨k,r,hk,rfl,rfl,T,hr1,hr2,hb⟩:=hrel
  have hsz:=hb.size
  have l1:=(hb.cell (p:=⟨w.heap.size,2,none⟩) k2).trans k1
  have l3:w.heap.size < wr.heap.size:=by omega
  by_cases hlt:k < ks.length
  ·by_cases hle:r≤m
   ·obtain ⟨x1,hxk⟩:=get_of_lt (xs:=ks) (k:=k) hlt
    obtain ⟨b1,o1,s,rfl,hbl,i0,i1,i2,i5⟩:=(HP.out.below hb).kid hxk
    have hlt':=nat_of_lt hlt
    have hdk:=descR_kid hxk
    have HC:=hide (IH.out x1 (List.mem_of_getElem? hxk) x1.op x1.nm s.a s.n s.cap (m - r) _ i5 (by omega) (by omega) (by omega))
    have X:=hide hxk
    clear hxk i5
    go_wp2_with fail
    (with_reducible refine HC.out.mono ?_);rintro e w2 ⟨r',rfl,hr',hb2⟩
    rw [Re.eta] at hr'
    have h1:=hr'.low
    have h2:=hr'.high
    have HR:=hide hr';clear hr'
    have hb3:=hb.trans (hb2.mono hb.size)
    have T2:=hide (T.out.next X.out hle HR.out)
    have h3:r+r'≤1048577:=by have:=T2.out.high;have:=descR_take_le ks (k+1);omega
    clear h2
    go_wp2_with fail
    go_roundw
    case rel=>exact ⟨k+1,r+r',by omega,by go_num,rfl,T2,by omega,h3,hb3⟩
    case measure=>simp [intOf];omega
   ·have hle':decide (r≤m)=false:=by simp;omega
    have hlt':=nat_of_lt hlt
    have T2:=hide (CnRTo.done (c:=C) (by rw [KK.out];exact T.out) (.inr hle))
    go_wp2_with fail
    go_ret
    exact ⟨r,rfl,T2.out,HB.out.trans (hb.mono HB.out.size)⟩
  ·have e:ks.length≤k:=by omega
   have T2:=hide (CnRTo.done (c:=C) (m:=m) (by rw [KK.out];exact T.out) (.inl (by rw [KK.out];exact e)))
   go_wp2_with fail
   go_ret
   exact ⟨r,rfl,T2.out,HB.out.trans (hb.mono HB.out.size)⟩)
theorem RelExprValidS_raw (o:Int) (p:ByteArray) (ks:List Re) (a:Option Addr) (n c:Nat) (w:World) (h:RepRk 0 w ⟨a,n,c⟩ ks) (hl:descR ks≤1048576) :
 Calls Tryz.prog 83 #[.agg #[.int .i64 o, .string p, .slice a n c]] w fun e w'=>e = .returned (.bool (validR (.mk o p ks)))∧Below w.heap.size w w':=by
 have HB:=hide ((Below.refl w.heap.size w).alloc (Nat.le_refl _) (.cells #[.int .i64 o, .string p, .slice a n c] 52))
 have HC:=hide (l7Shape_any 12 (Nat.le_refl _) o p ks a n c _ (h.below HB.out))
 have e10:((12:Nat):Int)=12:=rfl
 rw [e10] at HC
 clear e10
 have HN:=hide (fun w' h'=>cntR_any ks o p a n c 40 w' h' hl (by omega) (by omega))
 have HP:=hide (h.below HB.out)
 have E:Hid (validR (.mk o p ks)=(shapeR 12 (.mk o p ks)&&decide (nodesR (.mk o p ks)≤40))):=hide rfl
 clear h
 generalize Re.mk o p ks=C at *
 generalize validR C=R at *
 generalize shapeR 12 C=b at *
 cases b
 ·obtain rfl:R=false:=by rw [E.out];rfl
  go_enter Tryz.func83,Tryz.ntmps83
  go_wp2_with fail
  (with_reducible refine HC.out.mono ?_);rintro e w2 ⟨rfl,hb2⟩
  go_wp2_with fail
  go_ret
  exact ⟨rfl,HB.out.trans (hb2.mono HB.out.size)⟩
 ·go_enter Tryz.func83,Tryz.ntmps83
  go_wp2_with fail
  (with_reducible refine HC.out.mono ?_);rintro e w2 ⟨rfl,hb2⟩
  obtain ⟨hc2,hf2⟩:=bcell hb2
  go_wp2_with fail
  (with_reducible refine (HN.out _ (HP.out.below hb2)).mono ?_);rintro e w3 ⟨r,rfl,hr,hb3⟩
  have E2:Hid (R=decide (r≤40)):=hide (by rw [E.out,hr.le];rfl)
  clear hr
  go_wp2_with fail
  go_ret
  exact ⟨by rw [E2.out];rfl,HB.out.trans ((hb2.trans (hb3.mono hb2.size)).mono HB.out.size)⟩
end Go.Proofs.YtfbgppkdnfljhaaGreatDoor
namespace Go.Proofs.YtfbgppkdnfljhaaGreatDoor
open Go.RowKit
theorem l6Reg_any (vp ve:Value) (p:List (List Ins)) (es:List Ev) (hes:es=evAll p) (t idx reg:Int) (w:World) (hp:RepP w vp p) (he:Rep EvE w ve es) (hl:es.length≤1048676) :
 Calls Tryz.prog 191 #[vp,ve, .int .i64 t, .int .i64 idx, .int .i64 reg] w fun e w'=>e = .returned (.int .i64 (lastRd p es t idx reg))∧Below w.heap.size w w':=by
 obtain ⟨ea,ec,rfl, -, -, -,he'⟩:=he.open
 obtain ⟨pa,pc,rfl, -, -, -,hp'⟩:=hp.open
 have HP:=hide hp';have HE:=hide he'
 have HER:=hide (fun k e h hr=>ev_read (p:=p) (k:=k) (e:=e) (hes ▸ h) hr)
 have HR:Hid (lastRd p es t idx reg=lastTo p es t idx reg es.length):=hide rfl
 have HS:=hide (fun k e h=>lastTo_succ p (es:=es) t idx reg (k:=k) (e:=e) h)
 have H0:Hid (lastTo p es t idx reg 0 = -1):=hide rfl
 clear hes hp he hp' he'
 generalize lastRd p es t idx reg=R at *
 generalize hn:es.length=n at *
 have H:=hide hn;clear hn
 go_enter Tryz.func191,Tryz.ntmps191
 go_wp2_with fail
 go_loopw [11,12] (fun l i wr => ∃ k:Nat,k≤n∧i = .int .i64 k∧l = .int .i64 (lastTo p es t idx reg k)∧Below w.heap.size w wr) (fun _ i _=>n - (intOf i).toNat)
 case atStart=>exact ⟨0,Nat.zero_le _,rfl,by rw [H0.out],Below.refl _ _⟩
 case round =>
  obtain ⟨k,hk,rfl,rfl,hb⟩:=hrel
  by_cases hlt:k < n
  ·obtain ⟨e,hek⟩:=get_of_lt (xs:=es) (k:=k) (by rw [H.out];exact hlt)
   obtain ⟨b,o,rfl,hbl,i0,i1,i2,i3,i4⟩:=(HE.out.below hb).ev hek
   have hlt':=nat_of_lt hlt
   have S:=hide (HS.out k e hek)
   have ER:=hide (fun hr=>HER.out k e hek hr)
   have HH:Hid (hitR p t idx reg e=((e.t==t)&&(decide (e.i < idx)&&(e.r&&((insE p e).reg==reg))))):=hide rfl
   have HBA:=hide (hb.alloc hb.size (.cells #[.int .i64 e.t, .int .i64 e.i, .int .i64 e.l, .bool e.r, .bool e.w] 130))
   clear hek
   generalize lastTo p es t idx reg k=G at *
   by_cases g1:e.t=t
   ·have k1:(e.t==t)=true:=by simp [g1]
    by_cases g2:e.i < idx
    ·have k2:decide (e.i < idx)=true:=by simp [g2]
     cases her:e.r
     ·have S2:Hid (lastTo p es t idx reg (k+1)=G):=hide (by rw [S.out,HH.out,her];simp)
      rw [her] at i3 HBA
      subst g1
      clear g2 HH ER S her
      go_wp2_with fail
      refine wp_region_bw (by kernel_rfl) (by kernel_rfl) ?_
      repeat (go_big_quiet_step (fail))
      refine wpQuiet_nil ?_
      intro w1 hb1
      go_wp2_with fail
      go_roundw
      case rel=>exact ⟨k+1,by omega,by go_num,by rw [S2.out],HBA.out.trans (hb1.mono HBA.out.size)⟩
      case measure=>simp [intOf];omega
     ·obtain ⟨t',i',r,ht,hi,hpt,hri⟩:=ER.out her
      obtain ⟨b2,o2,ra,rc,rfl,hbl2,q0,q1⟩:=(HP.out.below hb).row hpt
      obtain ⟨b3,o3,rfl,hbl3,r0,r1,r2,r3⟩:=q1.ins hri
      have htn:(t':Int) < (p.length:Int):=by have:=(List.getElem?_eq_some_iff.1 hpt).1;omega
      have hin:(i':Int) < (r.length:Int):=by have:=(List.getElem?_eq_some_iff.1 hri).1;omega
      have HG1:=hide g1;have HT:=hide ht;have HI:=hide hi
      have HRG:Hid ((insE p e).reg=(insE p e).reg):=hide rfl
      rw [her] at i3 HBA HH
      obtain ⟨et,ei,el,er,ew⟩:=e
      simp only at ht hi g1 k1 k2 g2 i0 i1 i2 i3 i4 her
      subst her
      subst ht
      subst hi
      subst g1
      generalize hins:insE p ⟨(t':Int),(i':Int),el,true,ew⟩=ix at *
      clear hins hpt hri q1 ER HG1 HT HI HRG
      by_cases g3:ix.reg=reg
      ·have k3:(ix.reg==reg)=true:=by simp [g3]
       have S2:Hid (lastTo p es (t':Int) idx reg (k+1)=(k:Int)):=hide (by rw [S.out,HH.out,k3,k2];simp)
       clear g3 S HH k1
       go_wp2_with fail
       refine wp_region_bw (by kernel_rfl) (by kernel_rfl) ?_
       repeat (go_big_quiet_step (fail))
       refine wpQuiet_nil ?_
       intro w1 hb1
       go_wp2_with fail
       go_roundw
       case rel=>exact ⟨k+1,by omega,by go_num,by rw [S2.out],HBA.out.trans (hb1.mono HBA.out.size)⟩
       case measure=>simp [intOf];omega
      ·have k3:(ix.reg==reg)=false:=by simp [g3]
       have S2:Hid (lastTo p es (t':Int) idx reg (k+1)=G):=hide (by rw [S.out,HH.out,k3];simp)
       clear g3 S HH k1
       go_wp2_with fail
       refine wp_region_bw (by kernel_rfl) (by kernel_rfl) ?_
       repeat (go_big_quiet_step (fail))
       refine wpQuiet_nil ?_
       intro w1 hb1
       go_wp2_with fail
       go_roundw
       case rel=>exact ⟨k+1,by omega,by go_num,by rw [S2.out],HBA.out.trans (hb1.mono HBA.out.size)⟩
       case measure=>simp [intOf];omega
    ·have k2:decide (e.i < idx)=false:=by simp [g2]
     have S2:Hid (lastTo p es t idx reg (k+1)=G):=hide (by rw [S.out,HH.out,k2];simp)
     subst g1
     clear g2 HH ER S
     go_wp2_with fail
     refine wp_region_bw (by kernel_rfl) (by kernel_rfl) ?_
     repeat (go_big_quiet_step (fail))
     refine wpQuiet_nil ?_
     intro w1 hb1
     go_wp2_with fail
     go_roundw
     case rel=>exact ⟨k+1,by omega,by go_num,by rw [S2.out],HBA.out.trans (hb1.mono HBA.out.size)⟩
     case measure=>simp [intOf];omega
   ·have k1:(e.t==t)=false:=by simp [g1]
    have S2:Hid (lastTo p es t idx reg (k+1)=G):=hide (by rw [S.out,HH.out,k1];simp)
    clear g1
    generalize hitR p t idx reg e=hh at *
    clear HH S ER
    go_wp2_with fail
    refine wp_region_bw (by kernel_rfl) (by kernel_rfl) ?_
    repeat (go_big_quiet_step (fail))
    refine wpQuiet_nil ?_
    intro w1 hb1
    go_wp2_with fail
    go_roundw
    case rel=>exact ⟨k+1,by omega,by go_num,by rw [S2.out],HBA.out.trans (hb1.mono HBA.out.size)⟩
    case measure=>simp [intOf];omega
  ·have e:k=n:=by omega
   subst e
   go_wp2_with fail
   go_ret
   exact ⟨by rw [HR.out];rfl,hb⟩
theorem l6Write_any (vp ve vf vo vk:Value) (p:List (List Ins)) (es:List Ev) (hes:es=evAll p) (x:Xc) (i:Nat) (K:List Int) (w:World) (hp:RepP w vp p) (he:Rep EvE w ve es) (hx:RepX w vf vo x) (hk:Rep IntE w vk K) (hok:fromsOk es x.fr es.length=true) (hi:i < es.length) (hKl:K.length=es.length) (hl:es.length≤1048676) :
 Calls Tryz.prog 141 #[vp,ve, .agg #[vf,vo], .int .i64 i,vk] w fun e w'=>e = .returned (.int .i64 (linkV (depV p es x.fr) K i))∧Below w.heap.size w w':=by
 have HLR:=hide (fun t idx reg w' h h'=>l6Reg_any vp ve p es hes t idx reg w' h h' hl)
 have HP0:=hide hp;have HE0:=hide he
 obtain ⟨e,hek⟩:=get_of_lt (xs:=es) (k:=i) hi
 have hcs:(e.t < 0)∨∃ (t i':Nat) (r:List Ins),e.t=t∧e.i=i'∧p[t]? = some r∧r[i']? = some (insE p e):=by
  rcases ev_cases (p:=p) (k:=i) (e:=e) (by rw [← hes];exact hek) with h | ⟨t,i',r,h1,h2,h3,h4, -⟩
  ·exact .inl (by omega)
  ·exact .inr ⟨t,i',r,h1,h2,h3,h4⟩
 obtain ⟨fa,fc,rfl, -, -, -,hf'⟩:=hx.fr.open
 obtain ⟨oa,oc,rfl, -, -, -, -⟩:=hx.od.open
 obtain ⟨ea,ec,rfl, -, -, -,he'⟩:=he.open
 obtain ⟨pa,pc,rfl, -, -, -,hp'⟩:=hp.open
 obtain ⟨ka,kc,rfl, -, -, -,hk'⟩:=hk.open
 have HF:=hide hf';have HP:=hide hp';have HK:=hide hk';have HOK:=hide hok;have HKL:=hide hKl
 have D0:=hide (fun h=>dep_t0 (p:=p) (fr:=x.fr) hek h)
 have DO:=hide (fun ht h=>dep_op (p:=p) (fr:=x.fr) hek ht h)
 have DR0:=hide (fun ht h h2=>dep_r0 (p:=p) (fr:=x.fr) hek ht h h2)
 have DRR:=hide (fun ht h r j h2 h3=>dep_rr (p:=p) (fr:=x.fr) (r:=r) (j:=j) hek ht h h2 h3)
 have HLK:Hid (linkV (depV p es x.fr) K i=match depV p es x.fr i with | .inl v=>v | .inr j=>(K[j]?).getD (-1)):=hide rfl
 have HBX:=hide ((Below.refl w.heap.size w).alloc (Nat.le_refl _) (.cells #[.slice fa x.fr.length fc, .slice oa x.od.length oc] 60))
 have HX1:=hide (heap_alloc_new w (.cells #[.slice fa x.fr.length fc, .slice oa x.od.length oc] 60))
 have he1:=he'.below HBX.out
 obtain ⟨b,o,rfl,hbl,i0,i1,i2,i3,i4⟩:=he1.ev hek
 have HP1:=hide (HP.out.below HBX.out)
 have HFR1:=hide (HF.out.below HBX.out);have HK1:=hide (HK.out.below HBX.out)
 have HP01:=hide (HP0.out.below HBX.out);have HE01:=hide (HE0.out.below HBX.out)
 have HES:=hide hes
 have hlt':=nat_of_lt hi
 clear hek hes hp he hx hk hok hKl hf' he' hp' hk' he1 HF HP HK HP0 HE0
 generalize linkV (depV p es x.fr) K i=R at *
 generalize hn:es.length=n at *
 generalize x.od.length=on at *
 generalize hfn:x.fr.length=fn at *
 have HN:=hide hn;have HFN:=hide hfn;clear hn hfn
 generalize hpn:p.length=pn at *
 have HPN:=hide hpn;clear hpn
 generalize hkn:K.length=kn at *
 have HKN:=hide hkn;clear hkn
 rcases hcs with ht | ⟨t',i',r,het,hei,hpt,hri⟩
 ·have k1:decide (e.t < 0)=true:=by simp [ht]
  obtain rfl:R=0:=by rw [HLK.out,D0.out ht]
  go_enter Tryz.func141,Tryz.ntmps141
  go_wp2_with fail
  go_ret
  exact ⟨rfl,HBX.out.alloc HBX.out.size _⟩
 ·obtain ⟨et,ei,el,er,ew⟩:=e
  simp only at het hei i0 i1 i2 i3 i4
  subst het
  subst hei
  have ht:¬ ((t':Int) < 0):=by omega
  have k1:decide ((t':Int) < 0)=false:=by simp
  obtain ⟨b2,o2,ra,rc,rfl,hbl2,q0,q1⟩:=HP1.out.row hpt
  obtain ⟨b3,o3,rfl,hbl3,r0,r1,r2,r3⟩:=q1.ins hri
  have htn:(t':Int) < (pn:Int):=by have:=(List.getElem?_eq_some_iff.1 hpt).1;have:=HPN.out;omega
  have hin:(i':Int) < (r.length:Int):=by have:=(List.getElem?_eq_some_iff.1 hri).1;omega
  have DO2:=hide (DO.out ht);have DR2:=hide (DR0.out ht);have DRR2:=hide (DRR.out ht)
  clear DO DR0 DRR
  generalize hins:insE p ⟨(t':Int),(i':Int),el,er,ew⟩=ix at *
  obtain ⟨xo,xl,xr,xv⟩:=ix
  simp only at r0 r1 r2 r3 DO2 DR2 DRR2
  have hlx:=(Array.getElem?_eq_some_iff.1 HX1.out).1
  clear hpt hri q1 hins D0
  generalize r.length=rl at *
  go_enter Tryz.func141,Tryz.ntmps141
  go_wp2_with fail
  have hsz:(w.alloc (.cells #[.slice fa fn fc, .slice oa on oc] 60)).heap.size=w.heap.size+1:=by simp
  generalize hw1:w.alloc (.cells #[.slice fa fn fc, .slice oa on oc] 60)=w1 at *
  clear hw1
  have HSZ:=hide hsz;clear hsz
  have HBA:=hide ((Below.refl w1.heap.size w1).alloc (Nat.le_refl _) (.cells #[.int .i64 (t':Int), .int .i64 (i':Int), .int .i64 el, .bool er, .bool ew] 130))
  have hev:=(heap_alloc_new w1 (.cells #[.int .i64 (t':Int), .int .i64 (i':Int), .int .i64 el, .bool er, .bool ew] 130))
  rw [HSZ.out] at hev
  have HEV:=hide hev;clear hev
  go_cut [12] (fun s7 W => ∃ b7:Nat,s7 = .pointer (some ⟨b7,0,none⟩)∧b7 < W.heap.size∧W.cell? ⟨b7,0,none⟩=some (.int .i64 xo)∧W.cell? ⟨b7,2,none⟩=some (.int .i64 xr)∧W.cell? ⟨b7,3,none⟩=some (.int .i64 xv)∧Below (w1.alloc (.cells #[.int .i64 (t':Int), .int .i64 (i':Int), .int .i64 el, .bool er, .bool ew] 130)).heap.size (w1.alloc (.cells #[.int .i64 (t':Int), .int .i64 (i':Int), .int .i64 el, .bool er, .bool ew] 130)) W)
  case first =>
   have e0:=cell_of_heapV HEV.out (k:=0) rfl
   have e1:=cell_of_heapV HEV.out (k:=1) rfl
   have le:=lt_of_cell e0
   go_region_held3 (fun W=>W.cell? ⟨w.heap.size+1,0,none⟩=some (.int .i64 (t':Int))∧W.cell? ⟨w.heap.size+1,1,none⟩=some (.int .i64 (i':Int))∧W.cell? ⟨b2,o2+t',none⟩=some (.slice (some ⟨b3,o3,none⟩) rl rc) ∧
    W.cell? ⟨b3,o3+i' * 4,none⟩=some (.int .i64 xo)∧W.cell? ⟨b3,o3+i' * 4+1,none⟩=some (.int .i64 xl)∧W.cell? ⟨b3,o3+i' * 4+2,none⟩=some (.int .i64 xr)∧W.cell? ⟨b3,o3+i' * 4+3,none⟩=some (.int .i64 xv)) ((simp [go_sem, *])) (first | fail)
   all_goals
    go_wp2_with fail
    go_meet
    refine ⟨_,rfl,by first | (simp;done) | (simp;omega),by simp [go_sem],by simp [go_sem],by simp [go_sem], ?_⟩
    exact ((Below.refl _ _).alloc (Nat.le_refl _) _).drew
  case rest =>
   obtain ⟨b7,rfl,hb7,m0,m2,m3,hbW⟩:=hcut
   have HBW:=hide (HBA.out.trans (hbW.mono HBA.out.size))
   have HEVc:=hide ((hbW.block (w.heap.size+1) (Array.getElem?_eq_some_iff.1 HEV.out).1).trans HEV.out)
   clear hbW HBA HEV i0 i1 i2 i3 i4 q0 r0 r1 r2 r3
   by_cases hop:xo=3
   ·subst hop
    have e0:=cell_of_heapV HEVc.out (k:=0) rfl
    have e1:=cell_of_heapV HEVc.out (k:=1) rfl
    have le:=lt_of_cell e0
    have HL:=hide (HLR.out (t':Int) (i':Int) xr wc (HP01.out.below HBW.out) (HE01.out.below HBW.out))
    have DR0':=hide (DR2.out rfl);have DRR':=hide (DRR2.out rfl)
    clear DR2 DRR2 DO2 HLR
    go_wp2_with fail
    (with_reducible refine HL.out.mono ?_);rintro e w5 ⟨rfl,hb5⟩
    have HB5:=hide (HBW.out.trans (hb5.mono HBW.out.size))
    clear hb5 e0 e1 le m0 m2 m3 HL HEVc
    rcases lastRd_cases p es (t':Int) (i':Int) xr with hlr | ⟨rr,e2,hlr,he2,hrd⟩
    ·obtain rfl:R=0:=by rw [HLK.out,DR0'.out (by rw [hlr];omega)]
     rw [hlr]
     clear hlr DR0' DRR'
     go_wp2_with fail
     go_ret
     exact ⟨rfl,HBX.out.trans (HB5.out.mono HBX.out.size)⟩
    ·obtain ⟨j,e3,hfj,hej, -, -, -⟩:=from_write (k:=rr) (by rw [HN.out];exact HOK.out) he2 hrd
     have hjn:j < kn:=by have:=(List.getElem?_eq_some_iff.1 hej).1;have:=HN.out;have:=HKL.out;omega
     obtain ⟨u,hu⟩:=get_of_lt (xs:=K) (k:=j) (by rw [HKN.out];exact hjn)
     obtain rfl:R=u:=by rw [HLK.out,DRR'.out rr j hlr hfj];simp [hu]
     rw [hlr]
     obtain ⟨b4,o4,rfl,hb4,j0⟩:=(HFR1.out.below HB5.out).int hfj
     obtain ⟨b5,o5,rfl,hb5,u0⟩:=(HK1.out.below HB5.out).int hu
     have hrn:(rr:Int) < (fn:Int):=by have:=(List.getElem?_eq_some_iff.1 hfj).1;have:=HFN.out;omega
     have hjn':(j:Int) < (kn:Int):=by omega
     have hr0:decide ((rr:Int) < 0)=false:=by simp
     have hxb:=(HB5.out.block w.heap.size hlx).trans HX1.out
     have x0:=cell_of_heapV hxb (k:=0) rfl
     have xl0:=lt_of_cell x0
     clear hlr hfj hu DR0' DRR' he2 hej hxb
     go_wp2_with fail
     go_ret
     exact ⟨rfl,HBX.out.trans (HB5.out.mono HBX.out.size)⟩
   ·have k2:(xo != 3)=true:=by simp [hop]
    obtain rfl:R=xv:=by rw [HLK.out,DO2.out hop]
    clear hop
    go_wp2_with fail
    go_ret
    exact ⟨rfl,HBX.out.trans (HBW.out.mono HBX.out.size)⟩
end Go.Proofs.YtfbgppkdnfljhaaGreatDoor
namespace Go.Proofs.YtfbgppkdnfljhaaGreatDoor
open Go.RowKit
theorem evAll_ge (p:List (List Ins)):3≤(evAll p).length:=by unfold evAll;simp [evHead_length]
theorem rep_snoc (k:Nat) (x:Int):List.replicate k x++[x]=List.replicate (k+1) x:=by
 rw [show k+1=k+1 from rfl,List.replicate_succ']
theorem l6Values_any (v vf vo:Value) (p:List (List Ins)) (x:Xc) (w:World) (hp:RepP w v p) (hx:RepX w vf vo x) (hl:p.flatten.length≤1048576) (hok:execOk p x=true) :
 Calls Tryz.prog 85 #[v, .agg #[vf,vo]] w (RetNB w (valsL p x.fr,valsOk p x.fr)):=by
 have HE:=hide (fun w' h=>l6Events_any v p w' h hl)
 unfold execOk at hok
 simp only [Bool.and_eq_true,decide_eq_true_eq] at hok
 obtain ⟨hpv,hfl,hol,hfo,hoo⟩:=hok
 have HFO:=hide hfo
 have hen:=evAll_le hpv
 have hen3:=evAll_ge p
 have HDV:=hide (fun i v (h:depV p (evAll p) x.fr i = .inl v)=>dep_val hpv h)
 clear hpv hol hoo hfo hfl
 have HP:=hide hp;have HX:=hide hx
 obtain ⟨pa,pc,rfl, -,hpn, -, -⟩:=hp.open
 obtain ⟨fa,fc,rfl, -,hfn, -, -⟩:=hx.fr.open
 obtain ⟨oa,oc,rfl, -,hon, -, -⟩:=hx.od.open
 clear hp hx
 have HRV:Hid ((valsL p x.fr,valsOk p x.fr)=(valTo (evAll p) (cX p x.fr) (evAll p).length,okTo (evAll p) (cX p x.fr) (evAll p).length)):=hide rfl
 generalize (valsL p x.fr,valsOk p x.fr)=R at *
 have HC:Hid (cX p x.fr=chain (depV p (evAll p) x.fr) (evAll p).length):=hide rfl
 generalize cX p x.fr=c at *
 generalize hes:evAll p=es at *
 have HES:=hide hes.symm
 have HOS:=hide (fun k e h=>okTo_succ (es:=es) c (k:=k) (e:=e) h)
 have HON:=hide (fun k e h hw hc=>okTo_no (es:=es) c (k:=k) (e:=e) h hw hc)
 have HVL:=hide (valTo_length es c)
 have HVG:=hide (fun i e h1 h2=>valTo_get (es:=es) c (i:=i) (e:=e) (k:=es.length) h1 (Nat.le_refl _) h2)
 have HB0:=hide ((Below.refl w.heap.size w).alloc (Nat.le_refl _) (.cells #[.slice fa x.fr.length fc, .slice oa x.od.length oc] 60))
 have HBX:=hide (heap_alloc_new w (.cells #[.slice fa x.fr.length fc, .slice oa x.od.length oc] 60))
 have HP0:=hide (HP.out.below HB0.out);have HX0:=hide (HX.out.below HB0.out)
 clear hes
 generalize hfn':x.fr.length=fn at *
 generalize hon':x.od.length=on at *
 generalize hpn':p.length=pn at *
 clear hfn' hon' hpn'
 have HKI0:=hide (KInv.start (depV p es x.fr) es)
 have HKD:=hide (fun (r:Nat) (K:List Int) (h:KInv (depV p es x.fr) es r 0 K) hr=>h.done hr)
 have HW:=hide (fun (vp ve vf vo vk:Value) (i:Nat) (K:List Int) (w':World) h1 h2 h3 h4 h5 h6=>l6Write_any vp ve vf vo vk p es HES.out x i K w' h1 h2 h3 h4 HFO.out h5 h6 (by omega))
 have HLT:=hide (fun i j h1 h2=>dep_lt (p:=p) HFO.out i j h1 h2)
 have HIN:=hide (fun i j h=>dep_inr (p:=p) HFO.out (i:=i) (j:=j) h)
 generalize hn:es.length=n at *
 have HN:=hide hn;clear hn
 generalize depV p es x.fr=d at *
 go_enter Tryz.func85,Tryz.ntmps85
 go_wp2_with fail
 generalize hw1:w.alloc (.cells #[.slice fa fn fc, .slice oa on oc] 60)=w1 at *
 clear hw1
 (with_reducible refine (HE.out _ HP0.out).mono ?_);rintro e w2 ⟨ve,rfl,oe,hb2⟩
 have hre:=oe.rep
 obtain ⟨ea,ec,rfl, -, -, -,hre⟩:=hre.open
 rw [HN.out] at hre ⊢
 have HRE:=hide hre;have HP2:=hide (HP0.out.below hb2);have HX2:=hide (HX0.out.below hb2)
 have HB2:=hide (HB0.out.trans (hb2.mono HB0.out.size))
 have HBX2:=hide ((hb2.block w.heap.size (Array.getElem?_eq_some_iff.1 HBX.out).1).trans HBX.out)
 clear oe hre hb2 HB0 HBX HP0 HX0 HP HX HE
 go_wp2_with fail
 go_loopw [7,8] (fun s i wr => ∃ k:Nat,k≤n∧i = .int .i64 k∧OwnN wr w2.heap.size s (List.replicate k (-1))∧Below w2.heap.size w2 wr) (fun _ i _=>n - (intOf i).toNat)
 case atStart=>exact ⟨0,Nat.zero_le _,rfl,Own.empty (E:=IntE) _ w2 (Nat.le_refl _),(Below.refl _ _).alloc (Nat.le_refl _) _⟩
 case round =>
  obtain ⟨k,hk,rfl,hown,hb⟩:=hrel
  by_cases hlt:k < n
  ·have hlt':=nat_of_lt hlt
   have hlen:(List.replicate k (-1:Int)).length≤68719476736:=by simp;omega
   have HS:=hide (rep_snoc k (-1))
   generalize List.replicate k (-1:Int)=G at *
   go_wp2_with (at_builtin;refine wpList_app IntE 3 Tryz.infoInt rfl Tryz.underlying57 w2.heap.size _ G (-1) (hown.alloc _) (by decide) hlen (by simp;have:=hb.size;omega) rfl _ _ rfl rfl _ 0 1 rfl (news_allocV (by simp)) ?_;intro v' w3 hown3 hgr3)
   have hb3:=below_app hb hown hgr3
   go_roundw
   case rel=>exact ⟨k+1,by omega,by go_num,by rw [← HS.out];exact hown3,hb3⟩
   case measure=>simp [intOf];omega
  ·obtain rfl:k=n:=by omega
   have HO3:=hide hown;clear hown
   rcases HO3.out.shape with ⟨rfl,h0⟩ | ⟨g,cap,rfl,hg1,hg2,hg3,hg4⟩
   ·exfalso;have:=congrArg List.length h0;simp at this;omega
   rw [List.length_replicate] at HO3 hg3 ⊢
   have HB3:=hide hb;clear hb
   go_wp2_with fail
   go_loopw [9] (fun i wr => ∃ r:Nat,r≤k∧i = .int .i64 r∧(∃ K,Hid (KInv d es r 0 K)∧OwnN wr w2.heap.size (.slice (some ⟨g,0,none⟩) k cap) K)∧Below w2.heap.size w2 wr) (fun i _=>k - (intOf i).toNat)
   case atStart=>exact ⟨0,Nat.zero_le _,rfl,⟨_,HKI0,HO3.out⟩,HB3.out⟩
   case round =>
    obtain ⟨r,hr,rfl,⟨K,hki,hown⟩,hb⟩:=hrel
    by_cases hltr:r < k
    ·have hltr':=nat_of_lt hltr
     have HO4:=hide hown;clear hown
     go_wp2_with fail
     go_loopw [10] (fun i wr => ∃ t:Nat,t≤k∧i = .int .i64 t∧(∃ K,Hid (KInv d es r t K)∧OwnN wr w2.heap.size (.slice (some ⟨g,0,none⟩) k cap) K)∧Below w2.heap.size w2 wr) (fun i _=>k - (intOf i).toNat)
     case atStart=>exact ⟨0,Nat.zero_le _,rfl,⟨K,hki,HO4.out⟩,hb⟩
     case round =>
      obtain ⟨t,ht,rfl,⟨K2,hkt,hown⟩,hb4⟩:=hrel
      by_cases hltt:t < k
      ·obtain ⟨e,hek⟩:=get_of_lt (xs:=es) (k:=t) (by rw [HN.out];exact hltt)
       obtain ⟨b,o,rfl,hbl,i0,i1,i2,i3,i4⟩:=(HRE.out.below hb4).ev hek
       have hltt':=nat_of_lt hltt
       have HEK:=hide hek;clear hek
       clear i0 i1 i2 i3
       cases hew:e.w
       ·rw [hew] at i4
        have HK2:=hide (hkt.out.skip HEK.out hew)
        clear hew
        go_wp2_with fail
        go_roundw
        case rel=>exact ⟨t+1,by omega,by go_num,⟨K2,HK2,hown⟩,hb4⟩
        case measure=>simp [intOf];omega
       ·rw [hew] at i4
        have HK2:=hide (hkt.out.step HEK.out hew (by rw [HN.out];exact HLT.out) (fun j h=>HIN.out t j h) HDV.out)
        have hKl:=hkt.out.len
        obtain ⟨u,hu⟩:=get_of_lt (xs:=K2) (k:=t) (by rw [hKl,HN.out];exact hltt)
        obtain ⟨hgl,f0,hfr⟩:=hown.int hu
        have HWC:=hide (HW.out (.slice pa pn pc) (.slice (some ⟨b,o,none⟩) k ec) (.slice fa fn fc) (.slice oa on oc) (.slice (some ⟨g,0,none⟩) k cap) t K2 wr (HP2.out.below hb4) (HRE.out.below hb4) (HX2.out.below hb4) hown.rep hltt (by rw [hKl,HN.out]))
        have hxb:=(hb4.block w.heap.size (Array.getElem?_eq_some_iff.1 HBX2.out).1).trans HBX2.out
        have x0:=cell_of_heapV hxb (k:=0) rfl
        have x1:=cell_of_heapV hxb (k:=1) rfl
        have xl:=lt_of_cell x0
        have HU:=hide hu;have HOW:=hide hown;have HB4:=hide hb4
        clear hew hKl hu hown hxb hkt f0 hfr
        generalize linkV d K2 t=lv at *
        go_wp2_with fail
        (with_reducible refine HWC.out.mono ?_);rintro e w7 ⟨rfl,hb7⟩
        have O7:=hide (HOW.out.below hb7)
        have HB7:=hide (HB4.out.trans (hb7.mono HB4.out.size))
        obtain ⟨hgl7,f7,hfr7⟩:=O7.out.int HU.out
        have OS:=hide (O7.out.setInt HU.out lv)
        clear hb7 x0 x1 xl
        go_wp2_with fail
        go_roundw
        case rel=>exact ⟨t+1,by omega,by go_num,⟨_,HK2,OS.out⟩,HB7.out.setCell hg1 _⟩
        case measure=>simp [intOf];omega
      ·have e:t=k:=by omega
       have HK2:=hide (hkt.out.next (by rw [HN.out];exact e))
       go_wp2_with fail
       go_roundw
       case rel=>exact ⟨r+1,by omega,by go_num,⟨K2,HK2,hown⟩,hb4⟩
       case measure=>simp [intOf];omega
    ·obtain rfl:r=k:=by omega
     have hK:=HKD.out r K hki.out rfl
     rw [← HC.out] at hK
     have HOW:=hide hown;have HB4:=hide hb
     have HKE:=hide hK
     clear hown hb hki hK
     go_wp2_with fail
     go_loop [11] (fun i => ∃ t:Nat,t≤r∧i = .int .i64 t∧Hid (okTo es c t=true)) (fun i=>r - (intOf i).toNat)
     case atStart=>exact ⟨0,Nat.zero_le _,rfl,hide (by simp [okTo])⟩
     case round =>
      obtain ⟨t,ht,rfl,hok⟩:=hrel
      by_cases hltt:t < r
      ·obtain ⟨e,hek⟩:=get_of_lt (xs:=es) (k:=t) (by rw [HN.out];exact hltt)
       obtain ⟨b,o,rfl,hbl,i0,i1,i2,i3,i4⟩:=(HRE.out.below HB4.out).ev hek
       have hltt':=nat_of_lt hltt
       have hkt:=HVG.out t e hltt hek
       rw [← HKE.out] at hkt
       obtain ⟨hgl,f0,hfr⟩:=HOW.out.int hkt
       have OS:=hide (HOS.out t e hek);have ON:=hide (HON.out t e hek)
       have HV1:Hid (val1 c t e=if e.w=true then (c t).getD (-1) else -1):=hide rfl
       clear i0 i1 i2 i3 hek hkt hfr
       cases hew:e.w
       ·rw [hew] at i4
        have OK2:Hid (okTo es c (t+1)=true):=hide (by rw [OS.out,hok.out,hew];rfl)
        clear hew
        go_wp2_with fail
        go_round
        case rel=>exact ⟨t+1,by omega,by go_num,OK2⟩
        case measure=>simp [intOf];omega
       ·rw [hew] at i4
        cases hct:c t with
        | none =>
         rw [HV1.out,if_pos hew,hct] at f0
         have RE:Hid (R=(K,false)):=hide (by rw [HRV.out,ON.out hew hct,HKE.out])
         clear hew hct
         go_wp2_with fail
         go_ret2
         rw [RE.out]
         exact ⟨⟨some ⟨g,0,none⟩,r,cap⟩,rfl,HOW.out.mono HB2.out.size,HB2.out.trans (HB4.out.mono HB2.out.size)⟩
        | some vv =>
         rw [HV1.out,if_pos hew,hct] at f0
         have OK2:Hid (okTo es c (t+1)=true):=hide (by rw [OS.out,hok.out,hct];simp)
         have hvv:0≤vv:=by
          have h:=hct
          rw [HC.out] at h
          exact (chain_val HDV.out h).1
         have k3:decide (vv < 0)=false:=by simp [hvv]
         simp only [Option.getD_some] at f0
         clear hew hct
         go_wp2_with fail
         go_round
         case rel=>exact ⟨t+1,by omega,by go_num,OK2⟩
         case measure=>simp [intOf];omega
      ·have e:t=r:=by omega
       subst e
       have RE:Hid (R=(K,true)):=hide (by rw [HRV.out,hok.out,HKE.out])
       go_wp2_with fail
       go_ret2
       rw [RE.out]
       exact ⟨⟨some ⟨g,0,none⟩,t,cap⟩,rfl,HOW.out.mono HB2.out.size,HB2.out.trans (HB4.out.mono HB2.out.size)⟩
end Go.Proofs.YtfbgppkdnfljhaaGreatDoor
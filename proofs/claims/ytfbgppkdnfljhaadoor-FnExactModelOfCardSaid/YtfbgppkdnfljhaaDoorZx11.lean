/-
  What the listed variable gives: it holds the names. No condition.
-/
import Derived.Test.YtfbgppkdnfljhaaDoorZx08
import Derived.Test.YtfbgppkdnfljhaaDoorZx04
import Derived.Test.YtfbgppkdnfljhaaDoorZx09
import Derived.Test.YtfbgppkdnfljhaaDoorRows
import Derived.ProofKit
import Derived.LaidMore
import Derived.OpenShut
import Derived.Stop.Joined
set_option maxHeartbeats 6400000
set_option maxRecDepth 100000
namespace Go.Proofs.YtfbgppkdnfljhaaDoor
open Go.RowKit
def Glob (w:World):Prop:=∀ (k:Nat) (s:ByteArray),nameTab[k]? = some s→w.cell? ⟨2,k,none⟩=some (.string s)
theorem Glob.below {w w':World} (h:Glob w) (hb:Below w.heap.size w w'):Glob w':=fun k s hs=>(hb.cell (p:=⟨2,k,none⟩) (lt_of_cell (h k s hs))).trans (h k s hs)
theorem Glob.rep {w:World} (h:Glob w):Rep StrE w (.slice (some ⟨2,0,none⟩) 10 10) nameTab:=by
 refine ⟨some ⟨2,0,none⟩,10,rfl,by decide,by decide,fun i x hx=>⟨2,0,rfl,fun j u hu => ?_⟩⟩
 cases j with
 | zero =>
  simp only [StrE,List.getElem?_cons_zero,Option.some.injEq] at hu
  subst hu
  have:=h i x hx
  simpa [StrE] using this
 | succ j=>simp [StrE] at hu
theorem IndexB_any (v:Value) (xs:List ByteArray) (x:ByteArray) (w:World) (hx:Rep StrE w v xs) :
 Calls Tryd.prog 30 #[v, .string x] w fun e w'=>(∃ q:Int,e = .returned (.int .i64 q)∧decide (0≤q)=xs.any (fun s=>x.toList==s.toList))∧w=w':=by
 obtain ⟨a,c,rfl,hc1,hc2,hc3,hx⟩:=hx.open
 have HX:=hide hx;clear hx
 generalize hn:xs.length=n at *
 have H:=hide hn;clear hn
 go_enter Tryd.func30,Tryd.ntmps30
 go_wp2_with fail
 go_loop [8] (fun i => ∃ t:Nat,t≤n∧i = .int .i64 t∧Hid ((xs.take t).any (fun s=>x.toList==s.toList)=false)) (fun i=>n - (intOf i).toNat)
 case atStart=>exact ⟨0,Nat.zero_le _,rfl,hide (by simp)⟩
 case round =>
  obtain ⟨t,ht,rfl,hno⟩:=hrel
  by_cases hlt:t < n
  ·obtain ⟨y,hy⟩:=get_of_lt (xs:=xs) (k:=t) (by rw [H.out];exact hlt)
   obtain ⟨b,o,rfl,hbl,i0⟩:=HX.out.str hy
   have hlt':=nat_of_lt hlt
   have X:=hide hy;clear hy
   by_cases hxy:(x.toList==y.toList)=true
   ·have k1:=hxy
    have XE:=hide hxy
    clear hxy
    go_wp2_with fail
    go_ret
    refine ⟨⟨_,rfl, ?_⟩,rfl⟩
    have h1:xs.any (fun s=>x.toList==s.toList)=true:=List.any_eq_true.2 ⟨y,List.mem_of_getElem? X.out,XE.out⟩
    rw [h1];simp
   ·have k1:(x.toList==y.toList)=false:=by simpa using hxy
    have NO:Hid ((xs.take (t+1)).any (fun s=>x.toList==s.toList)=false):=hide (by
     rw [List.take_add_one,X.out,List.any_append,hno.out]
     simp [k1])
    clear hxy
    go_wp2_with fail
    go_round
    case rel=>exact ⟨t+1,by omega,by go_num,NO⟩
    case measure=>simp [intOf];omega
  ·go_wp2_with fail
   go_ret
   refine ⟨⟨_,rfl, ?_⟩,rfl⟩
   have h:=hno.out
   rw [List.take_of_length_le (by rw [H.out];omega)] at h
   rw [h];rfl
theorem ContainsB_any (v:Value) (xs:List ByteArray) (x:ByteArray) (w:World) (hx:Rep StrE w v xs) :
 Calls Tryd.prog 88 #[v, .string x] w fun e w'=>e = .returned (.bool (xs.any fun s=>x.toList==s.toList))∧w=w':=by
 have HI:=hide (IndexB_any v xs x w hx)
 obtain ⟨a,c,rfl, -⟩:=hx.open
 clear hx
 generalize hb:(xs.any fun s=>x.toList==s.toList)=b at *
 go_enter Tryd.func88,Tryd.ntmps88
 go_wp2_with fail
 (with_reducible refine HI.out.mono ?_);rintro e w1 ⟨⟨q,rfl,hq⟩,rfl⟩
 have HQ:=hide hq
 clear hq hb
 go_wp2_with fail
 go_ret
 exact ⟨by rw [← HQ.out];rfl,rfl⟩
theorem isRelName_any (x:ByteArray) (w:World) (hg:Glob w) :
 Calls Tryd.prog 75 #[.string x] w fun e w'=>e = .returned (.bool (isName x))∧w=w':=by
 have HC:=hide (ContainsB_any _ nameTab x w hg.rep)
 have c0:=hg 0 _ rfl
 have HB:Hid (isName x=nameTab.any fun s=>x.toList==s.toList):=hide rfl
 rw [← HB.out] at HC
 go_enter Tryd.func75,Tryd.ntmps75
 go_wp2_with fail
 (with_reducible refine HC.out.mono ?_);rintro e w1 ⟨rfl,rfl⟩
 go_wp2_with fail
 go_ret
 exact ⟨rfl,rfl⟩
end Go.Proofs.YtfbgppkdnfljhaaDoor
namespace Go.Proofs.YtfbgppkdnfljhaaDoor
open Go.RowKit
theorem relLevel_any (o:Int) (w:World):Calls Tryd.prog 57 #[.int .i64 o] w fun e w'=>(∃ (lv:Int) (sg:ByteArray),e = .returned (.tuple #[.int .i64 lv, .string sg, .int .i64 (kidsO o)]))∧w=w':=by
 by_cases h1:o=1
 ·subst h1
  go_enter Tryd.func57,Tryd.ntmps57
  go_wp2
  refine bodyPost_ret (v:=.tuple #[.int .i64 0, .string ⟨#[]⟩, .int .i64 0]) (by simp [results,Tryd.results57,go_sem]) rfl ⟨⟨_,_,rfl⟩,rfl⟩
 by_cases h2:o=2
 ·subst h2
  go_enter Tryd.func57,Tryd.ntmps57
  go_wp2
  refine bodyPost_ret (v:=.tuple #[.int .i64 3, .string ⟨#[124]⟩, .int .i64 2]) (by simp [results,Tryd.results57,go_sem]) rfl ⟨⟨_,_,rfl⟩,rfl⟩
 by_cases h3:o=3
 ·subst h3
  go_enter Tryd.func57,Tryd.ntmps57
  go_wp2
  refine bodyPost_ret (v:=.tuple #[.int .i64 2, .string ⟨#[38]⟩, .int .i64 2]) (by simp [results,Tryd.results57,go_sem]) rfl ⟨⟨_,_,rfl⟩,rfl⟩
 by_cases h4:o=4
 ·subst h4
  go_enter Tryd.func57,Tryd.ntmps57
  go_wp2
  refine bodyPost_ret (v:=.tuple #[.int .i64 2, .string ⟨#[45]⟩, .int .i64 2]) (by simp [results,Tryd.results57,go_sem]) rfl ⟨⟨_,_,rfl⟩,rfl⟩
 by_cases h5:o=5
 ·subst h5
  go_enter Tryd.func57,Tryd.ntmps57
  go_wp2
  refine bodyPost_ret (v:=.tuple #[.int .i64 1, .string ⟨#[59]⟩, .int .i64 2]) (by simp [results,Tryd.results57,go_sem]) rfl ⟨⟨_,_,rfl⟩,rfl⟩
 by_cases h6:o=6
 ·subst h6
  go_enter Tryd.func57,Tryd.ntmps57
  go_wp2
  refine bodyPost_ret (v:=.tuple #[.int .i64 0, .string ⟨#[126]⟩, .int .i64 1]) (by simp [results,Tryd.results57,go_sem]) rfl ⟨⟨_,_,rfl⟩,rfl⟩
 by_cases h7:o=7
 ·subst h7
  go_enter Tryd.func57,Tryd.ntmps57
  go_wp2
  refine bodyPost_ret (v:=.tuple #[.int .i64 0, .string ⟨#[43]⟩, .int .i64 1]) (by simp [results,Tryd.results57,go_sem]) rfl ⟨⟨_,_,rfl⟩,rfl⟩
 have g1:(o==1)=false:=by simp [h1]
 have g2:(o==2)=false:=by simp [h2]
 have g3:(o==3)=false:=by simp [h3]
 have g4:(o==4)=false:=by simp [h4]
 have g5:(o==5)=false:=by simp [h5]
 have g6:(o==6)=false:=by simp [h6]
 have g7:(o==7)=false:=by simp [h7]
 have hk:kidsO o = -1:=by simp [kidsO,h1,h2,h3,h4,h5,h6,h7]
 rw [hk]
 clear hk h1 h2 h3 h4 h5 h6 h7
 go_enter Tryd.func57,Tryd.ntmps57
 go_wp2
 refine bodyPost_ret (v:=.tuple #[.int .i64 0, .string ⟨#[]⟩, .int .i64 (-1)]) (by simp [results,Tryd.results57,go_sem]) rfl ⟨⟨_,_,rfl⟩,rfl⟩
theorem l7Kids_any (o:Int) (w:World):Calls Tryd.prog 71 #[.int .i64 o] w fun e w'=>e = .returned (.int .i64 (kidsO o))∧w=w':=by
 by_cases h1:o=1
 ·subst h1
  go_enter Tryd.func71,Tryd.ntmps71
  go_wp2
  go_ret
  exact ⟨rfl,rfl⟩
 by_cases h2:o=2
 ·subst h2
  go_enter Tryd.func71,Tryd.ntmps71
  go_wp2
  go_ret
  exact ⟨rfl,rfl⟩
 by_cases h3:o=3
 ·subst h3
  go_enter Tryd.func71,Tryd.ntmps71
  go_wp2
  go_ret
  exact ⟨rfl,rfl⟩
 by_cases h4:o=4
 ·subst h4
  go_enter Tryd.func71,Tryd.ntmps71
  go_wp2
  go_ret
  exact ⟨rfl,rfl⟩
 by_cases h5:o=5
 ·subst h5
  go_enter Tryd.func71,Tryd.ntmps71
  go_wp2
  go_ret
  exact ⟨rfl,rfl⟩
 by_cases h6:o=6
 ·subst h6
  go_enter Tryd.func71,Tryd.ntmps71
  go_wp2
  go_ret
  exact ⟨rfl,rfl⟩
 by_cases h7:o=7
 ·subst h7
  go_enter Tryd.func71,Tryd.ntmps71
  go_wp2
  go_ret
  exact ⟨rfl,rfl⟩
 have g1:(o==1)=false:=by simp [h1]
 have g2:(o==2)=false:=by simp [h2]
 have g3:(o==3)=false:=by simp [h3]
 have g4:(o==4)=false:=by simp [h4]
 have g5:(o==5)=false:=by simp [h5]
 have g6:(o==6)=false:=by simp [h6]
 have g7:(o==7)=false:=by simp [h7]
 have hk:kidsO o = -1:=by simp [kidsO,h1,h2,h3,h4,h5,h6,h7]
 rw [hk]
 clear hk h1 h2 h3 h4 h5 h6 h7
 go_enter Tryd.func71,Tryd.ntmps71
 go_wp2
 go_ret
 exact ⟨rfl,rfl⟩
theorem l6Names_any (w:World):Calls Tryd.prog 92 #[] w (RetOwn StrE 9 w nameTab):=by
 go_enter Tryd.func92,Tryd.ntmps92
 go_wp2
 go_ret
 exact ⟨_,rfl,Own.lit (E:=StrE) (Nat.le_refl _) nameTab _ 10 rfl rfl (by decide),(Below.refl _ _).alloc (Nat.le_refl _) _⟩
theorem l6Named_any (x:ByteArray) (w:World) :
 Calls Tryd.prog 87 #[.string x] w fun e w'=>e = .returned (.bool (isName x))∧Below w.heap.size w w':=by
 have HN:=hide (l6Names_any w)
 have IE:Hid (isName x=nameTab.any fun s=>x.toList==s.toList):=hide rfl
 have NL:Hid (nameTab.length=10):=hide rfl
 generalize isName x=R at *
 generalize nameTab=xs at *
 go_enter Tryd.func87,Tryd.ntmps87
 go_wp2_with fail
 (with_reducible refine HN.out.mono ?_);rintro e w1 ⟨v1,rfl,o1,hb1⟩
 obtain ⟨a,c,rfl,hc1, -, -,hx⟩:=o1.rep.open
 rw [NL.out] at hx hc1 ⊢
 have HX:=hide hx;have HB:=hide hb1
 clear o1 hb1 hx
 go_wp2_with fail
 go_loop [4] (fun i => ∃ t:Nat,t≤10∧i = .int .i64 t∧Hid ((xs.take t).any (fun s=>x.toList==s.toList)=false)) (fun i=>10 - (intOf i).toNat)
 case atStart=>exact ⟨0,Nat.zero_le _,rfl,hide (by simp)⟩
 case round =>
  obtain ⟨t,ht,rfl,hno⟩:=hrel
  by_cases hlt:t < 10
  ·obtain ⟨y,hy⟩:=get_of_lt (xs:=xs) (k:=t) (by rw [NL.out];exact hlt)
   obtain ⟨b,o,rfl,hbl,i0⟩:=HX.out.str hy
   have hlt':=nat_of_lt hlt
   have X:=hide hy;clear hy
   by_cases hxy:(y.toList==x.toList)=true
   ·have hyx:(x.toList==y.toList)=true:=by have:=beq_iff_eq.1 hxy;simp [this]
    have h1:xs.any (fun s=>x.toList==s.toList)=true:=List.any_eq_true.2 ⟨y,List.mem_of_getElem? X.out,hyx⟩
    have RT:Hid (R=true):=hide (by rw [IE.out,h1])
    clear h1 hyx
    go_wp2_with fail
    go_ret
    exact ⟨by rw [RT.out];rfl,HB.out⟩
   ·have k1:(y.toList==x.toList)=false:=by simpa using hxy
    have NO:Hid ((xs.take (t+1)).any (fun s=>x.toList==s.toList)=false):=hide (by
     rw [List.take_add_one,X.out,List.any_append,hno.out]
     have h2:¬ x.toList=y.toList:=fun e=>hxy (by simp [e])
     simp [h2])
    clear hxy
    go_wp2_with fail
    go_round
    case rel=>exact ⟨t+1,by omega,by go_num,NO⟩
    case measure=>simp [intOf];omega
  ·have h:=hno.out
   rw [List.take_of_length_le (by rw [NL.out];omega)] at h
   have RF:Hid (R=false):=hide (by rw [IE.out,h])
   clear h
   go_wp2_with fail
   go_ret
   exact ⟨by rw [RF.out];rfl,HB.out⟩
end Go.Proofs.YtfbgppkdnfljhaaDoor
namespace Go.Proofs.YtfbgppkdnfljhaaDoor
open Go.RowKit
def RetSzR (w:World) (d:Nat) (c:Re) (e:Ending) (w':World):Prop:=∃ r:Int,e = .returned (.int .i64 r)∧SzR d c r∧Below w.heap.size w w'
theorem relSize_any:∀ (d:Nat),d≤12→∀ (o:Int) (p:ByteArray) (ks:List Re) (a:Option Addr) (n c:Nat) (w:World),RepRk 0 w ⟨a,n,c⟩ ks→Glob w →
 Calls Tryd.prog 56 #[.agg #[.int .i64 o, .string p, .slice a n c], .int .i64 d] w (RetSzR w d (.mk o p ks)):=by
 intro d
 induction d with
 | zero =>
  intro _ o p ks a n c w h hg
  have HB:=hide ((Below.refl w.heap.size w).alloc (Nat.le_refl _) (.cells #[.int .i64 o, .string p, .slice a n c] 38))
  have HL:=hide (fun w'=>relLevel_any o w')
  go_enter Tryd.func56,Tryd.ntmps56
  go_wp2_with fail
  (with_reducible refine (HL.out _).mono ?_);rintro e w1 ⟨⟨lv,sg,rfl⟩,rfl⟩
  go_wp2_with fail
  refine wp_region_bw (by kernel_rfl) (by kernel_rfl) ?_
  repeat (go_big_quiet_step (fail))
  refine wpQuiet_nil ?_
  intro w5 hb5
  go_wp2_with fail
  go_ret
  exact ⟨41,rfl,SzR.bad0 _,HB.out.trans (hb5.mono HB.out.size)⟩
 | succ d ih =>
  intro hd o p ks a n c w h hg
  have IH:=hide (ih (by omega))
  clear ih
  obtain ⟨e1,hc1,hc2,hc3⟩:=h.open
  simp only at e1 hc1 hc2 hc3
  subst e1
  have HB:=hide ((Below.refl w.heap.size w).alloc (Nat.le_refl _) (.cells #[.int .i64 o, .string p, .slice a ks.length c] 38))
  have HP:=hide (h.below HB.out)
  have HL:=hide (fun w'=>relLevel_any o w')
  have HG:=hide (hg.below HB.out)
  have HNM:=hide (fun (y:BW (w.alloc (.cells #[.int .i64 o, .string p, .slice a ks.length c] 38)))=>isRelName_any p y.val (HG.out.below y.prop))
  have NB2:Hid (nodeO o p ks.length=(((ks.length:Int)==kidsO o)&&(((o==1)==isName p)&&(o==1||(p.toList==[]))))):=hide rfl
  have hD0:(((d+1:Nat):Int)==0)=false:=by simp;omega
  have hD1:((d+1:Nat):Int) - 1=(d:Int):=by omega
  have hD2:1≤((d+1:Nat):Int):=by omega
  have hD3:((d+1:Nat):Int)≤12:=by omega
  generalize ((d+1:Nat):Int)=D at *
  have NB:Hid (nodeO o p ks.length=nodeE (.mk o p ks)):=hide rfl
  have KK:Hid ((Re.mk o p ks).kids=ks):=hide rfl
  generalize hC:Re.mk o p ks=C at *
  clear hC h
  generalize nodeO o p ks.length=b at *
  go_enter Tryd.func56,Tryd.ntmps56
  go_wp2_with fail
  (with_reducible refine (HL.out _).mono ?_);rintro e w1 ⟨⟨lv,sg,rfl⟩,rfl⟩
  go_upto_region 2 with fail
  go_cut [45] (fun s W=>s = .bool (!b)∧Below (w.alloc (.cells #[.int .i64 o, .string p, .slice a ks.length c] 38)).heap.size (w.alloc (.cells #[.int .i64 o, .string p, .slice a ks.length c] 38)) W)
  case first =>
   rcases Bool.eq_false_or_eq_true ((ks.length:Int)==kidsO o) with gA | gA
   ·have gA':((ks.length:Int) != kidsO o)=false:=by simp only [bne,gA];rfl
    rcases Bool.eq_false_or_eq_true (o==1) with gC | gC
    ·have gC':(o != 1)=false:=by simp only [bne,gC];rfl
     rcases Bool.eq_false_or_eq_true (isName p) with gN | gN
     ·have RN:Hid (b=true):=hide (by rw [NB2.out,gA,gC,gN];rfl)
      rw [gN] at HNM
      go_wp2_with fail
      refine wp_region_bw (by kernel_rfl) (by kernel_rfl) ?_
      repeat (go_big_quiet_step ((go_at_call 75;(with_reducible exact Calls.bw_same (HNM.out _)))))
      refine wpQuiet_nil ?_
      intro w5 hb5
      go_wp2_with fail
      go_meet
      exact ⟨by rw [RN.out];rfl,hb5⟩
     ·have RN:Hid (b=false):=hide (by rw [NB2.out,gA,gC,gN];rfl)
      rw [gN] at HNM
      go_wp2_with fail
      refine wp_region_bw (by kernel_rfl) (by kernel_rfl) ?_
      repeat (go_big_quiet_step ((go_at_call 75;(with_reducible exact Calls.bw_same (HNM.out _)))))
      refine wpQuiet_nil ?_
      intro w5 hb5
      go_wp2_with fail
      go_meet
      exact ⟨by rw [RN.out];rfl,hb5⟩
    ·have gC':(o != 1)=true:=by simp only [bne,gC];rfl
     rcases Bool.eq_false_or_eq_true (isName p) with gN | gN
     ·have RN:Hid (b=false):=hide (by rw [NB2.out,gA,gC,gN];rfl)
      rw [gN] at HNM
      go_wp2_with fail
      refine wp_region_bw (by kernel_rfl) (by kernel_rfl) ?_
      repeat (go_big_quiet_step ((go_at_call 75;(with_reducible exact Calls.bw_same (HNM.out _)))))
      refine wpQuiet_nil ?_
      intro w5 hb5
      go_wp2_with fail
      go_meet
      exact ⟨by rw [RN.out];rfl,hb5⟩
     ·rw [gN] at HNM
      rcases Bool.eq_false_or_eq_true (p.toList==[]) with gD | gD
      ·have gD':(p.toList != [])=false:=by simp only [bne,gD];rfl
       have RN:Hid (b=true):=hide (by rw [NB2.out,gA,gC,gN,gD];rfl)
       go_wp2_with fail
       refine wp_region_bw (by kernel_rfl) (by kernel_rfl) ?_
       repeat (go_big_quiet_step ((go_at_call 75;(with_reducible exact Calls.bw_same (HNM.out _)))))
       refine wpQuiet_nil ?_
       intro w5 hb5
       go_wp2_with fail
       go_meet
       exact ⟨by rw [RN.out];rfl,hb5⟩
      ·have gD':(p.toList != [])=true:=by simp only [bne,gD];rfl
       have RN:Hid (b=false):=hide (by rw [NB2.out,gA,gC,gN,gD];rfl)
       go_wp2_with fail
       refine wp_region_bw (by kernel_rfl) (by kernel_rfl) ?_
       repeat (go_big_quiet_step ((go_at_call 75;(with_reducible exact Calls.bw_same (HNM.out _)))))
       refine wpQuiet_nil ?_
       intro w5 hb5
       go_wp2_with fail
       go_meet
       exact ⟨by rw [RN.out];rfl,hb5⟩
   ·have gA':((ks.length:Int) != kidsO o)=true:=by simp only [bne,gA];rfl
    have RN:Hid (b=false):=hide (by rw [NB2.out,gA];rfl)
    go_wp2_with fail
    refine wp_region_bw (by kernel_rfl) (by kernel_rfl) ?_
    repeat (go_big_quiet_step ((go_at_call 75;(with_reducible exact Calls.bw_same (HNM.out _)))))
    refine wpQuiet_nil ?_
    intro w5 hb5
    go_wp2_with fail
    go_meet
    exact ⟨by rw [RN.out];rfl,hb5⟩
  case rest =>
  obtain ⟨rfl,hb1⟩:=hcut
  cases b
  ·go_wp2_with fail
   go_ret
   exact ⟨41,rfl,SzR.bad NB.out.symm,HB.out.trans (hb1.mono HB.out.size)⟩
  ·obtain ⟨hcc,hff⟩:=bcell hb1
   have HB1:=hide (HB.out.trans (hb1.mono HB.out.size))
   have HP1:=hide (HP.out.below hb1)
   have HG1:=hide (HG.out.below hb1)
   clear hb1
   go_wp2_with fail
   clear hcc hff hD0
   go_loopw [8,49] (fun q i wr => ∃ (k:Nat) (r:Int),k≤ks.length∧i = .int .i64 k∧q = .int .i64 r∧Hid (SzRTo d ks k r)∧1≤r∧r≤40∧Below wc.heap.size wc wr) (fun _ i _=>ks.length - (intOf i).toNat)
   case atStart=>exact ⟨0,1,by omega,rfl,rfl,hide (SzRTo.zero _ _),by omega,by omega,Below.refl _ _⟩
   case round =>
    obtain ⟨k,r,hk,rfl,rfl,T,hr1,hr2,hb⟩:=hrel
    by_cases hlt:k < ks.length
    ·obtain ⟨x1,hxk⟩:=get_of_lt (xs:=ks) (k:=k) hlt
     obtain ⟨b1,o1,s,rfl,hbl,i0,i1,i2,i5⟩:=(HP1.out.below hb).kid hxk
     have hlt':=nat_of_lt hlt
     have hba:=(Below.refl wr.heap.size wr).alloc (Nat.le_refl _) (.cells #[.int .i64 x1.op, .string x1.nm, .slice s.a s.n s.cap] 38)
     have HC:=hide (IH.out x1.op x1.nm x1.kids s.a s.n s.cap _ (i5.below hba) ((HG1.out.below hb).below hba))
     have X:=hide hxk;have HBA:=hide hba
     clear hxk i5 hba
     go_wp2_with fail
     (with_reducible refine HC.out.mono ?_);rintro e w2 ⟨r',rfl,hr',hb2⟩
     rw [Re.eta] at hr'
     have h1:=hr'.low
     have h2:=hr'.high
     have HR:=hide hr';clear hr'
     have hb3:=hb.trans ((HBA.out.trans (hb2.mono HBA.out.size)).mono hb.size)
     by_cases hle:r+r'≤40
     ·have T2:=hide (T.out.next X.out HR.out hle)
      have hle':decide (r+r' > 40)=false:=by simp;omega
      go_wp2_with fail
      go_roundw
      case rel =>
       refine ⟨_,_,_,_,_,_,_,_,_,_,_,_,_,_,_, ?_,rfl⟩
       exact ⟨k+1,r+r',by omega,by go_num,rfl,T2,by omega,by omega,hb3⟩
      case measure=>simp [intOf];omega
     ·have hle':decide (r+r' > 40)=true:=by simp;omega
      have T2:=hide (SzRTo.more (c:=C) (by rw [KK.out];exact T.out) (by rw [KK.out];exact X.out) HR.out hle)
      go_wp2_with fail
      go_ret
      exact ⟨r+r',rfl,T2.out,HB1.out.trans (hb3.mono HB1.out.size)⟩
    ·have e:ks.length≤k:=by omega
     have T2:=hide (SzRTo.done (c:=C) (by rw [KK.out];exact T.out) NB.out.symm (by rw [KK.out];exact e))
     go_wp2_with fail
     go_ret
     exact ⟨r,rfl,T2.out,HB1.out.trans (hb.mono HB1.out.size)⟩
theorem RelExprValid_raw (o:Int) (p:ByteArray) (ks:List Re) (a:Option Addr) (n c:Nat) (w:World) (h:RepRk 0 w ⟨a,n,c⟩ ks) (hg:Glob w) :
 Calls Tryd.prog 41 #[.agg #[.int .i64 o, .string p, .slice a n c]] w fun e w'=>e = .returned (.bool (validR (.mk o p ks)))∧Below w.heap.size w w':=by
 have HB:=hide ((Below.refl w.heap.size w).alloc (Nat.le_refl _) (.cells #[.int .i64 o, .string p, .slice a n c] 38))
 have HC:=hide (relSize_any 12 (Nat.le_refl _) o p ks a n c _ (h.below HB.out) (hg.below HB.out))
 have e10:((12:Nat):Int)=12:=rfl
 rw [e10] at HC
 clear e10
 generalize Re.mk o p ks=C at *
 go_enter Tryd.func41,Tryd.ntmps41
 go_wp2_with fail
 (with_reducible refine HC.out.mono ?_);rintro e w2 ⟨r,rfl,hr,hb2⟩
 have E:=hide hr.valid
 clear hr
 go_wp2_with fail
 go_ret
 exact ⟨by rw [← E.out];rfl,HB.out.trans (hb2.mono HB.out.size)⟩
theorem l7Shape_any:∀ (d:Nat),d≤12→∀ (o:Int) (p:ByteArray) (ks:List Re) (a:Option Addr) (n c:Nat) (w:World),RepRk 0 w ⟨a,n,c⟩ ks →
 Calls Tryd.prog 69 #[.agg #[.int .i64 o, .string p, .slice a n c], .int .i64 d] w fun e w'=>e = .returned (.bool (shapeR d (.mk o p ks)))∧Below w.heap.size w w':=by
 intro d
 induction d with
 | zero =>
  intro _ o p ks a n c w h
  have HB:=hide ((Below.refl w.heap.size w).alloc (Nat.le_refl _) (.cells #[.int .i64 o, .string p, .slice a n c] 38))
  go_enter Tryd.func69,Tryd.ntmps69
  go_wp2_with fail
  refine wp_region_bw (by kernel_rfl) (by kernel_rfl) ?_
  repeat (go_big_quiet_step (fail))
  refine wpQuiet_nil ?_
  intro w5 hb5
  go_wp2_with fail
  go_ret
  exact ⟨rfl,HB.out.trans (hb5.mono HB.out.size)⟩
 | succ d ih =>
  intro hd o p ks a n c w h
  have IH:=hide (ih (by omega))
  clear ih
  obtain ⟨e1,hc1,hc2,hc3⟩:=h.open
  simp only at e1 hc1 hc2 hc3
  subst e1
  have HB:=hide ((Below.refl w.heap.size w).alloc (Nat.le_refl _) (.cells #[.int .i64 o, .string p, .slice a ks.length c] 38))
  have HP:=hide (h.below HB.out)
  have HKD:=hide (fun (y:BW (w.alloc (.cells #[.int .i64 o, .string p, .slice a ks.length c] 38)))=>l7Kids_any o y.val)
  have HNM:=hide (fun (y:BW (w.alloc (.cells #[.int .i64 o, .string p, .slice a ks.length c] 38)))=>l6Named_any p y.val)
  have NB2:Hid (nodeO o p ks.length=(((ks.length:Int)==kidsO o)&&(((o==1)==isName p)&&(o==1||(p.toList==[]))))):=hide rfl
  have hd0:decide ((d:Int)+1 < 1)=false:=by simp;omega
  have NB:Hid (nodeO o p ks.length=nodeE (.mk o p ks)):=hide rfl
  have KK:Hid ((Re.mk o p ks).kids=ks):=hide rfl
  generalize hC:Re.mk o p ks=C at *
  clear hC h
  generalize nodeO o p ks.length=b at *
  have SH:=hide (shapeR_succ d C)
  generalize shapeR (d+1) C=R at *
  go_enter Tryd.func69,Tryd.ntmps69
  go_upto_region 1 with fail
  go_cut [35] (fun s W=>s = .bool (!b)∧Below (w.alloc (.cells #[.int .i64 o, .string p, .slice a ks.length c] 38)).heap.size (w.alloc (.cells #[.int .i64 o, .string p, .slice a ks.length c] 38)) W)
  case first =>
   rcases Bool.eq_false_or_eq_true ((ks.length:Int)==kidsO o) with gA | gA
   ·have gA':((ks.length:Int) != kidsO o)=false:=by simp only [bne,gA];rfl
    rcases Bool.eq_false_or_eq_true (o==1) with gC | gC
    ·have gC':(o != 1)=false:=by simp only [bne,gC];rfl
     rcases Bool.eq_false_or_eq_true (isName p) with gN | gN
     ·have RN:Hid (b=true):=hide (by rw [NB2.out,gA,gC,gN];rfl)
      rw [gN] at HNM
      go_wp2_with fail
      refine wp_region_bw (by kernel_rfl) (by kernel_rfl) ?_
      repeat (go_big_quiet_step (first | (go_at_call 71;(with_reducible exact Calls.bw_same (HKD.out _))) | (go_at_call 87;(with_reducible exact Calls.bw (HNM.out _)))))
      refine wpQuiet_nil ?_
      intro w5 hb5
      go_wp2_with fail
      go_meet
      exact ⟨by rw [RN.out];rfl,hb5⟩
     ·have RN:Hid (b=false):=hide (by rw [NB2.out,gA,gC,gN];rfl)
      rw [gN] at HNM
      go_wp2_with fail
      refine wp_region_bw (by kernel_rfl) (by kernel_rfl) ?_
      repeat (go_big_quiet_step (first | (go_at_call 71;(with_reducible exact Calls.bw_same (HKD.out _))) | (go_at_call 87;(with_reducible exact Calls.bw (HNM.out _)))))
      refine wpQuiet_nil ?_
      intro w5 hb5
      go_wp2_with fail
      go_meet
      exact ⟨by rw [RN.out];rfl,hb5⟩
    ·have gC':(o != 1)=true:=by simp only [bne,gC];rfl
     rcases Bool.eq_false_or_eq_true (isName p) with gN | gN
     ·have RN:Hid (b=false):=hide (by rw [NB2.out,gA,gC,gN];rfl)
      rw [gN] at HNM
      go_wp2_with fail
      refine wp_region_bw (by kernel_rfl) (by kernel_rfl) ?_
      repeat (go_big_quiet_step (first | (go_at_call 71;(with_reducible exact Calls.bw_same (HKD.out _))) | (go_at_call 87;(with_reducible exact Calls.bw (HNM.out _)))))
      refine wpQuiet_nil ?_
      intro w5 hb5
      go_wp2_with fail
      go_meet
      exact ⟨by rw [RN.out];rfl,hb5⟩
     ·rw [gN] at HNM
      rcases Bool.eq_false_or_eq_true (p.toList==[]) with gD | gD
      ·have gD':(p.toList != [])=false:=by simp only [bne,gD];rfl
       have RN:Hid (b=true):=hide (by rw [NB2.out,gA,gC,gN,gD];rfl)
       go_wp2_with fail
       refine wp_region_bw (by kernel_rfl) (by kernel_rfl) ?_
       repeat (go_big_quiet_step (first | (go_at_call 71;(with_reducible exact Calls.bw_same (HKD.out _))) | (go_at_call 87;(with_reducible exact Calls.bw (HNM.out _)))))
       refine wpQuiet_nil ?_
       intro w5 hb5
       go_wp2_with fail
       go_meet
       exact ⟨by rw [RN.out];rfl,hb5⟩
      ·have gD':(p.toList != [])=true:=by simp only [bne,gD];rfl
       have RN:Hid (b=false):=hide (by rw [NB2.out,gA,gC,gN,gD];rfl)
       go_wp2_with fail
       refine wp_region_bw (by kernel_rfl) (by kernel_rfl) ?_
       repeat (go_big_quiet_step (first | (go_at_call 71;(with_reducible exact Calls.bw_same (HKD.out _))) | (go_at_call 87;(with_reducible exact Calls.bw (HNM.out _)))))
       refine wpQuiet_nil ?_
       intro w5 hb5
       go_wp2_with fail
       go_meet
       exact ⟨by rw [RN.out];rfl,hb5⟩
   ·have gA':((ks.length:Int) != kidsO o)=true:=by simp only [bne,gA];rfl
    have RN:Hid (b=false):=hide (by rw [NB2.out,gA];rfl)
    go_wp2_with fail
    refine wp_region_bw (by kernel_rfl) (by kernel_rfl) ?_
    repeat (go_big_quiet_step (first | (go_at_call 71;(with_reducible exact Calls.bw_same (HKD.out _))) | (go_at_call 87;(with_reducible exact Calls.bw (HNM.out _)))))
    refine wpQuiet_nil ?_
    intro w5 hb5
    go_wp2_with fail
    go_meet
    exact ⟨by rw [RN.out];rfl,hb5⟩
  case rest =>
  obtain ⟨rfl,hb1⟩:=hcut
  cases b
  ·obtain rfl:R=false:=by rw [Bool.eq_false_iff,ne_eq,SH.out,← NB.out];simp
   go_wp2_with fail
   go_ret
   exact ⟨rfl,HB.out.trans (hb1.mono HB.out.size)⟩
  ·obtain ⟨hcc,hff⟩:=bcell hb1
   have HB1:=hide (HB.out.trans (hb1.mono HB.out.size))
   have HP1:=hide (HP.out.below hb1)
   have k1:wc.cell? ⟨w.heap.size,2,none⟩=some (.slice a ks.length c):=by rw [hcc _ _ (by simp)];simp [go_sem]
   have k2:w.heap.size < wc.heap.size:=by have:=hb1.size;simp at this;omega
   clear hb1
   go_wp2_with fail
   clear hcc hff hd0
   go_loopw [5] (fun i wr => ∃ (k:Nat),k≤ks.length∧i = .int .i64 k∧Hid (∀ y∈ks.take k,shapeR d y=true)∧Below wc.heap.size wc wr) (fun i _=>ks.length - (intOf i).toNat)
   case atStart=>exact ⟨0,by omega,rfl,hide (by simp),Below.refl _ _⟩
   case round =>
    obtain ⟨k,hk,rfl,T,hb⟩:=hrel
    have hsz:=hb.size
    have l1:=(hb.cell (p:=⟨w.heap.size,2,none⟩) k2).trans k1
    have l3:w.heap.size < wr.heap.size:=by omega
    by_cases hlt:k < ks.length
    ·obtain ⟨x1,hxk⟩:=get_of_lt (xs:=ks) (k:=k) hlt
     obtain ⟨b1,o1,s,rfl,hbl,i0,i1,i2,i5⟩:=(HP1.out.below hb).kid hxk
     have hlt':=nat_of_lt hlt
     have HC:=hide (IH.out x1.op x1.nm x1.kids s.a s.n s.cap _ i5)
     have hb1x:shapeR d (Re.mk x1.op x1.nm x1.kids)=shapeR d x1:=by rw [Re.eta]
     rw [hb1x] at HC
     have X:=hide hxk
     clear hxk i5 hb1x
     generalize hy:shapeR d x1=y at *
     have Y:=hide hy;clear hy
     go_wp2_with fail
     (with_reducible refine HC.out.mono ?_);rintro e w2 ⟨rfl,hb2⟩
     have hb3:=hb.trans (hb2.mono hb.size)
     cases y
     ·go_wp2_with fail
      go_ret
      obtain rfl:R=false:=by
       rw [Bool.eq_false_iff,ne_eq,SH.out,KK.out]
       intro h
       have:=h.2 x1 (List.mem_of_getElem? X.out)
       rw [Y.out] at this;simp at this
      exact ⟨rfl,HB1.out.trans (hb3.mono HB1.out.size)⟩
     ·have T2:Hid (∀ y∈ks.take (k+1),shapeR d y=true):=hide (by
       intro y hy
       rw [List.take_add_one,X.out] at hy
       simp at hy
       rcases hy with hy | rfl
       ·exact T.out y hy
       ·exact Y.out)
      go_wp2_with fail
      go_roundw
      case rel =>
       refine ⟨_,_,_,_,_,_,_,_,_,_,_,_,_,_,_,_,_,_, ?_,rfl⟩
       exact ⟨k+1,by omega,by go_num,T2,hb3⟩
      case measure=>simp [intOf];omega
    ·obtain rfl:R=true:=by
      rw [SH.out,KK.out]
      exact ⟨NB.out.symm,by have:=T.out;rwa [List.take_of_length_le (by omega)] at this⟩
     go_wp2_with fail
     go_ret
     exact ⟨rfl,HB1.out.trans (hb.mono HB1.out.size)⟩
def RetCnR (w:World) (c:Re) (m:Int) (e:Ending) (w':World):Prop:=∃ r:Int,e = .returned (.int .i64 r)∧CnR c m r∧Below w.heap.size w w'
def CntR (xs:List Re):Prop:=∀ (o:Int) (p:ByteArray) (a:Option Addr) (n c:Nat) (m:Int) (w:World),RepRk 0 w ⟨a,n,c⟩ xs→descR xs≤1048576→0≤m→m≤40 →
 Calls Tryd.prog 70 #[.agg #[.int .i64 o, .string p, .slice a n c], .int .i64 m] w (RetCnR w (.mk o p xs) m)
theorem cntR_any:∀ xs,CntR xs:=Re.all (by
 intro ks ih o p a n c m w h hl hm0 hm1
 obtain ⟨e1,hc1,hc2,hc3⟩:=h.open
 simp only at e1 hc1 hc2 hc3
 subst e1
 have HB:=hide ((Below.refl w.heap.size w).alloc (Nat.le_refl _) (.cells #[.int .i64 o, .string p, .slice a ks.length c] 38))
 have HP:=hide (h.below HB.out)
 have IH:=hide ih
 have KK:Hid ((Re.mk o p ks).kids=ks):=hide rfl
 generalize hC:Re.mk o p ks=C at *
 clear hC h ih
 go_enter Tryd.func70,Tryd.ntmps70
 go_wp2_with fail
 generalize hW:w.alloc (.cells #[.int .i64 o, .string p, .slice a ks.length c] 38)=W at *
 have k1:W.cell? ⟨w.heap.size,2,none⟩=some (.slice a ks.length c):=by rw [← hW];simp [go_sem]
 have k2:w.heap.size < W.heap.size:=by rw [← hW];simp
 clear hW
 go_loopw [5,6] (fun q i wr => ∃ (k:Nat) (r:Int),k≤ks.length∧i = .int .i64 k∧q = .int .i64 r∧Hid (CnRTo ks m k r)∧1≤r∧r≤1048577∧Below W.heap.size W wr) (fun _ i _=>ks.length - (intOf i).toNat)
 case atStart=>exact ⟨0,1,by omega,rfl,rfl,hide (CnRTo.zero _ _),by omega,by omega,Below.refl _ _⟩
 case round =>
  obtain ⟨k,r,hk,rfl,rfl,T,hr1,hr2,hb⟩:=hrel
  have hsz:=hb.size
  have l1:=(hb.cell (p:=⟨w.heap.size,2,none⟩) k2).trans k1
  have l3:w.heap.size < wr.heap.size:=by omega
  by_cases hlt:k < ks.length
  ·by_cases hle:r≤m
   ·obtain ⟨x1,hxk⟩:=get_of_lt (xs:=ks) (k:=k) hlt
    obtain ⟨b1,o1,s,rfl,hbl,i0,i1,i2,i5⟩:=(HP.out.below hb).kid hxk
    have hlt':=nat_of_lt hlt
    have hdk:=descR_kid hxk
    have HC:=hide (IH.out x1 (List.mem_of_getElem? hxk) x1.op x1.nm s.a s.n s.cap (m - r) _ i5 (by omega) (by omega) (by omega))
    have X:=hide hxk
    clear hxk i5
    go_wp2_with fail
    (with_reducible refine HC.out.mono ?_);rintro e w2 ⟨r',rfl,hr',hb2⟩
    rw [Re.eta] at hr'
    have h1:=hr'.low
    have h2:=hr'.high
    have HR:=hide hr';clear hr'
    have hb3:=hb.trans (hb2.mono hb.size)
    have T2:=hide (T.out.next X.out hle HR.out)
    have h3:r+r'≤1048577:=by have:=T2.out.high;have:=descR_take_le ks (k+1);omega
    clear h2
    go_wp2_with fail
    go_roundw
    case rel=>exact ⟨k+1,r+r',by omega,by go_num,rfl,T2,by omega,h3,hb3⟩
    case measure=>simp [intOf];omega
   ·have hle':decide (r≤m)=false:=by simp;omega
    have hlt':=nat_of_lt hlt
    have T2:=hide (CnRTo.done (c:=C) (by rw [KK.out];exact T.out) (.inr hle))
    go_wp2_with fail
    go_ret
    exact ⟨r,rfl,T2.out,HB.out.trans (hb.mono HB.out.size)⟩
  ·have e:ks.length≤k:=by omega
   have T2:=hide (CnRTo.done (c:=C) (m:=m) (by rw [KK.out];exact T.out) (.inl (by rw [KK.out];exact e)))
   go_wp2_with fail
   go_ret
   exact ⟨r,rfl,T2.out,HB.out.trans (hb.mono HB.out.size)⟩)
theorem RelExprValidS_raw (o:Int) (p:ByteArray) (ks:List Re) (a:Option Addr) (n c:Nat) (w:World) (h:RepRk 0 w ⟨a,n,c⟩ ks) (hl:descR ks≤1048576) :
 Calls Tryd.prog 53 #[.agg #[.int .i64 o, .string p, .slice a n c]] w fun e w'=>e = .returned (.bool (validR (.mk o p ks)))∧Below w.heap.size w w':=by
 have HB:=hide ((Below.refl w.heap.size w).alloc (Nat.le_refl _) (.cells #[.int .i64 o, .string p, .slice a n c] 38))
 have HC:=hide (l7Shape_any 12 (Nat.le_refl _) o p ks a n c _ (h.below HB.out))
 have e10:((12:Nat):Int)=12:=rfl
 rw [e10] at HC
 clear e10
 have HN:=hide (fun w' h'=>cntR_any ks o p a n c 40 w' h' hl (by omega) (by omega))
 have HP:=hide (h.below HB.out)
 have E:Hid (validR (.mk o p ks)=(shapeR 12 (.mk o p ks)&&decide (nodesR (.mk o p ks)≤40))):=hide rfl
 clear h
 generalize Re.mk o p ks=C at *
 generalize validR C=R at *
 generalize shapeR 12 C=b at *
 cases b
 ·obtain rfl:R=false:=by rw [E.out];rfl
  go_enter Tryd.func53,Tryd.ntmps53
  go_wp2_with fail
  (with_reducible refine HC.out.mono ?_);rintro e w2 ⟨rfl,hb2⟩
  go_wp2_with fail
  go_ret
  exact ⟨rfl,HB.out.trans (hb2.mono HB.out.size)⟩
 ·go_enter Tryd.func53,Tryd.ntmps53
  go_wp2_with fail
  (with_reducible refine HC.out.mono ?_);rintro e w2 ⟨rfl,hb2⟩
  obtain ⟨hc2,hf2⟩:=bcell hb2
  go_wp2_with fail
  (with_reducible refine (HN.out _ (HP.out.below hb2)).mono ?_);rintro e w3 ⟨r,rfl,hr,hb3⟩
  have E2:Hid (R=decide (r≤40)):=hide (by rw [E.out,hr.le];rfl)
  clear hr
  go_wp2_with fail
  go_ret
  exact ⟨by rw [E2.out];rfl,HB.out.trans ((hb2.trans (hb3.mono hb2.size)).mono HB.out.size)⟩
end Go.Proofs.YtfbgppkdnfljhaaDoor
namespace Go.Proofs.YtfbgppkdnfljhaaDoor
open Go.ChangeShapes Go.WideShapes Go.ChangeAt Go.WideMaps Go.WideElems Go.RowKit
abbrev laidL : List (String × DataW Unit) := [("loop.example/weakmemory/impl.relNames", Rows.laid_loop_example_weakmemory_impl_relNames)]
theorem gNames : Tryd.prog.globalNamed "loop.example/weakmemory/impl.relNames" = some 2 := by kernel_rfl
theorem tNames:(Tryd.prog.globals[2]?).map (·.type)=some 108:=by kernel_rfl
theorem glob_of_laid {W:World} (h:laidMetH Tryd.prog laidL W):Glob W:=by
 rw [MakeChecks.laidMetH_plain _ _ _ (by kernel_rfl)] at h
 obtain ⟨ps,⟨g0,t0,cs0,f0,p0,q0,hg0,ht0,hv0,hd0,_⟩,_,_⟩:=h
 obtain rfl:=Option.some.inj (gNames.symm.trans hg0)
 obtain rfl:=Option.some.inj (tNames.symm.trans ht0)
 obtain ⟨xs,m1, -,hx1,hlen,hn3,hel⟩:=DataW.trod_array Tryd.underlying108 hd0
 have c3:Tryd.prog.cellsOf 9=1:=by kernel_rfl
 intro k s hs
 have hk:k < 10:=(List.getElem?_eq_some_iff.1 hs).1
 have h0:=hel k hk
 obtain ⟨y,hy⟩:=get_of_lt (xs:=xs) (k:=k) (by rw [hn3];exact hk)
 rw [hy,c3,Nat.mul_one] at h0
 obtain ⟨s',e1,e2, -⟩:=DataW.trod_string Tryd.underlying9 h0
 simp only [Prod.mk.injEq] at hx1
 have hx2:xs.map (·.1)=nameTab.map fun s=>(DataW.lit (.string s.data.toList):DataW Unit):=by
  have h4:(Rows.laid_loop_example_weakmemory_impl_relNames:DataW Unit) = .agg (nameTab.map fun s=>(DataW.lit (.string s.data.toList):DataW Unit)):=by kernel_rfl
  exact (DataW.agg.inj (h4.symm.trans hx1.1)).symm
 have h5:(xs.map (·.1))[k]? = some y.1:=by rw [List.getElem?_map,hy];rfl
 rw [hx2,List.getElem?_map,hs] at h5
 simp only [Option.map_some,Option.some.injEq] at h5
 rw [e2] at h5
 simp only [DataW.lit.injEq,Lit.string.injEq] at h5
 have h6:s'=s:=by
  have h7:s'.data=s.data:=by
   have:=congrArg List.toArray h5
   simpa using this.symm
  cases s';cases s;simp_all
 subst h6
 have h7:=World.var?_cell hg0 hv0 k
 rw [h7]
 have h8:cs0.toList[k]? = some (.string s'):=by
  have h9:(cs0.toList.drop k)[0]? = some (.string s'):=by
   have:=congrArg (fun l=>l[0]?) e1
   simp only [List.getElem?_cons_zero] at this
   rw [List.getElem?_take_of_lt (by omega)] at this
   exact this
  rw [List.getElem?_drop] at h9
  simpa using h9
 simpa using h8
end Go.Proofs.YtfbgppkdnfljhaaDoor
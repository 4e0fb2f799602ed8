/-
  PutFences of the reference; gaps as the laws take them. Condition: bounds on lengths.
-/
import Derived.Test.YtlddmagfbcomgaaGreatZq02
set_option maxHeartbeats 6400000
set_option maxRecDepth 100000
namespace Go.Proofs.YtlddmagfbcomgaaGreat
open Go.RowKit
def IdxOfG (f:Gp→Bool) (xs:List Gp) (q:Int):Prop:=(q = -1∧∀ x∈xs,f x=false)∨∃ (t:Nat) (x:Gp),q=t∧xs[t]? = some x∧f x=true
theorem none_succG {f:Gp→Bool} {xs:List Gp} {t:Nat} {x:Gp} (h:∀ y∈xs.take t,f y=false) (hx:xs[t]? = some x) (hf:f x=false):∀ y∈xs.take (t+1),f y=false:=by
 intro y hy
 rw [List.take_add_one,hx] at hy
 simp at hy
 rcases hy with hy | rfl
 ·exact h y hy
 ·exact hf
theorem IdxOfG.any {f:Gp→Bool} {xs:List Gp} {q:Int} (h:IdxOfG f xs q):decide (0≤q)=xs.any f:=by
 rcases h with ⟨rfl,h⟩ | ⟨t,x,rfl,hx,hf⟩
 ·have:xs.any f=false:=by rw [List.any_eq_false];intro x hx;rw [h x hx];simp
  rw [this];rfl
 ·have:xs.any f=true:=List.any_eq_true.2 ⟨x,List.mem_of_getElem? hx,hf⟩
  rw [this];simp
theorem any_eq_in (L:List Gp) (x:Gp):L.any (fun y=>decide (x=y))=inL L x:=by
 unfold inL
 rw [Bool.eq_iff_iff]
 simp
theorem IndexG_any (v:Value) (xs:List Gp) (x:Gp) (w:World) (hx:Rep GapE w v xs) :
 Calls Tryz.prog 105 #[v,x.v] w fun e w'=>(∃ q:Int,e = .returned (.int .i64 q)∧IdxOfG (fun y=>decide (x=y)) xs q)∧Below w.heap.size w w':=by
 obtain ⟨a,c,rfl,hc1,hc2,hc3,hx⟩:=hx.open
 have HB0:=hide ((Below.refl w.heap.size w).alloc (Nat.le_refl _) (.cells #[.int .i64 x.t, .int .i64 x.i] 64))
 have HX:=hide (hx.below HB0.out);clear hx
 generalize hn:xs.length=n at *
 have H:=hide hn;clear hn
 obtain ⟨x0,x1⟩:=x
 have hb0:w.heap.size < (w.alloc (.cells #[.int .i64 x0, .int .i64 x1] 64)).heap.size:=by simp
 have k0:(w.alloc (.cells #[.int .i64 x0, .int .i64 x1] 64)).cell? ⟨w.heap.size,0,none⟩=some (.int .i64 x0):=by simp [go_sem]
 have k1:(w.alloc (.cells #[.int .i64 x0, .int .i64 x1] 64)).cell? ⟨w.heap.size,1,none⟩=some (.int .i64 x1):=by simp [go_sem]
 go_enter Tryz.func105,Tryz.ntmps105
 go_wp2_with fail
 generalize hW:w.alloc (.cells #[.int .i64 x0, .int .i64 x1] 64)=W at *
 generalize hG:w.heap.size=g at *
 have BG:Hid (∀ w',Below g w w'→Below w.heap.size w w'):=hide (fun w' h=>by rw [hG];exact h)
 clear hG
 go_loopw [8] (fun i wr => ∃ t:Nat,t≤n∧i = .int .i64 t∧Hid (∀ y∈xs.take t,decide ((⟨x0,x1⟩:Gp)=y)=false)∧Below W.heap.size W wr) (fun i _=>n - (intOf i).toNat)
 case atStart=>exact ⟨0,Nat.zero_le _,rfl,hide (by simp),Below.refl _ _⟩
 case round =>
  obtain ⟨t,ht,rfl,hno,hb⟩:=hrel
  have kk0:=(hb.cell (p:=⟨g,0,none⟩) hb0).trans k0
  have kk1:=(hb.cell (p:=⟨g,1,none⟩) hb0).trans k1
  have hgr:g < wr.heap.size:=Nat.lt_of_lt_of_le hb0 hb.size
  by_cases hlt:t < n
  ·obtain ⟨y,hyk⟩:=get_of_lt (xs:=xs) (k:=t) (by rw [H.out];exact hlt)
   obtain ⟨b,o,rfl,hbl,i0,i1⟩:=(HX.out.below hb).gap hyk
   have hlt':=nat_of_lt hlt
   have Y:=hide hyk;clear hyk
   obtain ⟨y0,y1⟩:=y
   simp only at i0 i1
   by_cases hxy:x0=y0∧x1=y1
   ·obtain ⟨rfl,rfl⟩:=hxy
    go_wp2_with fail
    refine wp_region_bw (by kernel_rfl) (by kernel_rfl) ?_
    repeat (go_big_quiet_step (fail))
    refine wpQuiet_nil ?_
    intro w1 hb1
    go_wp2_with fail
    go_ret
    exact ⟨⟨_,rfl, .inr ⟨t,_,rfl,Y.out,by simp⟩⟩,BG.out _ (HB0.out.trans ((hb.trans (hb1.mono hb.size)).mono (Nat.le_of_lt hb0)))⟩
   ·have NO:Hid (∀ y∈xs.take (t+1),decide ((⟨x0,x1⟩:Gp)=y)=false):=hide (none_succG hno.out Y.out (by simpa using hxy))
    by_cases h0:x0=y0
    ·subst h0
     have g1:(x1==y1)=false:=by simp;exact fun e=>hxy ⟨rfl,e⟩
     clear hxy
     go_wp2_with fail
     refine wp_region_bw (by kernel_rfl) (by kernel_rfl) ?_
     repeat (go_big_quiet_step (fail))
     refine wpQuiet_nil ?_
     intro w1 hb1
     go_wp2_with fail
     go_roundw
     case rel=>exact ⟨t+1,by omega,by go_num,NO,hb.trans (hb1.mono hb.size)⟩
     case measure=>simp [intOf];omega
    ·have g0:(x0==y0)=false:=by simp [h0]
     clear hxy h0
     go_wp2_with fail
     refine wp_region_bw (by kernel_rfl) (by kernel_rfl) ?_
     repeat (go_big_quiet_step (fail))
     refine wpQuiet_nil ?_
     intro w1 hb1
     go_wp2_with fail
     go_roundw
     case rel=>exact ⟨t+1,by omega,by go_num,NO,hb.trans (hb1.mono hb.size)⟩
     case measure=>simp [intOf];omega
  ·go_wp2_with fail
   go_ret
   refine ⟨⟨_,rfl, .inl ⟨rfl, ?_⟩⟩,BG.out _ (HB0.out.trans (hb.mono (Nat.le_of_lt hb0)))⟩
   have h:=hno.out
   rwa [List.take_of_length_le (by rw [H.out];omega)] at h
theorem ContainsG_any (v:Value) (xs:List Gp) (x:Gp) (w:World) (hx:Rep GapE w v xs) :
 Calls Tryz.prog 49 #[v,x.v] w fun e w'=>e = .returned (.bool (inL xs x))∧Below w.heap.size w w':=by
 have HB0:=hide ((Below.refl w.heap.size w).alloc (Nat.le_refl _) (.cells #[.int .i64 x.t, .int .i64 x.i] 64))
 have HI:=hide (IndexG_any v xs x _ (hx.below HB0.out))
 have E0:=hide (any_eq_in xs x)
 obtain ⟨a,c,rfl, -⟩:=hx.open
 clear hx
 obtain ⟨x0,x1⟩:=x
 simp only at HI HB0
 go_enter Tryz.func49,Tryz.ntmps49
 go_wp2_with fail
 (with_reducible refine HI.out.mono ?_);rintro e w1 ⟨⟨q,rfl,hq⟩,hb1⟩
 have E:Hid (decide (0≤q)=inL xs ⟨x0,x1⟩):=hide (hq.any.trans E0.out)
 clear hq
 go_wp2_with fail
 all_goals go_ret
 all_goals refine ⟨?_,HB0.out.trans (hb1.mono HB0.out.size)⟩
 all_goals rw [← E.out]
 all_goals simp_all
def TestsPF (a1:Addr) (f:Gp→Bool) (w0:World):Prop:=∀ (x:Gp) (w:World),Below w0.heap.size w0 w→Calls Tryz.prog 48 #[.agg #[.int .i64 x.t, .int .i64 x.i], .pointer (some a1)] w fun e w'=>e = .returned (.bool (f x))∧Below w.heap.size w w'
theorem IndexFunc_pf (a1:Addr) (v:Value) (xs:List Gp) (f:Gp→Bool) (w:World) (hx:Rep GapE w v xs) (hf:TestsPF a1 f w) :
 Calls Tryz.prog 104 #[v, .func (.func 48) #[] #[.pointer (some a1)]] w fun e w'=>(∃ q:Int,e = .returned (.int .i64 q)∧IdxOfG f xs q)∧Below w.heap.size w w':=by
 obtain ⟨a,c,rfl,hc1,hc2,hc3,hx⟩:=hx.open
 have HX:=hide hx;clear hx
 have HF:=hide hf;clear hf
 generalize hn:xs.length=n at *
 have H:=hide hn;clear hn
 go_enter Tryz.func104,Tryz.ntmps104
 go_wp2_with fail
 go_loopw [8] (fun i wr => ∃ t:Nat,t≤n∧i = .int .i64 t∧Hid (∀ x∈xs.take t,f x=false)∧Below w.heap.size w wr) (fun i _=>n - (intOf i).toNat)
 case atStart=>exact ⟨0,Nat.zero_le _,rfl,hide (by simp),Below.refl _ _⟩
 case round =>
  obtain ⟨t,ht,rfl,hno,hb⟩:=hrel
  by_cases hlt:t < n
  ·obtain ⟨x,hxk⟩:=get_of_lt (xs:=xs) (k:=t) (by rw [H.out];exact hlt)
   obtain ⟨b,o,rfl,hbl,i0,i1⟩:=(HX.out.below hb).gap hxk
   have hlt':=nat_of_lt hlt
   have X:=hide hxk;clear hxk
   generalize hfx:f x=fx
   have FX:=hide hfx;clear hfx
   have hcall:=HF.out x _ hb
   rw [FX.out] at hcall
   have HC:=hide hcall;clear hcall
   cases fx
   ·have NO:Hid (∀ x∈xs.take (t+1),f x=false):=hide (none_succG hno.out X.out FX.out)
    go_wp2_with fail
    (with_reducible refine HC.out.mono ?_);rintro e w2 ⟨rfl,hb2⟩
    go_wp2_with fail
    go_roundw
    case rel=>exact ⟨t+1,by omega,by go_num,NO,hb.trans (hb2.mono hb.size)⟩
    case measure=>simp [intOf];omega
   ·go_wp2_with fail
    (with_reducible refine HC.out.mono ?_);rintro e w2 ⟨rfl,hb2⟩
    go_wp2_with fail
    go_ret
    exact ⟨⟨_,rfl, .inr ⟨t,x,rfl,X.out,FX.out⟩⟩,hb.trans (hb2.mono hb.size)⟩
  ·go_wp2_with fail
   go_ret
   refine ⟨⟨_,rfl, .inl ⟨rfl, ?_⟩⟩,hb⟩
   have h:=hno.out
   rwa [List.take_of_length_le (by rw [H.out];omega)] at h
theorem ContainsFunc_pf (a1:Addr) (v:Value) (xs:List Gp) (f:Gp→Bool) (w:World) (hx:Rep GapE w v xs) (hf:TestsPF a1 f w) :
 Calls Tryz.prog 47 #[v, .func (.func 48) #[] #[.pointer (some a1)]] w fun e w'=>e = .returned (.bool (xs.any f))∧Below w.heap.size w w':=by
 have HI:=hide (IndexFunc_pf a1 v xs f w hx hf)
 obtain ⟨a,c,rfl, -⟩:=hx.open
 clear hx hf
 go_enter Tryz.func47,Tryz.ntmps47
 go_wp2_with fail
 (with_reducible refine HI.out.mono ?_);rintro e w1 ⟨⟨q,rfl,hq⟩,hb1⟩
 have E:Hid (decide (0≤q)=xs.any f):=hide hq.any
 clear hq
 go_wp2_with fail
 all_goals go_ret
 all_goals refine ⟨?_,hb1⟩
 all_goals rw [← E.out]
 all_goals simp_all
theorem testPF (g:Nat) (v:Value) (all:List Gp) (w:World) (hg:g < w.heap.size) (hc:w.cell? ⟨g,0,none⟩=some v) (hx:Rep GapE w v all):TestsPF ⟨g,0,none⟩ (fun x => !inL all x) w:=by
 intro x w2 hb
 have hc2:=(hb.cell (p:=⟨g,0,none⟩) hg).trans hc
 have hg2:=Nat.lt_of_lt_of_le hg hb.size
 have HB0:=hide ((Below.refl w2.heap.size w2).alloc (Nat.le_refl _) (.cells #[.int .i64 x.t, .int .i64 x.i] 64))
 have HI:=hide (ContainsG_any v all x _ ((hx.below hb).below HB0.out))
 obtain ⟨a,c,rfl, -⟩:=hx.open
 clear hx hc hb
 obtain ⟨x0,x1⟩:=x
 obtain ⟨r,hr⟩:∃ r,inL all ⟨x0,x1⟩=r:=⟨_,rfl⟩
 simp only at HI HB0
 rw [hr] at HI
 have R:=hide hr
 clear hr
 go_enter Tryz.func48,Tryz.ntmps48
 go_wp2_with fail
 (with_reducible refine HI.out.mono ?_);rintro e w1 ⟨rfl,hb1⟩
 go_wp2_with fail
 go_ret
 exact ⟨by show _=Ending.returned (.bool (!inL all ⟨x0,x1⟩));rw [R.out];rfl,HB0.out.trans (hb1.mono HB0.out.size)⟩
theorem l9Has_any (v:Value) (xs:List Gp) (x:Gp) (w:World) (hx:Rep GapE w v xs) :
 Calls Tryz.prog 55 #[v,x.v] w fun e w'=>e = .returned (.bool (inL xs x))∧Below w.heap.size w w':=by
 have HB0:=hide ((Below.refl w.heap.size w).alloc (Nat.le_refl _) (.cells #[.int .i64 x.t, .int .i64 x.i] 64))
 have E0:=hide (any_eq_in xs x)
 obtain ⟨a,c,rfl,hc1,hc2,hc3,hx⟩:=hx.open
 have HX:=hide (hx.below HB0.out);clear hx
 generalize hn:xs.length=n at *
 have H:=hide hn;clear hn
 obtain ⟨x0,x1⟩:=x
 have hb0:w.heap.size < (w.alloc (.cells #[.int .i64 x0, .int .i64 x1] 64)).heap.size:=by simp
 have k0:(w.alloc (.cells #[.int .i64 x0, .int .i64 x1] 64)).cell? ⟨w.heap.size,0,none⟩=some (.int .i64 x0):=by simp [go_sem]
 have k1:(w.alloc (.cells #[.int .i64 x0, .int .i64 x1] 64)).cell? ⟨w.heap.size,1,none⟩=some (.int .i64 x1):=by simp [go_sem]
 go_enter Tryz.func55,Tryz.ntmps55
 go_wp2_with fail
 generalize hW:w.alloc (.cells #[.int .i64 x0, .int .i64 x1] 64)=W at *
 generalize hG:w.heap.size=g at *
 have BG:Hid (∀ w',Below g w w'→Below w.heap.size w w'):=hide (fun w' h=>by rw [hG];exact h)
 clear hG
 go_loopw [5] (fun i wr => ∃ t:Nat,t≤n∧i = .int .i64 t∧Hid (∀ y∈xs.take t,decide ((⟨x0,x1⟩:Gp)=y)=false)∧Below W.heap.size W wr) (fun i _=>n - (intOf i).toNat)
 case atStart=>exact ⟨0,Nat.zero_le _,rfl,hide (by simp),Below.refl _ _⟩
 case round =>
  obtain ⟨t,ht,rfl,hno,hb⟩:=hrel
  have kk0:=(hb.cell (p:=⟨g,0,none⟩) hb0).trans k0
  have kk1:=(hb.cell (p:=⟨g,1,none⟩) hb0).trans k1
  have hgr:g < wr.heap.size:=Nat.lt_of_lt_of_le hb0 hb.size
  by_cases hlt:t < n
  ·obtain ⟨y,hyk⟩:=get_of_lt (xs:=xs) (k:=t) (by rw [H.out];exact hlt)
   obtain ⟨b,o,rfl,hbl,i0,i1⟩:=(HX.out.below hb).gap hyk
   have hlt':=nat_of_lt hlt
   have Y:=hide hyk;clear hyk
   obtain ⟨y0,y1⟩:=y
   simp only at i0 i1
   by_cases hxy:x0=y0∧x1=y1
   ·obtain ⟨rfl,rfl⟩:=hxy
    have E:Hid (inL xs ⟨x0,x1⟩=true):=hide (by unfold inL;exact decide_eq_true (List.mem_of_getElem? Y.out))
    go_wp2_with fail
    refine wp_region_bw (by kernel_rfl) (by kernel_rfl) ?_
    repeat (go_big_quiet_step (fail))
    refine wpQuiet_nil ?_
    intro w1 hb1
    go_wp2_with fail
    go_ret
    exact ⟨by rw [E.out];rfl,BG.out _ (HB0.out.trans ((hb.trans (hb1.mono hb.size)).mono (Nat.le_of_lt hb0)))⟩
   ·have NO:Hid (∀ y∈xs.take (t+1),decide ((⟨x0,x1⟩:Gp)=y)=false):=hide (none_succG hno.out Y.out (by simpa using hxy))
    by_cases h0:y0=x0
    ·subst h0
     have g1:(y1==x1)=false:=by simp;exact fun e=>hxy ⟨rfl,e.symm⟩
     clear hxy
     go_wp2_with fail
     refine wp_region_bw (by kernel_rfl) (by kernel_rfl) ?_
     repeat (go_big_quiet_step (fail))
     refine wpQuiet_nil ?_
     intro w1 hb1
     go_wp2_with fail
     go_roundw
     case rel=>exact ⟨t+1,by omega,by go_num,NO,hb.trans (hb1.mono hb.size)⟩
     case measure=>simp [intOf];omega
    ·have g0:(y0==x0)=false:=by simp [h0]
     clear hxy h0
     go_wp2_with fail
     refine wp_region_bw (by kernel_rfl) (by kernel_rfl) ?_
     repeat (go_big_quiet_step (fail))
     refine wpQuiet_nil ?_
     intro w1 hb1
     go_wp2_with fail
     go_roundw
     case rel=>exact ⟨t+1,by omega,by go_num,NO,hb.trans (hb1.mono hb.size)⟩
     case measure=>simp [intOf];omega
  ·have h:=hno.out
   rw [List.take_of_length_le (by rw [H.out];omega)] at h
   have E:Hid (inL xs ⟨x0,x1⟩=false):=hide (by rw [← E0.out,List.any_eq_false];intro y hy;rw [h y hy];simp)
   clear h
   go_wp2_with fail
   go_ret
   exact ⟨by rw [E.out];rfl,BG.out _ (HB0.out.trans (hb.mono (Nat.le_of_lt hb0)))⟩
theorem l9Put_any (v v2:Value) (p:List (List Ins)) (L:List Gp) (w:World) (hp:RepP w v p) (hL:Rep GapE w v2 L) (hl:p.length≤1048576) (hl2:∀ r∈p,r.length≤1048576) :
 Calls Tryz.prog 56 #[v,v2] w (RetOwn2 InsE 71 74 w (putP (inL L) p)):=by
 obtain ⟨a,c,rfl,hc1,hc2,hc3,hp⟩:=hp.open
 obtain ⟨a2,c2,rfl,hd1,hd2,hd3,hL⟩:=hL.open
 have HP:=hide hp;clear hp
 have HL:=hide (fun w' (hb:Below w.heap.size w w') x=>l9Has_any (.slice a2 L.length c2) L x w' (hL.below hb))
 have HL2:=hide hl2;clear hl2 hL
 have PP:Hid (putP (inL L) p=putPT (inL L) p p.length):=hide rfl
 generalize L.length=m at *
 have HPL:=hide (putPT_length (inL L) p)
 generalize hn:p.length=n at *
 have H:=hide hn;clear hn
 go_enter Tryz.func56,Tryz.ntmps56
 go_wp2_with fail
 go_loopw [5,6] (fun s i wr => ∃ j:Nat,j≤n∧i = .int .i64 j∧OwnP wr w.heap.size s (putPT (inL L) p j)∧Below w.heap.size w wr) (fun _ i _=>n - (intOf i).toNat)
 case atStart=>exact ⟨0,by omega,rfl,Own2.empty _ _ w (Nat.le_refl _),(Below.refl _ _).alloc (Nat.le_refl _) _⟩
 case round =>
  obtain ⟨j,hj,rfl,ho,hb⟩:=hrel
  by_cases hlt:j < n
  ·obtain ⟨wm,rfl⟩:∃ wm:World,wm=wr:=⟨_,rfl⟩
   obtain ⟨x,hxk⟩:=get_of_lt (xs:=p) (k:=j) (by rw [H.out];exact hlt)
   obtain ⟨b,o,ra,rc,rfl,hbl,i0,i1⟩:=HP.out.row hxk
   have hlt':=nat_of_lt hlt
   have hxl:=HL2.out x (List.mem_of_getElem? hxk)
   have DS:=hide (putPT_succ (f:=inL L) hxk)
   have hdl:(putPT (inL L) p j).length≤1048576:=by rw [HPL.out j hj];omega
   have IW:=hide i0;have I1:=hide i1;have X:=hide hxk
   have i0:=(hb.cell (p:=⟨b,o+j,none⟩) hbl).trans i0
   clear hxk i1
   generalize hD:putPT (inL L) p j=D at *
   clear hD
   obtain ⟨us,hU, -⟩:=ho.told
   have HU:=hide hU;have HO:=hide ho
   clear hU ho
   go_wp2_with fail
   go_loopw [7,8] (fun s i wr => ∃ t:Nat,t≤x.length∧i = .int .i64 t∧OwnI wr wm.heap.size s (putTo (fun i=>inL L ⟨j,i⟩) x t)∧Below wm.heap.size wm wr) (fun _ i _=>x.length - (intOf i).toNat)
   case atStart=>exact ⟨0,by omega,rfl,Own.empty _ wm (Nat.le_refl _),(Below.refl _ _).alloc (Nat.le_refl _) _⟩
   case round =>
    obtain ⟨t,ht,rfl,hr,hb3⟩:=hrel
    have hbw:=hb.trans (hb3.mono hb.size)
    have i0w:=(hbw.cell (p:=⟨b,o+j,none⟩) hbl).trans IW.out
    by_cases hlt3:t < x.length
    ·obtain ⟨y,hyk⟩:=get_of_lt (xs:=x) (k:=t) hlt3
     have hlt3':=nat_of_lt hlt3
     have ST:=hide (putTo_succ (f:=fun i=>inL L ⟨j,i⟩) hyk)
     have hil:(putTo (fun i=>inL L ⟨j,i⟩) x t).length≤2 * 1048576:=by have:=(putTo_le (fun i=>inL L ⟨j,i⟩) x t ht).2;omega
     have Y:=hide hyk;clear hyk
     obtain ⟨r,hr0⟩:∃ r,inL L ⟨(j:Int),(t:Int)⟩=r:=⟨_,rfl⟩
     have HC:=HL.out wr hbw ⟨j,t⟩
     rw [hr0] at HC
     have HC:=hide HC
     have R:=hide hr0
     clear hr0
     generalize hI:putTo (fun i=>inL L ⟨j,i⟩) x t=LL at *
     clear hI
     cases r
     ·have ST2:Hid (putTo (fun i=>inL L ⟨j,i⟩) x (t+1)=LL++[y]):=hide (by have h:=ST.out;rw [if_neg (by rw [R.out];simp)] at h;exact h)
      clear ST
      go_wp2_with fail
      (with_reducible refine HC.out.mono ?_);rintro e w2 ⟨rfl,hb2⟩
      have hb4:=hb3.trans (hb2.mono hb3.size)
      have hbw2:=hb.trans (hb4.mono hb.size)
      have i0w2:=(hbw2.cell (p:=⟨b,o+j,none⟩) hbl).trans IW.out
      have hbl2:=Nat.lt_of_lt_of_le hbl hbw2.size
      obtain ⟨b',o',rfl,hbl',j0,j1,j2,j3⟩:=(I1.out.below hbw2).ins Y.out
      have hr2:=hr.below hb2
      go_wp2_with (at_builtin;refine wpList_app InsE 74 Tryz.infoIns rfl Tryz.underlying71 wm.heap.size _ LL y (hr2.alloc _) (by decide) (by omega) (by have:=hb4.size;simp;omega) rfl _ _ rfl rfl w2.heap.size 0 1 rfl news_alloc ?_;intro v' w3 hown1 hgr1)
      have hb5:=below_app hb4 hr2 hgr1
      go_roundw
      case rel=>exact ⟨t+1,by omega,by go_num,by rw [ST2.out];exact hown1,hb5⟩
      case measure=>simp [intOf];omega
     ·have ST2:Hid (putTo (fun i=>inL L ⟨j,i⟩) x (t+1)=(LL++[fenceI])++[y]):=hide (by have h:=ST.out;rw [if_pos (by rw [R.out])] at h;rw [h];simp)
      clear ST
      go_wp2_with fail
      (with_reducible refine HC.out.mono ?_);rintro e w2 ⟨rfl,hb2⟩
      have hb4:=hb3.trans (hb2.mono hb3.size)
      have hr2:=hr.below hb2
      go_wp2_with (first
       | (at_builtin;refine wpList_app InsE 74 Tryz.infoIns rfl Tryz.underlying71 wm.heap.size _ LL fenceI (hr2.alloc _) (by decide) (by omega) (by have:=hb4.size;simp;omega) rfl (.tmp 31) (.tmp 33) rfl rfl w2.heap.size 0 1 rfl news_alloc ?_;intro v' w3 hown1 hgr1;have hb5:=below_app hb4 hr2 hgr1;have hbw2:=hb.trans (hb5.mono hb.size);have i0w2:=(hbw2.cell (p:=⟨b,o+j,none⟩) hbl).trans IW.out;have hbl2:=Nat.lt_of_lt_of_le hbl hbw2.size;obtain ⟨b',o',rfl,hbl',j0,j1,j2,j3⟩:=(I1.out.below hbw2).ins Y.out;clear hbw2)
       | (at_builtin;refine wpList_app InsE 74 Tryz.infoIns rfl Tryz.underlying71 wm.heap.size _ (LL++[fenceI]) y (hown1.alloc _) (by decide) (by rw [List.length_append];simp;omega) (by have:=hb5.size;simp;omega) rfl (.tmp 35) (.tmp 43) rfl rfl w3.heap.size 0 1 rfl news_alloc ?_;intro v'' w4 hown2 hgr2))
      have hb6:=below_app hb5 hown1 hgr2
      go_roundw
      case rel=>exact ⟨t+1,by omega,by go_num,by rw [ST2.out];exact hown2,hb6⟩
      case measure=>simp [intOf];omega
    ·have e:t=x.length:=by omega
     rw [e] at hr
     replace hr:OwnI wr wm.heap.size _ (putI (fun i=>inL L ⟨j,i⟩) x):=hr
     obtain ⟨s,rfl, -⟩:=hr.toSlc
     have hub:us.length≤68719476736:=by have:=HU.out.1;omega
     go_wp2_with (at_builtin;refine wpList_app SlcE 71 Tryz.infoInsS rfl Tryz.underlying23 w.heap.size _ us s ((HU.out.2.1.below hb3).alloc _) (by decide) hub (by simp;have:=hb.size;have:=hb3.size;omega) rfl _ _ rfl rfl wr.heap.size 0 1 rfl news_alloc ?_;intro v' w3 hown3 hgr3)
     have ho2:=(HU.out).app (by decide) (hb3.trans ((Below.refl _ _).alloc hb3.size _)) hb.size (hr.alloc _) hown3 hgr3
     rw [← DS.out] at ho2
     have hb5:=below_app hbw (HU.out.2.1.below hb3) hgr3
     go_roundw
     case rel=>exact ⟨j+1,by omega,by go_num,ho2,hb5⟩
     case measure=>simp [intOf];omega
  ·go_wp2_with fail
   go_ret
   rw [PP.out,show n=j by omega]
   exact ⟨_,rfl,ho,hb⟩
end Go.Proofs.YtlddmagfbcomgaaGreat
namespace Go.Proofs.YtlddmagfbcomgaaGreat
open Go.RowKit
theorem subG_take {L all:List Gp} {k:Nat} {x:Gp} (h:subG (L.take k) all=true) (hx:L[k]? = some x) (hin:inL all x=true):subG (L.take (k+1)) all=true:=by
 unfold subG at *
 rw [List.take_add_one,hx,List.all_append,h]
 simpa [inL] using hin
theorem subG_no {L all:List Gp} {k:Nat} {x:Gp} (hx:L[k]? = some x) (hin:inL all x=false):subG L all=false:=by
 unfold subG
 rw [List.all_eq_false]
 exact ⟨x,List.mem_of_getElem? hx,by unfold inL at hin;simpa using hin⟩
theorem putP_flat {f:Gp→Bool} {p:List (List Ins)} (h1:p.length≤3) (h2:∀ r∈p,r.length≤7):(putP f p).flatten.length≤42:=by
 have hr:=putP_rows (f:=f) (p:=p) (n:=7) h2
 have hl:=putP_length f p
 generalize putP f p=q at *
 have:∀ (q:List (List Ins)),(∀ r∈q,r.length≤2 * 7)→q.flatten.length≤q.length * (2 * 7):=by
  intro q
  induction q with
  | nil=>simp
  | cons r q ih =>
   intro h
   have a:=h r (by simp)
   have b:=ih (fun r hr=>h r (by simp [hr]))
   rw [List.flatten_cons,List.length_append,List.length_cons,Nat.add_mul]
   omega
 have:=this q hr
 omega
theorem sPutFences_any (v v2:Value) (p:List (List Ins)) (L:List Gp) (w:World) (hp:RepP w v p) (hL:Rep GapE w v2 L) (hl:p.flatten.length≤1048576) (hpl:p.length≤1048576) :
 Calls Tryz.prog 11 #[v,v2] w (RetOwn2B InsE 71 74 w (putV p L) (putOk p L)):=by
 obtain ⟨a2,c2,rfl,hd1,hd2,hd3,hL⟩:=hL.open
 have HP:=hide hp;have HL:=hide hL
 have HV:=hide (fun w' h=>sProgramValid_any v p w' h hl hpl)
 have HG:=hide (fun w' h=>l9Gaps_any v p w' h hl)
 have HPUT:=hide (fun w' (h:RepP w' v p) h2 (h3:p.length≤1048576) h4=>l9Put_any v (.slice a2 L.length c2) p L w' h h2 h3 h4)
 clear hp hL
 have HB0:=hide ((Below.refl w.heap.size w).alloc (Nat.le_refl _) (.cells #[] 71))
 generalize hm:L.length=m at *
 have HM:=hide hm;clear hm
 generalize hb:progValid p=b at *
 have B:=hide hb;clear hb
 cases b
 ·have E1:Hid (putOk p L=false):=hide (by unfold putOk;rw [B.out];rfl)
  have E2:Hid (putV p L=[]):=hide (by unfold putV;rw [E1.out];rfl)
  go_enter Tryz.func11,Tryz.ntmps11
  go_wp2_with (go_at_call 53;(with_reducible refine (HV.out _ (HP.out.below HB0.out)).mono ?_);rintro e w1 ⟨rfl,hb1⟩)
  go_ret2
  rw [E1.out,E2.out]
  exact ⟨_,rfl,(Own2.empty _ _ w (Nat.le_refl _)).below hb1,HB0.out.trans (hb1.mono HB0.out.size)⟩
 ·obtain ⟨hv1,hv2,hv3, -, -⟩:=valid_le B.out
  have HR:=hide (row_of_valid B.out)
  have hfl:Hid ((putP (inL L) p).flatten.length≤42):=hide (putP_flat hv1 (fun r hr=>(hv3 r hr).1))
  have hpl3:Hid ((putP (inL L) p).length≤1048576):=hide (by rw [putP_length];omega)
  clear hv3
  go_enter Tryz.func11,Tryz.ntmps11
  go_wp2_with fail
  (with_reducible refine (HV.out _ (HP.out.below HB0.out)).mono ?_);rintro e w1 ⟨rfl,hb1⟩
  have HB1:=hide (HB0.out.trans (hb1.mono HB0.out.size))
  have HE1:=hide ((Own2.empty (E:=InsE) 71 74 w (Nat.le_refl _)).below hb1)
  clear hb1
  go_wp2_with fail
  (with_reducible refine (HG.out _ (HP.out.below HB1.out)).mono ?_);rintro e w2 ⟨vg,rfl,hvg,hb2⟩
  obtain ⟨⟨ga,gn,gc⟩,rfl, -⟩:=hvg.toSlc
  replace hvg:Own GapE 64 w2 _ (.slice ga gn gc) (gapsP p):=hvg
  have HB2:=hide (HB1.out.trans (hb2.mono HB1.out.size))
  have HE2:=hide (HE1.out.below hb2)
  have HH:=hide (fun w' (hb:Below w2.heap.size w2 w') x=>l9Has_any (.slice ga gn gc) (gapsP p) x w' (hvg.below hb).rep)
  clear hvg hb2 HE1
  have E0:Hid (putOk p L=(subG L (gapsP p)&&progValid (putP (inL L) p))):=hide (by unfold putOk;rw [B.out];rfl)
  have E2:Hid (putOk p L=true→putV p L=putP (inL L) p):=hide (fun h=>by unfold putV;rw [h];rfl)
  have E3:Hid (putOk p L=false→putV p L=[]):=hide (fun h=>by unfold putV;rw [h];rfl)
  go_wp2_with fail
  go_loopw [8] (fun i wr => ∃ k:Nat,k≤m∧i = .int .i64 k∧Hid (subG (L.take k) (gapsP p)=true)∧Below w2.heap.size w2 wr) (fun i _=>m - (intOf i).toNat)
  case atStart=>exact ⟨0,Nat.zero_le _,rfl,hide (by simp [subG]),Below.refl _ _⟩
  case round =>
   obtain ⟨k,hk,rfl,hs,hb⟩:=hrel
   by_cases hlt:k < m
   ·obtain ⟨x,hxk⟩:=get_of_lt (xs:=L) (k:=k) (by rw [HM.out];exact hlt)
    obtain ⟨b,o,rfl,hbl,i0,i1⟩:=(HL.out.below (HB2.out.trans (hb.mono HB2.out.size))).gap hxk
    have hlt':=nat_of_lt hlt
    have X:=hide hxk;clear hxk
    obtain ⟨ib,hib⟩:∃ ib,inL (gapsP p) x=ib:=⟨_,rfl⟩
    have HC:=HH.out wr hb x
    rw [hib] at HC
    have HC:=hide HC;have IB:=hide hib
    clear hib
    cases ib
    ·have E4:Hid (putOk p L=false):=hide (by rw [E0.out,subG_no X.out IB.out];rfl)
     go_wp2_with fail
     (with_reducible refine HC.out.mono ?_);rintro e w3 ⟨rfl,hb3⟩
     go_wp2_with fail
     go_ret2
     rw [E4.out,E3.out E4.out]
     exact ⟨_,rfl,(HE2.out.below hb).below hb3,HB2.out.trans ((hb.trans (hb3.mono hb.size)).mono HB2.out.size)⟩
    ·have S2:=hide (subG_take hs.out X.out IB.out)
     go_wp2_with fail
     (with_reducible refine HC.out.mono ?_);rintro e w3 ⟨rfl,hb3⟩
     go_wp2_with fail
     go_roundw
     case rel=>exact ⟨k+1,by omega,by go_num,S2,hb.trans (hb3.mono hb.size)⟩
     case measure=>simp [intOf];omega
   ·have HS:Hid (subG L (gapsP p)=true):=hide (by have h:=hs.out;rwa [List.take_of_length_le (by rw [HM.out];omega)] at h)
    have HB3:=hide (HB2.out.trans (hb.mono HB2.out.size))
    have HE3:=hide (HE2.out.below hb)
    go_wp2_with fail
    (with_reducible refine (HPUT.out _ (HP.out.below HB3.out) (HL.out.below HB3.out) (by omega) HR.out).mono ?_);rintro e w4 ⟨u,rfl,hu,hb4⟩
    have HU:=hide hu
    have HB4:=hide (HB3.out.trans (hb4.mono HB3.out.size))
    have HE4:=hide (HE3.out.below hb4)
    have hs3:=HB3.out.size
    obtain ⟨pb,hpb⟩:∃ pb,progValid (putP (inL L) p)=pb:=⟨_,rfl⟩
    have HPV:=sProgramValid_any u (putP (inL L) p) w4 hu.rep (by have:=hfl.out;omega) hpl3.out
    rw [hpb] at HPV
    have HPV:=hide HPV;have PB:=hide hpb
    clear hpb hu hb4
    cases pb
    ·have E4:Hid (putOk p L=false):=hide (by rw [E0.out,PB.out,Bool.and_false])
     go_wp2_with fail
     (with_reducible refine HPV.out.mono ?_);rintro e w5 ⟨rfl,hb5⟩
     go_wp2_with fail
     go_ret2
     rw [E4.out,E3.out E4.out]
     exact ⟨_,rfl,HE4.out.below hb5,HB4.out.trans (hb5.mono HB4.out.size)⟩
    ·have E4:Hid (putOk p L=true):=hide (by rw [E0.out,PB.out,HS.out];rfl)
     go_wp2_with fail
     (with_reducible refine HPV.out.mono ?_);rintro e w5 ⟨rfl,hb5⟩
     go_wp2_with fail
     go_ret2
     rw [E4.out,E2.out E4.out]
     exact ⟨_,rfl,(HU.out.below hb5).mono hs3,HB4.out.trans (hb5.mono HB4.out.size)⟩
end Go.Proofs.YtlddmagfbcomgaaGreat
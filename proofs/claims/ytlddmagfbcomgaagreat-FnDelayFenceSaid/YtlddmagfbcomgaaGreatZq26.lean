/-
  Plain: fences that are put can be dropped again, and are not more than the places.
-/
import Derived.Test.YtlddmagfbcomgaaGreatZq05
import Derived.Test.YtlddmagfbcomgaaGreatZq00
import Derived.Test.YtlddmagfbcomgaaGreatZq02
set_option maxHeartbeats 6400000
set_option maxRecDepth 100000
namespace Go.Proofs.YtlddmagfbcomgaaGreat
open Go.RowKit
def IdxOfS {α:Type} (f:α→Bool) (xs:List α) (q:Int):Prop:=(q = -1∧∀ x∈xs,f x=false)∨∃ (t:Nat) (x:α),q=t∧xs[t]? = some x∧f x=true∧∀ y∈xs.take t,f y=false
theorem none_succS {α:Type} {f:α→Bool} {xs:List α} {t:Nat} {x:α} (h:∀ y∈xs.take t,f y=false) (hx:xs[t]? = some x) (hf:f x=false):∀ y∈xs.take (t+1),f y=false:=by
 intro y hy
 rw [List.take_add_one,hx] at hy
 simp at hy
 rcases hy with hy | rfl
 ·exact h y hy
 ·exact hf
def Tests_i_DropFences_1 (f:Ins→Bool):Prop:=∀ (x:Ins) (w:World),Calls Tryz.prog 90 #[.agg #[.int .i64 x.op, .int .i64 x.loc, .int .i64 x.reg, .int .i64 x.val]] w fun e w'=>e = .returned (.bool (f x))∧Below w.heap.size w w'
theorem IndexFunc_i_DropFences_1 (v:Value) (xs:List Ins) (f:Ins→Bool) (w:World) (hx:Rep InsE w v xs) (hf:Tests_i_DropFences_1 f) :
 Calls Tryz.prog 154 #[v, .func (.func 90) #[] #[]] w fun e w'=>(∃ q:Int,e = .returned (.int .i64 q)∧IdxOfS f xs q)∧Below w.heap.size w w':=by
 obtain ⟨a,c,rfl,hc1,hc2,hc3,hx⟩:=hx.open
 have HX:=hide hx;clear hx
 have HF:=hide hf;clear hf
 generalize hn:xs.length=n at *
 have H:=hide hn;clear hn
 go_enter Tryz.func154,Tryz.ntmps154
 go_wp2_with fail
 go_loopw [8] (fun i wr => ∃ t:Nat,t≤n∧i = .int .i64 t∧Hid (∀ x∈xs.take t,f x=false)∧Below w.heap.size w wr) (fun i _=>n - (intOf i).toNat)
 case atStart=>exact ⟨0,Nat.zero_le _,rfl,hide (by simp),Below.refl _ _⟩
 case round =>
  obtain ⟨t,ht,rfl,hno,hb⟩:=hrel
  by_cases hlt:t < n
  ·obtain ⟨x,hxk⟩:=get_of_lt (xs:=xs) (k:=t) (by rw [H.out];exact hlt)
   obtain ⟨b,o,rfl,hbl,i0,i1,i2,i3⟩:=(HX.out.below hb).ins hxk
   have hlt':=nat_of_lt hlt
   have X:=hide hxk;clear hxk
   generalize hfx:f x=fx
   have FX:=hide hfx;clear hfx
   have hcall:=HF.out x
   rw [FX.out] at hcall
   have HC:=hide hcall;clear hcall
   cases fx
   ·have NO:Hid (∀ x∈xs.take (t+1),f x=false):=hide (none_succS hno.out X.out FX.out)
    go_wp2_with fail
    (with_reducible refine (HC.out _).mono ?_);rintro e w2 ⟨rfl,hb2⟩
    go_wp2_with fail
    go_roundw
    case rel=>exact ⟨t+1,by omega,by go_num,NO,hb.trans (hb2.mono hb.size)⟩
    case measure=>simp [intOf];omega
   ·go_wp2_with fail
    (with_reducible refine (HC.out _).mono ?_);rintro e w2 ⟨rfl,hb2⟩
    go_wp2_with fail
    go_ret
    exact ⟨⟨_,rfl, .inr ⟨t,x,rfl,X.out,FX.out,hno.out⟩⟩,hb.trans (hb2.mono hb.size)⟩
  ·go_wp2_with fail
   go_ret
   refine ⟨⟨_,rfl, .inl ⟨rfl, ?_⟩⟩,hb⟩
   have h:=hno.out
   rwa [List.take_of_length_le (by rw [H.out];omega)] at h
theorem DeleteFunc_i_DropFences_1 (v:Value) (xs:List Ins) (f:Ins→Bool) (w:World) (base:Nat) (hx:Own InsE 74 w base v xs) (hl:xs.length≤1048576) (hf:Tests_i_DropFences_1 f) :
 Calls Tryz.prog 89 #[v, .func (.func 90) #[] #[]] w fun e w'=>DelPost InsE 74 w base v (xs.filter fun x => !f x) e w':=by
 have DP:Hid (∀ v' w',Own InsE 74 w' base v' (xs.filter fun x => !f x)→w.grownBy w' v.ownBlock→v'.ownBlock=v.ownBlock→DelPost InsE 74 w base v (xs.filter fun x => !f x) (.returned v') w'):=hide (fun v' w' h1 h2 h3=>⟨v',rfl,h1,h2,h3⟩)
 have HF:=hide hf;clear hf
 have HX:=hide hx;clear hx
 have HI:=hide (fun w' h=>IndexFunc_i_DropFences_1 v xs f w' h HF.out)
 generalize hG:(xs.filter fun x => !f x)=G at *
 have HG:=hide hG;clear hG
 go_enter Tryz.func89,Tryz.ntmps89
 go_wp2_with fail
 (with_reducible refine (HI.out w HX.out.rep).mono ?_);rintro e w1 ⟨⟨q,rfl,hq⟩,hb1⟩
 have HX1:=hide (HX.out.below hb1)
 have hg1:=grown_of_below hb1 v.ownBlock
 rcases hq with ⟨rfl,hno⟩ | ⟨t,x0,rfl,ht,hft,hno⟩
 ·have e1:G=xs:=by rw [← HG.out];exact filter_all (fun x h=>by rw [hno x h];rfl)
  have HE:=hide e1;clear e1 hno
  go_wp2_with fail
  go_ret
  exact DP.out _ _ (by rw [HE.out];exact HX1.out) hg1 rfl
 ·rcases HX.out.shape with ⟨-,rfl⟩ | ⟨g,c,rfl,hg,hgl,hc1,hc2⟩
  ·simp at ht
  ·have htl:=(List.getElem?_eq_some_iff.1 ht).1
   have hstart:=del_start ht hft hno
   have ST:=hide hstart;clear hstart ht hft hno
   generalize hn:xs.length=n at *
   have H:=hide hn;clear hn
   have htl':=nat_of_lt htl
   have hm1:((t:Int) == -1)=false:=by rw [beq_eq_false_iff_ne];omega
   go_wp2_with fail
   go_loopw [5,6] (fun si sj wr => ∃ (i j:Nat) (L:List Ins),i < j∧j≤n∧si = .int .i64 i∧sj = .int .i64 j∧Own InsE 74 wr base (.slice (some ⟨g,0,none⟩) n c) L∧Hid (DelInv f xs L i j)∧w.grownBy wr (some g)) (fun _ sj _=>n - (intOf sj).toNat)
   case atStart=>exact ⟨t,t+1,xs,by omega,by omega,rfl,rfl,HX1.out,hide ST.out,hg1⟩
   case round =>
    obtain ⟨i,j,L,hij,hj,rfl,rfl,ho,hI,hgr⟩:=hrel
    have hLl:L.length=n:=ho.len.symm
    have HLL:=hide hLl;clear hLl
    by_cases hlt:j < n
    ·obtain ⟨x,hxk⟩:=get_of_lt (xs:=xs) (k:=j) (by rw [H.out];exact hlt)
     have hLj:=hI.out.get hxk
     obtain ⟨y,hyi⟩:=get_of_lt (xs:=L) (k:=i) (by rw [HLL.out];omega)
     obtain ⟨-,m0,m1,m2,m3, -⟩:=ho.ins hyi
     obtain ⟨hgl2,j0,j1,j2,j3,hfr⟩:=ho.ins hLj
     have hset:=ho.setIns hyi x
     have hlt':=nat_of_lt hlt
     have hij':=nat_of_lt hij
     have X:=hide hxk;have SET:=hide hset;have YI:=hide hyi;have LJ:=hide hLj
     clear hxk hset hyi hLj
     have hcall:=HF.out x
     generalize hfx:f x=fx at *
     have FX:=hide hfx;have HC:=hide hcall
     clear hfx hcall
     cases fx
     ·have KEEP:=hide (hI.out.keep hij X.out FX.out)
      go_wp2_with fail
      (with_reducible refine (HC.out _).mono ?_);rintro e w2 ⟨rfl,hb2⟩
      obtain ⟨hc2,hf2⟩:=bcell hb2
      have hsz2:wr.heap.size+1≤w2.heap.size:=by have:=hb2.size;simp at this;omega
      have hset2:=(ho.alloc (.cells #[.int .i64 x.op, .int .i64 x.loc, .int .i64 x.reg, .int .i64 x.val] 74)).below hb2
      have hset3:=hset2.setIns YI.out x
      have S3:=hide hset3;clear hset2 hset3
      have hgr2:=grown_trans hgr (grown_trans (World.grownBy_alloc wr (.cells #[.int .i64 x.op, .int .i64 x.loc, .int .i64 x.reg, .int .i64 x.val] 74) (some g)) (grown_of_below hb2 (some g)))
      go_wp2_with fail
      go_roundw
      case rel=>exact ⟨i+1,j+1,L.set i x,by omega,by omega,by go_num,by go_num,S3.out,hide KEEP.out,grown_set (grown_set (grown_set (grown_set hgr2 _ _) _ _) _ _) _ _⟩
      case measure=>simp [intOf];omega
     ·have SKIP:=hide (hI.out.skip X.out FX.out)
      go_wp2_with fail
      (with_reducible refine (HC.out _).mono ?_);rintro e w2 ⟨rfl,hb2⟩
      have hset2:=(ho.alloc (.cells #[.int .i64 x.op, .int .i64 x.loc, .int .i64 x.reg, .int .i64 x.val] 74)).below hb2
      have hgr2:=grown_trans hgr (grown_trans (World.grownBy_alloc wr (.cells #[.int .i64 x.op, .int .i64 x.loc, .int .i64 x.reg, .int .i64 x.val] 74) (some g)) (grown_of_below hb2 (some g)))
      go_wp2_with fail
      go_roundw
      case rel=>exact ⟨i,j+1,L,by omega,by omega,rfl,by go_num,hset2,hide SKIP.out,hgr2⟩
      case measure=>simp [intOf];omega
    ·have e:j=n:=by omega
     subst e
     have hin:=hij
     have hin':=nat_of_lt hij
     have hic:i≤c:=by omega
     have DONE:=hide (hI.out.done (by rw [H.out];exact Nat.le_refl _))
     go_wp2_with (refine wpList_clear InsE 74 ⟨0,0,0,0⟩ Tryz.infoIns rfl Tryz.underlying71 base g _ c i _ L ho hin rfl _ rfl rfl ?_;intro w3 ho3 hgr3)
     go_ret
     have hcut:=ho3.cut (i:=i) (by omega)
     have hLi:(L.take i).length=i:=by rw [List.length_take,HLL.out];omega
     rw [List.take_append_of_le_length (by omega),List.take_take,Nat.min_self,DONE.out,HG.out] at hcut
     exact DP.out _ _ hcut (grown_trans hgr hgr3) rfl
end Go.Proofs.YtlddmagfbcomgaaGreat
namespace Go.Proofs.YtlddmagfbcomgaaGreat
open Go.RowKit
def isFence (x:Ins):Bool:=x.op==4
def dropI (r:List Ins):List Ins:=r.filter fun x => !isFence x
def dropP (p:List (List Ins)):List (List Ins):=p.map dropI
def dropV (p:List (List Ins)):List (List Ins):=if progValid p=true then dropP p else []
theorem dropI_length (r:List Ins):(dropI r).length≤r.length:=List.length_filter_le _ _
theorem dropP_flatten (p:List (List Ins)):(dropP p).flatten.length≤p.flatten.length:=by
 unfold dropP
 induction p with
 | nil=>exact Nat.le_refl _
 | cons r p ih =>
  have:=dropI_length r
  simp at ih ⊢;omega
theorem dropTest:Tests_i_DropFences_1 isFence:=by
 intro x w
 obtain ⟨x0,x1,x2,x3⟩:=x
 go_enter Tryz.func90,Tryz.ntmps90
 go_wp2
 go_ret
 exact ⟨rfl,(Below.refl _ _).alloc (Nat.le_refl _) _⟩
theorem DropFences_any (v:Value) (p:List (List Ins)) (w:World) (hp:RepP w v p) (hl:p.flatten.length≤1048576) :
 Calls Tryz.prog 36 #[v] w (RetOwn2B InsE 71 74 w (dropV p) (progValid p)):=by
 have HP:=hide hp;clear hp
 have HV:=hide (fun w' h=>ProgramValid_any v p w' h hl)
 have E2:Hid (dropV p=if progValid p=true then dropP p else []):=hide rfl
 generalize hb:progValid p=b at *
 have B:=hide hb;clear hb
 cases b
 ·go_enter Tryz.func36,Tryz.ntmps36
  go_wp2_with (go_at_call 35;(with_reducible refine (HV.out _ HP.out).mono ?_);rintro e w1 ⟨rfl,hb1⟩)
  go_ret2
  rw [E2.out]
  exact ⟨_,rfl,Own2.nil _ _ _ _,hb1⟩
 ·obtain ⟨hv1,hv2, -, -, -⟩:=valid_le B.out
  have HR:=hide (row_of_valid B.out)
  generalize hn:p.length=n at *
  have H:=hide hn;clear hn
  go_enter Tryz.func36,Tryz.ntmps36
  go_wp2_with fail
  (with_reducible refine (HV.out _ HP.out).mono ?_);rintro e w1 ⟨rfl,hb1⟩
  go_wp2_with fail
  (with_reducible refine (cloneProgram_any v p w1 (HP.out.below hb1) (by rw [H.out];omega) HR.out).mono ?_);rintro e w2 ⟨u,rfl,hu,hb2⟩
  have hb2:=Below.next hb1 hb2
  obtain ⟨us,hU, -⟩:=hu.told
  have hul:=hU.1
  rcases hU.2.1.shape with ⟨-,h0⟩ | ⟨g,cap,rfl,hg1,hg2,hc1,hc2⟩
  ·exfalso;rw [h0,H.out] at hul;simp at hul;omega
  ·have hln:us.length=n:=hul.trans H.out
   rw [hln] at hU hc1 ⊢
   clear hu hul
   have HU:=hide hU;clear hU
   go_wp2_with fail
   go_loopw [13] (fun i wr => ∃ j:Nat,j≤n∧i = .int .i64 j∧(∃ us,Own2U InsE 71 74 us wr w1.heap.size (.slice (some ⟨g,0,none⟩) n cap) (mapPre dropI j p))∧Below w.heap.size w wr) (fun i _=>n - (intOf i).toNat)
   case atStart=>exact ⟨0,by omega,rfl,⟨us,by rw [mapPre_zero];exact HU.out⟩,hb2⟩
   case round =>
    obtain ⟨j,hj,rfl,⟨us',ho⟩,hb⟩:=hrel
    by_cases hlt:j < n
    ·obtain ⟨x,hxk⟩:=get_of_lt (xs:=p) (k:=j) (by rw [H.out];exact hlt)
     have hlt':=nat_of_lt hlt
     obtain ⟨s,hs,hgl,f0,hrow, -⟩:=ho.row (mapPre_get hxk)
     have hxl:=HR.out x (List.mem_of_getElem? hxk)
     have hlo:=hrow.lo
     have hfrz:=ho.2.1.frozen j
     have hgne:some g≠s.v.ownBlock:=fun e=>own_ne (by decide) ho.2.1 hrow g e.symm rfl
     have X:=hide hxk;have HS:=hide hs;have RW:=hide hrow;have HLO:=hide hlo;have HGN:=hide hgne;have HO:=hide ho
     clear hxk hs hrow hlo hgne ho
     have f1:wr.cell? ⟨g,j,none⟩=some s.v:=f0
     go_wp2_with fail
     (with_reducible refine (DeleteFunc_i_DropFences_1 s.v x isFence wr w1.heap.size RW.out hxl dropTest).mono ?_);rintro e w3 ⟨v',rfl,ho3,hgr,hbk⟩
     obtain ⟨s',rfl, -⟩:=ho3.toSlc
     have f2:=hgr.cell f1 HGN.out
     have hfr2:w3.frozen? ⟨g,j,none⟩=false:=(World.frozen?_of_block (w:=wr) (hgr.block g hgl HGN.out)).trans hfrz
     have hgl3:g < w3.heap.size:=lt_of_cell f2
     have hput:=HO.out.rowput HS.out ho3 hgr hbk
     have hput2:Own2U InsE 71 74 (us'.set j s') (w3.setCell ⟨g,j,none⟩ s'.v) w1.heap.size (.slice (some ⟨g,0,none⟩) n cap) (mapPre dropI (j+1) p):=by
      rw [← mapPre_set X.out];exact hput
     have hb3:=hb.grown hgr hb.size (fun k hk=>by have:=(HLO.out k hk).1;have:=hb1.size;omega)
     have HP2:=hide hput2
     clear hput hput2 hbk f0 f1
     go_wp2_with fail
     go_roundw
     case rel=>exact ⟨j+1,by omega,by go_num,⟨_,HP2.out⟩,hb3.setCell (by have:=hb1.size;simp;omega) _⟩
     case measure=>simp [intOf];omega
    ·rw [mapPre_all (by rw [H.out];omega)] at ho
     go_wp2_with fail
     go_ret2
     rw [E2.out]
     exact ⟨_,rfl,(Own2.mono ho.own hb1.size),hb⟩
end Go.Proofs.YtlddmagfbcomgaaGreat
namespace Go.Proofs.YtlddmagfbcomgaaGreat
open Go.RowKit
end Go.Proofs.YtlddmagfbcomgaaGreat
namespace Go.Proofs.YtlddmagfbcomgaaGreat
open Go.RowKit
end Go.Proofs.YtlddmagfbcomgaaGreat
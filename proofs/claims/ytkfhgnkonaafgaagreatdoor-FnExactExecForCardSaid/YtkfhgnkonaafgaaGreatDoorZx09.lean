/-
  slices.DeleteFunc on numbers at the closure of allExecs. Condition: the function value tests as told.
-/
import Derived.Test.YtkfhgnkonaafgaaGreatDoorZx05
set_option maxHeartbeats 6400000
set_option maxRecDepth 100000
namespace Go.Proofs.YtkfhgnkonaafgaaGreatDoor
open Go.RowKit
theorem below_of_rowK {B g:Nat} {w w':World} (h:w.grownBy w' (some g)) (hg:B≤g) (hs:B≤w.heap.size):Below B w w':=⟨h.os,h.tape,h.output,h.size,fun k hk=>h.block k (by omega) (by simp;omega)⟩
theorem DelPost.toSlc {w w':World} {base:Nat} {T:TypeId} {v:Value} {ys:List Int} {e:Ending} (h:DelPost IntE T w base v ys e w'):∃ u:Slc,e = .returned (.slice u.a u.n u.cap)∧Own IntE T w' base u.v ys∧w.grownBy w' v.ownBlock:=by
 obtain ⟨v',rfl,h1,h2, -⟩:=h
 obtain ⟨u,rfl, -⟩:=h1.toSlc
 exact ⟨u,rfl,h1,h2⟩
def TestsN (a1:Addr) (f:Int→Bool) (w0:World):Prop:=∀ (x:Int) (w:World),Below w0.heap.size w0 w→Calls Tryz.prog 99 #[.int .i64 x, .pointer (some a1)] w fun e w'=>e = .returned (.bool (f x))∧Below w.heap.size w w'
theorem testsN (b i:Nat) (w0:World) (h:w0.cell? ⟨b,0,none⟩=some (.int .i64 i)):TestsN ⟨b,0,none⟩ (fun k=>k==(i:Int)) w0:=by
 intro x w hb
 have f0:=(hb.cell (p:=⟨b,0,none⟩) (lt_of_cell h)).trans h
 clear h
 go_enter Tryz.func99,Tryz.ntmps99
 go_wp2
 go_ret
 exact ⟨rfl,Below.refl _ _⟩
theorem IndexFunc_ae (a1:Addr) (v:Value) (xs:List Int) (f:Int→Bool) (w0 w:World) (hx:Rep IntE w v xs) (hf:TestsN a1 f w0) (hw:Below w0.heap.size w0 w) :
 Calls Tryz.prog 118 #[v, .func (.func 99) #[] #[.pointer (some a1)]] w fun e w'=>(∃ q:Int,e = .returned (.int .i64 q)∧IdxOfS f xs q)∧Below w.heap.size w w':=by
 obtain ⟨a,c,rfl,hc1,hc2,hc3,hx⟩:=hx.open
 have HX:=hide hx;clear hx
 have HF:=hide hf;clear hf
 generalize hn:xs.length=n at *
 have H:=hide hn;clear hn
 go_enter Tryz.func118,Tryz.ntmps118
 go_wp2_with fail
 go_loopw [8] (fun i wr => ∃ t:Nat,t≤n∧i = .int .i64 t∧Hid (∀ x∈xs.take t,f x=false)∧Below w.heap.size w wr) (fun i _=>n - (intOf i).toNat)
 case atStart=>exact ⟨0,Nat.zero_le _,rfl,hide (by simp),Below.refl _ _⟩
 case round =>
  obtain ⟨t,ht,rfl,hno,hb⟩:=hrel
  by_cases hlt:t < n
  ·obtain ⟨x,hxk⟩:=get_of_lt (xs:=xs) (k:=t) (by rw [H.out];exact hlt)
   obtain ⟨b,o,rfl,hbl,i0⟩:=(HX.out.below hb).int hxk
   have hlt':=nat_of_lt hlt
   have X:=hide hxk;clear hxk
   generalize hfx:f x=fx
   have FX:=hide hfx;clear hfx
   have hcall:=HF.out x _ (hw.trans (hb.mono hw.size))
   rw [FX.out] at hcall
   have HC:=hide hcall;clear hcall
   cases fx
   ·have NO:Hid (∀ x∈xs.take (t+1),f x=false):=hide (none_succS hno.out X.out FX.out)
    go_wp2_with fail
    (with_reducible refine HC.out.mono ?_);rintro e w2 ⟨rfl,hb2⟩
    go_wp2_with fail
    go_roundw
    case rel=>exact ⟨t+1,by omega,by go_num,NO,hb.trans (hb2.mono hb.size)⟩
    case measure=>simp [intOf];omega
   ·go_wp2_with fail
    (with_reducible refine HC.out.mono ?_);rintro e w2 ⟨rfl,hb2⟩
    go_wp2_with fail
    go_ret
    exact ⟨⟨_,rfl, .inr ⟨t,x,rfl,X.out,FX.out,hno.out⟩⟩,hb.trans (hb2.mono hb.size)⟩
  ·go_wp2_with fail
   go_ret
   refine ⟨⟨_,rfl, .inl ⟨rfl, ?_⟩⟩,hb⟩
   have h:=hno.out
   rwa [List.take_of_length_le (by rw [H.out];omega)] at h
theorem DeleteFunc_ae (a1:Addr) (v:Value) (xs:List Int) (f:Int→Bool) (w0 w:World) (base:Nat) (hx:Own IntE 3 w base v xs) (hl:xs.length≤1048576) (hf:TestsN a1 f w0) (hw:Below w0.heap.size w0 w) (hbase:w0.heap.size≤base) :
 Calls Tryz.prog 97 #[v, .func (.func 99) #[] #[.pointer (some a1)]] w fun e w'=>DelPost IntE 3 w base v (xs.filter fun x => !f x) e w':=by
 have DP:Hid (∀ v' w',Own IntE 3 w' base v' (xs.filter fun x => !f x)→w.grownBy w' v.ownBlock→v'.ownBlock=v.ownBlock→DelPost IntE 3 w base v (xs.filter fun x => !f x) (.returned v') w'):=hide (fun v' w' h1 h2 h3=>⟨v',rfl,h1,h2,h3⟩)
 have HF:=hide hf;clear hf
 have HX:=hide hx;clear hx
 have HI:=hide (fun h=>IndexFunc_ae a1 v xs f w0 w h HF.out hw)
 generalize hG:(xs.filter fun x => !f x)=G at *
 have HG:=hide hG;clear hG
 go_enter Tryz.func97,Tryz.ntmps97
 go_wp2_with fail
 (with_reducible refine (HI.out HX.out.rep).mono ?_);rintro e w1 ⟨⟨q,rfl,hq⟩,hb1⟩
 have HX1:=hide (HX.out.below hb1)
 have hg1:=grown_of_below hb1 v.ownBlock
 rcases hq with ⟨rfl,hno⟩ | ⟨t,x0,rfl,ht,hft,hno⟩
 ·have e1:G=xs:=by rw [← HG.out];exact filter_all (fun x h=>by rw [hno x h];rfl)
  have HE:=hide e1;clear e1 hno
  go_wp2_with fail
  go_ret
  exact DP.out _ _ (by rw [HE.out];exact HX1.out) hg1 rfl
 ·rcases HX.out.shape with ⟨-,rfl⟩ | ⟨g,c,rfl,hg,hgl,hc1,hc2⟩
  ·simp at ht
  ·have htl:=(List.getElem?_eq_some_iff.1 ht).1
   have hstart:=del_start ht hft hno
   have ST:=hide hstart;clear hstart ht hft hno
   generalize hn:xs.length=n at *
   have H:=hide hn;clear hn
   have htl':=nat_of_lt htl
   have hm1:((t:Int) == -1)=false:=by rw [beq_eq_false_iff_ne];omega
   go_wp2_with fail
   go_loopw [5,6] (fun si sj wr => ∃ (i j:Nat) (L:List Int),i < j∧j≤n∧si = .int .i64 i∧sj = .int .i64 j∧Own IntE 3 wr base (.slice (some ⟨g,0,none⟩) n c) L∧Hid (DelInv f xs L i j)∧w.grownBy wr (some g)) (fun _ sj _=>n - (intOf sj).toNat)
   case atStart=>exact ⟨t,t+1,xs,by omega,by omega,rfl,rfl,HX1.out,hide ST.out,hg1⟩
   case round =>
    obtain ⟨i,j,L,hij,hj,rfl,rfl,ho,hI,hgr⟩:=hrel
    have hLl:L.length=n:=ho.len.symm
    have HLL:=hide hLl;clear hLl
    have hbr:=hw.trans (below_of_rowK hgr (by omega) hw.size)
    by_cases hlt:j < n
    ·obtain ⟨x,hxk⟩:=get_of_lt (xs:=xs) (k:=j) (by rw [H.out];exact hlt)
     have hLj:=hI.out.get hxk
     obtain ⟨y,hyi⟩:=get_of_lt (xs:=L) (k:=i) (by rw [HLL.out];omega)
     obtain ⟨-,m0, -⟩:=ho.int hyi
     obtain ⟨hgl2,j0,hfr⟩:=ho.int hLj
     have hset:=ho.setInt hyi x
     have hlt':=nat_of_lt hlt
     have hij':=nat_of_lt hij
     have X:=hide hxk;have SET:=hide hset;have YI:=hide hyi;have LJ:=hide hLj
     clear hxk hset hyi hLj
     have hcall:=HF.out x _ hbr
     generalize hfx:f x=fx at *
     have FX:=hide hfx;have HC:=hide hcall
     clear hfx hcall
     cases fx
     ·have KEEP:=hide (hI.out.keep hij X.out FX.out)
      go_wp2_with fail
      (with_reducible refine HC.out.mono ?_);rintro e w2 ⟨rfl,hb2⟩
      obtain ⟨hc2,hf2⟩:=bcell hb2
      have hsz2:wr.heap.size≤w2.heap.size:=hb2.size
      have hset2:=ho.below hb2
      have hset3:=hset2.setInt YI.out x
      have S3:=hide hset3;clear hset2 hset3
      have hgr2:=grown_trans hgr (grown_of_below hb2 (some g))
      go_wp2_with fail
      go_roundw
      case rel=>exact ⟨i+1,j+1,L.set i x,by omega,by omega,by go_num,by go_num,S3.out,hide KEEP.out,grown_set hgr2 _ _⟩
      case measure=>simp [intOf];omega
     ·have SKIP:=hide (hI.out.skip X.out FX.out)
      go_wp2_with fail
      (with_reducible refine HC.out.mono ?_);rintro e w2 ⟨rfl,hb2⟩
      have hset2:=ho.below hb2
      have hgr2:=grown_trans hgr (grown_of_below hb2 (some g))
      go_wp2_with fail
      go_roundw
      case rel=>exact ⟨i,j+1,L,by omega,by omega,rfl,by go_num,hset2,hide SKIP.out,hgr2⟩
      case measure=>simp [intOf];omega
    ·have e:j=n:=by omega
     subst e
     have hin:=hij
     have hin':=nat_of_lt hij
     have hic:i≤c:=by omega
     have DONE:=hide (hI.out.done (by rw [H.out];exact Nat.le_refl _))
     go_wp2_with (refine wpList_clear IntE 3 0 Tryz.infoInt rfl Tryz.underlying24 base g _ c i _ L ho hin rfl _ rfl (by rw [show i * IntE.sz=i from Nat.mul_one i];rfl) ?_;intro w3 ho3 hgr3)
     go_ret
     have hcut:=ho3.cut (i:=i) (by omega)
     have hLi:(L.take i).length=i:=by rw [List.length_take,HLL.out];omega
     rw [List.take_append_of_le_length (by omega),List.take_take,Nat.min_self,DONE.out,HG.out] at hcut
     exact DP.out _ _ hcut (grown_trans hgr hgr3) rfl
end Go.Proofs.YtkfhgnkonaafgaaGreatDoor
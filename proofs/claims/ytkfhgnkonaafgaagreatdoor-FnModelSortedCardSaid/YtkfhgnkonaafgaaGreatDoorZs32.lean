/-
  The reference's texts of expressions, and what it reads. Condition: a bound on the text, the expression is valid.
-/
import Derived.Test.YtkfhgnkonaafgaaGreatDoorZs29
import Derived.Test.YtkfhgnkonaafgaaGreatDoorZs28
import Derived.Test.YtkfhgnkonaafgaaGreatDoorZs08
import Derived.Test.YtkfhgnkonaafgaaGreatDoorZs19
import Derived.Test.YtkfhgnkonaafgaaGreatDoorZs15
import Derived.Test.YtkfhgnkonaafgaaGreatDoorZs22
import Derived.Test.YtkfhgnkonaafgaaGreatDoorZs26
set_option maxHeartbeats 6400000
set_option maxRecDepth 100000
namespace Go.Proofs.YtkfhgnkonaafgaaGreatDoor
open Go.RowKit
def SPairAt (p:List (List Ins)) (x:Xc) (nm:ByteArray) (f:Nat→Nat→Bool):Prop:=∀ (pv:Value) (f1 o1 la:Option Addr) (f2 f3 o2 o3 lc:Nat) (i k:Nat) (w:World),RepP w pv p→RepX w (.slice f1 f2 f3) (.slice o1 o2 o3) x→Rep EvE w (.slice la (evAll p).length lc) (evAll p)→i < (evAll p).length→k < (evAll p).length →
 Calls Tryz.prog 194 #[pv, .agg #[.slice f1 f2 f3, .slice o1 o2 o3], .slice la (evAll p).length lc, .string nm, .int .i64 i, .int .i64 k] w fun e w'=>e = .returned (.bool (f i k))∧Below w.heap.size w w'
theorem sPairAt_any {p:List (List Ins)} {x:Xc} (hX:execOk p x=true) {nm:ByteArray} (hn:isName nm=true):SPairAt p x nm (relN p x (nameId nm)):=by
 have h1:=name_at hn
 have hlt:nameId nm < 10:=(List.getElem?_eq_some_iff.1 h1).1
 generalize nameId nm=c at *
 intro pv f1 o1 la f2 f3 o2 o3 lc i k w a1 a2 a3 a4 a5
 have hc:c=0∨c=1∨c=2∨c=3∨c=4∨c=5∨c=6∨c=7∨c=8∨c=9:=by omega
 rcases hc with rfl | rfl | rfl | rfl | rfl | rfl | rfl | rfl | rfl | rfl <;> obtain rfl:=(Option.some.inj h1)
 ·exact l6Pair_plain _ 0 (hide (.inl ⟨rfl,rfl⟩)) pv f1 o1 la f2 f3 o2 o3 lc p x i k w a1 a2 a3 a4 a5
 ·exact l6Pair_plain _ 1 (hide (.inr (.inl ⟨rfl,rfl⟩))) pv f1 o1 la f2 f3 o2 o3 lc p x i k w a1 a2 a3 a4 a5
 ·exact l6Pair_plain _ 2 (hide (.inr (.inr (.inl ⟨rfl,rfl⟩)))) pv f1 o1 la f2 f3 o2 o3 lc p x i k w a1 a2 a3 a4 a5
 ·exact l6Pair_rf pv f1 o1 la f2 f3 o2 o3 lc p x i k w a1 a2 a3 a4 a5 hX
 ·exact l6Pair_co pv f1 o1 la f2 f3 o2 o3 lc p x i k w a1 a2 a3 a4 a5 hX
 ·exact l6Pair_fr pv f1 o1 la f2 f3 o2 o3 lc p x i k w a1 a2 a3 a4 a5 hX
 ·exact l6Pair_fence pv f1 o1 la f2 f3 o2 o3 lc p x i k w a1 a2 a3 a4 a5
 ·exact l6Pair_plain _ 7 (hide (.inr (.inr (.inr (.inl ⟨rfl,rfl⟩))))) pv f1 o1 la f2 f3 o2 o3 lc p x i k w a1 a2 a3 a4 a5
 ·exact l6Pair_plain _ 8 (hide (.inr (.inr (.inr (.inr (.inl ⟨rfl,rfl⟩)))))) pv f1 o1 la f2 f3 o2 o3 lc p x i k w a1 a2 a3 a4 a5
 ·exact l6Pair_plain _ 9 (hide (.inr (.inr (.inr (.inr (.inr (⟨rfl,rfl⟩))))))) pv f1 o1 la f2 f3 o2 o3 lc p x i k w a1 a2 a3 a4 a5
theorem l6Rel_any (pv:Value) (f1 o1:Option Addr) (f2 f3 o2 o3:Nat) (nm:ByteArray) (p:List (List Ins)) (x:Xc) (f:Nat→Nat→Bool) (w:World) (hI:SPairAt p x nm f) (hp:RepP w pv p) (hx:RepX w (.slice f1 f2 f3) (.slice o1 o2 o3) x) (hpv:progValid p=true) (hl:p.flatten.length≤1048576) :
 Calls Tryz.prog 152 #[pv, .agg #[.slice f1 f2 f3, .slice o1 o2 o3], .string nm] w (RetOwn IntE 3 w (relOf (evAll p).length f)):=by
 obtain ⟨pa,pc,rfl, -, -, -, -⟩:=hp.open
 have hen:=evAll_le hpv
 have HP:=hide hp;have HX:=hide hx
 have HE:=hide (fun w' h=>l6Events_any (.slice pa p.length pc) p w' h hl)
 have HIS:=hide hI
 clear hp hx hI
 have HBX:=hide (belowAlloc w (.cells #[.slice f1 f2 f3, .slice o1 o2 o3] 29))
 have X1:=hide (heap_alloc_new w (.cells #[.slice f1 f2 f3, .slice o1 o2 o3] 29))
 generalize hW:w.alloc (.cells #[.slice f1 f2 f3, .slice o1 o2 o3] 29)=W0 at *
 have x0:W0.cell? ⟨w.heap.size,0,none⟩=some (.slice f1 f2 f3):=cell_of_heapV X1.out (k:=0) rfl
 have x1:W0.cell? ⟨w.heap.size,1,none⟩=some (.slice o1 o2 o3):=cell_of_heapV X1.out (k:=1) rfl
 have xl:=lt_of_cell x0
 go_enter Tryz.func152,Tryz.ntmps152
 go_wp2_with fail
 clear hW X1
 (with_reducible refine (HE.out _ (HP.out.below HBX.out)).mono ?_);rintro e w2 ⟨v2,rfl,o2',hb2'⟩
 have x0':=(hb2'.cell (p:=⟨w.heap.size,0,none⟩) xl).trans x0
 have x1':=(hb2'.cell (p:=⟨w.heap.size,1,none⟩) xl).trans x1
 have xl':=lt_of_cell x0'
 have XX0:=hide x0';have XX1:=hide x1'
 have hb2:=HBX.out.trans (hb2'.mono HBX.out.size)
 obtain ⟨a2,c2,rfl, -, -, -, -⟩:=o2'.rep.open
 have HSP:=hide (fun (i k:Nat) (W:World) (hb:Below w2.heap.size w2 W) (hi:i < (evAll p).length) (hk:k < (evAll p).length)=>HIS.out (.slice pa p.length pc) f1 o1 a2 f2 f3 o2 o3 c2 i k W ((HP.out.below hb2).below hb) ((HX.out.below hb2).below hb) (o2'.rep.below hb) hi hk)
 clear HIS HE x0 x1 xl x0' x1' hb2'
 generalize (evAll p).length=n at *
 have hown:=Own.empty (E:=IntE) 3 w2 (Nat.le_refl _)
 have hb3:=(Below.refl w2.heap.size w2).alloc (Nat.le_refl _) (.cells #[] 3)
 have HB2:=hide hb2
 clear o2' hb2
 go_wp2_with fail
 go_loopw [8,9] (fun s i wr => ∃ t:Nat,t≤n∧i = .int .i64 t∧OwnN wr w2.heap.size s ((relOf n f).take t)∧Below w2.heap.size w2 wr) (fun _ i _=>n - (intOf i).toNat)
 case atStart=>exact ⟨0,by omega,rfl,by simpa using hown,hb3⟩
 case round =>
  obtain ⟨t,ht,rfl,ho,hbw⟩:=hrel
  by_cases hlt:t < n
  ·have hlt':=nat_of_lt hlt
   have TS:Hid ((relOf n f).take (t+1)=(relOf n f).take t++[bitsTo (f t) n]):=hide (by rw [List.take_add_one,relOf_get hlt];rfl)
   have TL:((relOf n f).take t).length≤68719476736:=by rw [List.length_take,relOf_length];omega
   generalize (relOf n f).take t=G at *
   have HO:=hide ho;clear ho
   go_wp2_with fail
   go_loopw [10,11] (fun q i wr => ∃ k:Nat,k≤n∧i = .int .i64 k∧q = .int .i64 (bitsTo (f t) k)∧OwnN wr w2.heap.size u8 G∧Below w2.heap.size w2 wr) (fun _ i _=>n - (intOf i).toNat)
   case atStart=>exact ⟨0,by omega,rfl,rfl,HO.out,hbw⟩
   case round =>
    obtain ⟨k,hk,rfl,rfl,ho,hbw⟩:=hrel
    by_cases hlt2:k < n
    ·have hlt2':=nat_of_lt hlt2
     have HC:=hide (HSP.out t k wr hbw hlt hlt2)
     have y0:=(hbw.cell (p:=⟨w.heap.size,0,none⟩) xl').trans XX0.out
     have y1:=(hbw.cell (p:=⟨w.heap.size,1,none⟩) xl').trans XX1.out
     have yl:=lt_of_cell y0
     have BS:Hid (bitsTo (f t) (k+1)=if f t k=true then bits .or .i64 (bitsTo (f t) k) (wrap64 ((2:Int) ^ k)) else bitsTo (f t) k):=hide rfl
     have HOO:=hide ho
     generalize bitsTo (f t) k=row at *
     generalize hrow2:bitsTo (f t) (k+1)=row2 at *
     have RW2:=hide hrow2;clear hrow2
     generalize f t k=R at *
     clear ho
     cases R
     ·obtain rfl:row2=row:=by rw [BS.out];rfl
      go_wp2_with fail
      (with_reducible refine HC.out.mono ?_);rintro e w5 ⟨rfl,hb5⟩
      go_wp2_with fail
      go_roundw
      case rel=>exact ⟨k+1,by omega,by go_num,by rw [RW2.out],HOO.out.below hb5,hbw.trans (hb5.mono hbw.size)⟩
      case measure=>simp [intOf];omega
     ·obtain rfl:row2=bits .or .i64 row (wrap64 ((2:Int) ^ k)):=by rw [BS.out];rfl
      go_wp2_with fail
      (with_reducible refine HC.out.mono ?_);rintro e w5 ⟨rfl,hb5⟩
      go_wp2_with fail
      go_roundw
      case rel=>exact ⟨k+1,by omega,by go_num,by rw [RW2.out],HOO.out.below hb5,hbw.trans (hb5.mono hbw.size)⟩
      case measure=>simp [intOf];omega
    ·have e:k=n:=by omega
     rw [e]
     go_wp2_with (at_builtin;refine wpList_app IntE 3 Tryz.infoInt rfl Tryz.underlying24 w2.heap.size _ _ (bitsTo (f t) n) (ho.alloc _) (by decide) TL (by simp;have:=hbw.size;omega) rfl _ _ rfl rfl wr.heap.size 0 1 rfl news_alloc ?_;intro v' w1 hown1 hgr1)
     have hb1:=below_app hbw ho hgr1
     go_roundw
     case rel=>exact ⟨t+1,by omega,by go_num,by rw [TS.out];exact hown1,hb1⟩
     case measure=>simp [intOf];omega
  ·have e:t=n:=by omega
   rw [e,List.take_of_length_le (by rw [relOf_length];exact Nat.le_refl _)] at ho
   go_wp2_with fail
   go_ret
   exact ⟨_,rfl,ho.mono HB2.out.size,HB2.out.trans (hbw.mono HB2.out.size)⟩
end Go.Proofs.YtkfhgnkonaafgaaGreatDoor
namespace Go.Proofs.YtkfhgnkonaafgaaGreatDoor
open Go.RowKit
theorem node_cases {c:Re} (h:nodeE c=true):(c.op=1∧isName c.nm=true)∨((c.op=6∨c.op=7)∧∃ k,c.kids=[k])∨((c.op=2∨c.op=3∨c.op=4∨c.op=5)∧∃ k k',c.kids=[k,k']):=by
 unfold nodeE nodeO at h
 simp only [Bool.and_eq_true,beq_iff_eq] at h
 obtain ⟨h1,h2, -⟩:=h
 unfold kidsO at h1
 split at h1
 ·rename_i e
  exact .inl ⟨e,by rw [← h2];simp [e]⟩
 ·split at h1
  ·rename_i e
   refine .inr (.inr ⟨e, ?_⟩)
   match hk:c.kids,h1 with
   | [k,k'],_=>exact ⟨k,k',rfl⟩
   | [],h1=>simp at h1
   | [_],h1=>simp at h1
   | _ :: _ :: _ :: _,h1=>simp at h1;omega
  ·split at h1
   ·rename_i e
    refine .inr (.inl ⟨e, ?_⟩)
    match hk:c.kids,h1 with
    | [k],_=>exact ⟨k,rfl⟩
    | [],h1=>simp at h1
    | _ :: _ :: _,h1=>simp at h1;omega
   ·omega
abbrev RetRel (w:World) (n:Nat) (f:Nat→Nat→Bool):Ending→World→Prop:=RetOwn IntE 3 w (relOf n f)
theorem iEval_1 (pv:Value) (f1 o1:Option Addr) (f2 f3 o2 o3:Nat) (nm:ByteArray) (a:Option Addr) (kn cp:Nat) (n:Nat) (f:Nat→Nat→Bool) (w:World)
 (hk:∀ w',Below w.heap.size w w'→Calls Tryz.prog 183 #[pv, .agg #[.slice f1 f2 f3, .slice o1 o2 o3], .string nm] w' (RetRel w' n f)) :
 Calls Tryz.prog 141 #[pv, .agg #[.slice f1 f2 f3, .slice o1 o2 o3], .agg #[.int .i64 1, .string nm, .slice a kn cp]] w (RetRel w n f):=by
 have HB1:=hide (belowAlloc w (.cells #[.slice f1 f2 f3, .slice o1 o2 o3] 29))
 have X1:=hide (heap_alloc_new w (.cells #[.slice f1 f2 f3, .slice o1 o2 o3] 29))
 have hz1:(w.alloc (.cells #[.slice f1 f2 f3, .slice o1 o2 o3] 29)).heap.size=w.heap.size+1:=by simp
 have HB2:=hide (belowAlloc (w.alloc (.cells #[.slice f1 f2 f3, .slice o1 o2 o3] 29)) (.cells #[.int .i64 1, .string nm, .slice a kn cp] 75))
 have X2:=hide (heap_alloc_new (w.alloc (.cells #[.slice f1 f2 f3, .slice o1 o2 o3] 29)) (.cells #[.int .i64 1, .string nm, .slice a kn cp] 75))
 rw [hz1] at X2
 have Y1:=hide ((HB2.out.block w.heap.size (by omega)).trans X1.out)
 have HB:=hide (HB1.out.trans (HB2.out.mono HB1.out.size))
 generalize hW:(w.alloc (.cells #[.slice f1 f2 f3, .slice o1 o2 o3] 29)).alloc (.cells #[.int .i64 1, .string nm, .slice a kn cp] 75)=W at *
 have x0:W.cell? ⟨w.heap.size,0,none⟩=some (.slice f1 f2 f3):=cell_of_heapV Y1.out (k:=0) rfl
 have x1:W.cell? ⟨w.heap.size,1,none⟩=some (.slice o1 o2 o3):=cell_of_heapV Y1.out (k:=1) rfl
 have e0:W.cell? ⟨w.heap.size+1,0,none⟩=some (.int .i64 1):=cell_of_heapV X2.out (k:=0) rfl
 have e1:W.cell? ⟨w.heap.size+1,1,none⟩=some (.string nm):=cell_of_heapV X2.out (k:=1) rfl
 have e2:W.cell? ⟨w.heap.size+1,2,none⟩=some (.slice a kn cp):=cell_of_heapV X2.out (k:=2) rfl
 have xl:=lt_of_cell x0
 have el:=lt_of_cell e0
 clear HB1 HB2 X1 hz1
 have HK:=hide (hk _ HB.out)
 clear hk
 go_enter Tryz.func141,Tryz.ntmps141
 go_wp2_with fail
 clear hW
 (with_reducible refine HK.out.mono ?_);rintro e w2 ⟨v2,rfl,o2',hb2⟩
 have HO:=hide (o2'.mono HB.out.size);have HB2:=hide (HB.out.trans (hb2.mono HB.out.size))
 clear o2' hb2
 go_wp2_with fail
 go_ret
 exact ⟨_,rfl,HO.out,HB2.out⟩
theorem iEval_un (op:Int) (n:Nat) (hn:n≤16) (pv:Value) (f1 o1:Option Addr) (f2 f3 o2 o3:Nat) (nm:ByteArray) (b q cp:Nat) (k0:Int) (kn:ByteArray) (ka:Option Addr) (kl kc:Nat) (f F:Nat→Nat→Bool) (w:World) (hop:Hid ((op=6∧F=fInv f)∨(op=7∧F=fClo n f))) (i0:w.cell? ⟨b,q,none⟩=some (.int .i64 k0)) (i1:w.cell? ⟨b,q+1,none⟩=some (.string kn)) (i2:w.cell? ⟨b,q+2,none⟩=some (.slice ka kl kc))
 (hk:∀ w',Below w.heap.size w w'→Calls Tryz.prog 141 #[pv, .agg #[.slice f1 f2 f3, .slice o1 o2 o3], .agg #[.int .i64 k0, .string kn, .slice ka kl kc]] w' (RetRel w' n f)) :
 Calls Tryz.prog 141 #[pv, .agg #[.slice f1 f2 f3, .slice o1 o2 o3], .agg #[.int .i64 op, .string nm, .slice (some ⟨b,q,none⟩) 1 cp]] w (RetRel w n F):=by
 have g1:(op==1)=false:=by have:=hop.out;rw [beq_eq_false_iff_ne];omega
 have HB1:=hide (belowAlloc w (.cells #[.slice f1 f2 f3, .slice o1 o2 o3] 29))
 have X1:=hide (heap_alloc_new w (.cells #[.slice f1 f2 f3, .slice o1 o2 o3] 29))
 have hz1:(w.alloc (.cells #[.slice f1 f2 f3, .slice o1 o2 o3] 29)).heap.size=w.heap.size+1:=by simp
 have HB2:=hide (belowAlloc (w.alloc (.cells #[.slice f1 f2 f3, .slice o1 o2 o3] 29)) (.cells #[.int .i64 op, .string nm, .slice (some ⟨b,q,none⟩) 1 cp] 75))
 have X2:=hide (heap_alloc_new (w.alloc (.cells #[.slice f1 f2 f3, .slice o1 o2 o3] 29)) (.cells #[.int .i64 op, .string nm, .slice (some ⟨b,q,none⟩) 1 cp] 75))
 rw [hz1] at X2
 have Y1:=hide ((HB2.out.block w.heap.size (by omega)).trans X1.out)
 have HB:=hide (HB1.out.trans (HB2.out.mono HB1.out.size))
 generalize hW:(w.alloc (.cells #[.slice f1 f2 f3, .slice o1 o2 o3] 29)).alloc (.cells #[.int .i64 op, .string nm, .slice (some ⟨b,q,none⟩) 1 cp] 75)=W at *
 have x0:W.cell? ⟨w.heap.size,0,none⟩=some (.slice f1 f2 f3):=cell_of_heapV Y1.out (k:=0) rfl
 have x1:W.cell? ⟨w.heap.size,1,none⟩=some (.slice o1 o2 o3):=cell_of_heapV Y1.out (k:=1) rfl
 have e0:W.cell? ⟨w.heap.size+1,0,none⟩=some (.int .i64 op):=cell_of_heapV X2.out (k:=0) rfl
 have e1:W.cell? ⟨w.heap.size+1,1,none⟩=some (.string nm):=cell_of_heapV X2.out (k:=1) rfl
 have e2:W.cell? ⟨w.heap.size+1,2,none⟩=some (.slice (some ⟨b,q,none⟩) 1 cp):=cell_of_heapV X2.out (k:=2) rfl
 have xl:=lt_of_cell x0
 have el:=lt_of_cell e0
 clear HB1 HB2 X1 hz1
 have j0:=(HB.out.cell (p:=⟨b,q,none⟩) (lt_of_cell i0)).trans i0
 have j1:=(HB.out.cell (p:=⟨b,q+1,none⟩) (lt_of_cell i0)).trans i1
 have j2:=(HB.out.cell (p:=⟨b,q+2,none⟩) (lt_of_cell i0)).trans i2
 have HK:=hide (hk _ HB.out.drew)
 have jl:=lt_of_cell j0
 clear i0 i1 i2 hk
 go_enter Tryz.func141,Tryz.ntmps141
 go_wp2_with fail
 clear hW
 go_region_held3 (fun V=>V.cell? ⟨w.heap.size,0,none⟩=some (.slice f1 f2 f3)∧V.cell? ⟨w.heap.size,1,none⟩=some (.slice o1 o2 o3)∧V.cell? ⟨w.heap.size+1,2,none⟩=some (.slice (some ⟨b,q,none⟩) 1 cp)∧V.cell? ⟨b,q,none⟩=some (.int .i64 k0)∧V.cell? ⟨b,q+1,none⟩=some (.string kn)∧V.cell? ⟨b,q+2,none⟩=some (.slice ka kl kc)) ((simp [go_sem, *]))
  (first
   | (go_at_call 141;(with_reducible refine HK.out.mono ?_);rintro e w1 ⟨v1,rfl,ov,hb1⟩;have HB5:=hide ((Below.refl W.heap.size W).drew.trans (hb1.mono (by simp)));have OV:=hide ov;obtain ⟨hc5,hf5⟩:=bcell HB5.out;clear ov hb1))
 all_goals
  have d0:=(HB5.out.cell (p:=⟨w.heap.size+1,0,none⟩) el).trans e0
  have dl:=lt_of_cell d0
  rcases hop.out with ⟨rfl,rfl⟩ | ⟨rfl,rfl⟩
  ·have HC:=hide (InverseRel_any v1 n f w1 OV.out.rep (by omega))
   have HB6:=hide (HB.out.trans (HB5.out.mono HB.out.size))
   clear x0 x1 e0 e1 e2 j0 j1 j2 xl el jl HB5 OV HK X2 Y1 hc5 hf5
   go_wp2_with fail
   (with_reducible refine HC.out.mono ?_);rintro e w2 ⟨v2,rfl,o2',hb2⟩
   have HO:=hide (o2'.mono HB6.out.size);have HB7:=hide (HB6.out.trans (hb2.mono HB6.out.size))
   clear o2' hb2
   go_wp2_with fail
   go_ret
   exact ⟨_,rfl,HO.out,HB7.out⟩
  ·have HC:=hide (ClosureRel_any v1 n f w1 OV.out.rep (by omega))
   have HB6:=hide (HB.out.trans (HB5.out.mono HB.out.size))
   clear x0 x1 e0 e1 e2 j0 j1 j2 xl el jl HB5 OV HK X2 Y1 hc5 hf5
   go_wp2_with fail
   (with_reducible refine HC.out.mono ?_);rintro e w2 ⟨v2,rfl,o2',hb2⟩
   have HO:=hide (o2'.mono HB6.out.size);have HB7:=hide (HB6.out.trans (hb2.mono HB6.out.size))
   clear o2' hb2
   go_wp2_with fail
   go_ret
   exact ⟨_,rfl,HO.out,HB7.out⟩
theorem iEval_bi (op:Int) (n:Nat) (hn:n≤16) (pv:Value) (f1 o1:Option Addr) (f2 f3 o2 o3:Nat) (nm:ByteArray) (b q cp:Nat) (k0 h0:Int) (kn h1:ByteArray) (ka ha:Option Addr) (kl kc hl hc:Nat) (f g F:Nat→Nat→Bool) (w:World) (hop:Hid ((op=2∧F=fOr f g)∨(op=3∧F=fAnd f g)∨(op=4∧F=fMinus f g)∨(op=5∧F=fComp n f g))) (i0:w.cell? ⟨b,q,none⟩=some (.int .i64 k0)) (i1:w.cell? ⟨b,q+1,none⟩=some (.string kn)) (i2:w.cell? ⟨b,q+2,none⟩=some (.slice ka kl kc))
 (i3:w.cell? ⟨b,q+3,none⟩=some (.int .i64 h0)) (i4:w.cell? ⟨b,q+4,none⟩=some (.string h1)) (i5:w.cell? ⟨b,q+5,none⟩=some (.slice ha hl hc))
 (hk:∀ w',Below w.heap.size w w'→Calls Tryz.prog 141 #[pv, .agg #[.slice f1 f2 f3, .slice o1 o2 o3], .agg #[.int .i64 k0, .string kn, .slice ka kl kc]] w' (RetRel w' n f))
 (hh:∀ w',Below w.heap.size w w'→Calls Tryz.prog 141 #[pv, .agg #[.slice f1 f2 f3, .slice o1 o2 o3], .agg #[.int .i64 h0, .string h1, .slice ha hl hc]] w' (RetRel w' n g)) :
 Calls Tryz.prog 141 #[pv, .agg #[.slice f1 f2 f3, .slice o1 o2 o3], .agg #[.int .i64 op, .string nm, .slice (some ⟨b,q,none⟩) 2 cp]] w (RetRel w n F):=by
 have hop2:2≤op∧op≤5:=by have:=hop.out;omega
 have g1:(op==1)=false:=by rw [beq_eq_false_iff_ne];omega
 have g6:(op==6)=false:=by rw [beq_eq_false_iff_ne];omega
 have g7:(op==7)=false:=by rw [beq_eq_false_iff_ne];omega
 clear hop2
 have HB1:=hide (belowAlloc w (.cells #[.slice f1 f2 f3, .slice o1 o2 o3] 29))
 have X1:=hide (heap_alloc_new w (.cells #[.slice f1 f2 f3, .slice o1 o2 o3] 29))
 have hz1:(w.alloc (.cells #[.slice f1 f2 f3, .slice o1 o2 o3] 29)).heap.size=w.heap.size+1:=by simp
 have HB2:=hide (belowAlloc (w.alloc (.cells #[.slice f1 f2 f3, .slice o1 o2 o3] 29)) (.cells #[.int .i64 op, .string nm, .slice (some ⟨b,q,none⟩) 2 cp] 75))
 have X2:=hide (heap_alloc_new (w.alloc (.cells #[.slice f1 f2 f3, .slice o1 o2 o3] 29)) (.cells #[.int .i64 op, .string nm, .slice (some ⟨b,q,none⟩) 2 cp] 75))
 rw [hz1] at X2
 have Y1:=hide ((HB2.out.block w.heap.size (by omega)).trans X1.out)
 have HB:=hide (HB1.out.trans (HB2.out.mono HB1.out.size))
 generalize hW:(w.alloc (.cells #[.slice f1 f2 f3, .slice o1 o2 o3] 29)).alloc (.cells #[.int .i64 op, .string nm, .slice (some ⟨b,q,none⟩) 2 cp] 75)=W at *
 have x0:W.cell? ⟨w.heap.size,0,none⟩=some (.slice f1 f2 f3):=cell_of_heapV Y1.out (k:=0) rfl
 have x1:W.cell? ⟨w.heap.size,1,none⟩=some (.slice o1 o2 o3):=cell_of_heapV Y1.out (k:=1) rfl
 have e0:W.cell? ⟨w.heap.size+1,0,none⟩=some (.int .i64 op):=cell_of_heapV X2.out (k:=0) rfl
 have e1:W.cell? ⟨w.heap.size+1,1,none⟩=some (.string nm):=cell_of_heapV X2.out (k:=1) rfl
 have e2:W.cell? ⟨w.heap.size+1,2,none⟩=some (.slice (some ⟨b,q,none⟩) 2 cp):=cell_of_heapV X2.out (k:=2) rfl
 have xl:=lt_of_cell x0
 have el:=lt_of_cell e0
 clear HB1 HB2 X1 hz1
 have j0:=(HB.out.cell (p:=⟨b,q,none⟩) (lt_of_cell i0)).trans i0
 have j1:=(HB.out.cell (p:=⟨b,q+1,none⟩) (lt_of_cell i0)).trans i1
 have j2:=(HB.out.cell (p:=⟨b,q+2,none⟩) (lt_of_cell i0)).trans i2
 have HK:=hide (hk _ HB.out.drew)
 have HH:=hide hh
 have I3:=hide i3;have I4:=hide i4;have I5:=hide i5
 have il:=lt_of_cell i0
 have jl:=lt_of_cell j0
 clear i0 i1 i2 i3 i4 i5 hk hh
 go_enter Tryz.func141,Tryz.ntmps141
 go_wp2_with fail
 clear hW
 go_region_held3 (fun V=>V.cell? ⟨w.heap.size,0,none⟩=some (.slice f1 f2 f3)∧V.cell? ⟨w.heap.size,1,none⟩=some (.slice o1 o2 o3)∧V.cell? ⟨w.heap.size+1,2,none⟩=some (.slice (some ⟨b,q,none⟩) 2 cp)∧V.cell? ⟨b,q,none⟩=some (.int .i64 k0)∧V.cell? ⟨b,q+1,none⟩=some (.string kn)∧V.cell? ⟨b,q+2,none⟩=some (.slice ka kl kc)) ((simp [go_sem, *]))
  (first
   | (go_at_call 141;(with_reducible refine HK.out.mono ?_);rintro e w1 ⟨v1,rfl,ov,hb1⟩;have HB5:=hide ((Below.refl W.heap.size W).drew.trans (hb1.mono (by simp)));have OV:=hide ov;obtain ⟨hc5,hf5⟩:=bcell HB5.out;clear ov hb1))
 all_goals
  have x0':=(HB5.out.cell (p:=⟨w.heap.size,0,none⟩) xl).trans x0
  have x1':=(HB5.out.cell (p:=⟨w.heap.size,1,none⟩) xl).trans x1
  have d0:=(HB5.out.cell (p:=⟨w.heap.size+1,0,none⟩) el).trans e0
  have d2:=(HB5.out.cell (p:=⟨w.heap.size+1,2,none⟩) el).trans e2
  have xl':=lt_of_cell x0'
  have dl:=lt_of_cell d0
  have HB6:=hide (HB.out.trans (HB5.out.mono HB.out.size))
  have k3:=(HB6.out.cell (p:=⟨b,q+3,none⟩) il).trans I3.out
  have k4:=(HB6.out.cell (p:=⟨b,q+4,none⟩) il).trans I4.out
  have k5:=(HB6.out.cell (p:=⟨b,q+5,none⟩) il).trans I5.out
  have kl':=lt_of_cell k3
  have HH1:=hide (HH.out _ HB6.out.drew)
  clear x0 x1 e0 e1 e2 j0 j1 j2 xl el jl HB5 HK X2 Y1 HH hc5 hf5
  go_wp2_with fail
  go_region_held3 (fun V=>V.cell? ⟨w.heap.size,0,none⟩=some (.slice f1 f2 f3)∧V.cell? ⟨w.heap.size,1,none⟩=some (.slice o1 o2 o3)∧V.cell? ⟨w.heap.size+1,2,none⟩=some (.slice (some ⟨b,q,none⟩) 2 cp)∧V.cell? ⟨b,q+3,none⟩=some (.int .i64 h0)∧V.cell? ⟨b,q+4,none⟩=some (.string h1)∧V.cell? ⟨b,q+5,none⟩=some (.slice ha hl hc)) ((simp [go_sem, *]))
   (first
    | (go_at_call 141;(with_reducible refine HH1.out.mono ?_);rintro e w2 ⟨v2,rfl,ov2,hb2⟩;have HB7:=hide ((Below.refl w1.heap.size w1).drew.trans (hb2.mono (by simp)));have OV2:=hide ov2;obtain ⟨hc7,hf7⟩:=bcell HB7.out;clear ov2 hb2))
  all_goals
   have d0':=(HB7.out.cell (p:=⟨w.heap.size+1,0,none⟩) dl).trans d0
   have dl':=lt_of_cell d0'
   rcases hop.out with ⟨rfl,rfl⟩ | ⟨rfl,rfl⟩ | ⟨rfl,rfl⟩ | ⟨rfl,rfl⟩
   ·have HC:=hide (UnionRel_any v1 v2 n f g w2 (OV.out.rep.below HB7.out) OV2.out.rep (by omega))
    have HB8:=hide (HB6.out.trans (HB7.out.mono HB6.out.size))
    clear x0' x1' d0 d2 xl' dl k3 k4 k5 kl' HB7 OV OV2 HH1 hc7 hf7
    go_wp2_with fail
    (with_reducible refine HC.out.mono ?_);rintro e w3 ⟨v3,rfl,o3',hb3⟩
    have HO:=hide (o3'.mono HB8.out.size);have HB9:=hide (HB8.out.trans (hb3.mono HB8.out.size))
    clear o3' hb3
    go_wp2_with fail
    go_ret
    exact ⟨_,rfl,HO.out,HB9.out⟩
   ·have HC:=hide (MeetRel_any v1 v2 n f g w2 (OV.out.rep.below HB7.out) OV2.out.rep (by omega))
    have HB8:=hide (HB6.out.trans (HB7.out.mono HB6.out.size))
    clear x0' x1' d0 d2 xl' dl k3 k4 k5 kl' HB7 OV OV2 HH1 hc7 hf7
    go_wp2_with fail
    (with_reducible refine HC.out.mono ?_);rintro e w3 ⟨v3,rfl,o3',hb3⟩
    have HO:=hide (o3'.mono HB8.out.size);have HB9:=hide (HB8.out.trans (hb3.mono HB8.out.size))
    clear o3' hb3
    go_wp2_with fail
    go_ret
    exact ⟨_,rfl,HO.out,HB9.out⟩
   ·have HC:=hide (MinusRel_any v1 v2 n f g w2 (OV.out.rep.below HB7.out) OV2.out.rep (by omega))
    have HB8:=hide (HB6.out.trans (HB7.out.mono HB6.out.size))
    clear x0' x1' d0 d2 xl' dl k3 k4 k5 kl' HB7 OV OV2 HH1 hc7 hf7
    go_wp2_with fail
    (with_reducible refine HC.out.mono ?_);rintro e w3 ⟨v3,rfl,o3',hb3⟩
    have HO:=hide (o3'.mono HB8.out.size);have HB9:=hide (HB8.out.trans (hb3.mono HB8.out.size))
    clear o3' hb3
    go_wp2_with fail
    go_ret
    exact ⟨_,rfl,HO.out,HB9.out⟩
   ·have HC:=hide (ComposeRel_any v1 v2 n f g w2 (OV.out.rep.below HB7.out) OV2.out.rep (by omega))
    have HB8:=hide (HB6.out.trans (HB7.out.mono HB6.out.size))
    clear x0' x1' d0 d2 xl' dl k3 k4 k5 kl' HB7 OV OV2 HH1 hc7 hf7
    go_wp2_with fail
    (with_reducible refine HC.out.mono ?_);rintro e w3 ⟨v3,rfl,o3',hb3⟩
    have HO:=hide (o3'.mono HB8.out.size);have HB9:=hide (HB8.out.trans (hb3.mono HB8.out.size))
    clear o3' hb3
    go_wp2_with fail
    go_ret
    exact ⟨_,rfl,HO.out,HB9.out⟩
theorem iEval_any {p:List (List Ins)} {x:Xc} (hX:execOk p x=true) (hl:p.flatten.length≤1048576):∀ (d:Nat) (c:Re) (pv:Value) (f1 o1:Option Addr) (f2 f3 o2 o3:Nat) (a:Option Addr) (kn cp:Nat) (w:World),shapeR d c=true→RepP w pv p→RepX w (.slice f1 f2 f3) (.slice o1 o2 o3) x→RepRk 0 w ⟨a,kn,cp⟩ c.kids →
 Calls Tryz.prog 141 #[pv, .agg #[.slice f1 f2 f3, .slice o1 o2 o3], .agg #[.int .i64 c.op, .string c.nm, .slice a kn cp]] w (RetRel w (evAll p).length (evalD p x d c)):=by
 have hpv:progValid p=true:=by unfold execOk at hX;simp only [Bool.and_eq_true] at hX;exact hX.1
 have hn:(evAll p).length≤16:=by have:=evAll_le hpv;omega
 intro d
 induction d with
 | zero=>intro c pv f1 o1 f2 f3 o2 o3 a kn cp w h;simp [shapeR] at h
 | succ d ih =>
  intro c pv f1 o1 f2 f3 o2 o3 a kn cp w hs hp hx hk
  obtain ⟨hne,hks⟩:=(shapeR_succ d c).1 hs
  have hkn:=hk.open.1
  simp only at hkn
  rcases node_cases hne with ⟨hop,hnm⟩ | ⟨hop,k,hkk⟩ | ⟨hop,k,k',hkk⟩
  ·have e:evalD p x (d+1) c=relN p x (nameId c.nm):=by simp only [evalD,hop,if_true]
   rw [e,hop]
   exact iEval_1 pv f1 o1 f2 f3 o2 o3 c.nm a kn cp _ _ w (fun w' hb=>relOf_any _ f1 o1 f2 f3 o2 o3 c.nm p x _ w' (isPairAt_any hX hnm) (hp.below hb) (hx.below hb) hpv hl)
  ·have h0:c.kids[0]? = some k:=by rw [hkk];rfl
   have er:kidR c 0=k:=by simp [kidR,hkk]
   obtain ⟨b,q,s,rfl,hbl,i0,i1,i2,i3⟩:=hk.kid h0
   simp only [Nat.zero_mul,Nat.add_zero] at i0 i1 i2
   obtain rfl:kn=1:=by rw [hkn,hkk];rfl
   have hkid:=fun w' (hb:Below w.heap.size w w')=>ih k pv f1 o1 f2 f3 o2 o3 s.a s.n s.cap w' (hks k (by simp [hkk])) (hp.below hb) (hx.below hb) (i3.below hb)
   rcases hop with hop | hop
   ·have e:evalD p x (d+1) c=fInv (evalD p x d k):=by simp [evalD,hop,er]
    rw [e,hop]
    exact iEval_un _ _ hn pv f1 o1 f2 f3 o2 o3 c.nm b q cp _ _ _ _ _ _ _ w (hide (.inl ⟨rfl,rfl⟩)) i0 i1 i2 hkid
   ·have e:evalD p x (d+1) c=fClo (evAll p).length (evalD p x d k):=by simp [evalD,hop,er]
    rw [e,hop]
    exact iEval_un _ _ hn pv f1 o1 f2 f3 o2 o3 c.nm b q cp _ _ _ _ _ _ _ w (hide (.inr (⟨rfl,rfl⟩))) i0 i1 i2 hkid
  ·have h0:c.kids[0]? = some k:=by rw [hkk];rfl
   have h1:c.kids[1]? = some k':=by rw [hkk];rfl
   have er:kidR c 0=k:=by simp [kidR,hkk]
   have er':kidR c 1=k':=by simp [kidR,hkk]
   obtain ⟨b,q,s,rfl,hbl,i0,i1,i2,i3⟩:=hk.kid h0
   obtain ⟨b',q',s',hbq,hbl',j0,j1,j2,j3⟩:=hk.kid h1
   simp only [Option.some.injEq,Addr.mk.injEq,and_true] at hbq
   obtain ⟨rfl,rfl⟩:=hbq
   simp only [Nat.zero_mul,Nat.add_zero,Nat.one_mul,Nat.add_assoc,Nat.reduceAdd] at i0 i1 i2 j0 j1 j2
   obtain rfl:kn=2:=by rw [hkn,hkk];rfl
   have hkid:=fun w' (hb:Below w.heap.size w w')=>ih k pv f1 o1 f2 f3 o2 o3 s.a s.n s.cap w' (hks k (by simp [hkk])) (hp.below hb) (hx.below hb) (i3.below hb)
   have hkid':=fun w' (hb:Below w.heap.size w w')=>ih k' pv f1 o1 f2 f3 o2 o3 s'.a s'.n s'.cap w' (hks k' (by simp [hkk])) (hp.below hb) (hx.below hb) (j3.below hb)
   rcases hop with hop | hop | hop | hop
   ·have e:evalD p x (d+1) c=fOr (evalD p x d k) (evalD p x d k'):=by simp [evalD,hop,er,er']
    rw [e,hop]
    exact iEval_bi _ _ hn pv f1 o1 f2 f3 o2 o3 c.nm b q cp _ _ _ _ _ _ _ _ _ _ _ _ _ w (hide (.inl ⟨rfl,rfl⟩)) i0 i1 i2 j0 j1 j2 hkid hkid'
   ·have e:evalD p x (d+1) c=fAnd (evalD p x d k) (evalD p x d k'):=by simp [evalD,hop,er,er']
    rw [e,hop]
    exact iEval_bi _ _ hn pv f1 o1 f2 f3 o2 o3 c.nm b q cp _ _ _ _ _ _ _ _ _ _ _ _ _ w (hide (.inr (.inl ⟨rfl,rfl⟩))) i0 i1 i2 j0 j1 j2 hkid hkid'
   ·have e:evalD p x (d+1) c=fMinus (evalD p x d k) (evalD p x d k'):=by simp [evalD,hop,er,er']
    rw [e,hop]
    exact iEval_bi _ _ hn pv f1 o1 f2 f3 o2 o3 c.nm b q cp _ _ _ _ _ _ _ _ _ _ _ _ _ w (hide (.inr (.inr (.inl ⟨rfl,rfl⟩)))) i0 i1 i2 j0 j1 j2 hkid hkid'
   ·have e:evalD p x (d+1) c=fComp (evAll p).length (evalD p x d k) (evalD p x d k'):=by simp [evalD,hop,er,er']
    rw [e,hop]
    exact iEval_bi _ _ hn pv f1 o1 f2 f3 o2 o3 c.nm b q cp _ _ _ _ _ _ _ _ _ _ _ _ _ w (hide (.inr (.inr (.inr (⟨rfl,rfl⟩))))) i0 i1 i2 j0 j1 j2 hkid hkid'
theorem sEval_1 (pv:Value) (f1 o1:Option Addr) (f2 f3 o2 o3:Nat) (nm:ByteArray) (a:Option Addr) (kn cp:Nat) (n:Nat) (f:Nat→Nat→Bool) (w:World)
 (hk:∀ w',Below w.heap.size w w'→Calls Tryz.prog 152 #[pv, .agg #[.slice f1 f2 f3, .slice o1 o2 o3], .string nm] w' (RetRel w' n f)) :
 Calls Tryz.prog 114 #[pv, .agg #[.slice f1 f2 f3, .slice o1 o2 o3], .agg #[.int .i64 1, .string nm, .slice a kn cp]] w (RetRel w n f):=by
 have HB1:=hide (belowAlloc w (.cells #[.slice f1 f2 f3, .slice o1 o2 o3] 29))
 have X1:=hide (heap_alloc_new w (.cells #[.slice f1 f2 f3, .slice o1 o2 o3] 29))
 have hz1:(w.alloc (.cells #[.slice f1 f2 f3, .slice o1 o2 o3] 29)).heap.size=w.heap.size+1:=by simp
 have HB2:=hide (belowAlloc (w.alloc (.cells #[.slice f1 f2 f3, .slice o1 o2 o3] 29)) (.cells #[.int .i64 1, .string nm, .slice a kn cp] 75))
 have X2:=hide (heap_alloc_new (w.alloc (.cells #[.slice f1 f2 f3, .slice o1 o2 o3] 29)) (.cells #[.int .i64 1, .string nm, .slice a kn cp] 75))
 rw [hz1] at X2
 have Y1:=hide ((HB2.out.block w.heap.size (by omega)).trans X1.out)
 have HB:=hide (HB1.out.trans (HB2.out.mono HB1.out.size))
 generalize hW:(w.alloc (.cells #[.slice f1 f2 f3, .slice o1 o2 o3] 29)).alloc (.cells #[.int .i64 1, .string nm, .slice a kn cp] 75)=W at *
 have x0:W.cell? ⟨w.heap.size,0,none⟩=some (.slice f1 f2 f3):=cell_of_heapV Y1.out (k:=0) rfl
 have x1:W.cell? ⟨w.heap.size,1,none⟩=some (.slice o1 o2 o3):=cell_of_heapV Y1.out (k:=1) rfl
 have e0:W.cell? ⟨w.heap.size+1,0,none⟩=some (.int .i64 1):=cell_of_heapV X2.out (k:=0) rfl
 have e1:W.cell? ⟨w.heap.size+1,1,none⟩=some (.string nm):=cell_of_heapV X2.out (k:=1) rfl
 have e2:W.cell? ⟨w.heap.size+1,2,none⟩=some (.slice a kn cp):=cell_of_heapV X2.out (k:=2) rfl
 have xl:=lt_of_cell x0
 have el:=lt_of_cell e0
 clear HB1 HB2 X1 hz1
 have HK:=hide (hk _ HB.out)
 clear hk
 go_enter Tryz.func114,Tryz.ntmps114
 go_wp2_with fail
 clear hW
 (with_reducible refine HK.out.mono ?_);rintro e w2 ⟨v2,rfl,o2',hb2⟩
 have HO:=hide (o2'.mono HB.out.size);have HB2:=hide (HB.out.trans (hb2.mono HB.out.size))
 clear o2' hb2
 go_wp2_with fail
 go_ret
 exact ⟨_,rfl,HO.out,HB2.out⟩
theorem sEval_un (op:Int) (n:Nat) (hn:n≤16) (pv:Value) (f1 o1:Option Addr) (f2 f3 o2 o3:Nat) (nm:ByteArray) (b q cp:Nat) (k0:Int) (kn:ByteArray) (ka:Option Addr) (kl kc:Nat) (f F:Nat→Nat→Bool) (w:World) (hop:Hid ((op=6∧F=fInv f)∨(op=7∧F=fClo n f))) (i0:w.cell? ⟨b,q,none⟩=some (.int .i64 k0)) (i1:w.cell? ⟨b,q+1,none⟩=some (.string kn)) (i2:w.cell? ⟨b,q+2,none⟩=some (.slice ka kl kc))
 (hk:∀ w',Below w.heap.size w w'→Calls Tryz.prog 114 #[pv, .agg #[.slice f1 f2 f3, .slice o1 o2 o3], .agg #[.int .i64 k0, .string kn, .slice ka kl kc]] w' (RetRel w' n f)) :
 Calls Tryz.prog 114 #[pv, .agg #[.slice f1 f2 f3, .slice o1 o2 o3], .agg #[.int .i64 op, .string nm, .slice (some ⟨b,q,none⟩) 1 cp]] w (RetRel w n F):=by
 have g1:(op==1)=false:=by have:=hop.out;rw [beq_eq_false_iff_ne];omega
 have HB1:=hide (belowAlloc w (.cells #[.slice f1 f2 f3, .slice o1 o2 o3] 29))
 have X1:=hide (heap_alloc_new w (.cells #[.slice f1 f2 f3, .slice o1 o2 o3] 29))
 have hz1:(w.alloc (.cells #[.slice f1 f2 f3, .slice o1 o2 o3] 29)).heap.size=w.heap.size+1:=by simp
 have HB2:=hide (belowAlloc (w.alloc (.cells #[.slice f1 f2 f3, .slice o1 o2 o3] 29)) (.cells #[.int .i64 op, .string nm, .slice (some ⟨b,q,none⟩) 1 cp] 75))
 have X2:=hide (heap_alloc_new (w.alloc (.cells #[.slice f1 f2 f3, .slice o1 o2 o3] 29)) (.cells #[.int .i64 op, .string nm, .slice (some ⟨b,q,none⟩) 1 cp] 75))
 rw [hz1] at X2
 have Y1:=hide ((HB2.out.block w.heap.size (by omega)).trans X1.out)
 have HB:=hide (HB1.out.trans (HB2.out.mono HB1.out.size))
 generalize hW:(w.alloc (.cells #[.slice f1 f2 f3, .slice o1 o2 o3] 29)).alloc (.cells #[.int .i64 op, .string nm, .slice (some ⟨b,q,none⟩) 1 cp] 75)=W at *
 have x0:W.cell? ⟨w.heap.size,0,none⟩=some (.slice f1 f2 f3):=cell_of_heapV Y1.out (k:=0) rfl
 have x1:W.cell? ⟨w.heap.size,1,none⟩=some (.slice o1 o2 o3):=cell_of_heapV Y1.out (k:=1) rfl
 have e0:W.cell? ⟨w.heap.size+1,0,none⟩=some (.int .i64 op):=cell_of_heapV X2.out (k:=0) rfl
 have e1:W.cell? ⟨w.heap.size+1,1,none⟩=some (.string nm):=cell_of_heapV X2.out (k:=1) rfl
 have e2:W.cell? ⟨w.heap.size+1,2,none⟩=some (.slice (some ⟨b,q,none⟩) 1 cp):=cell_of_heapV X2.out (k:=2) rfl
 have xl:=lt_of_cell x0
 have el:=lt_of_cell e0
 clear HB1 HB2 X1 hz1
 have j0:=(HB.out.cell (p:=⟨b,q,none⟩) (lt_of_cell i0)).trans i0
 have j1:=(HB.out.cell (p:=⟨b,q+1,none⟩) (lt_of_cell i0)).trans i1
 have j2:=(HB.out.cell (p:=⟨b,q+2,none⟩) (lt_of_cell i0)).trans i2
 have HK:=hide (hk _ HB.out.drew)
 have jl:=lt_of_cell j0
 clear i0 i1 i2 hk
 go_enter Tryz.func114,Tryz.ntmps114
 go_wp2_with fail
 clear hW
 go_region_held3 (fun V=>V.cell? ⟨w.heap.size,0,none⟩=some (.slice f1 f2 f3)∧V.cell? ⟨w.heap.size,1,none⟩=some (.slice o1 o2 o3)∧V.cell? ⟨w.heap.size+1,2,none⟩=some (.slice (some ⟨b,q,none⟩) 1 cp)∧V.cell? ⟨b,q,none⟩=some (.int .i64 k0)∧V.cell? ⟨b,q+1,none⟩=some (.string kn)∧V.cell? ⟨b,q+2,none⟩=some (.slice ka kl kc)) ((simp [go_sem, *]))
  (first
   | (go_at_call 114;(with_reducible refine HK.out.mono ?_);rintro e w1 ⟨v1,rfl,ov,hb1⟩;have HB5:=hide ((Below.refl W.heap.size W).drew.trans (hb1.mono (by simp)));have OV:=hide ov;obtain ⟨hc5,hf5⟩:=bcell HB5.out;clear ov hb1))
 all_goals
  have d0:=(HB5.out.cell (p:=⟨w.heap.size+1,0,none⟩) el).trans e0
  have dl:=lt_of_cell d0
  rcases hop.out with ⟨rfl,rfl⟩ | ⟨rfl,rfl⟩
  ·have HC:=hide (l2Inverse_any v1 n f w1 OV.out.rep (by omega))
   have HB6:=hide (HB.out.trans (HB5.out.mono HB.out.size))
   clear x0 x1 e0 e1 e2 j0 j1 j2 xl el jl HB5 OV HK X2 Y1 hc5 hf5
   go_wp2_with fail
   (with_reducible refine HC.out.mono ?_);rintro e w2 ⟨v2,rfl,o2',hb2⟩
   have HO:=hide (o2'.mono HB6.out.size);have HB7:=hide (HB6.out.trans (hb2.mono HB6.out.size))
   clear o2' hb2
   go_wp2_with fail
   go_ret
   exact ⟨_,rfl,HO.out,HB7.out⟩
  ·have HC:=hide (l2Closure_any v1 n f w1 OV.out.rep (by omega))
   have HB6:=hide (HB.out.trans (HB5.out.mono HB.out.size))
   clear x0 x1 e0 e1 e2 j0 j1 j2 xl el jl HB5 OV HK X2 Y1 hc5 hf5
   go_wp2_with fail
   (with_reducible refine HC.out.mono ?_);rintro e w2 ⟨v2,rfl,o2',hb2⟩
   have HO:=hide (o2'.mono HB6.out.size);have HB7:=hide (HB6.out.trans (hb2.mono HB6.out.size))
   clear o2' hb2
   go_wp2_with fail
   go_ret
   exact ⟨_,rfl,HO.out,HB7.out⟩
theorem sEval_bi (op:Int) (n:Nat) (hn:n≤16) (pv:Value) (f1 o1:Option Addr) (f2 f3 o2 o3:Nat) (nm:ByteArray) (b q cp:Nat) (k0 h0:Int) (kn h1:ByteArray) (ka ha:Option Addr) (kl kc hl hc:Nat) (f g F:Nat→Nat→Bool) (w:World) (hop:Hid ((op=2∧F=fOr f g)∨(op=3∧F=fAnd f g)∨(op=4∧F=fMinus f g)∨(op=5∧F=fComp n f g))) (i0:w.cell? ⟨b,q,none⟩=some (.int .i64 k0)) (i1:w.cell? ⟨b,q+1,none⟩=some (.string kn)) (i2:w.cell? ⟨b,q+2,none⟩=some (.slice ka kl kc))
 (i3:w.cell? ⟨b,q+3,none⟩=some (.int .i64 h0)) (i4:w.cell? ⟨b,q+4,none⟩=some (.string h1)) (i5:w.cell? ⟨b,q+5,none⟩=some (.slice ha hl hc))
 (hk:∀ w',Below w.heap.size w w'→Calls Tryz.prog 114 #[pv, .agg #[.slice f1 f2 f3, .slice o1 o2 o3], .agg #[.int .i64 k0, .string kn, .slice ka kl kc]] w' (RetRel w' n f))
 (hh:∀ w',Below w.heap.size w w'→Calls Tryz.prog 114 #[pv, .agg #[.slice f1 f2 f3, .slice o1 o2 o3], .agg #[.int .i64 h0, .string h1, .slice ha hl hc]] w' (RetRel w' n g)) :
 Calls Tryz.prog 114 #[pv, .agg #[.slice f1 f2 f3, .slice o1 o2 o3], .agg #[.int .i64 op, .string nm, .slice (some ⟨b,q,none⟩) 2 cp]] w (RetRel w n F):=by
 have hop2:2≤op∧op≤5:=by have:=hop.out;omega
 have g1:(op==1)=false:=by rw [beq_eq_false_iff_ne];omega
 have g6:(op==6)=false:=by rw [beq_eq_false_iff_ne];omega
 have g7:(op==7)=false:=by rw [beq_eq_false_iff_ne];omega
 clear hop2
 have HB1:=hide (belowAlloc w (.cells #[.slice f1 f2 f3, .slice o1 o2 o3] 29))
 have X1:=hide (heap_alloc_new w (.cells #[.slice f1 f2 f3, .slice o1 o2 o3] 29))
 have hz1:(w.alloc (.cells #[.slice f1 f2 f3, .slice o1 o2 o3] 29)).heap.size=w.heap.size+1:=by simp
 have HB2:=hide (belowAlloc (w.alloc (.cells #[.slice f1 f2 f3, .slice o1 o2 o3] 29)) (.cells #[.int .i64 op, .string nm, .slice (some ⟨b,q,none⟩) 2 cp] 75))
 have X2:=hide (heap_alloc_new (w.alloc (.cells #[.slice f1 f2 f3, .slice o1 o2 o3] 29)) (.cells #[.int .i64 op, .string nm, .slice (some ⟨b,q,none⟩) 2 cp] 75))
 rw [hz1] at X2
 have Y1:=hide ((HB2.out.block w.heap.size (by omega)).trans X1.out)
 have HB:=hide (HB1.out.trans (HB2.out.mono HB1.out.size))
 generalize hW:(w.alloc (.cells #[.slice f1 f2 f3, .slice o1 o2 o3] 29)).alloc (.cells #[.int .i64 op, .string nm, .slice (some ⟨b,q,none⟩) 2 cp] 75)=W at *
 have x0:W.cell? ⟨w.heap.size,0,none⟩=some (.slice f1 f2 f3):=cell_of_heapV Y1.out (k:=0) rfl
 have x1:W.cell? ⟨w.heap.size,1,none⟩=some (.slice o1 o2 o3):=cell_of_heapV Y1.out (k:=1) rfl
 have e0:W.cell? ⟨w.heap.size+1,0,none⟩=some (.int .i64 op):=cell_of_heapV X2.out (k:=0) rfl
 have e1:W.cell? ⟨w.heap.size+1,1,none⟩=some (.string nm):=cell_of_heapV X2.out (k:=1) rfl
 have e2:W.cell? ⟨w.heap.size+1,2,none⟩=some (.slice (some ⟨b,q,none⟩) 2 cp):=cell_of_heapV X2.out (k:=2) rfl
 have xl:=lt_of_cell x0
 have el:=lt_of_cell e0
 clear HB1 HB2 X1 hz1
 have j0:=(HB.out.cell (p:=⟨b,q,none⟩) (lt_of_cell i0)).trans i0
 have j1:=(HB.out.cell (p:=⟨b,q+1,none⟩) (lt_of_cell i0)).trans i1
 have j2:=(HB.out.cell (p:=⟨b,q+2,none⟩) (lt_of_cell i0)).trans i2
 have HK:=hide (hk _ HB.out.drew)
 have HH:=hide hh
 have I3:=hide i3;have I4:=hide i4;have I5:=hide i5
 have il:=lt_of_cell i0
 have jl:=lt_of_cell j0
 clear i0 i1 i2 i3 i4 i5 hk hh
 go_enter Tryz.func114,Tryz.ntmps114
 go_wp2_with fail
 clear hW
 go_region_held3 (fun V=>V.cell? ⟨w.heap.size,0,none⟩=some (.slice f1 f2 f3)∧V.cell? ⟨w.heap.size,1,none⟩=some (.slice o1 o2 o3)∧V.cell? ⟨w.heap.size+1,2,none⟩=some (.slice (some ⟨b,q,none⟩) 2 cp)∧V.cell? ⟨b,q,none⟩=some (.int .i64 k0)∧V.cell? ⟨b,q+1,none⟩=some (.string kn)∧V.cell? ⟨b,q+2,none⟩=some (.slice ka kl kc)) ((simp [go_sem, *]))
  (first
   | (go_at_call 114;(with_reducible refine HK.out.mono ?_);rintro e w1 ⟨v1,rfl,ov,hb1⟩;have HB5:=hide ((Below.refl W.heap.size W).drew.trans (hb1.mono (by simp)));have OV:=hide ov;obtain ⟨hc5,hf5⟩:=bcell HB5.out;clear ov hb1))
 all_goals
  have x0':=(HB5.out.cell (p:=⟨w.heap.size,0,none⟩) xl).trans x0
  have x1':=(HB5.out.cell (p:=⟨w.heap.size,1,none⟩) xl).trans x1
  have d0:=(HB5.out.cell (p:=⟨w.heap.size+1,0,none⟩) el).trans e0
  have d2:=(HB5.out.cell (p:=⟨w.heap.size+1,2,none⟩) el).trans e2
  have xl':=lt_of_cell x0'
  have dl:=lt_of_cell d0
  have HB6:=hide (HB.out.trans (HB5.out.mono HB.out.size))
  have k3:=(HB6.out.cell (p:=⟨b,q+3,none⟩) il).trans I3.out
  have k4:=(HB6.out.cell (p:=⟨b,q+4,none⟩) il).trans I4.out
  have k5:=(HB6.out.cell (p:=⟨b,q+5,none⟩) il).trans I5.out
  have kl':=lt_of_cell k3
  have HH1:=hide (HH.out _ HB6.out.drew)
  clear x0 x1 e0 e1 e2 j0 j1 j2 xl el jl HB5 HK X2 Y1 HH hc5 hf5
  go_wp2_with fail
  go_region_held3 (fun V=>V.cell? ⟨w.heap.size,0,none⟩=some (.slice f1 f2 f3)∧V.cell? ⟨w.heap.size,1,none⟩=some (.slice o1 o2 o3)∧V.cell? ⟨w.heap.size+1,2,none⟩=some (.slice (some ⟨b,q,none⟩) 2 cp)∧V.cell? ⟨b,q+3,none⟩=some (.int .i64 h0)∧V.cell? ⟨b,q+4,none⟩=some (.string h1)∧V.cell? ⟨b,q+5,none⟩=some (.slice ha hl hc)) ((simp [go_sem, *]))
   (first
    | (go_at_call 114;(with_reducible refine HH1.out.mono ?_);rintro e w2 ⟨v2,rfl,ov2,hb2⟩;have HB7:=hide ((Below.refl w1.heap.size w1).drew.trans (hb2.mono (by simp)));have OV2:=hide ov2;obtain ⟨hc7,hf7⟩:=bcell HB7.out;clear ov2 hb2))
  all_goals
   have d0':=(HB7.out.cell (p:=⟨w.heap.size+1,0,none⟩) dl).trans d0
   have dl':=lt_of_cell d0'
   rcases hop.out with ⟨rfl,rfl⟩ | ⟨rfl,rfl⟩ | ⟨rfl,rfl⟩ | ⟨rfl,rfl⟩
   ·have HC:=hide (l2Union_any v1 v2 n f g w2 (OV.out.rep.below HB7.out) OV2.out.rep (by omega))
    have HB8:=hide (HB6.out.trans (HB7.out.mono HB6.out.size))
    clear x0' x1' d0 d2 xl' dl k3 k4 k5 kl' HB7 OV OV2 HH1 hc7 hf7
    go_wp2_with fail
    (with_reducible refine HC.out.mono ?_);rintro e w3 ⟨v3,rfl,o3',hb3⟩
    have HO:=hide (o3'.mono HB8.out.size);have HB9:=hide (HB8.out.trans (hb3.mono HB8.out.size))
    clear o3' hb3
    go_wp2_with fail
    go_ret
    exact ⟨_,rfl,HO.out,HB9.out⟩
   ·have HC:=hide (l2Meet_any v1 v2 n f g w2 (OV.out.rep.below HB7.out) OV2.out.rep (by omega))
    have HB8:=hide (HB6.out.trans (HB7.out.mono HB6.out.size))
    clear x0' x1' d0 d2 xl' dl k3 k4 k5 kl' HB7 OV OV2 HH1 hc7 hf7
    go_wp2_with fail
    (with_reducible refine HC.out.mono ?_);rintro e w3 ⟨v3,rfl,o3',hb3⟩
    have HO:=hide (o3'.mono HB8.out.size);have HB9:=hide (HB8.out.trans (hb3.mono HB8.out.size))
    clear o3' hb3
    go_wp2_with fail
    go_ret
    exact ⟨_,rfl,HO.out,HB9.out⟩
   ·have HC:=hide (l2Minus_any v1 v2 n f g w2 (OV.out.rep.below HB7.out) OV2.out.rep (by omega))
    have HB8:=hide (HB6.out.trans (HB7.out.mono HB6.out.size))
    clear x0' x1' d0 d2 xl' dl k3 k4 k5 kl' HB7 OV OV2 HH1 hc7 hf7
    go_wp2_with fail
    (with_reducible refine HC.out.mono ?_);rintro e w3 ⟨v3,rfl,o3',hb3⟩
    have HO:=hide (o3'.mono HB8.out.size);have HB9:=hide (HB8.out.trans (hb3.mono HB8.out.size))
    clear o3' hb3
    go_wp2_with fail
    go_ret
    exact ⟨_,rfl,HO.out,HB9.out⟩
   ·have HC:=hide (l2Compose_any v1 v2 n f g w2 (OV.out.rep.below HB7.out) OV2.out.rep (by omega))
    have HB8:=hide (HB6.out.trans (HB7.out.mono HB6.out.size))
    clear x0' x1' d0 d2 xl' dl k3 k4 k5 kl' HB7 OV OV2 HH1 hc7 hf7
    go_wp2_with fail
    (with_reducible refine HC.out.mono ?_);rintro e w3 ⟨v3,rfl,o3',hb3⟩
    have HO:=hide (o3'.mono HB8.out.size);have HB9:=hide (HB8.out.trans (hb3.mono HB8.out.size))
    clear o3' hb3
    go_wp2_with fail
    go_ret
    exact ⟨_,rfl,HO.out,HB9.out⟩
theorem sEval_any {p:List (List Ins)} {x:Xc} (hX:execOk p x=true) (hl:p.flatten.length≤1048576):∀ (d:Nat) (c:Re) (pv:Value) (f1 o1:Option Addr) (f2 f3 o2 o3:Nat) (a:Option Addr) (kn cp:Nat) (w:World),shapeR d c=true→RepP w pv p→RepX w (.slice f1 f2 f3) (.slice o1 o2 o3) x→RepRk 0 w ⟨a,kn,cp⟩ c.kids →
 Calls Tryz.prog 114 #[pv, .agg #[.slice f1 f2 f3, .slice o1 o2 o3], .agg #[.int .i64 c.op, .string c.nm, .slice a kn cp]] w (RetRel w (evAll p).length (evalD p x d c)):=by
 have hpv:progValid p=true:=by unfold execOk at hX;simp only [Bool.and_eq_true] at hX;exact hX.1
 have hn:(evAll p).length≤16:=by have:=evAll_le hpv;omega
 intro d
 induction d with
 | zero=>intro c pv f1 o1 f2 f3 o2 o3 a kn cp w h;simp [shapeR] at h
 | succ d ih =>
  intro c pv f1 o1 f2 f3 o2 o3 a kn cp w hs hp hx hk
  obtain ⟨hne,hks⟩:=(shapeR_succ d c).1 hs
  have hkn:=hk.open.1
  simp only at hkn
  rcases node_cases hne with ⟨hop,hnm⟩ | ⟨hop,k,hkk⟩ | ⟨hop,k,k',hkk⟩
  ·have e:evalD p x (d+1) c=relN p x (nameId c.nm):=by simp only [evalD,hop,if_true]
   rw [e,hop]
   exact sEval_1 pv f1 o1 f2 f3 o2 o3 c.nm a kn cp _ _ w (fun w' hb=>l6Rel_any _ f1 o1 f2 f3 o2 o3 c.nm p x _ w' (sPairAt_any hX hnm) (hp.below hb) (hx.below hb) hpv hl)
  ·have h0:c.kids[0]? = some k:=by rw [hkk];rfl
   have er:kidR c 0=k:=by simp [kidR,hkk]
   obtain ⟨b,q,s,rfl,hbl,i0,i1,i2,i3⟩:=hk.kid h0
   simp only [Nat.zero_mul,Nat.add_zero] at i0 i1 i2
   obtain rfl:kn=1:=by rw [hkn,hkk];rfl
   have hkid:=fun w' (hb:Below w.heap.size w w')=>ih k pv f1 o1 f2 f3 o2 o3 s.a s.n s.cap w' (hks k (by simp [hkk])) (hp.below hb) (hx.below hb) (i3.below hb)
   rcases hop with hop | hop
   ·have e:evalD p x (d+1) c=fInv (evalD p x d k):=by simp [evalD,hop,er]
    rw [e,hop]
    exact sEval_un _ _ hn pv f1 o1 f2 f3 o2 o3 c.nm b q cp _ _ _ _ _ _ _ w (hide (.inl ⟨rfl,rfl⟩)) i0 i1 i2 hkid
   ·have e:evalD p x (d+1) c=fClo (evAll p).length (evalD p x d k):=by simp [evalD,hop,er]
    rw [e,hop]
    exact sEval_un _ _ hn pv f1 o1 f2 f3 o2 o3 c.nm b q cp _ _ _ _ _ _ _ w (hide (.inr (⟨rfl,rfl⟩))) i0 i1 i2 hkid
  ·have h0:c.kids[0]? = some k:=by rw [hkk];rfl
   have h1:c.kids[1]? = some k':=by rw [hkk];rfl
   have er:kidR c 0=k:=by simp [kidR,hkk]
   have er':kidR c 1=k':=by simp [kidR,hkk]
   obtain ⟨b,q,s,rfl,hbl,i0,i1,i2,i3⟩:=hk.kid h0
   obtain ⟨b',q',s',hbq,hbl',j0,j1,j2,j3⟩:=hk.kid h1
   simp only [Option.some.injEq,Addr.mk.injEq,and_true] at hbq
   obtain ⟨rfl,rfl⟩:=hbq
   simp only [Nat.zero_mul,Nat.add_zero,Nat.one_mul,Nat.add_assoc,Nat.reduceAdd] at i0 i1 i2 j0 j1 j2
   obtain rfl:kn=2:=by rw [hkn,hkk];rfl
   have hkid:=fun w' (hb:Below w.heap.size w w')=>ih k pv f1 o1 f2 f3 o2 o3 s.a s.n s.cap w' (hks k (by simp [hkk])) (hp.below hb) (hx.below hb) (i3.below hb)
   have hkid':=fun w' (hb:Below w.heap.size w w')=>ih k' pv f1 o1 f2 f3 o2 o3 s'.a s'.n s'.cap w' (hks k' (by simp [hkk])) (hp.below hb) (hx.below hb) (j3.below hb)
   rcases hop with hop | hop | hop | hop
   ·have e:evalD p x (d+1) c=fOr (evalD p x d k) (evalD p x d k'):=by simp [evalD,hop,er,er']
    rw [e,hop]
    exact sEval_bi _ _ hn pv f1 o1 f2 f3 o2 o3 c.nm b q cp _ _ _ _ _ _ _ _ _ _ _ _ _ w (hide (.inl ⟨rfl,rfl⟩)) i0 i1 i2 j0 j1 j2 hkid hkid'
   ·have e:evalD p x (d+1) c=fAnd (evalD p x d k) (evalD p x d k'):=by simp [evalD,hop,er,er']
    rw [e,hop]
    exact sEval_bi _ _ hn pv f1 o1 f2 f3 o2 o3 c.nm b q cp _ _ _ _ _ _ _ _ _ _ _ _ _ w (hide (.inr (.inl ⟨rfl,rfl⟩))) i0 i1 i2 j0 j1 j2 hkid hkid'
   ·have e:evalD p x (d+1) c=fMinus (evalD p x d k) (evalD p x d k'):=by simp [evalD,hop,er,er']
    rw [e,hop]
    exact sEval_bi _ _ hn pv f1 o1 f2 f3 o2 o3 c.nm b q cp _ _ _ _ _ _ _ _ _ _ _ _ _ w (hide (.inr (.inr (.inl ⟨rfl,rfl⟩)))) i0 i1 i2 j0 j1 j2 hkid hkid'
   ·have e:evalD p x (d+1) c=fComp (evAll p).length (evalD p x d k) (evalD p x d k'):=by simp [evalD,hop,er,er']
    rw [e,hop]
    exact sEval_bi _ _ hn pv f1 o1 f2 f3 o2 o3 c.nm b q cp _ _ _ _ _ _ _ _ _ _ _ _ _ w (hide (.inr (.inr (.inr (⟨rfl,rfl⟩))))) i0 i1 i2 j0 j1 j2 hkid hkid'
end Go.Proofs.YtkfhgnkonaafgaaGreatDoor
namespace Go.Proofs.YtkfhgnkonaafgaaGreatDoor
open Go.RowKit
theorem parse_step (s:ByteArray) (hs:s.size≤300) (f:Nat) (IP:PrimeAt s f) (IQ:∀ g,g≤f→ParseAtR s g):ParseAtR s (f+1):=by
 intro i d lv r w h hd hd2 hi hi2 hl hl2
 have h0:=h
 unfold pR at h
 split at h
 ·rename_i hz
  subst hz
  exact parse_zero s i d r w (fun w'=>IP _ _ _ w' h hd hd2 hi hi2)
 ·rename_i hz
  split at h
  ·cases h
  ·rename_i l n hp
   exact parse_more s hs f IQ i d lv l n r w hp h hd hd2 hi hi2 (by omega) hl2
theorem pr_all (s:ByteArray) (hs:s.size≤300):∀ f,∀ g,g≤f→PrimeAt s g∧ParseAtR s g:=by
 intro f
 induction f with
 | zero =>
  intro g hg
  obtain rfl:g=0:=by omega
  exact ⟨fun i d r w h=>by simp [pR] at h,fun i d lv r w h=>by simp [pR] at h⟩
 | succ f ih =>
  intro g hg
  by_cases e:g=f+1
  ·subst e
   exact ⟨prime_step s hs f (ih f (Nat.le_refl _)).1 (ih f (Nat.le_refl _)).2,parse_step s hs f (ih f (Nat.le_refl _)).1 (fun g hg=>(ih g hg).2)⟩
  ·exact ih g (by omega)
def partR (o L:Int) (t:ByteArray):ByteArray:=if lvlR o > L then ⟨#[40]⟩++t++⟨#[41]⟩ else t
theorem textR_zero {d:Nat} {c:Re} (h:kidsO c.op=0):textR (d+1) c=c.nm:=by unfold textR;rw [if_pos h]
theorem textR_one {d:Nat} {c:Re} (h:kidsO c.op=1):textR (d+1) c=sgnR c.op++partR (kidR c 0).op 0 (textR d (kidR c 0)):=by
 conv=>lhs;unfold textR
 rw [if_neg (by omega),if_pos h];rfl
theorem textR_two {d:Nat} {c:Re} (h:kidsO c.op=2):textR (d+1) c=partR (kidR c 0).op (lvlR c.op) (textR d (kidR c 0))++sgnR c.op++partR (kidR c 1).op (lvlR c.op - 1) (textR d (kidR c 1)):=by
 conv=>lhs;unfold textR
 rw [if_neg (by omega),if_neg (by omega)];rfl
theorem nodesR_one {c k:Re} (h:c.kids=[k]):nodesR c=nodesR k+1:=by
 unfold nodesR;rw [h]
 have:descR [k]=k.desc+1:=by simp [descR]
 rw [this,Re.desc_eq]
theorem nodesR_two {c k k':Re} (h:c.kids=[k,k']):nodesR c=nodesR k+nodesR k'+1:=by
 unfold nodesR;rw [h]
 have:descR [k,k']=(k.desc+1)+(k'.desc+1):=by simp [descR]
 rw [this,Re.desc_eq,Re.desc_eq]
 try omega
theorem sgnR_size (o:Int):(sgnR o).size≤1:=by
 unfold sgnR
 repeat (first | decide | split)
theorem partR_size (o L:Int) (t:ByteArray):(partR o L t).size≤t.size+2:=by
 unfold partR
 split
 ·rw [ByteArray.size_append,ByteArray.size_append]
  show 1+t.size+1≤_
  omega
 ·omega
theorem isName_size {nm:ByteArray} (h:isName nm=true):nm.size≤5:=by
 have h1:=List.mem_of_getElem? (name_at h)
 have h2:∀ x∈nameTab,x.size≤5:=by decide
 exact h2 nm h1
theorem textR_size:∀ (d:Nat) (c:Re),shapeR d c=true→(textR d c).size≤8 * nodesR c:=by
 intro d
 induction d with
 | zero=>intro c h;simp [shapeR] at h
 | succ d ih =>
  intro c hs
  obtain ⟨hne,hks⟩:=(shapeR_succ d c).1 hs
  have hsg:=sgnR_size c.op
  rcases node_cases hne with ⟨hop,hnm⟩ | ⟨hop,k,hkk⟩ | ⟨hop,k,k',hkk⟩
  ·rw [textR_zero (by rw [hop];rfl)]
   have:=isName_size hnm
   unfold nodesR;omega
  ·have ho:kidsO c.op=1:=by rcases hop with e | e <;> rw [e] <;> rfl
   have er:kidR c 0=k:=by simp [kidR,hkk]
   rw [textR_one ho,er,ByteArray.size_append]
   have h1:=ih k (hks k (by simp [hkk]))
   have h2:=partR_size k.op 0 (textR d k)
   have h3:=nodesR_one hkk
   omega
  ·have ho:kidsO c.op=2:=by rcases hop with e | e | e | e <;> rw [e] <;> rfl
   have er:kidR c 0=k:=by simp [kidR,hkk]
   have er':kidR c 1=k':=by simp [kidR,hkk]
   rw [textR_two ho,er,er',ByteArray.size_append,ByteArray.size_append]
   have h1:=ih k (hks k (by simp [hkk]))
   have h1':=ih k' (hks k' (by simp [hkk]))
   have h2:=partR_size k.op (lvlR c.op) (textR d k)
   have h2':=partR_size k'.op (lvlR c.op - 1) (textR d k')
   have h3:=nodesR_two hkk
   omega
theorem l7Part_of (o L:Int) (nm t:ByteArray) (a:Option Addr) (n c:Nat) (w:World) (hz:t.size≤4096) (ht:∀ w',Below w.heap.size w w'→Calls Tryz.prog 205 #[.agg #[.int .i64 o, .string nm, .slice a n c]] w' fun e w''=>e = .returned (.string t)∧Below w'.heap.size w' w'') :
 Calls Tryz.prog 227 #[.agg #[.int .i64 o, .string nm, .slice a n c], .int .i64 L] w fun e w'=>e = .returned (.string (partR o L t))∧Below w.heap.size w w':=by
 have HB:=hide (belowAlloc w (.cells #[.int .i64 o, .string nm, .slice a n c] 75))
 have HT:=hide (ht _ HB.out)
 have HL:=hide (l7Level_any o)
 have PE:Hid (partR o L t=if lvlR o > L then ⟨#[40]⟩++t++⟨#[41]⟩ else t):=hide rfl
 clear ht
 generalize partR o L t=R at *
 generalize lvlR o=lo at *
 by_cases h:lo > L
 ·have h':decide (lo > L)=true:=decide_eq_true h
  obtain rfl:R=⟨#[40]⟩++t++⟨#[41]⟩:=by rw [PE.out,if_pos h]
  clear h PE
  go_enter Tryz.func227,Tryz.ntmps227
  go_wp2_with fail
  (with_reducible refine (HL.out _).mono ?_);rintro e w1 ⟨rfl,rfl⟩
  go_wp2_with fail
  (with_reducible refine HT.out.mono ?_);rintro e w2 ⟨rfl,hb2⟩
  go_wp2_with fail
  go_ret
  exact ⟨rfl,HB.out.trans (hb2.mono HB.out.size)⟩
 ·have h':decide (lo > L)=false:=decide_eq_false h
  obtain rfl:R=t:=by rw [PE.out,if_neg h]
  clear h PE
  go_enter Tryz.func227,Tryz.ntmps227
  go_wp2_with fail
  (with_reducible refine (HL.out _).mono ?_);rintro e w1 ⟨rfl,rfl⟩
  go_wp2_with fail
  (with_reducible refine HT.out.mono ?_);rintro e w2 ⟨rfl,hb2⟩
  go_wp2_with fail
  go_ret
  exact ⟨rfl,HB.out.trans (hb2.mono HB.out.size)⟩
def TextAt (d:Nat):Prop:=∀ (c:Re) (a:Option Addr) (n cp:Nat) (w:World),shapeR d c=true→nodesR c≤400→RepRk 0 w ⟨a,n,cp⟩ c.kids →
 Calls Tryz.prog 205 #[.agg #[.int .i64 c.op, .string c.nm, .slice a n cp]] w fun e w'=>e = .returned (.string (textR d c))∧Below w.heap.size w w'
theorem text_zero (o:Int) (nm:ByteArray) (a:Option Addr) (n c:Nat) (w:World) (h:kidsO o=0) :
 Calls Tryz.prog 205 #[.agg #[.int .i64 o, .string nm, .slice a n c]] w fun e w'=>e = .returned (.string nm)∧Below w.heap.size w w':=by
 have HB:=hide (belowAlloc w (.cells #[.int .i64 o, .string nm, .slice a n c] 75))
 have HK:=hide (l7Kids_any o)
 rw [h] at HK
 clear h
 go_enter Tryz.func205,Tryz.ntmps205
 go_wp2_with fail
 (with_reducible refine (HK.out _).mono ?_);rintro e w1 ⟨rfl,rfl⟩
 go_wp2_with fail
 go_ret
 exact ⟨rfl,HB.out⟩
theorem text_one (o k0:Int) (nm kn t:ByteArray) (b q cp:Nat) (ka:Option Addr) (kl kc:Nat) (w:World) (h:kidsO o=1) (h0:0≤o) (h7:o≤7) (hz:t.size≤4096) (i0:w.cell? ⟨b,q,none⟩=some (.int .i64 k0)) (i1:w.cell? ⟨b,q+1,none⟩=some (.string kn)) (i2:w.cell? ⟨b,q+2,none⟩=some (.slice ka kl kc))
 (ht:∀ w',Below w.heap.size w w'→Calls Tryz.prog 227 #[.agg #[.int .i64 k0, .string kn, .slice ka kl kc], .int .i64 0] w' fun e w''=>e = .returned (.string t)∧Below w'.heap.size w' w'') :
 Calls Tryz.prog 205 #[.agg #[.int .i64 o, .string nm, .slice (some ⟨b,q,none⟩) 1 cp]] w fun e w'=>e = .returned (.string (sgnR o++t))∧Below w.heap.size w w':=by
 have HB:=hide (belowAlloc w (.cells #[.int .i64 o, .string nm, .slice (some ⟨b,q,none⟩) 1 cp] 75))
 have X:=hide (BoxR.new w o nm ⟨some ⟨b,q,none⟩,1,cp⟩ 75)
 have j0:=(HB.out.cell (p:=⟨b,q,none⟩) (lt_of_cell i0)).trans i0
 have j1:=(HB.out.cell (p:=⟨b,q+1,none⟩) (lt_of_cell i0)).trans i1
 have j2:=(HB.out.cell (p:=⟨b,q+2,none⟩) (lt_of_cell i0)).trans i2
 have HK:=hide (l7Kids_any o)
 rw [h] at HK
 have HS:=hide (fun w'=>l7Sign_any o h0 h7 w')
 have zs:=sgnR_size o
 generalize sgnR o=sg at *
 have HT:=hide (fun (y:BW (w.alloc (.cells #[.int .i64 o, .string nm, .slice (some ⟨b,q,none⟩) 1 cp] 75)))=>ht y.val (HB.out.trans (y.prop.mono HB.out.size)))
 clear h i0 i1 i2 ht
 generalize hW:w.alloc (.cells #[.int .i64 o, .string nm, .slice (some ⟨b,q,none⟩) 1 cp] 75)=W at *
 obtain ⟨el,e0,e1,e2, -⟩:=X.out
 have jl:=lt_of_cell j0
 go_enter Tryz.func205,Tryz.ntmps205
 go_wp2_with fail
 clear hW
 (with_reducible refine (HK.out _).mono ?_);rintro e w1 ⟨rfl,rfl⟩
 go_wp2_with fail
 refine wp_region_bw (by kernel_rfl) (by kernel_rfl) ?_
 repeat (go_big_quiet_step (first | (go_at_call 226;(with_reducible exact Calls.bw (HS.out _))) | (go_at_call 227;(with_reducible exact Calls.bw (HT.out _)))))
 refine wpQuiet_nil ?_
 intro w5 hb5
 have HB5:=hide (HB.out.trans (hb5.mono HB.out.size))
 clear hb5 e0 e1 e2 j0 j1 j2
 go_wp2_with fail
 go_ret
 exact ⟨rfl,HB5.out⟩
theorem text_two (o k0 h0':Int) (nm kn h1' t t':ByteArray) (b q cp:Nat) (ka ha:Option Addr) (kl kc hl hc:Nat) (w:World) (h:kidsO o=2) (h0:0≤o) (h7:o≤7) (hz:t.size≤4096) (hz':t'.size≤4096) (i0:w.cell? ⟨b,q,none⟩=some (.int .i64 k0)) (i1:w.cell? ⟨b,q+1,none⟩=some (.string kn)) (i2:w.cell? ⟨b,q+2,none⟩=some (.slice ka kl kc))
 (i3:w.cell? ⟨b,q+3,none⟩=some (.int .i64 h0')) (i4:w.cell? ⟨b,q+4,none⟩=some (.string h1')) (i5:w.cell? ⟨b,q+5,none⟩=some (.slice ha hl hc))
 (ht:∀ w',Below w.heap.size w w'→Calls Tryz.prog 227 #[.agg #[.int .i64 k0, .string kn, .slice ka kl kc], .int .i64 (lvlR o)] w' fun e w''=>e = .returned (.string t)∧Below w'.heap.size w' w'')
 (ht':∀ w',Below w.heap.size w w'→Calls Tryz.prog 227 #[.agg #[.int .i64 h0', .string h1', .slice ha hl hc], .int .i64 (lvlR o - 1)] w' fun e w''=>e = .returned (.string t')∧Below w'.heap.size w' w'') :
 Calls Tryz.prog 205 #[.agg #[.int .i64 o, .string nm, .slice (some ⟨b,q,none⟩) 2 cp]] w fun e w'=>e = .returned (.string (t++sgnR o++t'))∧Below w.heap.size w w':=by
 have HB:=hide (belowAlloc w (.cells #[.int .i64 o, .string nm, .slice (some ⟨b,q,none⟩) 2 cp] 75))
 have X:=hide (BoxR.new w o nm ⟨some ⟨b,q,none⟩,2,cp⟩ 75)
 have j0:=(HB.out.cell (p:=⟨b,q,none⟩) (lt_of_cell i0)).trans i0
 have j1:=(HB.out.cell (p:=⟨b,q+1,none⟩) (lt_of_cell i0)).trans i1
 have j2:=(HB.out.cell (p:=⟨b,q+2,none⟩) (lt_of_cell i0)).trans i2
 have j3:=(HB.out.cell (p:=⟨b,q+3,none⟩) (lt_of_cell i0)).trans i3
 have j4:=(HB.out.cell (p:=⟨b,q+4,none⟩) (lt_of_cell i0)).trans i4
 have j5:=(HB.out.cell (p:=⟨b,q+5,none⟩) (lt_of_cell i0)).trans i5
 have HK:=hide (l7Kids_any o)
 rw [h] at HK
 have HL:=hide (fun w'=>l7Level_any o w')
 have HS:=hide (fun w'=>l7Sign_any o h0 h7 w')
 have zs:=sgnR_size o
 generalize sgnR o=sg at *
 have hlv:0≤lvlR o∧lvlR o≤3:=by unfold lvlR;repeat (first | omega | split)
 have HT:=hide (fun (y:BW (w.alloc (.cells #[.int .i64 o, .string nm, .slice (some ⟨b,q,none⟩) 2 cp] 75)))=>ht y.val (HB.out.trans (y.prop.mono HB.out.size)))
 have HT':=hide (fun (y:BW (w.alloc (.cells #[.int .i64 o, .string nm, .slice (some ⟨b,q,none⟩) 2 cp] 75)))=>ht' y.val (HB.out.trans (y.prop.mono HB.out.size)))
 clear h i0 i1 i2 i3 i4 i5 ht ht'
 obtain ⟨lv0,lv3⟩:=hlv
 generalize lvlR o=lv at *
 generalize hW:w.alloc (.cells #[.int .i64 o, .string nm, .slice (some ⟨b,q,none⟩) 2 cp] 75)=W at *
 obtain ⟨el,e0,e1,e2, -⟩:=X.out
 have jl:=lt_of_cell j0
 go_enter Tryz.func205,Tryz.ntmps205
 go_wp2_with fail
 clear hW
 (with_reducible refine (HK.out _).mono ?_);rintro e w1 ⟨rfl,rfl⟩
 go_wp2_with fail
 (with_reducible refine (HL.out _).mono ?_);rintro e w1 ⟨rfl,rfl⟩
 go_wp2_with fail
 refine wp_region_bw (by kernel_rfl) (by kernel_rfl) ?_
 repeat (go_big_quiet_step (first | (go_at_call 226;(with_reducible exact Calls.bw (HS.out _))) | (go_at_call 227;first | (with_reducible exact Calls.bw (HT.out _)) | (with_reducible exact Calls.bw (HT'.out _)))))
 refine wpQuiet_nil ?_
 intro w5 hb5
 have HB5:=hide (HB.out.trans (hb5.mono HB.out.size))
 clear hb5 e0 e1 e2 j0 j1 j2 j3 j4 j5
 go_wp2_with fail
 go_ret
 exact ⟨rfl,HB5.out⟩
theorem l7Text_any:∀ d,TextAt d:=by
 intro d
 induction d with
 | zero=>intro c a n cp w h;simp [shapeR] at h
 | succ d ih =>
  intro c a n cp w hs hnd hk
  obtain ⟨hne,hks⟩:=(shapeR_succ d c).1 hs
  have hkn:=hk.open.1
  simp only at hkn
  have hP:=fun (k:Re) (hm:k∈c.kids) (hn:nodesR k≤400) (s:Slc) (L:Int) (w':World) (h:RepRk 0 w' ⟨s.a,s.n,s.cap⟩ k.kids)=>l7Part_of k.op L k.nm (textR d k) s.a s.n s.cap w' (by have:=textR_size d k (hks k hm);omega) (fun w'' hb=>ih k s.a s.n s.cap w'' (hks k hm) hn (h.below hb))
  rcases node_cases hne with ⟨hop,hnm⟩ | ⟨hop,k,hkk⟩ | ⟨hop,k,k',hkk⟩
  ·rw [textR_zero (by rw [hop];rfl)]
   exact text_zero c.op c.nm a n cp w (by rw [hop];rfl)
  ·have h0:c.kids[0]? = some k:=by rw [hkk];rfl
   have er:kidR c 0=k:=by simp [kidR,hkk]
   have ho:kidsO c.op=1:=by rcases hop with e | e <;> rw [e] <;> rfl
   obtain ⟨b,q,s,rfl,hbl,i0,i1,i2,i3⟩:=hk.kid h0
   simp only [Nat.zero_mul,Nat.add_zero] at i0 i1 i2
   obtain rfl:n=1:=by rw [hkn,hkk];rfl
   have h3:=nodesR_one hkk
   have hz:=textR_size d k (hks k (by simp [hkk]))
   have hz2:=partR_size k.op 0 (textR d k)
   rw [textR_one ho,er]
   exact text_one c.op k.op c.nm k.nm _ b q cp s.a s.n s.cap w ho (by omega) (by omega) (by omega) i0 i1 i2 (fun w' hb=>hP k (by simp [hkk]) (by omega) s 0 w' (i3.below hb))
  ·have h0:c.kids[0]? = some k:=by rw [hkk];rfl
   have h1:c.kids[1]? = some k':=by rw [hkk];rfl
   have er:kidR c 0=k:=by simp [kidR,hkk]
   have er':kidR c 1=k':=by simp [kidR,hkk]
   have ho:kidsO c.op=2:=by rcases hop with e | e | e | e <;> rw [e] <;> rfl
   obtain ⟨b,q,s,rfl,hbl,i0,i1,i2,i3⟩:=hk.kid h0
   obtain ⟨b',q',s',hbq,hbl',j0,j1,j2,j3⟩:=hk.kid h1
   simp only [Option.some.injEq,Addr.mk.injEq,and_true] at hbq
   obtain ⟨rfl,rfl⟩:=hbq
   simp only [Nat.zero_mul,Nat.add_zero,Nat.one_mul,Nat.add_assoc,Nat.reduceAdd] at i0 i1 i2 j0 j1 j2
   obtain rfl:n=2:=by rw [hkn,hkk];rfl
   have h3:=nodesR_two hkk
   have hz:=textR_size d k (hks k (by simp [hkk]))
   have hz2:=partR_size k.op (lvlR c.op) (textR d k)
   have hy:=textR_size d k' (hks k' (by simp [hkk]))
   have hy2:=partR_size k'.op (lvlR c.op - 1) (textR d k')
   rw [textR_two ho,er,er']
   exact text_two c.op k.op k'.op c.nm k.nm k'.nm _ _ b q cp s.a s'.a s.n s.cap s'.n s'.cap w ho (by omega) (by omega) (by omega) (by omega) i0 i1 i2 j0 j1 j2 (fun w' hb=>hP k (by simp [hkk]) (by omega) s _ w' (i3.below hb)) (fun w' hb=>hP k' (by simp [hkk]) (by omega) s' _ w' (j3.below hb))
end Go.Proofs.YtkfhgnkonaafgaaGreatDoor
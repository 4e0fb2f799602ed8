/-
  Programs that are drawn. Condition: not too many numbers were taken.
-/
import Derived.Test.YtngekjpklkjnbaaGreatZu06
import Derived.Test.YtngekjpklkjnbaaGreatZu07
set_option maxHeartbeats 6400000
set_option maxRecDepth 100000
namespace Go.Proofs.YtngekjpklkjnbaaGreat
open Go.RowKit
theorem Tryz.GJ:(Tryz.prog.info? 9).map (fun i=>(i.zero,i.size,i.bytes))=some (some (.string ⟨#[]⟩),1,16):=Kr
def Q5:El ByteArray:=⟨1,Dc,fun x=>[.string x],fun _=>rfl,fun x u h=>by simp at h;subst h;rfl⟩
theorem Z7.str {w:World}{a:Option Addr}{n c:Nat}{xs:List ByteArray}(h:Z7 Q5 w (.slice a n c) xs) {k:Nat}{x:ByteArray}(hx:xs[k]? = some x) :
 ∃ b o,a=some ⟨b,o,none⟩∧b < w.heap.size∧w.cell? ⟨b,o+k,none⟩=some (.string x):=by
 obtain⟨a',c',hv,_,_,h⟩:=h;simp only[Value.slice.injEq]at hv;obtain⟨rfl,rfl,rfl⟩:=hv;obtain⟨b,o,rfl,h'⟩:=h k x hx;have:=h' 0 _ rfl;simp only[Q5,Nat.mul_one,Nat.add_zero]at this;exact⟨b,o,rfl,Zb this,this⟩
def GA (s:ByteArray) (i:Int):Int:=if h:0≤i∧i < s.size then ((s[i.toNat]'Om).toNat:Int) else 0
def Y5 (s:ByteArray) (i f m:Int):Int:=
 if i≥s.size then -1 else if GA s i < f then -1 else if GA s i - f > m then -1 else GA s i - f
theorem Az (s:ByteArray) (i f m:Int) (w:World) (h0:0≤i) (hf:0≤f) (hf2:f≤255) :
 Calls Tryz.prog 151 #[.string s,.int .i64 i,.int .u8 f,.int .i64 m] w fun e w'=>e = .returned (.int .i64 (Y5 s i f m))∧Below w.heap.size w w':=by
 by_cases hi:i < s.size
 ·have hi1:decide (i≥(s.size:Int))=false:=decide_eq_false Om
  have hii:0≤i∧i < s.size:=⟨h0,hi⟩
  have hg:i.toNat < s.size:=Om;have hP:Y5 s i f m=if ((s[i.toNat]'hg).toNat:Int) < f then -1 else if ((s[i.toNat]'hg).toNat:Int) - f > m then -1 else ((s[i.toNat]'hg).toNat:Int) - f:=by
   unfold Y5 GA;rw[if_neg Om,dif_pos hii]
  rw[hP];have hu:((s[i.toNat]'hg).toNat:Int)≤255:=by have:=(s[i.toNat]'hg).toNat_lt;omega
  by_cases h1:((s[i.toNat]'hg).toNat:Int) < f
  ·rw[if_pos h1]
   clear hP;go_enter Tryz.func151,Tryz.ntmps151;go_wp2_with fail;go_ret;exact⟨rfl,Below.refl _ _⟩
  ·have h1':decide (((s[i.toNat]'hg).toNat:Int) < f)=false:=decide_eq_false h1
   rw[if_neg h1];clear hP;by_cases h2:((s[i.toNat]'hg).toNat:Int) - f > m
   ·rw[if_pos h2]
    go_enter Tryz.func151,Tryz.ntmps151;go_wp2_with fail;go_ret;exact⟨rfl,Below.refl _ _⟩
   ·have h2':decide (((s[i.toNat]'hg).toNat:Int) - f > m)=false:=decide_eq_false h2
    rw[if_neg h2];go_enter Tryz.func151,Tryz.ntmps151;go_wp2_with fail;go_ret;exact⟨rfl,Below.refl _ _⟩
 ·have hi1:decide (i≥(s.size:Int))=true:=decide_eq_true Om
  have hP:Y5 s i f m = -1:=by unfold Y5;rw[if_pos Om]
  rw[hP];go_enter Tryz.func151,Tryz.ntmps151;go_wp2_with fail;go_ret;exact⟨rfl,Below.refl _ _⟩
def F7 (w:World) (n m:Nat) (e:Ending) (w':World):Prop:=∃ v xs,e = .returned v∧Own Q5 9 w' w.heap.size v xs∧Below w.heap.size w w'∧xs.length≤n∧∀ x∈xs,x.size≤m
theorem VW (s:ByteArray) (c:Int) (w:World) (hs:s.size≤1000) :
 Calls Tryz.prog 128 #[.string s,.int .u8 c] w (F7 w (s.size+1) s.size):=by
 go_enter Tryz.func128,Tryz.ntmps128;go_wp2_with fail
 go_loopw [5,6,7] (fun v f i wr => ∃ (k fr:Nat) (xs:List ByteArray),i = .int .i64 k∧f = .int .i64 fr∧fr≤k∧k≤s.size+1∧Own Q5 9 wr w.heap.size v xs∧Below w.heap.size w wr∧xs.length≤k∧∀ x∈xs,x.size≤s.size) (fun _ _ i _=>s.size+1 - (intOf i).toNat)
 case atStart=>exact⟨0,0,[],rfl,rfl,Om,Om,Own.empty _ w (Nat.le_refl _),(Below.refl _ _).alloc (Nat.le_refl _) _,Sm,Sm⟩
 case round =>
  obtain⟨k,fr,xs,rfl,rfl,hfk,hk,ho,hb,hxl,hxs⟩:=hrel;by_cases hlt:k≤s.size
  ·have hlt':(k:Int)≤s.size:=Om
   have HX:=Za hxs;have hlen:xs.length≤68719476736:=Om;clear hxs;by_cases hz:k=s.size
   ·subst hz
    go_wp2_with (at_builtin;refine Z3 Q5 9 Tryz.GJ rfl Tryz.underlying90 w.heap.size _ xs (s.extract fr s.size) (ho.alloc _) Dc hlen (by simp;have:=hb.size;omega) rfl _ _ rfl rfl _ 0 1 rfl Zp ?_;intro v' w1 ho1 hgr1);have hb1:=ZM hb ho hgr1;go_roundw
    case rel=>exact⟨s.size+1,s.size+1,xs++[s.extract fr s.size],Gn,Gn,Om,Om,ho1,hb1,So,fun x hx=>by
     rcases List.mem_append.1 hx with h | h
     ·exact HX.out x h
     ·rw[List.mem_singleton.1 h,ByteArray.size_extract];omega⟩
    case measure=>simp[intOf]
   ·have hz':((k:Int)==(s.size:Int))=false:=So
    have hks:k < s.size:=Om;have hki:0≤(k:Int)∧(k:Int) < s.size:=Om;clear hz;by_cases hc:((s[k]'hks).toNat:Int)=c
    ·have hc':(((s[k]'hks).toNat:Int)==c)=true:=by simp[hc]
     clear hc;go_wp2_with (at_builtin;refine Z3 Q5 9 Tryz.GJ rfl Tryz.underlying90 w.heap.size _ xs (s.extract fr k) (ho.alloc _) Dc hlen (by simp;have:=hb.size;omega) rfl _ _ rfl rfl _ 0 1 rfl Zp ?_;intro v' w1 ho1 hgr1);have hb1:=ZM hb ho hgr1;go_roundw
     case rel=>exact⟨k+1,k+1,xs++[s.extract fr k],Gn,Gn,Om,Om,ho1,hb1,So,fun x hx=>by
      rcases List.mem_append.1 hx with h | h
      ·exact HX.out x h
      ·rw[List.mem_singleton.1 h,ByteArray.size_extract];omega⟩
     case measure=>simp[intOf];omega
    ·have hc':(((s[k]'hks).toNat:Int)==c)=false:=by simp[hc]
     clear hc;go_wp2_with fail;go_roundw
     case rel=>exact⟨k+1,fr,xs,Gn,rfl,Om,Om,ho,hb,Om,HX.out⟩
     case measure=>simp[intOf];omega
  ·have hlt':¬ (k:Int)≤s.size:=Om
   go_wp2_with fail;go_ret;exact⟨_,xs,rfl,ho,hb,Om,hxs⟩
structure JI (w:World) (g:Nat) (a b c d:Int):Prop where
 lt:g < w.heap.size
 c0:w.cell? ⟨g,0,none⟩=some (.int .i64 a)
 c1:w.cell? ⟨g,1,none⟩=some (.int .i64 b)
 c2:w.cell? ⟨g,2,none⟩=some (.int .i64 c)
 c3:w.cell? ⟨g,3,none⟩=some (.int .i64 d)
 f:∀ j,w.frozen? ⟨g,j,none⟩=false
theorem JI.keep {w w':World}{g:Nat}{a b c d:Int}(h:JI w g a b c d) (hb:w'.heap[g]? = w.heap[g]?) (hs:w.heap.size≤w'.heap.size):JI w' g a b c d:=
 ⟨Nat.lt_of_lt_of_le h.lt hs,(ZR hb _).trans h.c0,(ZR hb _).trans h.c1,(ZR hb _).trans h.c2,(ZR hb _).trans h.c3,fun j=>by
  have:=h.f j;unfold World.frozen? at this ⊢;rw[hb];exact this⟩
theorem JI.below {w w':World}{g:Nat}{a b c d:Int}(h:JI w g a b c d) {B:Nat}(ho:Below B w w') (hg:g < B):JI w' g a b c d:=h.keep (ho.block g hg) ho.size
theorem JI.outside {b':Nat}{w w':World}{g:Nat}{a b c d:Int}(h:JI w g a b c d) (ho:Outside b' (b'+1) w w') (hg:g≠b'):JI w' g a b c d:=h.keep (ho.block g h.lt Om) ho.size
theorem JI.new (w:World) (a b c d:Int) (T:TypeId):JI (w.alloc (.cells #[.int .i64 a,.int .i64 b,.int .i64 c,.int .i64 d] T)) w.heap.size a b c d:=
 ⟨Sm,by simp[go_sem],by simp[go_sem],by simp[go_sem],by simp[go_sem],fun j=>by simp[go_sem]⟩
theorem XI (s:ByteArray) (i f m:Int) (h0:0≤i) (hf:0≤f) (hf2:f≤255):∃ x,Y5 s i f m=x∧∀ w,Calls Tryz.prog 151 #[.string s,.int .i64 i,.int .u8 f,.int .i64 m] w fun e w'=>e = .returned (.int .i64 x)∧Below w.heap.size w w':=
 ⟨_,rfl,fun w=>Az s i f m w h0 hf hf2⟩
def Qm (s:ByteArray):Ins:=
 if (s.toList==[102,101,110,99,101])=true then ⟨4,0,0,0⟩
 else if Y5 s 0 97 2≥0∧(s.size:Int)=3 then ⟨1,Y5 s 2 120 2,Y5 s 0 97 2,0⟩
 else if Y5 s 0 97 2≥0∧(s.size:Int)=5 then ⟨5,Y5 s 2 120 2,Y5 s 0 97 2,Y5 s 4 48 3⟩
 else if Y5 s 0 120 2≥0∧Y5 s 2 97 2≥0 then ⟨3,Y5 s 0 120 2,Y5 s 2 97 2,0⟩
 else ⟨2,Y5 s 0 120 2,0,Y5 s 2 48 3⟩
theorem Ay (s:ByteArray) (w:World):Calls Tryz.prog 129 #[.string s] w fun e w'=>e = .returned (.agg #[.int .i64 (Qm s).op,.int .i64 (Qm s).loc,.int .i64 (Qm s).ZQ,.int .i64 (Qm s).val])∧Below w.heap.size w w':=by
 by_cases hf:(s.toList==[102,101,110,99,101])=true
 ·have e:Qm s=⟨4,0,0,0⟩:=by unfold Qm;rw[if_pos hf]
  rw[e];clear e;go_enter Tryz.func129,Tryz.ntmps129;go_wp2_with fail;refine bodyPost_ret (v:=.agg #[.int .i64 4,.int .i64 0,.int .i64 0,.int .i64 0]) (by simp[results,Tryz.results129,go_sem, *]) rfl ⟨rfl,?_⟩;exact Ze w _
 ·obtain⟨R,eR,CR⟩:=XI s 0 97 2 Om Om Om
  obtain⟨L,eL,CL⟩:=XI s 0 120 2 Om Om Om;obtain⟨L2,eL2,CL2⟩:=XI s 2 120 2 Om Om Om;obtain⟨R2,eR2,CR2⟩:=XI s 2 97 2 Om Om Om;obtain⟨V2,eV2,CV2⟩:=XI s 2 48 3 Om Om Om;obtain⟨V4,eV4,CV4⟩:=XI s 4 48 3 Om Om Om;have HI:Hid (Qm s=if R≥0∧(s.size:Int)=3 then ⟨1,L2,R,0⟩ else if R≥0∧(s.size:Int)=5 then ⟨5,L2,R,V4⟩ else if L≥0∧R2≥0 then ⟨3,L,R2,0⟩ else ⟨2,L,0,V2⟩):=Za (by
   unfold Qm;rw[if_neg hf,eR,eL,eL2,eR2,eV2,eV4])
  clear eR eL eL2 eR2 eV2 eV4;have hf':(s.toList==[102,101,110,99,101])=false:=by simpa using hf
  clear hf;have CR:=Za CR;have CL:=Za CL;have CL2:=Za CL2;have CR2:=Za CR2;have CV2:=Za CV2;have CV4:=Za CV4
  generalize Qm s=I at *;have BI0:=Za (JI.new w 0 0 0 0 44);have HB0:=Za (Ze w (.cells #[.int .i64 0,.int .i64 0,.int .i64 0,.int .i64 0] 44));go_enter Tryz.func129,Tryz.ntmps129;go_wp2_with fail
  (with_reducible refine(CR.out _).mono ?_);rintro e w1 ⟨rfl,hb1⟩
  have BI1:=Za (BI0.out.below hb1 BI0.out.lt);have HB1:=Za (HB0.out.trans (hb1.mono HB0.out.size))
  clear BI0 HB0 hb1;go_wp2_with fail
  (with_reducible refine(CL.out _).mono ?_);rintro e w2 ⟨rfl,hb2⟩
  have BI2:=Za (BI1.out.below hb2 BI1.out.lt);have HB2:=Za (HB1.out.trans (hb2.mono HB1.out.size))
  clear BI1 HB1 hb2;by_cases h1:R≥0
  ·by_cases h2:(s.size:Int)=3
   ·have h2':((s.size:Int)==3)=true:=by simp[h2]
    have HI:Hid (I=⟨1,L2,R,0⟩):=Za (by rw[HI.out,if_pos ⟨h1,h2⟩]);clear h2;go_wp2_with fail
    (with_reducible refine(CL2.out _).mono ?_);rintro e w3 ⟨rfl,hb3⟩
    have BI3:=Za (BI2.out.below hb3 BI2.out.lt);have HB3:=Za (HB2.out.trans (hb3.mono HB2.out.size))
    clear BI2 HB2 hb3;obtain⟨lt3,i0,i1,i2,i3,if'⟩:=BI3.out;go_wp2_with fail;refine bodyPost_ret (v:=.agg #[.int .i64 1,.int .i64 L2,.int .i64 R,.int .i64 0]) (by simp[results,Tryz.results129,go_sem, *]) rfl ⟨by rw[HI.out],?_⟩;exact((((HB3.out.setCell (Nat.le_refl _) _).setCell (Nat.le_refl _) _).setCell (Nat.le_refl _) _).setCell (Nat.le_refl _) _)
   ·have h2':((s.size:Int)==3)=false:=by simp[h2]
    by_cases h3:(s.size:Int)=5
    ·have h3':((s.size:Int)==5)=true:=by simp[h3]
     have HI:Hid (I=⟨5,L2,R,V4⟩):=Za (by rw[HI.out,if_neg (fun h=>h2 h.2),if_pos ⟨h1,h3⟩]);clear h2 h3;go_wp2_with fail
     (with_reducible refine(CL2.out _).mono ?_);rintro e w3 ⟨rfl,hb3⟩
     have BI3:=Za (BI2.out.below hb3 BI2.out.lt);have HB3:=Za (HB2.out.trans (hb3.mono HB2.out.size))
     clear BI2 HB2 hb3;go_wp2_with fail
     (with_reducible refine(CV4.out _).mono ?_);rintro e w4 ⟨rfl,hb4⟩
     have BI4:=Za (BI3.out.below hb4 BI3.out.lt);have HB4:=Za (HB3.out.trans (hb4.mono HB3.out.size))
     clear BI3 HB3 hb4;obtain⟨lt4,i0,i1,i2,i3,if'⟩:=BI4.out;go_wp2_with fail;refine bodyPost_ret (v:=.agg #[.int .i64 5,.int .i64 L2,.int .i64 R,.int .i64 V4]) (by simp[results,Tryz.results129,go_sem, *]) rfl ⟨by rw[HI.out],?_⟩;exact((((HB4.out.setCell (Nat.le_refl _) _).setCell (Nat.le_refl _) _).setCell (Nat.le_refl _) _).setCell (Nat.le_refl _) _)
    ·have h3':((s.size:Int)==5)=false:=by simp[h3]
     have HI:Hid (I=if L≥0∧R2≥0 then ⟨3,L,R2,0⟩ else ⟨2,L,0,V2⟩):=Za (by rw[HI.out,if_neg (fun h=>h2 h.2),if_neg (fun h=>h3 h.2)]);clear h2 h3;by_cases h4:L≥0
     ·go_wp2_with fail
      (with_reducible refine(CR2.out _).mono ?_);rintro e w3 ⟨rfl,hb3⟩
      have BI3:=Za (BI2.out.below hb3 BI2.out.lt);have HB3:=Za (HB2.out.trans (hb3.mono HB2.out.size))
      clear BI2 HB2 hb3;by_cases h5:R2≥0
      ·have HI:Hid (I=⟨3,L,R2,0⟩):=Za (by rw[HI.out,if_pos ⟨h4,h5⟩])
       go_wp2_with fail
       (with_reducible refine(CR2.out _).mono ?_);rintro e w4 ⟨rfl,hb4⟩
       have BI4:=Za (BI3.out.below hb4 BI3.out.lt);have HB4:=Za (HB3.out.trans (hb4.mono HB3.out.size))
       clear BI3 HB3 hb4;obtain⟨lt4,i0,i1,i2,i3,if'⟩:=BI4.out;go_wp2_with fail;refine bodyPost_ret (v:=.agg #[.int .i64 3,.int .i64 L,.int .i64 R2,.int .i64 0]) (by simp[results,Tryz.results129,go_sem, *]) rfl ⟨by rw[HI.out],?_⟩;exact((((HB4.out.setCell (Nat.le_refl _) _).setCell (Nat.le_refl _) _).setCell (Nat.le_refl _) _).setCell (Nat.le_refl _) _)
      ·have h5':decide (R2≥0)=false:=decide_eq_false h5
       have HI:Hid (I=⟨2,L,0,V2⟩):=Za (by rw[HI.out,if_neg (fun h=>h5 h.2)]);clear h5;go_wp2_with fail
       (with_reducible refine(CV2.out _).mono ?_);rintro e w4 ⟨rfl,hb4⟩
       have BI4:=Za (BI3.out.below hb4 BI3.out.lt);have HB4:=Za (HB3.out.trans (hb4.mono HB3.out.size))
       clear BI3 HB3 hb4;obtain⟨lt4,i0,i1,i2,i3,if'⟩:=BI4.out;go_wp2_with fail;refine bodyPost_ret (v:=.agg #[.int .i64 2,.int .i64 L,.int .i64 0,.int .i64 V2]) (by simp[results,Tryz.results129,go_sem, *]) rfl ⟨by rw[HI.out],?_⟩;exact((((HB4.out.setCell (Nat.le_refl _) _).setCell (Nat.le_refl _) _).setCell (Nat.le_refl _) _).setCell (Nat.le_refl _) _)
     ·have h4':decide (L≥0)=false:=decide_eq_false h4
      have HI:Hid (I=⟨2,L,0,V2⟩):=Za (by rw[HI.out,if_neg (fun h=>h4 h.1)]);clear h4;go_wp2_with fail
      (with_reducible refine(CV2.out _).mono ?_);rintro e w3 ⟨rfl,hb3⟩
      have BI3:=Za (BI2.out.below hb3 BI2.out.lt);have HB3:=Za (HB2.out.trans (hb3.mono HB2.out.size))
      clear BI2 HB2 hb3;obtain⟨lt3,i0,i1,i2,i3,if'⟩:=BI3.out;go_wp2_with fail;refine bodyPost_ret (v:=.agg #[.int .i64 2,.int .i64 L,.int .i64 0,.int .i64 V2]) (by simp[results,Tryz.results129,go_sem, *]) rfl ⟨by rw[HI.out],?_⟩;exact((((HB3.out.setCell (Nat.le_refl _) _).setCell (Nat.le_refl _) _).setCell (Nat.le_refl _) _).setCell (Nat.le_refl _) _)
  ·have h1':decide (R≥0)=false:=decide_eq_false h1
   have HI:Hid (I=if L≥0∧R2≥0 then ⟨3,L,R2,0⟩ else ⟨2,L,0,V2⟩):=Za (by rw[HI.out,if_neg (fun h=>h1 h.1),if_neg (fun h=>h1 h.1)]);clear h1;by_cases h4:L≥0
   ·go_wp2_with fail
    (with_reducible refine(CR2.out _).mono ?_);rintro e w3 ⟨rfl,hb3⟩
    have BI3:=Za (BI2.out.below hb3 BI2.out.lt);have HB3:=Za (HB2.out.trans (hb3.mono HB2.out.size))
    clear BI2 HB2 hb3;by_cases h5:R2≥0
    ·have HI:Hid (I=⟨3,L,R2,0⟩):=Za (by rw[HI.out,if_pos ⟨h4,h5⟩])
     go_wp2_with fail
     (with_reducible refine(CR2.out _).mono ?_);rintro e w4 ⟨rfl,hb4⟩
     have BI4:=Za (BI3.out.below hb4 BI3.out.lt);have HB4:=Za (HB3.out.trans (hb4.mono HB3.out.size))
     clear BI3 HB3 hb4;obtain⟨lt4,i0,i1,i2,i3,if'⟩:=BI4.out;go_wp2_with fail;refine bodyPost_ret (v:=.agg #[.int .i64 3,.int .i64 L,.int .i64 R2,.int .i64 0]) (by simp[results,Tryz.results129,go_sem, *]) rfl ⟨by rw[HI.out],?_⟩;exact((((HB4.out.setCell (Nat.le_refl _) _).setCell (Nat.le_refl _) _).setCell (Nat.le_refl _) _).setCell (Nat.le_refl _) _)
    ·have h5':decide (R2≥0)=false:=decide_eq_false h5
     have HI:Hid (I=⟨2,L,0,V2⟩):=Za (by rw[HI.out,if_neg (fun h=>h5 h.2)]);clear h5;go_wp2_with fail
     (with_reducible refine(CV2.out _).mono ?_);rintro e w4 ⟨rfl,hb4⟩
     have BI4:=Za (BI3.out.below hb4 BI3.out.lt);have HB4:=Za (HB3.out.trans (hb4.mono HB3.out.size))
     clear BI3 HB3 hb4;obtain⟨lt4,i0,i1,i2,i3,if'⟩:=BI4.out;go_wp2_with fail;refine bodyPost_ret (v:=.agg #[.int .i64 2,.int .i64 L,.int .i64 0,.int .i64 V2]) (by simp[results,Tryz.results129,go_sem, *]) rfl ⟨by rw[HI.out],?_⟩;exact((((HB4.out.setCell (Nat.le_refl _) _).setCell (Nat.le_refl _) _).setCell (Nat.le_refl _) _).setCell (Nat.le_refl _) _)
   ·have h4':decide (L≥0)=false:=decide_eq_false h4
    have HI:Hid (I=⟨2,L,0,V2⟩):=Za (by rw[HI.out,if_neg (fun h=>h4 h.1)]);clear h4;go_wp2_with fail
    (with_reducible refine(CV2.out _).mono ?_);rintro e w3 ⟨rfl,hb3⟩
    have BI3:=Za (BI2.out.below hb3 BI2.out.lt);have HB3:=Za (HB2.out.trans (hb3.mono HB2.out.size))
    clear BI2 HB2 hb3;obtain⟨lt3,i0,i1,i2,i3,if'⟩:=BI3.out;go_wp2_with fail;refine bodyPost_ret (v:=.agg #[.int .i64 2,.int .i64 L,.int .i64 0,.int .i64 V2]) (by simp[results,Tryz.results129,go_sem, *]) rfl ⟨by rw[HI.out],?_⟩;exact((((HB3.out.setCell (Nat.le_refl _) _).setCell (Nat.le_refl _) _).setCell (Nat.le_refl _) _).setCell (Nat.le_refl _) _)
def J7 (x:Ins):ByteArray:=
 if x.op=1 then strOfNums [97+x.ZQ]++⟨#[61]⟩++strOfNums [120+x.loc]
 else if x.op=2 then strOfNums [120+x.loc]++⟨#[61]⟩++strOfNums [48+x.val]
 else if x.op=3 then strOfNums [120+x.loc]++⟨#[61]⟩++strOfNums [97+x.ZQ]
 else if x.op=5 then strOfNums [97+x.ZQ]++⟨#[61]⟩++strOfNums [120+x.loc]++⟨#[58]⟩++strOfNums [48+x.val]
 else ⟨#[102,101,110,99,101]⟩
theorem JH (x:Ins):(J7 x).size≤5:=by
 have e1:∀ b,(⟨#[b]⟩:ByteArray).size=1:=fun _=>rfl;have e2:(⟨#[102,101,110,99,101]⟩:ByteArray).size=5:=rfl;have e3:∀ a,(strOfNums [a]).size=1:=fun a=>by rw[Js];rfl
 unfold J7;split
 ·rw[ByteArray.size_append,ByteArray.size_append,e1,e3,e3];omega
 ·split
  ·rw[ByteArray.size_append,ByteArray.size_append,e1,e3,e3];omega
  ·split
   ·rw[ByteArray.size_append,ByteArray.size_append,e1,e3,e3];omega
   ·split
    ·rw[ByteArray.size_append,ByteArray.size_append,ByteArray.size_append,ByteArray.size_append,e1,e1,e3,e3,e3];omega
    ·rw[e2];omega
theorem BD {x:Ins}(h:Zg x=true):(x.op=1∨x.op=2∨x.op=3∨x.op=4∨x.op=5)∧0≤x.loc∧x.loc≤2∧0≤x.ZQ∧x.ZQ≤2∧0≤x.val∧x.val≤3:=by
 unfold Zg Kj at h;split at h
 ·simp at h;omega
 ·split at h
  ·simp at h;omega
  ·split at h
   ·simp at h;omega
   ·split at h
    ·simp at h;omega
    ·cases h
theorem VZ (o l r x:Int) (w:World) (h:Zg ⟨o,l,r,x⟩=true):Calls Tryz.prog 152 #[.agg #[.int .i64 o,.int .i64 l,.int .i64 r,.int .i64 x]] w fun e w'=>e = .returned (.string (J7 ⟨o,l,r,x⟩))∧Below w.heap.size w w':=by
 obtain⟨ho,hl0,hl2,hr0,hr2,hx0,hx2⟩:=BD h;simp only at ho hl0 hl2 hr0 hr2 hx0 hx2;clear h;have z0:(strOfNums [120+l]).size≤10:=by rw[Js];simp
 have z1:(strOfNums [97+r]).size≤10:=by rw[Js];simp
 have z2:(strOfNums [48+x]).size≤10:=by rw[Js];simp
 have HX:=Za (fun w'=>BG x w' hx0 Om);have HL:=Za (fun w'=>JT 120 l w' hl0 Om Om Om);have HR:=Za (fun w'=>JT 97 r w' hr0 Om Om Om);have HE:Hid (J7 ⟨o,l,r,x⟩=if o=1 then strOfNums [97+r]++⟨#[61]⟩++strOfNums [120+l]
  else if o=2 then strOfNums [120+l]++⟨#[61]⟩++strOfNums [48+x]
  else if o=3 then strOfNums [120+l]++⟨#[61]⟩++strOfNums [97+r]
  else if o=5 then strOfNums [97+r]++⟨#[61]⟩++strOfNums [120+l]++⟨#[58]⟩++strOfNums [48+x]
  else ⟨#[102,101,110,99,101]⟩):=Za rfl
 generalize J7 ⟨o,l,r,x⟩=Z at *;generalize strOfNums [120+l]=TL at *;generalize strOfNums [97+r]=TR at *;generalize strOfNums [48+x]=TX at *;have BI0:=Za (JI.new w o l r x 44);have HB0:=Za (Ze w (.cells #[.int .i64 o,.int .i64 l,.int .i64 r,.int .i64 x] 44));clear hl0 hl2 hr0 hr2 hx0 hx2;rcases ho with rfl | rfl | rfl | rfl | rfl
 ·have HE':Hid (Z=_):=Za (by have h:=HE.out;simp only[if_true]at h;exact h)
  clear HE;go_enter Tryz.func152,Tryz.ntmps152;go_wp2_with fail
  (with_reducible refine(HL.out _).mono ?_);rintro e w1 ⟨rfl,hb1⟩
  have BI1:=Za (BI0.out.below hb1 BI0.out.lt);have HB1:=Za (HB0.out.trans (hb1.mono HB0.out.size))
  clear BI0 HB0 hb1;obtain⟨lt1,i0,i1,i2,i3,if'⟩:=BI1.out;go_wp2_with fail;clear lt1 i0 i1 i2 i3 if'
  (with_reducible refine(HR.out _).mono ?_);rintro e w2 ⟨rfl,hb2⟩
  have BI2:=Za (BI1.out.below hb2 BI1.out.lt);have HB2:=Za (HB1.out.trans (hb2.mono HB1.out.size))
  clear BI1 HB1 hb2;obtain⟨lt2,i0,i1,i2,i3,if'⟩:=BI2.out;go_wp2_with fail;go_ret;exact⟨by rw[HE'.out] <;> rfl,HB2.out⟩
 ·have HE':Hid (Z=_):=Za (by have h:=HE.out;simp only[show ((2:Int)=1)=False from by decide,if_false,if_true]at h;exact h)
  clear HE;go_enter Tryz.func152,Tryz.ntmps152;go_wp2_with fail
  (with_reducible refine(HL.out _).mono ?_);rintro e w1 ⟨rfl,hb1⟩
  have BI1:=Za (BI0.out.below hb1 BI0.out.lt);have HB1:=Za (HB0.out.trans (hb1.mono HB0.out.size))
  clear BI0 HB0 hb1;obtain⟨lt1,i0,i1,i2,i3,if'⟩:=BI1.out;go_wp2_with fail;clear lt1 i0 i1 i2 i3 if'
  (with_reducible refine(HR.out _).mono ?_);rintro e w2 ⟨rfl,hb2⟩
  have BI2:=Za (BI1.out.below hb2 BI1.out.lt);have HB2:=Za (HB1.out.trans (hb2.mono HB1.out.size))
  clear BI1 HB1 hb2;obtain⟨lt2,i0,i1,i2,i3,if'⟩:=BI2.out;go_wp2_with fail;clear lt2 i0 i1 i2 i3 if'
  (with_reducible refine(HX.out _).mono ?_);rintro e w3 ⟨rfl,hb3⟩
  have BI3:=Za (BI2.out.below hb3 BI2.out.lt);have HB3:=Za (HB2.out.trans (hb3.mono HB2.out.size))
  clear BI2 HB2 hb3;obtain⟨lt3,i0,i1,i2,i3,if'⟩:=BI3.out;go_wp2_with fail;go_ret;exact⟨by rw[HE'.out] <;> rfl,HB3.out⟩
 ·have HE':Hid (Z=_):=Za (by have h:=HE.out;simp only[show ((3:Int)=1)=False from by decide,show ((3:Int)=2)=False from by decide,if_false,if_true]at h;exact h)
  clear HE;go_enter Tryz.func152,Tryz.ntmps152;go_wp2_with fail
  (with_reducible refine(HL.out _).mono ?_);rintro e w1 ⟨rfl,hb1⟩
  have BI1:=Za (BI0.out.below hb1 BI0.out.lt);have HB1:=Za (HB0.out.trans (hb1.mono HB0.out.size))
  clear BI0 HB0 hb1;obtain⟨lt1,i0,i1,i2,i3,if'⟩:=BI1.out;go_wp2_with fail;clear lt1 i0 i1 i2 i3 if'
  (with_reducible refine(HR.out _).mono ?_);rintro e w2 ⟨rfl,hb2⟩
  have BI2:=Za (BI1.out.below hb2 BI1.out.lt);have HB2:=Za (HB1.out.trans (hb2.mono HB1.out.size))
  clear BI1 HB1 hb2;obtain⟨lt2,i0,i1,i2,i3,if'⟩:=BI2.out;go_wp2_with fail;go_ret;exact⟨by rw[HE'.out] <;> rfl,HB2.out⟩
 ·have HE':Hid (Z=_):=Za (by have h:=HE.out;simp only[show ((4:Int)=1)=False from by decide,show ((4:Int)=2)=False from by decide,show ((4:Int)=3)=False from by decide,show ((4:Int)=5)=False from by decide,if_false]at h;exact h)
  clear HE;go_enter Tryz.func152,Tryz.ntmps152;go_wp2_with fail
  (with_reducible refine(HL.out _).mono ?_);rintro e w1 ⟨rfl,hb1⟩
  have BI1:=Za (BI0.out.below hb1 BI0.out.lt);have HB1:=Za (HB0.out.trans (hb1.mono HB0.out.size))
  clear BI0 HB0 hb1;obtain⟨lt1,i0,i1,i2,i3,if'⟩:=BI1.out;go_wp2_with fail;clear lt1 i0 i1 i2 i3 if'
  (with_reducible refine(HR.out _).mono ?_);rintro e w2 ⟨rfl,hb2⟩
  have BI2:=Za (BI1.out.below hb2 BI1.out.lt);have HB2:=Za (HB1.out.trans (hb2.mono HB1.out.size))
  clear BI1 HB1 hb2;obtain⟨lt2,i0,i1,i2,i3,if'⟩:=BI2.out;go_wp2_with fail;go_ret;exact⟨by rw[HE'.out] <;> rfl,HB2.out⟩
 ·have HE':Hid (Z=_):=Za (by have h:=HE.out;simp only[show ((5:Int)=1)=False from by decide,show ((5:Int)=2)=False from by decide,show ((5:Int)=3)=False from by decide,if_false,if_true]at h;exact h)
  clear HE;go_enter Tryz.func152,Tryz.ntmps152;go_wp2_with fail
  (with_reducible refine(HL.out _).mono ?_);rintro e w1 ⟨rfl,hb1⟩
  have BI1:=Za (BI0.out.below hb1 BI0.out.lt);have HB1:=Za (HB0.out.trans (hb1.mono HB0.out.size))
  clear BI0 HB0 hb1;obtain⟨lt1,i0,i1,i2,i3,if'⟩:=BI1.out;go_wp2_with fail;clear lt1 i0 i1 i2 i3 if'
  (with_reducible refine(HR.out _).mono ?_);rintro e w2 ⟨rfl,hb2⟩
  have BI2:=Za (BI1.out.below hb2 BI1.out.lt);have HB2:=Za (HB1.out.trans (hb2.mono HB1.out.size))
  clear BI1 HB1 hb2;obtain⟨lt2,i0,i1,i2,i3,if'⟩:=BI2.out;go_wp2_with fail;clear lt2 i0 i1 i2 i3 if'
  (with_reducible refine(HX.out _).mono ?_);rintro e w3 ⟨rfl,hb3⟩
  have BI3:=Za (BI2.out.below hb3 BI2.out.lt);have HB3:=Za (HB2.out.trans (hb3.mono HB2.out.size))
  clear BI2 HB2 hb3;obtain⟨lt3,i0,i1,i2,i3,if'⟩:=BI3.out;go_wp2_with fail;go_ret;exact⟨by rw[HE'.out] <;> rfl,HB3.out⟩
def YI (acc:ByteArray) (r:List Ins):Nat→ByteArray
 | 0=>acc
 | k+1=>(if k=0 then YI acc r k else YI acc r k++⟨#[59]⟩)++J7 (r[k]?.getD ⟨0,0,0,0⟩)
def Yx (p:List (List Ins)):Nat→ByteArray
 | 0=>⟨#[]⟩
 | j+1=>YI (if j=0 then Yx p j else Yx p j++⟨#[124]⟩) (p[j]?.getD []) (p[j]?.getD []).length
theorem Up (acc:ByteArray) (r:List Ins):∀ k,(YI acc r k).size≤acc.size+6 * k:=by
 intro k
 induction k with
 | zero=>simp[YI]
 | succ k ih =>
  have:=JH (r[k]?.getD ⟨0,0,0,0⟩);unfold YI;rw[ByteArray.size_append];split
  ·omega
  ·rw[ByteArray.size_append];rw[show (⟨#[59]⟩:ByteArray).size=1 from rfl];omega
theorem AR (p:List (List Ins)) (m:Nat) (h:∀ r∈p,r.length≤m):∀ j,(Yx p j).size≤(6 * m+1) * j:=by
 intro j
 induction j with
 | zero=>simp[Yx,ByteArray.size]
 | succ j ih =>
  unfold Yx;have h1:=Up (if j=0 then Yx p j else Yx p j++⟨#[124]⟩) (p[j]?.getD []) (p[j]?.getD []).length;have h2:(p[j]?.getD []).length≤m:=by
   cases hj:p[j]? with
   | none=>simp
   | some r=>simpa using h r (List.mem_of_getElem? hj)
  have h3:(if j=0 then Yx p j else Yx p j++⟨#[124]⟩).size≤(Yx p j).size+1:=by
   split
   ·omega
   ·rw[ByteArray.size_append,show (⟨#[124]⟩:ByteArray).size=1 from rfl];omega
  rw[Nat.mul_succ];omega
theorem J2 (v:Value) (p:List (List Ins)) (w:World) (hp:Z5 w v p) (hv:∀ r∈p,∀ x∈r,Zg x=true) (hl:p.length≤100) (hl2:∀ r∈p,r.length≤100) :
 Calls Tryz.prog 130 #[v] w fun e w'=>e = .returned (.string (Yx p p.length))∧Below w.heap.size w w':=by
 obtain⟨a,c,rfl,hc1,hc2,hc3,hp⟩:=hp.open;have HP:=Za hp;clear hp;have HV:=Za hv;clear hv;have HL2:=Za hl2;clear hl2;have HS:=Za (AR p 100 HL2.out);generalize hn:p.length=n at *;have H:=Za hn;clear hn;go_enter Tryz.func130,Tryz.ntmps130;go_wp2_with fail
 go_loopw [3,4] (fun s i wr => ∃ j:Nat,j≤n∧i = .int .i64 j∧s = .string (Yx p j)∧Below w.heap.size w wr) (fun _ i _=>n - (intOf i).toNat)
 case atStart=>exact⟨0,Om,rfl,rfl,Below.refl _ _⟩
 case round =>
  obtain⟨j,hj,rfl,rfl,hb2⟩:=hrel;have hS:=HS.out j;by_cases hlt2:j < n
  ·obtain⟨x,hxk⟩:=Zd (xs:=p) (k:=j) (by rw[H.out];exact hlt2)
   obtain⟨b,o,ra,rc,rfl,hbl,i0,i1⟩:=HP.out.row hxk;have hlt2':=Zh hlt2;have hxl:=HL2.out x (List.mem_of_getElem? hxk);have hxv:=Za (HV.out x (List.mem_of_getElem? hxk));have IW:=Za i0;have I1:=Za i1;clear i1;obtain⟨A,hA⟩:∃ A,(if j=0 then Yx p j else Yx p j++⟨#[124]⟩)=A:=⟨_,rfl⟩
   have PS:Hid (Yx p (j+1)=YI A x x.length):=Za (by
    rw[← hA];conv=>lhs;unfold Yx
    rw[hxk];rfl)
   have RS:=Za (Up A x);clear hxk;have hAs:A.size≤601 * j+1:=by
    rw[← hA];split
    ·omega
    ·rw[ByteArray.size_append];rw[show (⟨#[124]⟩:ByteArray).size=1 from rfl];omega
   have i0:=(hb2.cell (p:=⟨b,o+j,none⟩) hbl).trans i0;have SP124:(j=0∧Yx p j=A)∨(0 < j∧Yx p j++⟨#[124]⟩=A):=by
    by_cases h0:j=0
    ·rw[if_pos h0]at hA;exact .inl ⟨h0,hA⟩
    ·rw[if_neg h0]at hA;exact .inr ⟨Om,hA⟩
   clear hA;generalize Yx p j=G at *;rcases SP124 with⟨h0,hA⟩ | ⟨h0,hA⟩
   ·subst hA
    have h0':decide ((0:Int) < (j:Int))=false:=decide_eq_false Om;have h0'':decide (0 < j)=false:=decide_eq_false Om;clear h0;go_wp2_with fail
    go_loopw [3,5] (fun s i wr => ∃ k:Nat,k≤x.length∧i = .int .i64 k∧s = .string (YI G x k)∧Below w.heap.size w wr) (fun _ i _=>x.length - (intOf i).toNat)
    case atStart=>exact⟨0,Om,rfl,rfl,hb2⟩
    case round =>
     obtain⟨k,hk,rfl,rfl,hb3⟩:=hrel;have hR:=RS.out k;have i0:=(hb3.cell (p:=⟨b,o+j,none⟩) hbl).trans IW.out;by_cases hlt3:k < x.length
     ·obtain⟨y,hyk⟩:=Zd (xs:=x) (k:=k) hlt3
      obtain⟨b',o',rfl,hbl',j0,j1,j2,j3⟩:=(I1.out.below hb3).ins hyk;have hlt3':=Zh hlt3;have HT:=Za (fun w'=>VZ y.op y.loc y.ZQ y.val w' (hxv.out y (List.mem_of_getElem? hyk)));have hts:=JH y;obtain⟨B,hB⟩:∃ B,(if k=0 then YI (G) x k else YI (G) x k++⟨#[59]⟩)=B:=⟨_,rfl⟩
      have RSS:Hid (YI (G) x (k+1)=B++J7 y):=Za (by
       rw[← hB];conv=>lhs;unfold YI
       rw[hyk];rfl)
      clear hyk;have hBs:B.size≤(G).size+6 * k+1:=by
       rw[← hB];split
       ·omega
       ·rw[ByteArray.size_append];rw[show (⟨#[59]⟩:ByteArray).size=1 from rfl];omega
      have SP59:(k=0∧YI (G) x k=B)∨(0 < k∧YI (G) x k++⟨#[59]⟩=B):=by
       by_cases h0:k=0
       ·rw[if_pos h0]at hB;exact .inl ⟨h0,hB⟩
       ·rw[if_neg h0]at hB;exact .inr ⟨Om,hB⟩
      clear hB;generalize J7 y=TY at *;generalize YI (G) x k=R at *;rcases SP59 with⟨h1,hB⟩ | ⟨h1,hB⟩
      ·subst hB
       have h1':decide ((0:Int) < (k:Int))=false:=decide_eq_false Om;have h1'':decide (0 < k)=false:=decide_eq_false Om;clear h1;go_wp2_with fail
       (with_reducible refine(HT.out _).mono ?_);rintro e w4 ⟨rfl,hb4⟩
       go_wp2_with fail;go_roundw
       case rel=>exact⟨k+1,Om,Gn,by rw[RSS.out],hb3.trans (hb4.mono hb3.size)⟩
       case measure=>simp[intOf];omega
      ·subst hB
       have h1':(0:Int) < k:=Om;go_wp2_with fail
       (with_reducible refine(HT.out _).mono ?_);rintro e w4 ⟨rfl,hb4⟩
       go_wp2_with fail;go_roundw
       case rel=>exact⟨k+1,Om,Gn,by rw[RSS.out],hb3.trans (hb4.mono hb3.size)⟩
       case measure=>simp[intOf];omega
     ·have e:k=x.length:=Om
      subst e;go_wp2_with fail;go_roundw
      case rel=>exact⟨j+1,Om,Gn,by rw[PS.out],hb3⟩
      case measure=>simp[intOf];omega
   ·subst hA
    have h0':(0:Int) < j:=Om;go_wp2_with fail
    go_loopw [3,5] (fun s i wr => ∃ k:Nat,k≤x.length∧i = .int .i64 k∧s = .string (YI (G++⟨#[124]⟩) x k)∧Below w.heap.size w wr) (fun _ i _=>x.length - (intOf i).toNat)
    case atStart=>exact⟨0,Om,rfl,rfl,hb2⟩
    case round =>
     obtain⟨k,hk,rfl,rfl,hb3⟩:=hrel;have hR:=RS.out k;have i0:=(hb3.cell (p:=⟨b,o+j,none⟩) hbl).trans IW.out;by_cases hlt3:k < x.length
     ·obtain⟨y,hyk⟩:=Zd (xs:=x) (k:=k) hlt3
      obtain⟨b',o',rfl,hbl',j0,j1,j2,j3⟩:=(I1.out.below hb3).ins hyk;have hlt3':=Zh hlt3;have HT:=Za (fun w'=>VZ y.op y.loc y.ZQ y.val w' (hxv.out y (List.mem_of_getElem? hyk)));have hts:=JH y;obtain⟨B,hB⟩:∃ B,(if k=0 then YI ((G++⟨#[124]⟩)) x k else YI ((G++⟨#[124]⟩)) x k++⟨#[59]⟩)=B:=⟨_,rfl⟩
      have RSS:Hid (YI ((G++⟨#[124]⟩)) x (k+1)=B++J7 y):=Za (by
       rw[← hB];conv=>lhs;unfold YI
       rw[hyk];rfl)
      clear hyk;have hBs:B.size≤((G++⟨#[124]⟩)).size+6 * k+1:=by
       rw[← hB];split
       ·omega
       ·rw[ByteArray.size_append];rw[show (⟨#[59]⟩:ByteArray).size=1 from rfl];omega
      have SP59:(k=0∧YI ((G++⟨#[124]⟩)) x k=B)∨(0 < k∧YI ((G++⟨#[124]⟩)) x k++⟨#[59]⟩=B):=by
       by_cases h0:k=0
       ·rw[if_pos h0]at hB;exact .inl ⟨h0,hB⟩
       ·rw[if_neg h0]at hB;exact .inr ⟨Om,hB⟩
      clear hB;generalize J7 y=TY at *;generalize YI ((G++⟨#[124]⟩)) x k=R at *;rcases SP59 with⟨h1,hB⟩ | ⟨h1,hB⟩
      ·subst hB
       have h1':decide ((0:Int) < (k:Int))=false:=decide_eq_false Om;have h1'':decide (0 < k)=false:=decide_eq_false Om;clear h1;go_wp2_with fail
       (with_reducible refine(HT.out _).mono ?_);rintro e w4 ⟨rfl,hb4⟩
       go_wp2_with fail;go_roundw
       case rel=>exact⟨k+1,Om,Gn,by rw[RSS.out],hb3.trans (hb4.mono hb3.size)⟩
       case measure=>simp[intOf];omega
      ·subst hB
       have h1':(0:Int) < k:=Om;go_wp2_with fail
       (with_reducible refine(HT.out _).mono ?_);rintro e w4 ⟨rfl,hb4⟩
       go_wp2_with fail;go_roundw
       case rel=>exact⟨k+1,Om,Gn,by rw[RSS.out],hb3.trans (hb4.mono hb3.size)⟩
       case measure=>simp[intOf];omega
     ·have e:k=x.length:=Om
      subst e;go_wp2_with fail;go_roundw
      case rel=>exact⟨j+1,Om,Gn,by rw[PS.out],hb3⟩
      case measure=>simp[intOf];omega
  ·have e:j=n:=Om
   subst e;go_wp2_with fail;go_ret;exact⟨rfl,hb2⟩
theorem J4 {p:List (List Ins)}(h:Zi p=true):∀ r∈p,∀ x∈r,Zg x=true:=by
 intro r hr x hx;obtain⟨k,hk⟩:=List.getElem?_of_mem hx;unfold Zi ZS at h;simp only[Bool.and_eq_true,List.all_eq_true]at h;have:=h.1.1.1.2 r hr;cases hv:Zg x with
 | true=>rfl
 | false=>rw[Ca hk hv]at this;cases this
theorem Own.Jv {α:Type}{E:El α}{T:TypeId}{w:World}{base:Nat}{v:Value}{xs:List α}(h:Own E T w base v xs):∃ a n c,v = .slice a n c∧n=xs.length:=by
 rcases h.shape with⟨rfl,rfl⟩ | ⟨g,cap,rfl,_⟩
 ·exact⟨none,0,0,rfl,rfl⟩
 ·exact⟨_,_,_,rfl,rfl⟩
theorem Own.Jb {α β:Type}{E:El α}{F:El β}{T U:TypeId}{w w':World}{base base':Nat}{v u:Value}{xs:List α}{ys:List β}(h:Own E T w base v xs) (k:Own F U w base' u ys) (hT:T≠U) (hg:w.grownBy w' u.ownBlock):Own E T w' base v xs:=
 h.grown hg (by
  rcases hq:v.ownBlock with _ | q
  ·exact .inl rfl
  ·refine .inr (fun e => ?_)
   exact QE hT h k q e.symm hq)
theorem Yk (p:List (List Ins)) (m:Nat) (h:∀ r∈p,r.length≤m):p.flatten.length≤p.length * m:=by
 induction p with
 | nil=>simp
 | cons r p ih =>
  have h1:=h r Sm;have h2:=ih (fun r hr=>h r (by simp[hr]));rw[List.flatten_cons,List.length_append,List.length_cons,Nat.succ_mul];omega
def QP (lo:Nat) (v:Value) (w:World):Prop:=∃ P:List (List Ins),Kl w lo v P∧P.length≤4∧∀ r∈P,r.length≤8
def LQ (lo:Nat) (v:Value) (w:World) (ok:Bool):Prop:=∃ P:List (List Ins),Kl w lo v P∧P.length≤4∧(∀ r∈P,r.length≤8)∧(ok=true→Zi P=true)
def CO (w:World) (e:Ending) (w':World):Prop:=∃ v ok,e = .returned (.tuple #[v,.bool ok])∧LQ w.heap.size v w' ok∧Below w.heap.size w w'
def DV (w:World) (e:Ending) (w':World):Prop:=∃ v ok,e = .returned (.tuple #[v,.bool ok])∧QP w.heap.size v w'∧Below w.heap.size w w'
theorem XW (s:ByteArray) (w:World) (hs:s.size≤1000) :
 Calls Tryz.prog 102 #[.string s] w (CO w):=by
 have HC:=Za (VW s 124 (w.alloc (.cells #[] 42)) hs);have HB0:=Za (Ze w (.cells #[] 42));have HO0:=Za (ZG.empty (E:=ZH) 42 44 w (Nat.le_refl w.heap.size));go_enter Tryz.func102,Tryz.ntmps102;go_wp2_with fail
 (with_reducible refine HC.out.mono ?_);rintro e w1 ⟨tv,ts,rfl,hto,hb1,-,hts⟩
 have hT:=hto.mono (show w.heap.size≤_ from HB0.out.size);have hO:=HO0.out.below hb1;have hB:=HB0.out.trans (hb1.mono HB0.out.size);have HTS:=Za hts;clear hto hb1 HC HB0 HO0 hts;obtain⟨ta,tn,tc,rfl,htn⟩:=hT.Jv;have HT:=Za hT;have HO:=Za hO;have HB:=Za hB;have HTN:=Za htn
 clear hT hO hB htn;go_wp2_with fail
 go_loopw [4,6] (fun v i wr => ∃ (j:Nat) (P:List (List Ins)),i = .int .i64 j∧j≤4∧P.length≤j∧(∀ r∈P,r.length≤8)∧Kl wr w.heap.size v P∧Own Q5 9 wr w.heap.size (.slice ta tn tc) ts∧Below w.heap.size w wr) (fun _ i _=>4 - (intOf i).toNat)
 case atStart=>exact⟨0,[],rfl,Om,Sm,Sm,HO.out,HT.out,HB.out⟩
 case round =>
  obtain⟨j,P,rfl,hj,hPl,hPr,ho,hT,hb⟩:=hrel;by_cases hlt:j < tn
  ·have hlt':=Zh hlt
   by_cases hlt3:j≤3
   ·have hlt3':(j:Int)≤3:=Om
    obtain⟨wm,rfl⟩:∃ wm:World,wm=wr:=⟨_,rfl⟩
    obtain⟨x,hxj⟩:=Zd (xs:=ts) (k:=j) (by rw[← HTN.out];exact hlt);obtain⟨b,o,rfl,hbl,i0⟩:=hT.rep.str hxj;have hxs:=HTS.out x (List.mem_of_getElem? hxj);obtain⟨us,hU,-⟩:=ho.told;have hub:us.length≤68719476736:=by rw[hU.1];omega
    have HU:=Za hU;have HT2:=Za hT;have HX:=Za hxj;have HPr:=Za hPr
    have HC:=Za (VW x 59 (wm.alloc (.cells #[] 44)) Om);have BL:=Za (Ze wm (.cells #[] 44));clear hU ho hT hxj hPr;have hbs:=hb.size;go_wp2_with fail
    (with_reducible refine HC.out.mono ?_);rintro e w2 ⟨wv,ws,rfl,hwo,hb2,-,-⟩
    have HL0:=Za ((Own.empty (E:=ZH) 44 wm (Nat.le_refl wm.heap.size)).below hb2);have HB2:=Za (BL.out.trans (hb2.mono BL.out.size));have HT3:=Za (HT2.out.below HB2.out);have HW:=Za (hwo.mono (show w.heap.size≤_ from Nat.le_trans hbs BL.out.size));obtain⟨wa,wn,wc,rfl,hwn⟩:=hwo.Jv;have HWN:=Za hwn;clear hwn hwo hb2 HC BL i0;go_wp2_with fail
    go_loopw [7,9] (fun l k wr' => ∃ (K:Nat) (xs:List Ins),k = .int .i64 K∧K≤8∧xs.length=K∧CN wr' wm.heap.size l xs∧Own Q5 9 wr' w.heap.size (.slice (some ⟨b,o,none⟩) tn tc) ts∧Own Q5 9 wr' w.heap.size (.slice wa wn wc) ws∧Below wm.heap.size wm wr') (fun _ k _=>8 - (intOf k).toNat)
    case atStart=>exact⟨0,[],rfl,Om,rfl,HL0.out,HT3.out,HW.out,HB2.out⟩
    case round =>
     obtain⟨K,xs,rfl,hK,hxl,hl,hT,hW,hb3⟩:=hrel;have hbs3:=hb3.size;have HXL:=Za hxl;clear hxl;obtain⟨b2,o2,he,-,i0⟩:=hT.rep.str HX.out;simp only[Option.some.injEq,Addr.mk.injEq,and_true]at he;obtain⟨rfl,rfl⟩:=he;have hbl3:=Zb i0;by_cases hk:K < wn
     ·have hk':=Zh hk
      by_cases hk7:K≤7
      ·have hk7':(K:Int)≤7:=Om
       by_cases hx0:(x.toList==[])=true
       ·have hx0'':x.toList=[]:=by simpa using hx0
        obtain⟨la,ln,lc,rfl,hln⟩:=hl.Jv;have hU3:=Za (HU.out.2.1.below hb3);have HL:=Za hl;have HH:=Za hT
        clear hl hT hW hln;go_wp2_with (at_builtin;refine Z3 Zw 42 Tryz.YT rfl Tryz.underlying28 w.heap.size _ us ⟨la,ln,lc⟩ (hU3.out.alloc _) Dc hub So rfl _ _ rfl rfl _ 0 1 rfl Zp ?_;intro v5 w5 ho5 hgr5);have ho6:=HU.out.app Dc (hb3.trans ((Below.refl _ _).alloc hb3.size _)) hbs (s:=⟨la,ln,lc⟩) (HL.out.alloc _) ho5 hgr5;have hT6:=(HH.out.alloc _).Jb (hU3.out.alloc _) Dc hgr5;have hb6:=ZM (hb.trans (hb3.mono hb.size)) hU3.out hgr5;go_roundw
        case rel=>exact⟨j+1,P++[xs],Gn,Om,So,by
         intro r hr;rcases List.mem_append.1 hr with h | h
         ·exact HPr.out r h
         ·rw[List.mem_singleton.1 h,HXL.out];omega,ho6,hT6,hb6⟩
        case measure=>simp[intOf];omega
       ·have hx0':(x.toList==[])=false:=by simpa using hx0
        have hx0'':¬ x.toList=[]:=by simpa using hx0
        clear hx0;obtain⟨y,hyk⟩:=Zd (xs:=ws) (k:=K) (by rw[← HWN.out];exact hk);obtain⟨b4,o4,rfl,hbl4,j0⟩:=hW.rep.str hyk;have HY:=Za (fun w'=>Ay y w');have HH:=Za hT;have HHW:=Za hW;have HHL:=Za hl
        clear hyk hT hW hl;generalize Qm y=I at *;go_wp2_with fail
        (with_reducible refine(HY.out _).mono ?_);rintro e w4 ⟨rfl,hb4⟩
        have hbs4:=hb4.size;have hxl64:xs.length≤68719476736:=by rw[HXL.out];omega
        have hl4:=Za (HHL.out.below hb4);have hT4:=Za (HH.out.below hb4);have hW4:=Za (HHW.out.below hb4)
        have hb34:=Za (hb3.trans (hb4.mono hb3.size));clear HY hb4;go_wp2_with (at_builtin;refine Z3 ZH 44 Tryz.Y2 rfl Tryz.underlying42 wm.heap.size _ xs I (hl4.out.alloc _) Dc hxl64 So rfl _ _ rfl rfl _ 0 1 rfl Zp ?_;intro v6 w6 ho6 hgr6);have hb6:=ZM hb34.out hl4.out hgr6;have hT6:=(hT4.out.alloc _).Jb (hl4.out.alloc _) Dc hgr6;have hW6:=(hW4.out.alloc _).Jb (hl4.out.alloc _) Dc hgr6;go_roundw
        case rel=>exact⟨K+1,xs++[I],Gn,Om,by simp[HXL.out],ho6,hT6,hW6,hb6⟩
        case measure=>simp[intOf];omega
      ·have hk7':decide ((K:Int)≤7)=false:=decide_eq_false Om
       obtain⟨la,ln,lc,rfl,hln⟩:=hl.Jv;have hU3:=Za (HU.out.2.1.below hb3);have HL:=Za hl;have HH:=Za hT
       clear hl hT hW hln;go_wp2_with (at_builtin;refine Z3 Zw 42 Tryz.YT rfl Tryz.underlying28 w.heap.size _ us ⟨la,ln,lc⟩ (hU3.out.alloc _) Dc hub So rfl _ _ rfl rfl _ 0 1 rfl Zp ?_;intro v5 w5 ho5 hgr5);have ho6:=HU.out.app Dc (hb3.trans ((Below.refl _ _).alloc hb3.size _)) hbs (s:=⟨la,ln,lc⟩) (HL.out.alloc _) ho5 hgr5;have hT6:=(HH.out.alloc _).Jb (hU3.out.alloc _) Dc hgr5;have hb6:=ZM (hb.trans (hb3.mono hb.size)) hU3.out hgr5;go_roundw
       case rel=>exact⟨j+1,P++[xs],Gn,Om,So,by
        intro r hr;rcases List.mem_append.1 hr with h | h
        ·exact HPr.out r h
        ·rw[List.mem_singleton.1 h,HXL.out];omega,ho6,hT6,hb6⟩
       case measure=>simp[intOf];omega
     ·have hk':decide (K < wn)=false:=decide_eq_false hk
      have hk'':decide ((K:Int) < wn)=false:=decide_eq_false Om;obtain⟨la,ln,lc,rfl,hln⟩:=hl.Jv;have hU3:=Za (HU.out.2.1.below hb3);have HL:=Za hl;have HH:=Za hT
      clear hl hT hW hln;go_wp2_with (at_builtin;refine Z3 Zw 42 Tryz.YT rfl Tryz.underlying28 w.heap.size _ us ⟨la,ln,lc⟩ (hU3.out.alloc _) Dc hub So rfl _ _ rfl rfl _ 0 1 rfl Zp ?_;intro v5 w5 ho5 hgr5);have ho6:=HU.out.app Dc (hb3.trans ((Below.refl _ _).alloc hb3.size _)) hbs (s:=⟨la,ln,lc⟩) (HL.out.alloc _) ho5 hgr5;have hT6:=(HH.out.alloc _).Jb (hU3.out.alloc _) Dc hgr5;have hb6:=ZM (hb.trans (hb3.mono hb.size)) hU3.out hgr5;go_roundw
      case rel=>exact⟨j+1,P++[xs],Gn,Om,So,by
       intro r hr;rcases List.mem_append.1 hr with h | h
       ·exact HPr.out r h
       ·rw[List.mem_singleton.1 h,HXL.out];omega,ho6,hT6,hb6⟩
      case measure=>simp[intOf];omega
   ·have hlt3':decide ((j:Int)≤3)=false:=decide_eq_false Om
    obtain⟨us,hU,-⟩:=ho.told;obtain⟨oa,on,oc,rfl,hon⟩:=hU.2.1.Jv;have hfl:P.flatten.length≤1048576:=by
     have:=Yk P 8 hPr;have:P.length * 8≤4 * 8:=Nat.mul_le_mul_right _ Om;omega
    have HV:=Za (fun w' h=>Yd (.slice oa on oc) P w' h hfl Om);have HTX:=Za (fun w' h hv=>J2 (.slice oa on oc) P w' h hv Om (fun r hr=>Nat.le_trans (hPr r hr) Om));have HI:=Za (J4 (p:=P));have HO:=Za ho;have HPr:=Za hPr;have HB:=Za hb
    clear hU hT hon ho hPr hb hfl;go_wp2_with fail
    (with_reducible refine(HV.out _ HO.out.rep).mono ?_);rintro e w4 ⟨rfl,hb4⟩
    have HB4:=Za (HB.out.trans (hb4.mono HB.out.size));have HO4:=Za (HO.out.below hb4);clear hb4 HB HO HV;by_cases hv:Zi P=true
    ·have HTX:=Za (fun w' h=>HTX.out w' h (HI.out hv))
     clear HI;generalize Yx P P.length=X at *;go_wp2_with fail
     (with_reducible refine(HTX.out _ HO4.out.rep).mono ?_);rintro e w5 ⟨rfl,hb5⟩
     have HB5:=Za (HB4.out.trans (hb5.mono HB4.out.size));have HO5:=Za (HO4.out.below hb5);clear hb5 HB4 HO4 HTX;by_cases hq:(X.toList==s.toList)=true
     ·have hq':X.toList=s.toList:=by simpa using hq
      go_wp2_with fail;go_ret2;exact⟨_,_,rfl,⟨P,HO5.out,Om,HPr.out,fun _=>hv⟩,HB5.out⟩
     ·have hq':(X.toList==s.toList)=false:=by simpa using hq
      have hq'':¬ X.toList=s.toList:=by simpa using hq
      clear hq;go_wp2_with fail;go_ret2;exact⟨_,_,rfl,⟨[],ZG.empty _ _ _ HB5.out.size,Sm,Sm,fun h=>by cases h⟩,HB5.out.trans ((Ze _ _).mono HB5.out.size)⟩
    ·have hv':Zi P=false:=by simpa using hv
     clear hv;go_wp2_with fail;go_ret2;exact⟨_,_,rfl,⟨[],ZG.empty _ _ _ HB4.out.size,Sm,Sm,fun h=>by cases h⟩,HB4.out.trans ((Ze _ _).mono HB4.out.size)⟩
  ·have hlt':decide (j < tn)=false:=decide_eq_false hlt
   have hlt'':decide ((j:Int) < tn)=false:=decide_eq_false Om;obtain⟨us,hU,-⟩:=ho.told;obtain⟨oa,on,oc,rfl,hon⟩:=hU.2.1.Jv;have hfl:P.flatten.length≤1048576:=by
    have:=Yk P 8 hPr;have:P.length * 8≤4 * 8:=Nat.mul_le_mul_right _ Om;omega
   have HV:=Za (fun w' h=>Yd (.slice oa on oc) P w' h hfl Om);have HTX:=Za (fun w' h hv=>J2 (.slice oa on oc) P w' h hv Om (fun r hr=>Nat.le_trans (hPr r hr) Om));have HI:=Za (J4 (p:=P));have HO:=Za ho;have HPr:=Za hPr;have HB:=Za hb
   clear hU hT hon ho hPr hb hfl;go_wp2_with fail
   (with_reducible refine(HV.out _ HO.out.rep).mono ?_);rintro e w4 ⟨rfl,hb4⟩
   have HB4:=Za (HB.out.trans (hb4.mono HB.out.size));have HO4:=Za (HO.out.below hb4);clear hb4 HB HO HV;by_cases hv:Zi P=true
   ·have HTX:=Za (fun w' h=>HTX.out w' h (HI.out hv))
    clear HI;generalize Yx P P.length=X at *;go_wp2_with fail
    (with_reducible refine(HTX.out _ HO4.out.rep).mono ?_);rintro e w5 ⟨rfl,hb5⟩
    have HB5:=Za (HB4.out.trans (hb5.mono HB4.out.size));have HO5:=Za (HO4.out.below hb5);clear hb5 HB4 HO4 HTX;by_cases hq:(X.toList==s.toList)=true
    ·have hq':X.toList=s.toList:=by simpa using hq
     go_wp2_with fail;go_ret2;exact⟨_,_,rfl,⟨P,HO5.out,Om,HPr.out,fun _=>hv⟩,HB5.out⟩
    ·have hq':(X.toList==s.toList)=false:=by simpa using hq
     have hq'':¬ X.toList=s.toList:=by simpa using hq
     clear hq;go_wp2_with fail;go_ret2;exact⟨_,_,rfl,⟨[],ZG.empty _ _ _ HB5.out.size,Sm,Sm,fun h=>by cases h⟩,HB5.out.trans ((Ze _ _).mono HB5.out.size)⟩
   ·have hv':Zi P=false:=by simpa using hv
    clear hv;go_wp2_with fail;go_ret2;exact⟨_,_,rfl,⟨[],ZG.empty _ _ _ HB4.out.size,Sm,Sm,fun h=>by cases h⟩,HB4.out.trans ((Ze _ _).mono HB4.out.size)⟩
theorem Qi (s:ByteArray) (w:World) (hs:s.size≤1000) :
 Calls Tryz.prog 102 #[.string s] w (DV w):=
 (XW s w hs).mono fun _ _ ⟨v,ok,h1,⟨P,h2,h3,h4,_⟩,h5⟩=>⟨v,ok,h1,⟨P,h2,h3,h4⟩,h5⟩
theorem Own.lit {α:Type}{E:El α}{T:TypeId}{w:World}{base:Nat}(hb:base≤w.heap.size) (xs:List α) (cur:Array Value) (n:Nat) (hc:cur.toList=xs.flatMap E.c) (hn:n=xs.length) (hl:n≤1000) :
 Own E T (w.alloc (.cells cur T)) base (.slice (some ⟨w.heap.size,0,none⟩) n n) xs:=by
 subst hn;have hsz:(xs.flatMap E.c).length=xs.length * E.sz:=El.length E xs;refine⟨hsz,.inr ⟨w.heap.size,xs.length,cur,rfl,hb,heap_alloc_new w _,Nat.le_refl _,by unfold maxLen;omega,?_,?_⟩⟩
 ·rw[← hsz,← hc];simp
 ·rw[hc,← hsz,List.take_length]
theorem Outside.ZW {lo hi:Nat}{w w' w'':World}{row:Option Nat}(h:Outside lo hi w w') (hg:w'.grownBy w'' row) (hr:∀ q,row=some q→w.heap.size≤q):Outside lo hi w w'':=
 ⟨hg.os.trans h.os,hg.tape.trans h.tape,hg.output.trans h.output,Nat.le_trans h.size hg.size,fun k hk hlh=>(hg.block k (by have:=h.size;omega) (fun e=>by have:=hr k e.symm;omega)).trans (h.block k hk hlh)⟩
theorem Rd.ZW {w w':World}{b:Nat}{a:Option Addr}{c:Nat}{xs:List Int}{p:Int}(h:Rd w b a c xs p) {row:Option Nat}(hg:w.grownBy w' row) (hr:∀ q,row=some q→b < q):Rd w' b a c xs p:=
 h.keep (B:=b+1) ((Below.refl _ _).grown hg h.lt (fun q hq=>hr q hq)) (Nat.lt_succ_self _)
theorem Outside.Qz {α:Type}{E:El α}{T:TypeId}{b:Nat}{w w':World}(h:Outside b (b+1) w w') {base:Nat}{v:Value}{xs:List α}(ho:Own E T w base v xs) (hb:b < base):Own E T w' base v xs:=
 h.own ho (fun q hq => .inr (by have:=(World.ownsRow.lt ho q hq).1;omega))
theorem AO {w w1:World}{base:Nat}(hb:base≤w.heap.size) (x:Ins) (h1:w1=w.alloc (.cells #[.int .i64 x.op,.int .i64 x.loc,.int .i64 x.ZQ,.int .i64 x.val] 44)) :
 Kl (w1.alloc (.cells #[.slice (some ⟨w.heap.size,0,none⟩) 1 1] 42)) base (.slice (some ⟨w.heap.size+1,0,none⟩) 1 1) [[x]]:=by
 subst h1;have h1:CN (w.alloc (.cells #[.int .i64 x.op,.int .i64 x.loc,.int .i64 x.ZQ,.int .i64 x.val] 44)) base (.slice (some ⟨w.heap.size,0,none⟩) 1 1) [x]:=
  Own.lit hb [x] _ 1 rfl rfl Om
 have h2:Own Zw 42 ((w.alloc (.cells #[.int .i64 x.op,.int .i64 x.loc,.int .i64 x.ZQ,.int .i64 x.val] 44)).alloc (.cells #[.slice (some ⟨w.heap.size,0,none⟩) 1 1] 42)) base (.slice (some ⟨w.heap.size+1,0,none⟩) 1 1) [⟨some ⟨w.heap.size,0,none⟩,1,1⟩]:=by
  have:=Own.lit (E:=Zw) (T:=42) (w:=w.alloc (.cells #[.int .i64 x.op,.int .i64 x.loc,.int .i64 x.ZQ,.int .i64 x.val] 44)) (base:=base) So [⟨some ⟨w.heap.size,0,none⟩,1,1⟩] #[.slice (some ⟨w.heap.size,0,none⟩) 1 1] 1 rfl rfl Om;simpa using this
 refine⟨[⟨some ⟨w.heap.size,0,none⟩,1,1⟩],rfl,h2,?_,?_,?_⟩
 ·intro i u r hu hr
  cases i with
  | zero=>simp at hu hr;subst hu;subst hr;exact h1.alloc _
  | succ i=>simp at hu
 ·intro i j u u' hi hj hij
  have:i=0:=by cases i with
   | zero=>rfl
   | succ i=>simp at hi
  have:j=0:=by cases j with
   | zero=>rfl
   | succ j=>simp at hj
  omega
 ·intro i u hu
  cases i with
  | zero=>simp at hu;subst hu;intro k hk;simp[Value.ownBlock]at hk ⊢;omega
  | succ i=>simp at hu
def XK:List ByteArray:=[⟨#[120,61,49,59,97,61,121,124,121,61,49,59,97,61,120]⟩,⟨#[120,61,49,59,102,101,110,99,101,59,97,61,121,124,121,61,49,59,102,101,110,99,101,59,97,61,120]⟩,⟨#[120,61,49,59,121,61,49,124,97,61,121,59,98,61,120]⟩,⟨#[120,61,49,59,121,61,49,124,97,61,121,59,102,101,110,99,101,59,98,61,120]⟩,⟨#[120,61,49,59,102,101,110,99,101,59,121,61,49,124,97,61,121,59,98,61,120]⟩,⟨#[97,61,120,59,121,61,49,124,97,61,121,59,120,61,49]⟩,⟨#[97,61,120,59,121,61,97,124,97,61,121,59,120,61,97]⟩,⟨#[120,61,49,124,120,61,50,124,97,61,120,59,98,61,120]⟩,⟨#[120,61,49,124,121,61,49,124,97,61,120,59,98,61,121,124,97,61,121,59,98,61,120]⟩,⟨#[120,61,49,124,97,61,120,59,121,61,49,124,97,61,121,59,98,61,120]⟩,⟨#[120,61,49,124,121,61,49,124,97,61,120,59,98,61,121]⟩,⟨#[97,61,120,58,49,124,97,61,120,58,50,124,120,61,51]⟩,⟨#[120,61,49,59,97,61,120,59,98,61,121,124,121,61,49,59,97,61,121,59,98,61,120]⟩,⟨#[120,61,50,59,121,61,49,124,121,61,50,59,120,61,49]⟩,⟨#[97,61,120,58,49,59,98,61,121,124,97,61,121,58,49,59,98,61,120]⟩,⟨#[120,61,49,59,120,61,50,124,97,61,120,59,98,61,120]⟩,⟨#[120,61,49,59,121,61,49,59,97,61,122,124,122,61,49,59,97,61,121,59,98,61,120]⟩,⟨#[97,61,120,58,49,124,98,61,120,58,49]⟩,⟨#[102,101,110,99,101]⟩,⟨#[]⟩,⟨#[120,61,49,59,97,61,121,124,121,61,49,59,102,101,110,99,101,59,97,61,120]⟩]
theorem Rr:∀ x∈XK,x.size≤1000:=by
 have h:(XK.all fun x=>decide (x.size≤1000))=true:=Rf;intro x hx;have:=List.all_eq_true.1 h x hx;simpa using this
theorem A6 (w:World):Calls Tryz.prog 149 #[] w fun e w'=>e = .returned (.slice (some ⟨w.heap.size,0,none⟩) 21 21)∧Own Q5 9 w' w.heap.size (.slice (some ⟨w.heap.size,0,none⟩) 21 21) XK∧Below w.heap.size w w':=by
 go_enter Tryz.func149,Tryz.ntmps149;go_wp2_with fail;go_ret;exact⟨rfl,Own.lit (Nat.le_refl _) XK _ 21 rfl rfl Om,Ze _ _⟩
theorem LU {a b:Int}(h:0≤a∧a < 2) (k:0≤b∧b < 2):Zg ⟨1,a,b,0⟩=true:=by simp[Zg,Kj];omega
theorem LV {a b:Int}(h:0≤a∧a < 2) (k:0≤b∧b < 2):Zg ⟨3,a,b,0⟩=true:=by simp[Zg,Kj];omega
theorem LX:Zg ⟨4,0,0,0⟩=true:=by simp[Zg]
theorem LH {a x:Int}(h:0≤a∧a < 2) (k:0≤x∧x < 3):Zg ⟨2,a,0,wrap64 (1+x)⟩=true:=by
 have e:wrap64 (1+x)=1+x:=by unfold wrap64;omega
 rw[e];simp[Zg,Kj];omega
theorem LY {a b x:Int}(h:0≤a∧a < 2) (h2:0≤b∧b < 2) (k:0≤x∧x < 3):Zg ⟨5,a,b,wrap64 (1+x)⟩=true:=by
 have e:wrap64 (1+x)=1+x:=by unfold wrap64;omega
 rw[e];simp[Zg,Kj];omega
def Hy (v:Value) (_:World):Prop:=∃ o l r x:Int,v = .agg #[.int .i64 o,.int .i64 l,.int .i64 r,.int .i64 x]∧Zg ⟨o,l,r,x⟩=true
theorem GN (b:Nat) (a:Option Addr) (c:Nat) (xs:List Int) (p:Int) (w:World) (hr:Rd w b a c xs p) (hp:p≤900000000) :
 Calls Tryz.prog 150 #[.pointer (some ⟨b,0,none⟩)] w (QL w b a c xs p 4 Hy):=by
 have HP:=Za (fun (p:Int) n w' h hp (hn:n≤100) (hn0:0≤n)=>Jf b a c xs p n w' h hp Om Om);have hlt:=hr.lt;have hne:w.heap.size≠b:=Om;have R0:=Za (hr.Zm (.cells #[.int .i64 0,.int .i64 0,.int .i64 0,.int .i64 0] 44));have O0:=Za (Outside.Zf (lo:=b) (hi:=b+1) (Ze w (.cells #[.int .i64 0,.int .i64 0,.int .i64 0,.int .i64 0] 44)));have BI0:=Za (JI.new w 0 0 0 0 44);clear hr;go_enter Tryz.func150,Tryz.ntmps150;go_wp2_with fail
 (with_reducible refine(HP.out p _ _ R0.out Om Om Om).mono ?_);rintro e w1 ⟨v1,p1,rfl,⟨q1,rfl,hq1,hk1⟩,hp1,hr1,ho1⟩
 have HK1:=Za (And.intro hq1 (hk1 Dc));clear hk1;have R1:=Za hr1;have BI1:=Za (BI0.out.outside ho1 hne);have O1:=Za (O0.out.trans ho1)
 clear hr1 ho1 BI0 R0 O0;go_wp2_with fail
 (with_reducible refine(HP.out p1 _ _ R1.out Om Om Om).mono ?_);rintro e w2 ⟨v2,p2,rfl,⟨q2,rfl,hq2,-⟩,hp2,hr2,ho2⟩
 have R2:=Za hr2;have BI2:=Za (BI1.out.outside ho2 hne);have O2:=Za (O1.out.trans ho2)
 clear hr2 ho2 BI1 R1 O1;by_cases h0:q2=0
 ·subst h0
  obtain⟨lt2,i0,i1,i2,i3,if'⟩:=BI2.out;go_wp2_with fail;refine bodyPost_ret (v:=.agg #[.int .i64 (4),.int .i64 (0),.int .i64 (0),.int .i64 (0)]) (by simp[results,Tryz.results150,go_sem, *]) rfl ⟨_,p2,rfl,⟨_,_,_,_,rfl,LX⟩,Om,((((R2.out.Zv hlt _ _).Zv hlt _ _).Zv hlt _ _).Zv hlt _ _),((((O2.out.Zv (Nat.le_refl _) _ _).Zv (Nat.le_refl _) _ _).Zv (Nat.le_refl _) _ _).Zv (Nat.le_refl _) _ _)⟩
 ·have h0':(q2==0)=false:=by simp[h0]
  clear h0;by_cases h1:q2=1
  ·subst h1
   go_wp2_with fail
   (with_reducible refine(HP.out p2 _ _ R2.out Om Om Om).mono ?_);rintro e w3 ⟨v3,p3,rfl,⟨q3,rfl,hq3,hk3⟩,hp3,hr3,ho3⟩
   have HK3:=Za (And.intro hq3 (hk3 Dc));clear hk3;have R3:=Za hr3;have BI3:=Za (BI2.out.outside ho3 hne);have O3:=Za (O2.out.trans ho3)
   clear hr3 ho3 BI2 R2 O2;obtain⟨lt3,i0,i1,i2,i3,if'⟩:=BI3.out;go_wp2_with fail;refine bodyPost_ret (v:=.agg #[.int .i64 (3),.int .i64 (q1),.int .i64 (q3),.int .i64 (0)]) (by simp[results,Tryz.results150,go_sem, *]) rfl ⟨_,p3,rfl,⟨_,_,_,_,rfl,LV HK1.out HK3.out⟩,Om,((((R3.out.Zv hlt _ _).Zv hlt _ _).Zv hlt _ _).Zv hlt _ _),((((O3.out.Zv (Nat.le_refl _) _ _).Zv (Nat.le_refl _) _ _).Zv (Nat.le_refl _) _ _).Zv (Nat.le_refl _) _ _)⟩
  ·have h1':(q2==1)=false:=by simp[h1]
   clear h1;by_cases h2:q2=2
   ·subst h2
    go_wp2_with fail
    (with_reducible refine(HP.out p2 _ _ R2.out Om Om Om).mono ?_);rintro e w3 ⟨v3,p3,rfl,⟨q3,rfl,hq3,hk3⟩,hp3,hr3,ho3⟩
    have HK3:=Za (And.intro hq3 (hk3 Dc));clear hk3;have R3:=Za hr3;have BI3:=Za (BI2.out.outside ho3 hne);have O3:=Za (O2.out.trans ho3)
    clear hr3 ho3 BI2 R2 O2;go_wp2_with fail
    (with_reducible refine(HP.out p3 _ _ R3.out Om Om Om).mono ?_);rintro e w4 ⟨v4,p4,rfl,⟨q4,rfl,hq4,hk4⟩,hp4,hr4,ho4⟩
    have HK4:=Za (And.intro hq4 (hk4 Dc));clear hk4;have R4:=Za hr4;have BI4:=Za (BI3.out.outside ho4 hne);have O4:=Za (O3.out.trans ho4)
    clear hr4 ho4 BI3 R3 O3;obtain⟨lt4,i0,i1,i2,i3,if'⟩:=BI4.out;go_wp2_with fail;refine bodyPost_ret (v:=.agg #[.int .i64 (5),.int .i64 (q1),.int .i64 (q3),.int .i64 (wrap64 (1+q4))]) (by simp[results,Tryz.results150,go_sem, *]) rfl ⟨_,p4,rfl,⟨_,_,_,_,rfl,LY HK1.out HK3.out HK4.out⟩,Om,((((R4.out.Zv hlt _ _).Zv hlt _ _).Zv hlt _ _).Zv hlt _ _),((((O4.out.Zv (Nat.le_refl _) _ _).Zv (Nat.le_refl _) _ _).Zv (Nat.le_refl _) _ _).Zv (Nat.le_refl _) _ _)⟩
   ·have h2':(q2==2)=false:=by simp[h2]
    clear h2;by_cases h3:q2=3
    ·subst h3
     go_wp2_with fail
     (with_reducible refine(HP.out p2 _ _ R2.out Om Om Om).mono ?_);rintro e w3 ⟨v3,p3,rfl,⟨q3,rfl,hq3,hk3⟩,hp3,hr3,ho3⟩
     have HK3:=Za (And.intro hq3 (hk3 Dc));clear hk3;have R3:=Za hr3;have BI3:=Za (BI2.out.outside ho3 hne);have O3:=Za (O2.out.trans ho3)
     clear hr3 ho3 BI2 R2 O2;obtain⟨lt3,i0,i1,i2,i3,if'⟩:=BI3.out;go_wp2_with fail;refine bodyPost_ret (v:=.agg #[.int .i64 (2),.int .i64 (q1),.int .i64 (0),.int .i64 (wrap64 (1+q3))]) (by simp[results,Tryz.results150,go_sem, *]) rfl ⟨_,p3,rfl,⟨_,_,_,_,rfl,LH HK1.out HK3.out⟩,Om,((((R3.out.Zv hlt _ _).Zv hlt _ _).Zv hlt _ _).Zv hlt _ _),((((O3.out.Zv (Nat.le_refl _) _ _).Zv (Nat.le_refl _) _ _).Zv (Nat.le_refl _) _ _).Zv (Nat.le_refl _) _ _)⟩
    ·have h3':(q2==3)=false:=by simp[h3]
     clear h3;by_cases h4:q2=4
     ·subst h4
      go_wp2_with fail
      (with_reducible refine(HP.out p2 _ _ R2.out Om Om Om).mono ?_);rintro e w3 ⟨v3,p3,rfl,⟨q3,rfl,hq3,hk3⟩,hp3,hr3,ho3⟩
      have HK3:=Za (And.intro hq3 (hk3 Dc));clear hk3;have R3:=Za hr3;have BI3:=Za (BI2.out.outside ho3 hne);have O3:=Za (O2.out.trans ho3)
      clear hr3 ho3 BI2 R2 O2;obtain⟨lt3,i0,i1,i2,i3,if'⟩:=BI3.out;go_wp2_with fail;refine bodyPost_ret (v:=.agg #[.int .i64 (2),.int .i64 (q1),.int .i64 (0),.int .i64 (wrap64 (1+q3))]) (by simp[results,Tryz.results150,go_sem, *]) rfl ⟨_,p3,rfl,⟨_,_,_,_,rfl,LH HK1.out HK3.out⟩,Om,((((R3.out.Zv hlt _ _).Zv hlt _ _).Zv hlt _ _).Zv hlt _ _),((((O3.out.Zv (Nat.le_refl _) _ _).Zv (Nat.le_refl _) _ _).Zv (Nat.le_refl _) _ _).Zv (Nat.le_refl _) _ _)⟩
     ·have h4':(q2==4)=false:=by simp[h4]
      clear h4;go_wp2_with fail
      (with_reducible refine(HP.out p2 _ _ R2.out Om Om Om).mono ?_);rintro e w3 ⟨v3,p3,rfl,⟨q3,rfl,hq3,hk3⟩,hp3,hr3,ho3⟩
      have HK3:=Za (And.intro hq3 (hk3 Dc));clear hk3;have R3:=Za hr3;have BI3:=Za (BI2.out.outside ho3 hne);have O3:=Za (O2.out.trans ho3)
      clear hr3 ho3 BI2 R2 O2;obtain⟨lt3,i0,i1,i2,i3,if'⟩:=BI3.out;go_wp2_with fail;refine bodyPost_ret (v:=.agg #[.int .i64 (1),.int .i64 (q1),.int .i64 (q3),.int .i64 (0)]) (by simp[results,Tryz.results150,go_sem, *]) rfl ⟨_,p3,rfl,⟨_,_,_,_,rfl,LU HK1.out HK3.out⟩,Om,((((R3.out.Zv hlt _ _).Zv hlt _ _).Zv hlt _ _).Zv hlt _ _),((((O3.out.Zv (Nat.le_refl _) _ _).Zv (Nat.le_refl _) _ _).Zv (Nat.le_refl _) _ _).Zv (Nat.le_refl _) _ _)⟩
theorem Yt.outside {α:Type}{E:El α}{T1 T2:TypeId}{b:Nat}{us:List Zt}{w w':World}{base:Nat}{v:Value}{p:List (List α)}(h:Yt E T1 T2 us w base v p) (ho:Outside b (b+1) w w') (hb:b < base):Yt E T1 T2 us w' base v p:=by
 obtain⟨h1,h2,h3,h4,h5⟩:=h;exact⟨h1,ho.Qz h2 hb,fun i u r hu hr=>ho.Qz (h3 i u r hu hr) hb,h4,h5⟩
theorem ZG.outside {α:Type}{E:El α}{T1 T2:TypeId}{b:Nat}{w w':World}{base:Nat}{v:Value}{p:List (List α)}(h:ZG E T1 T2 w base v p) (ho:Outside b (b+1) w w') (hb:b < base):ZG E T1 T2 w' base v p:=
 h.Le ho hb
theorem Yt.Bl {α:Type}{E:El α}{T1 T2:TypeId}(hT:T1≠T2) {us:List Zt}{w1 w2:World}{base B:Nat}{v v':Value}{p:List (List α)}(h:Yt E T1 T2 us w1 base v p)
 (hold:∀ (i:Nat) (u':Zt),us[i]? = some u'→∀ q,u'.v.ownBlock=some q→q < B) (hbase:base≤B) {r:List α}{s:Zt}
 (hu:Own E T2 w1 B s.v r) (h2'':Own Zw T1 w2 base v' (us++[s])) (hg:w1.grownBy w2 v.ownBlock):ZG E T1 T2 w2 base v' (p++[r]):=by
 obtain⟨h1,h2',h3,h4,h5⟩:=h;have hnew:∀ q,s.v.ownBlock=some q→B≤q:=fun q hq=>(World.ownsRow.lt hu q hq).1;have split:∀ (i:Nat) (u':Zt),(us++[s])[i]? = some u'→(i=us.length∧u'=s)∨(i < us.length∧us[i]? = some u'):=fun i u' hi=>by
  by_cases hlt:i < us.length
  ·rw[List.getElem?_append_left hlt]at hi;exact .inr ⟨hlt,hi⟩
  ·rw[List.getElem?_append_right Om]at hi
   have:i - us.length=0:=by
    rcases Nat.eq_zero_or_pos (i - us.length) with h | h
    ·exact h
    ·rw[List.getElem?_eq_none So]at hi;cases hi
   rw[this]at hi;simp at hi;exact .inl ⟨Om,hi.symm⟩
 have hus:Own E T2 w2 base s.v r:=(hu.mono hbase).grown hg (by
  rcases hq:s.v.ownBlock with _ | q
  ·exact .inl rfl
  ·exact .inr (fun e=>QE hT h2' hu q hq e.symm))
 have hrows:∀ (i:Nat) (u:Zt) (r':List α),us[i]? = some u→p[i]? = some r'→Own E T2 w2 base u.v r':=fun i u r' hi hr' =>
  (h3 i u r' hi hr').grown hg (by
   rcases hq:u.v.ownBlock with _ | q
   ·exact .inl rfl
   ·exact .inr (fun e=>h5 i u hi q hq e.symm))
 refine⟨us++[s],by simp[h1],h2'',?_,?_,?_⟩
 ·intro i u r' hi hr'
  rcases split i u hi with⟨e1,e2⟩ | ⟨hlt,hi'⟩
  ·rw[e1,List.getElem?_append_right Om,h1,Nat.sub_self]at hr'
   simp at hr';rw[e2,← hr'];exact hus
  ·rw[List.getElem?_append_left Om]at hr'
   exact hrows i u r' hi' hr'
 ·intro i j u u' hi hj hij q hq hq'
  rcases split i u hi with⟨e1,e2⟩ | ⟨hlt,hi'⟩
  ·rcases split j u' hj with⟨e3,e4⟩ | ⟨hlt',hj'⟩
   ·omega
   ·rw[e2]at hq;have a1:=hnew q hq;have a2:=hold j u' hj' q hq';omega
  ·rcases split j u' hj with⟨e3,e4⟩ | ⟨hlt',hj'⟩
   ·rw[e4]at hq';have a1:=hnew q hq';have a2:=hold i u hi' q hq;omega
   ·exact h4 i j u u' hi' hj' hij q hq hq'
 ·intro i u hi q hq
  rcases split i u hi with⟨e1,e2⟩ | ⟨hlt,hi'⟩
  ·rw[e2]at hq;exact QE hT h2'' hus q hq
  ·obtain⟨r',hr'⟩:=Zd (xs:=p) (k:=i) Om
   exact QE hT h2'' (hrows i u r' hi' hr') q hq
theorem Own.XE {α:Type}{E:El α}{T:TypeId}{w:World}{base:Nat}{v:Value}{xs:List α}(h:Own E T w base v xs):∀ q,v.ownBlock=some q→base≤q:=fun q hq=>(World.ownsRow.lt h q hq).1
theorem K7.Hp {x y z:Int}{v:Value}{w:World}(h:K7 [x,y,z] v w):∃ u,v = .int .i64 u∧(u=x∨u=y∨u=z):=by
 obtain⟨u,hu,rfl⟩:=h;exact⟨u,rfl,by simpa using hu⟩
theorem K7.Hq {x y z s t:Int}{v:Value}{w:World}(h:K7 [x,y,z,s,t] v w):∃ u,v = .int .i64 u∧(u=x∨u=y∨u=z∨u=s∨u=t):=by
 obtain⟨u,hu,rfl⟩:=h;exact⟨u,rfl,by simpa using hu⟩
def LD (lo:Nat) (v:Value) (w:World):Prop:=∃ P:List (List Ins),Kl w lo v P∧P.length≤4∧(∀ r∈P,r.length≤8)∧Zi P=true
theorem Ge {x:Ins}(h:Zg x=true):Zi [[x]]=true:=by
 have hc:∀ (f:Ins→Bool),Y1 f [[x]]=if f x=true then 1 else 0:=fun f=>by simp[Y1,List.countP_cons]
 have hp:∀ l:Nat,pl [[x]] l≤2:=fun l=>by
  unfold pl;rw[hc,hc];split <;> split <;> decide
 have hP:YP [[x]]≤8:=by
  simp only[YP,YB,Nat.one_mul];have h0:=hp 0;have h1:=hp 1;have h2:=hp 2
  exact Nat.le_trans (Nat.mul_le_mul (Nat.mul_le_mul h0 h1) h2) Dc
 have hn:Y1 Zq [[x]]≤12:=by rw[hc];split <;> omega
 unfold Zi ZS XF;simp[h,hn];omega
theorem Aw (b:Nat) (a:Option Addr) (c:Nat) (xs:List Int) (p:Int) (w:World) (hr:Rd w b a c xs p) (hp:p≤800000000) :
 Calls Tryz.prog 127 #[.pointer (some ⟨b,0,none⟩)] w (QL w b a c xs p 60 (LD w.heap.size)):=by
 have HP:=Za (fun (p:Int) n w' h hp (hn:n≤100) (hn0:0≤n)=>Jf b a c xs p n w' h hp Om Om);have HI:=Za (fun (p:Int) w' h hp=>GN b a c xs p w' h hp);have HN3:=Za (fun (p:Int) w' G hG hb h hp=>FN b a c xs p 2 3 1 w' G hG hb h hp);have HN5:=Za (fun (p:Int) w' G hG hb h hp=>FP b a c xs p 2 1 3 2 0 w' G hG hb h hp);have hlt:=hr.lt;have R0:=Za hr;clear hr;go_enter Tryz.func127,Tryz.ntmps127;go_wp2_with fail
 (with_reducible refine(A6 w).mono ?_);rintro e w1 ⟨rfl,hl1,hb1⟩
 have R1:=Za (R0.out.keep hb1 hlt);have O1:=Za (Outside.Zf (lo:=b) (hi:=b+1) hb1);have L1:=Za hl1
 clear hb1 hl1 R0;go_wp2_with fail
 (with_reducible refine(HP.out p _ _ R1.out Om Om Om).mono ?_);rintro e w2 ⟨v2,p2,rfl,⟨q2,rfl,hq2,-⟩,hp2,hr2,ho2⟩
 have R2:=Za hr2;have O2:=Za (O1.out.trans ho2);have L2:=Za (ho2.Qz L1.out hlt)
 clear hr2 ho2 R1 O1 L1;by_cases hq:0 < q2
 ·go_wp2_with fail
  (with_reducible refine(HP.out p2 _ _ R2.out Om Om Om).mono ?_);rintro e w3 ⟨v3,p3,rfl,⟨q3,rfl,hq3,hq3'⟩,hp3,hr3,ho3⟩
  obtain⟨Q,rfl⟩:=Int.eq_ofNat_of_zero_le hq3;have hQ:Q < 21:=by have:=hq3' Om;omega
  have R3:=Za hr3;have O3:=Za (O2.out.trans ho3)
  have hl3:=ho3.Qz L2.out hlt;obtain⟨x,hx⟩:=Zd (xs:=XK) (k:=Q) (by have:XK.length=21:=rfl;omega);have hxs:=Rr x (List.mem_of_getElem? hx);obtain⟨g,o,he,hgl,i0⟩:=hl3.rep.str hx;simp only[Option.some.injEq,Addr.mk.injEq,and_true]at he;obtain⟨he1,he2⟩:=he;rw[← he1,← he2,Nat.zero_add]at i0;rw[← he1]at hgl;have HS:=Za (fun w'=>XW x w' hxs);clear hr3 ho3 R2 O2 L2 hl3 hx hxs he1 he2;go_wp2_with fail
  (with_reducible refine(HS.out _).mono ?_);rintro e w4 ⟨v4,ok,rfl,hQP,hb4⟩
  have hsz:=O3.out.size;have hQP:Hid (ok=true→LD w.heap.size v4 w4):=Za (by
   obtain⟨P,h1,h2,h3,h4⟩:=hQP;exact fun h=>⟨P,h1.mono hsz,h2,h3,h4 h⟩)
  have R4:=Za (R3.out.keep hb4 R3.out.lt);have O4:=Za (O3.out.trans (Outside.Zf hb4))
  clear hb4 R3 O3 HS i0 hgl;by_cases hok:ok=true
  ·subst hok
   go_wp2_with fail;go_ret;exact⟨_,p3,rfl,hQP.out trivial,Om,R4.out,O4.out⟩
  ·obtain rfl:ok=false:=by simpa using hok
   clear hok;have hsK4:=O4.out.size;go_wp2_with fail
   (with_reducible refine(HN3.out p3 _ _ Sm Om ((R4.out.Zm _).Zm _) Om).mono ?_);rintro e wa ⟨va,pa,rfl,hone,hpa,hra,hoa⟩
   obtain⟨y,rfl,hy⟩:=hone.Hp;have RA:=Za hra;have OA:=Za (((O4.out.Zm (.cells #[] 42)).Zm (.cells #[.int .i64 2,.int .i64 3,.int .i64 1] 3)).trans hoa)
   have UA:=Za ((((ZG.empty (E:=ZH) 42 44 w4 hsK4).below (Ze _ _))).outside hoa hlt);obtain⟨Y,rfl⟩:∃ Y:Nat,y=(Y:Int):=⟨y.toNat,Om⟩
   have hY:Y≤3:=Om;clear hra hoa hone R4 O4 hy;go_wp2_with fail
   go_loopw [6,7] (fun v i wr => ∃ (m:Nat) (P:List (List Ins)) (pp:Int),i = .int .i64 m∧P.length+m≤3∧(∀ r∈P,r.length≤3)∧Kl wr w.heap.size v P∧Rd wr b a c xs pp∧pp+14 * m≤p3+50∧Outside b (b+1) w wr) (fun _ i _=>(intOf i).toNat)
   case atStart=>exact⟨Y,[],pa,rfl,by simpa using hY,Sm,UA.out,RA.out,Om,OA.out⟩
   case round =>
    obtain⟨m,P,pp,rfl,hPl,hPr,ho,hR,hpp,hO⟩:=hrel;obtain⟨wm,rfl⟩:∃ wm:World,wm=wr:=⟨_,rfl⟩
    clear RA OA UA;by_cases hm:0 < m
    ·have hm':(0:Int) < m:=Om
     have hsm:=hO.size;obtain⟨us,hU,hold⟩:=ho.told;have hub:us.length≤68719476736:=by rw[hU.1];omega
     have HU:=Za hU;have HOLD:=Za hold;have RM:=Za hR;have OM:=Za hO;have HPR:=Za hPr
     clear ho hR hO hU hold hPr;go_wp2_with fail
     (with_reducible refine(HN5.out pp _ _ Sm Om ((RM.out.Zm _).Zm _) Om).mono ?_);rintro e wb ⟨vb,pb,rfl,hone,hpb,hrb,hob⟩
     obtain⟨z,rfl,hz⟩:=hone.Hq;have RB:=Za hrb;have OB:=Za ((((Outside.refl b (b+1) wm).Zm (.cells #[] 44)).Zm (.cells #[.int .i64 2,.int .i64 1,.int .i64 3,.int .i64 2,.int .i64 0] 3)).trans hob)
     have LB:=Za (hob.Qz ((Own.empty (E:=ZH) 44 wm (Nat.le_refl _)).alloc (.cells #[.int .i64 2,.int .i64 1,.int .i64 3,.int .i64 2,.int .i64 0] 3)) (show b < wm.heap.size by omega));obtain⟨Z,rfl⟩:∃ Z:Nat,z=(Z:Int):=⟨z.toNat,Om⟩
     have hZ:Z≤3:=Om;clear hrb hob hone hz;go_wp2_with fail
     go_loopw [8,9] (fun l k wr' => ∃ (n:Nat) (ys:List Ins) (pq:Int),k = .int .i64 n∧ys.length+n≤3∧CN wr' wm.heap.size l ys∧Rd wr' b a c xs pq∧pq+4 * n≤pb+12∧Outside b (b+1) wm wr') (fun _ k _=>(intOf k).toNat)
     case atStart=>exact⟨Z,[],pb,rfl,by simpa using hZ,LB.out,RB.out,Om,OB.out⟩
     case round =>
      obtain⟨n,ys,pq,rfl,hyl,hl,hR,hpq,hO⟩:=hrel;clear RB OB LB;by_cases hn:0 < n
      ·have hn':(0:Int) < n:=Om
       have RW:=Za hR;have OW:=Za hO;have LW:=Za hl
       clear hR hO hl;go_wp2_with fail
       (with_reducible refine(HI.out pq _ RW.out Om).mono ?_);rintro e wc ⟨vc,pc,rfl,⟨io,il,ir,ix,rfl,hiv⟩,hpc,hrc,hoc⟩
       have hlc:=Za (hoc.Qz LW.out (show b < wm.heap.size by omega));have RC:=Za hrc;have OC:=Za (OW.out.trans hoc)
       have hsz:=OC.out.size;have hyl64:ys.length≤68719476736:=Om;clear hrc hoc RW OW LW;go_wp2_with (at_builtin;refine Z3 ZH 44 Tryz.Y2 rfl Tryz.underlying42 wm.heap.size _ ys ⟨io,il,ir,ix⟩ (hlc.out.alloc _) Dc hyl64 So rfl _ _ rfl rfl _ 0 1 rfl Zp ?_;intro v6 w6 ho6 hgr6);have R6:=(RC.out.Zm _).ZW hgr6 (fun q hq=>by have:=hlc.out.XE q hq;omega);have O6:=(OC.out.Zm _).ZW hgr6 (fun q hq=>hlc.out.XE q hq);go_roundw
       case rel=>exact⟨n - 1,ys++[⟨io,il,ir,ix⟩],pc,Gn,So,ho6,R6,Om,O6⟩
       case measure=>simp[intOf];omega
      ·obtain rfl:n=0:=Om
       obtain⟨la,ln,lc,rfl,hln⟩:=hl.Jv;have hU3:=Za (HU.out.outside hO hlt);have HL:=Za hl;have RW:=Za hR;have OW:=Za hO
       have hsz:=hO.size;clear hl hR hO hln;go_wp2_with (at_builtin;refine Z3 Zw 42 Tryz.YT rfl Tryz.underlying28 w.heap.size _ us ⟨la,ln,lc⟩ (hU3.out.2.1.alloc _) Dc hub So rfl _ _ rfl rfl _ 0 1 rfl Zp ?_;intro v5 w5 ho5 hgr5);have ho6:=(hU3.out.below (Ze _ _)).Bl Dc (fun i u hu q hq=>(HOLD.out i u hu q hq).2) hsm (s:=⟨la,ln,lc⟩) (HL.out.alloc _) ho5 hgr5;have R6:=(RW.out.Zm _).ZW hgr5 (fun q hq=>by have:=hU3.out.2.1.XE q hq;omega);have O6:=((OM.out.trans OW.out).Zm _).ZW hgr5 (fun q hq=>hU3.out.2.1.XE q hq);go_roundw
       case rel=>exact⟨m - 1,P++[ys],pq,Gn,So,by
        intro r hr;rcases List.mem_append.1 hr with h | h
        ·exact HPR.out r h
        ·rw[List.mem_singleton.1 h];omega,ho6,R6,Om,O6⟩
       case measure=>simp[intOf];omega
    ·obtain rfl:m=0:=Om
     obtain⟨us,hU,-⟩:=ho.told;obtain⟨oa,on,oc,rfl,hon⟩:=hU.2.1.Jv;have hfl:P.flatten.length≤1048576:=by
      have:=Yk P 3 hPr;have:P.length * 3≤3 * 3:=Nat.mul_le_mul_right _ Om;omega
     have HV:=Za (fun w' h=>Yd (.slice oa on oc) P w' h hfl Om);have HO:=Za ho;have RM:=Za hR;have OM:=Za hO;have HPR:=Za hPr
     clear hU hon ho hR hO hPr hfl;go_wp2_with fail
     (with_reducible refine(HV.out _ HO.out.rep).mono ?_);rintro e w4 ⟨rfl,hb4⟩
     have R4:=Za (RM.out.keep hb4 RM.out.lt);have O4:=Za (OM.out.trans (Outside.Zf hb4));have HO4:=Za (HO.out.below hb4)
     clear hb4 HO RM OM HV;by_cases hv:Zi P=true
     ·go_wp2_with fail
      go_ret;exact⟨_,pp,rfl,⟨P,HO4.out,Om,fun r hr=>Nat.le_trans (HPR.out r hr) Om,hv⟩,Om,R4.out,O4.out⟩
     ·have hv':Zi P=false:=by simpa using hv
      clear hv HO4;go_wp2_with fail
      (with_reducible refine(HI.out pp _ R4.out Om).mono ?_);rintro e wc ⟨vc,pc,rfl,⟨io,il,ir,ix,rfl,hiv⟩,hpc,hrc,hoc⟩
      have RC:=Za hrc;have OC:=Za (O4.out.trans hoc)
      clear hrc hoc R4 O4;have hsz:=OC.out.size;go_wp2_with fail;go_ret;exact⟨_,pc,rfl,⟨[[⟨io,il,ir,ix⟩]],AO hsz ⟨io,il,ir,ix⟩ rfl,Sm,Sm,Ge hiv⟩,Om,(RC.out.Zm _).Zm _,(OC.out.Zm _).Zm _⟩
 ·have hq':decide (0 < q2)=false:=decide_eq_false hq
  clear hq;have hsK2:=O2.out.size;go_wp2_with fail
  (with_reducible refine(HN3.out p2 _ _ Sm Om ((R2.out.Zm _).Zm _) Om).mono ?_);rintro e wa ⟨va,pa,rfl,hone,hpa,hra,hoa⟩
  obtain⟨y,rfl,hy⟩:=hone.Hp;have RA:=Za hra;have OA:=Za (((O2.out.Zm (.cells #[] 42)).Zm (.cells #[.int .i64 2,.int .i64 3,.int .i64 1] 3)).trans hoa)
  have UA:=Za ((((ZG.empty (E:=ZH) 42 44 w2 hsK2).below (Ze _ _))).outside hoa hlt);obtain⟨Y,rfl⟩:∃ Y:Nat,y=(Y:Int):=⟨y.toNat,Om⟩
  have hY:Y≤3:=Om;clear hra hoa hone R2 O2 hy;go_wp2_with fail
  go_loopw [6,7] (fun v i wr => ∃ (m:Nat) (P:List (List Ins)) (pp:Int),i = .int .i64 m∧P.length+m≤3∧(∀ r∈P,r.length≤3)∧Kl wr w.heap.size v P∧Rd wr b a c xs pp∧pp+14 * m≤p2+50∧Outside b (b+1) w wr) (fun _ i _=>(intOf i).toNat)
  case atStart=>exact⟨Y,[],pa,rfl,by simpa using hY,Sm,UA.out,RA.out,Om,OA.out⟩
  case round =>
   obtain⟨m,P,pp,rfl,hPl,hPr,ho,hR,hpp,hO⟩:=hrel;obtain⟨wm,rfl⟩:∃ wm:World,wm=wr:=⟨_,rfl⟩
   clear RA OA UA;by_cases hm:0 < m
   ·have hm':(0:Int) < m:=Om
    have hsm:=hO.size;obtain⟨us,hU,hold⟩:=ho.told;have hub:us.length≤68719476736:=by rw[hU.1];omega
    have HU:=Za hU;have HOLD:=Za hold;have RM:=Za hR;have OM:=Za hO;have HPR:=Za hPr
    clear ho hR hO hU hold hPr;go_wp2_with fail
    (with_reducible refine(HN5.out pp _ _ Sm Om ((RM.out.Zm _).Zm _) Om).mono ?_);rintro e wb ⟨vb,pb,rfl,hone,hpb,hrb,hob⟩
    obtain⟨z,rfl,hz⟩:=hone.Hq;have RB:=Za hrb;have OB:=Za ((((Outside.refl b (b+1) wm).Zm (.cells #[] 44)).Zm (.cells #[.int .i64 2,.int .i64 1,.int .i64 3,.int .i64 2,.int .i64 0] 3)).trans hob)
    have LB:=Za (hob.Qz ((Own.empty (E:=ZH) 44 wm (Nat.le_refl _)).alloc (.cells #[.int .i64 2,.int .i64 1,.int .i64 3,.int .i64 2,.int .i64 0] 3)) (show b < wm.heap.size by omega));obtain⟨Z,rfl⟩:∃ Z:Nat,z=(Z:Int):=⟨z.toNat,Om⟩
    have hZ:Z≤3:=Om;clear hrb hob hone hz;go_wp2_with fail
    go_loopw [8,9] (fun l k wr' => ∃ (n:Nat) (ys:List Ins) (pq:Int),k = .int .i64 n∧ys.length+n≤3∧CN wr' wm.heap.size l ys∧Rd wr' b a c xs pq∧pq+4 * n≤pb+12∧Outside b (b+1) wm wr') (fun _ k _=>(intOf k).toNat)
    case atStart=>exact⟨Z,[],pb,rfl,by simpa using hZ,LB.out,RB.out,Om,OB.out⟩
    case round =>
     obtain⟨n,ys,pq,rfl,hyl,hl,hR,hpq,hO⟩:=hrel;clear RB OB LB;by_cases hn:0 < n
     ·have hn':(0:Int) < n:=Om
      have RW:=Za hR;have OW:=Za hO;have LW:=Za hl
      clear hR hO hl;go_wp2_with fail
      (with_reducible refine(HI.out pq _ RW.out Om).mono ?_);rintro e wc ⟨vc,pc,rfl,⟨io,il,ir,ix,rfl,hiv⟩,hpc,hrc,hoc⟩
      have hlc:=Za (hoc.Qz LW.out (show b < wm.heap.size by omega));have RC:=Za hrc;have OC:=Za (OW.out.trans hoc)
      have hsz:=OC.out.size;have hyl64:ys.length≤68719476736:=Om;clear hrc hoc RW OW LW;go_wp2_with (at_builtin;refine Z3 ZH 44 Tryz.Y2 rfl Tryz.underlying42 wm.heap.size _ ys ⟨io,il,ir,ix⟩ (hlc.out.alloc _) Dc hyl64 So rfl _ _ rfl rfl _ 0 1 rfl Zp ?_;intro v6 w6 ho6 hgr6);have R6:=(RC.out.Zm _).ZW hgr6 (fun q hq=>by have:=hlc.out.XE q hq;omega);have O6:=(OC.out.Zm _).ZW hgr6 (fun q hq=>hlc.out.XE q hq);go_roundw
      case rel=>exact⟨n - 1,ys++[⟨io,il,ir,ix⟩],pc,Gn,So,ho6,R6,Om,O6⟩
      case measure=>simp[intOf];omega
     ·obtain rfl:n=0:=Om
      obtain⟨la,ln,lc,rfl,hln⟩:=hl.Jv;have hU3:=Za (HU.out.outside hO hlt);have HL:=Za hl;have RW:=Za hR;have OW:=Za hO
      have hsz:=hO.size;clear hl hR hO hln;go_wp2_with (at_builtin;refine Z3 Zw 42 Tryz.YT rfl Tryz.underlying28 w.heap.size _ us ⟨la,ln,lc⟩ (hU3.out.2.1.alloc _) Dc hub So rfl _ _ rfl rfl _ 0 1 rfl Zp ?_;intro v5 w5 ho5 hgr5);have ho6:=(hU3.out.below (Ze _ _)).Bl Dc (fun i u hu q hq=>(HOLD.out i u hu q hq).2) hsm (s:=⟨la,ln,lc⟩) (HL.out.alloc _) ho5 hgr5;have R6:=(RW.out.Zm _).ZW hgr5 (fun q hq=>by have:=hU3.out.2.1.XE q hq;omega);have O6:=((OM.out.trans OW.out).Zm _).ZW hgr5 (fun q hq=>hU3.out.2.1.XE q hq);go_roundw
      case rel=>exact⟨m - 1,P++[ys],pq,Gn,So,by
       intro r hr;rcases List.mem_append.1 hr with h | h
       ·exact HPR.out r h
       ·rw[List.mem_singleton.1 h];omega,ho6,R6,Om,O6⟩
      case measure=>simp[intOf];omega
   ·obtain rfl:m=0:=Om
    obtain⟨us,hU,-⟩:=ho.told;obtain⟨oa,on,oc,rfl,hon⟩:=hU.2.1.Jv;have hfl:P.flatten.length≤1048576:=by
     have:=Yk P 3 hPr;have:P.length * 3≤3 * 3:=Nat.mul_le_mul_right _ Om;omega
    have HV:=Za (fun w' h=>Yd (.slice oa on oc) P w' h hfl Om);have HO:=Za ho;have RM:=Za hR;have OM:=Za hO;have HPR:=Za hPr
    clear hU hon ho hR hO hPr hfl;go_wp2_with fail
    (with_reducible refine(HV.out _ HO.out.rep).mono ?_);rintro e w4 ⟨rfl,hb4⟩
    have R4:=Za (RM.out.keep hb4 RM.out.lt);have O4:=Za (OM.out.trans (Outside.Zf hb4));have HO4:=Za (HO.out.below hb4)
    clear hb4 HO RM OM HV;by_cases hv:Zi P=true
    ·go_wp2_with fail
     go_ret;exact⟨_,pp,rfl,⟨P,HO4.out,Om,fun r hr=>Nat.le_trans (HPR.out r hr) Om,hv⟩,Om,R4.out,O4.out⟩
    ·have hv':Zi P=false:=by simpa using hv
     clear hv HO4;go_wp2_with fail
     (with_reducible refine(HI.out pp _ R4.out Om).mono ?_);rintro e wc ⟨vc,pc,rfl,⟨io,il,ir,ix,rfl,hiv⟩,hpc,hrc,hoc⟩
     have RC:=Za hrc;have OC:=Za (O4.out.trans hoc)
     clear hrc hoc R4 O4;have hsz:=OC.out.size;go_wp2_with fail;go_ret;exact⟨_,pc,rfl,⟨[[⟨io,il,ir,ix⟩]],AO hsz ⟨io,il,ir,ix⟩ rfl,Sm,Sm,Ge hiv⟩,Om,(RC.out.Zm _).Zm _,(OC.out.Zm _).Zm _⟩
theorem BH (b:Nat) (a:Option Addr) (c:Nat) (xs:List Int) (p:Int) (w:World) (hr:Rd w b a c xs p) (hp:p≤800000000) :
 Calls Tryz.prog 127 #[.pointer (some ⟨b,0,none⟩)] w (QL w b a c xs p 60 (QP w.heap.size)):=
 (Aw b a c xs p w hr hp).mono fun _ _ ⟨v,p',h1,⟨P,h2,h3,h4,_⟩,h5⟩=>⟨v,p',h1,⟨P,h2,h3,h4⟩,h5⟩
end Go.Proofs.YtngekjpklkjnbaaGreat
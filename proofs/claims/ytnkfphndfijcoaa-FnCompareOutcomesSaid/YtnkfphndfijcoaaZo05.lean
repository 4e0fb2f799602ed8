/-
  Programs that are drawn: the texts, one instruction. Condition: not too many numbers were taken.
-/
import Derived.Test.YtnkfphndfijcoaaZo01
import Derived.Test.YtnkfphndfijcoaaZo00
import Derived.Test.YtnkfphndfijcoaaZo02
import Derived.Deep.RegionHeld3
import Derived.Deep.DeepCutAuto
import Derived.Test.YtnkfphndfijcoaaZo03
set_option maxHeartbeats 6400000
set_option maxRecDepth 100000
namespace Go.Proofs.Ytnkfphndfijcoaa
open Go.RowKit
theorem numLit3 (b:Nat) (a:Option Addr) (c:Nat) (xs:List Int) (p:Int) (y0 y1 y2:Int) (w':World) (G:Nat) (hG:w'.heap.size=G) (hb:b < G) (h:Rd (w'.alloc (.cells #[.int .i64 y0,.int .i64 y1,.int .i64 y2] 3)) b a c xs p) (hp:p≤1000000000) :
 Calls Try.prog 30 #[.pointer (some ⟨b,0,none⟩),.slice (some ⟨G,0,none⟩) 3 3] (w'.alloc (.cells #[.int .i64 y0,.int .i64 y1,.int .i64 y2] 3)) (RetRd (w'.alloc (.cells #[.int .i64 y0,.int .i64 y1,.int .i64 y2] 3)) b a c xs p 1 (OneOf [y0,y1,y2])):=by
 subst hG;exact num_any b a c xs p (Value.slice (some (Addr.mk w'.heap.size 0 none)) 3 3) [y0,y1,y2] _ h hp (rep_lit w' [y0,y1,y2] 3 (by simp)) (by simp) (by simp) (by intro g o e;simp at e;omega)
theorem numLit5 (b:Nat) (a:Option Addr) (c:Nat) (xs:List Int) (p:Int) (y0 y1 y2 y3 y4:Int) (w':World) (G:Nat) (hG:w'.heap.size=G) (hb:b < G) (h:Rd (w'.alloc (.cells #[.int .i64 y0,.int .i64 y1,.int .i64 y2,.int .i64 y3,.int .i64 y4] 3)) b a c xs p) (hp:p≤1000000000) :
 Calls Try.prog 30 #[.pointer (some ⟨b,0,none⟩),.slice (some ⟨G,0,none⟩) 5 5] (w'.alloc (.cells #[.int .i64 y0,.int .i64 y1,.int .i64 y2,.int .i64 y3,.int .i64 y4] 3)) (RetRd (w'.alloc (.cells #[.int .i64 y0,.int .i64 y1,.int .i64 y2,.int .i64 y3,.int .i64 y4] 3)) b a c xs p 1 (OneOf [y0,y1,y2,y3,y4])):=by
 subst hG;exact num_any b a c xs p (Value.slice (some (Addr.mk w'.heap.size 0 none)) 5 5) [y0,y1,y2,y3,y4] _ h hp (rep_lit w' [y0,y1,y2,y3,y4] 3 (by simp)) (by simp) (by simp) (by intro g o e;simp at e;omega)
end Go.Proofs.Ytnkfphndfijcoaa
namespace Go.Proofs.Ytnkfphndfijcoaa
open Go.RowKit
end Go.Proofs.Ytnkfphndfijcoaa
namespace Go.Proofs.Ytnkfphndfijcoaa
open Go.RowKit
def RetOpen (w:World) (e:Ending) (w':World):Prop:=∃ (B:Nat) (a:Option Addr) (c:Nat) (xs:List Int),e = .returned (.pointer (some ⟨B,0,none⟩))∧Rd w' B a c xs 0∧w.heap.size≤B∧Below w.heap.size w w'
theorem Rep.take {w:World}{a:Option Addr}{n c:Nat}{xs:List Int}(h:Rep ByteE w (.slice a n c) xs) {k:Nat}(hk:k≤xs.length):Rep ByteE w (.slice a k c) (xs.take k):=by
 obtain⟨a',c',hv,h1,h2,h3⟩:=h;simp only[Value.slice.injEq]at hv;obtain⟨rfl,rfl,rfl⟩:=hv;refine⟨a,c,by rw[List.length_take,Nat.min_eq_left hk],by rw[List.length_take];omega,h2,fun i x hx => ?_⟩;rw[List.getElem?_take]at hx;split at hx
 ·exact h3 i x hx
 ·cases hx
theorem rep_lt {w:World}{a:Option Addr}{n c:Nat}{xs:List Int}(h:Rep ByteE w (.slice a n c) xs) (g o:Nat) (hne:xs≠[]) (e:a=some ⟨g,o,none⟩):g < w.heap.size:=by
 cases xs with
 | nil=>exact absurd rfl hne
 | cons x xs =>
  obtain⟨b,o',hb,hlt,-⟩:=h.byte (k:=0) (x:=x) rfl;rw[e]at hb;simp only[Option.some.injEq,Addr.mk.injEq,and_true]at hb;omega
theorem l17Open_any (v:Value) (xs:List Int) (w:World) (hx:Rep ByteE w v xs) (hb:∀ x∈xs,0≤x∧x≤255) :
 Calls Try.prog 8 #[v] w (RetOpen w):=by
 obtain⟨a,c,rfl,hc1,hc2,hc3,hx⟩:=hx.open;have HX:=hide hx;clear hx;by_cases hl:xs.length > 2000
 ·have hT:=hide (HX.out.take (k:=2000) (by omega))
  have hlt:(2000:Int) < (xs.length:Int):=by omega
  have hc4:2000≤c:=by omega
  have htl:(xs.take 2000).length=2000:=by rw[List.length_take];omega
  have HTL:=hide htl;clear htl;generalize hn:xs.length=n at *;clear hn;go_enter Try.func8,Try.ntmps8;go_wp2_with fail;go_ret;have h2:Rd (w.alloc (.cells #[.slice a 2000 c,.int .i64 0] 39)) w.heap.size a c (xs.take 2000) 0:=
   ⟨by simp,by rw[HTL.out];simp[go_sem],by simp[go_sem],by simp[go_sem],by rw[HTL.out];exact hT.out.below ((Below.refl _ _).alloc (Nat.le_refl _) _),fun g o hne e=>rep_lt hT.out g o hne e,fun x hx=>hb x (List.mem_of_mem_take hx),by omega⟩
  exact⟨w.heap.size,a,c,_,rfl,h2,Nat.le_refl _,(Below.refl _ _).alloc (Nat.le_refl _) _⟩
 ·have hge:decide ((xs.length:Int) > 2000)=false:=decide_eq_false (by omega)
  clear hl;have HXR:=hide (fun g o hne e=>rep_lt HX.out g o hne e);generalize hn:xs.length=n at *;have H:=hide hn;clear hn;go_enter Try.func8,Try.ntmps8;go_wp2_with fail;go_ret;have h2:Rd (w.alloc (.cells #[.slice a n c,.int .i64 0] 39)) w.heap.size a c xs 0:=
   ⟨by simp,by rw[H.out];simp[go_sem],by simp[go_sem],by simp[go_sem],by rw[H.out];exact HX.out.below ((Below.refl _ _).alloc (Nat.le_refl _) _),HXR.out,hb,by omega⟩
  exact⟨w.heap.size,a,c,_,rfl,h2,Nat.le_refl _,(Below.refl _ _).alloc (Nat.le_refl _) _⟩
end Go.Proofs.Ytnkfphndfijcoaa
namespace Go.Proofs.Ytnkfphndfijcoaa
open Go.RowKit
theorem below_of_outside {b:Nat}{w w':World}{B:Nat}(h:Outside b (b+1) w w') (hB:B≤b) (hB2:B≤w.heap.size):Below B w w':=h.below hB hB2
end Go.Proofs.Ytnkfphndfijcoaa
namespace Go.Proofs.Ytnkfphndfijcoaa
open Go.RowKit
theorem Try.infoStr:(Try.prog.info? 9).map (fun i=>(i.zero,i.size,i.bytes))=some (some (.string ⟨#[]⟩),1,16):=by kernel_rfl
def StrE:El ByteArray:=⟨1,by decide,fun x=>[.string x],fun _=>rfl,fun x u h=>by simp at h;subst h;rfl⟩
theorem Rep.str {w:World}{a:Option Addr}{n c:Nat}{xs:List ByteArray}(h:Rep StrE w (.slice a n c) xs) {k:Nat}{x:ByteArray}(hx:xs[k]? = some x) :
 ∃ b o,a=some ⟨b,o,none⟩∧b < w.heap.size∧w.cell? ⟨b,o+k,none⟩=some (.string x):=by
 obtain⟨a',c',hv,_,_,h⟩:=h;simp only[Value.slice.injEq]at hv;obtain⟨rfl,rfl,rfl⟩:=hv;obtain⟨b,o,rfl,h'⟩:=h k x hx;have:=h' 0 _ rfl;simp only[StrE,Nat.mul_one,Nat.add_zero]at this;exact⟨b,o,rfl,lt_of_cell this,this⟩
def byteAt (s:ByteArray) (i:Int):Int:=if h:0≤i∧i < s.size then ((s[i.toNat]'(by omega)).toNat:Int) else 0
def placeV (s:ByteArray) (i f m:Int):Int:=
 if i≥s.size then -1 else if byteAt s i < f then -1 else if byteAt s i - f > m then -1 else byteAt s i - f
theorem l1Place_any (s:ByteArray) (i f m:Int) (w:World) (h0:0≤i) (hf:0≤f) (hf2:f≤255) :
 Calls Try.prog 59 #[.string s,.int .i64 i,.int .u8 f,.int .i64 m] w fun e w'=>e = .returned (.int .i64 (placeV s i f m))∧Below w.heap.size w w':=by
 by_cases hi:i < s.size
 ·have hi1:decide (i≥(s.size:Int))=false:=decide_eq_false (by omega)
  have hii:0≤i∧i < s.size:=⟨h0,hi⟩
  have hg:i.toNat < s.size:=by omega
  have hP:placeV s i f m=if ((s[i.toNat]'hg).toNat:Int) < f then -1 else if ((s[i.toNat]'hg).toNat:Int) - f > m then -1 else ((s[i.toNat]'hg).toNat:Int) - f:=by
   unfold placeV byteAt;rw[if_neg (by omega),dif_pos hii]
  rw[hP];have hu:((s[i.toNat]'hg).toNat:Int)≤255:=by have:=(s[i.toNat]'hg).toNat_lt;omega
  by_cases h1:((s[i.toNat]'hg).toNat:Int) < f
  ·rw[if_pos h1]
   clear hP;go_enter Try.func59,Try.ntmps59;go_wp2_with fail;go_ret;exact⟨rfl,Below.refl _ _⟩
  ·have h1':decide (((s[i.toNat]'hg).toNat:Int) < f)=false:=decide_eq_false h1
   rw[if_neg h1];clear hP;by_cases h2:((s[i.toNat]'hg).toNat:Int) - f > m
   ·rw[if_pos h2]
    go_enter Try.func59,Try.ntmps59;go_wp2_with fail;go_ret;exact⟨rfl,Below.refl _ _⟩
   ·have h2':decide (((s[i.toNat]'hg).toNat:Int) - f > m)=false:=decide_eq_false h2
    rw[if_neg h2];go_enter Try.func59,Try.ntmps59;go_wp2_with fail;go_ret;exact⟨rfl,Below.refl _ _⟩
 ·have hi1:decide (i≥(s.size:Int))=true:=decide_eq_true (by omega)
  have hP:placeV s i f m = -1:=by unfold placeV;rw[if_pos (by omega)]
  rw[hP];go_enter Try.func59,Try.ntmps59;go_wp2_with fail;go_ret;exact⟨rfl,Below.refl _ _⟩
def RetStrs (w:World) (n m:Nat) (e:Ending) (w':World):Prop:=∃ v xs,e = .returned v∧Own StrE 9 w' w.heap.size v xs∧Below w.heap.size w w'∧xs.length≤n∧∀ x∈xs,x.size≤m
theorem l17Cut_any (s:ByteArray) (c:Int) (w:World) (hs:s.size≤1000) :
 Calls Try.prog 33 #[.string s,.int .u8 c] w (RetStrs w (s.size+1) s.size):=by
 go_enter Try.func33,Try.ntmps33;go_wp2_with fail
 go_loopw [5,6,7] (fun v f i wr => ∃ (k fr:Nat) (xs:List ByteArray),i = .int .i64 k∧f = .int .i64 fr∧fr≤k∧k≤s.size+1∧Own StrE 9 wr w.heap.size v xs∧Below w.heap.size w wr∧xs.length≤k∧∀ x∈xs,x.size≤s.size) (fun _ _ i _=>s.size+1 - (intOf i).toNat)
 case atStart=>exact⟨0,0,[],rfl,rfl,by omega,by omega,Own.empty _ w (Nat.le_refl _),(Below.refl _ _).alloc (Nat.le_refl _) _,by simp,by simp⟩
 case round =>
  obtain⟨k,fr,xs,rfl,rfl,hfk,hk,ho,hb,hxl,hxs⟩:=hrel;by_cases hlt:k≤s.size
  ·have hlt':(k:Int)≤s.size:=by omega
   have HX:=hide hxs;have hlen:xs.length≤68719476736:=by omega
   clear hxs;by_cases hz:k=s.size
   ·subst hz
    go_wp2_with (at_builtin;refine wpList_app StrE 9 Try.infoStr rfl Try.underlying51 w.heap.size _ xs (s.extract fr s.size) (ho.alloc _) (by decide) hlen (by simp;have:=hb.size;omega) rfl _ _ rfl rfl _ 0 1 rfl news_alloc ?_;intro v' w1 ho1 hgr1);have hb1:=below_app hb ho hgr1;go_roundw
    case rel=>exact⟨s.size+1,s.size+1,xs++[s.extract fr s.size],by go_num,by go_num,by omega,by omega,ho1,hb1,by simp;omega,fun x hx=>by
     rcases List.mem_append.1 hx with h | h
     ·exact HX.out x h
     ·rw[List.mem_singleton.1 h,ByteArray.size_extract];omega⟩
    case measure=>simp[intOf]
   ·have hz':((k:Int)==(s.size:Int))=false:=by simp;omega
    have hks:k < s.size:=by omega
    have hki:0≤(k:Int)∧(k:Int) < s.size:=by omega
    clear hz;by_cases hc:((s[k]'hks).toNat:Int)=c
    ·have hc':(((s[k]'hks).toNat:Int)==c)=true:=by simp[hc]
     clear hc;go_wp2_with (at_builtin;refine wpList_app StrE 9 Try.infoStr rfl Try.underlying51 w.heap.size _ xs (s.extract fr k) (ho.alloc _) (by decide) hlen (by simp;have:=hb.size;omega) rfl _ _ rfl rfl _ 0 1 rfl news_alloc ?_;intro v' w1 ho1 hgr1);have hb1:=below_app hb ho hgr1;go_roundw
     case rel=>exact⟨k+1,k+1,xs++[s.extract fr k],by go_num,by go_num,by omega,by omega,ho1,hb1,by simp;omega,fun x hx=>by
      rcases List.mem_append.1 hx with h | h
      ·exact HX.out x h
      ·rw[List.mem_singleton.1 h,ByteArray.size_extract];omega⟩
     case measure=>simp[intOf];omega
    ·have hc':(((s[k]'hks).toNat:Int)==c)=false:=by simp[hc]
     clear hc;go_wp2_with fail;go_roundw
     case rel=>exact⟨k+1,fr,xs,by go_num,rfl,by omega,by omega,ho,hb,by omega,HX.out⟩
     case measure=>simp[intOf];omega
  ·have hlt':¬ (k:Int)≤s.size:=by omega
   go_wp2_with fail;go_ret;exact⟨_,xs,rfl,ho,hb,by omega,hxs⟩
structure BoxI (w:World) (g:Nat) (a b c d:Int):Prop where
 lt:g < w.heap.size
 c0:w.cell? ⟨g,0,none⟩=some (.int .i64 a)
 c1:w.cell? ⟨g,1,none⟩=some (.int .i64 b)
 c2:w.cell? ⟨g,2,none⟩=some (.int .i64 c)
 c3:w.cell? ⟨g,3,none⟩=some (.int .i64 d)
 f:∀ j,w.frozen? ⟨g,j,none⟩=false
theorem BoxI.keep {w w':World}{g:Nat}{a b c d:Int}(h:BoxI w g a b c d) (hb:w'.heap[g]? = w.heap[g]?) (hs:w.heap.size≤w'.heap.size):BoxI w' g a b c d:=
 ⟨Nat.lt_of_lt_of_le h.lt hs,(cell_of_block hb _).trans h.c0,(cell_of_block hb _).trans h.c1,(cell_of_block hb _).trans h.c2,(cell_of_block hb _).trans h.c3,fun j=>by
  have:=h.f j;unfold World.frozen? at this ⊢;rw[hb];exact this⟩
theorem BoxI.below {w w':World}{g:Nat}{a b c d:Int}(h:BoxI w g a b c d) {B:Nat}(ho:Below B w w') (hg:g < B):BoxI w' g a b c d:=h.keep (ho.block g hg) ho.size
theorem BoxI.outside {b':Nat}{w w':World}{g:Nat}{a b c d:Int}(h:BoxI w g a b c d) (ho:Outside b' (b'+1) w w') (hg:g≠b'):BoxI w' g a b c d:=h.keep (ho.block g h.lt (by omega)) ho.size
theorem BoxI.new (w:World) (a b c d:Int) (T:TypeId):BoxI (w.alloc (.cells #[.int .i64 a,.int .i64 b,.int .i64 c,.int .i64 d] T)) w.heap.size a b c d:=
 ⟨by simp,by simp[go_sem],by simp[go_sem],by simp[go_sem],by simp[go_sem],fun j=>by simp[go_sem]⟩
theorem l1Place_c (s:ByteArray) (i f m:Int) (h0:0≤i) (hf:0≤f) (hf2:f≤255):∃ x,placeV s i f m=x∧∀ w,Calls Try.prog 59 #[.string s,.int .i64 i,.int .u8 f,.int .i64 m] w fun e w'=>e = .returned (.int .i64 x)∧Below w.heap.size w w':=
 ⟨_,rfl,fun w=>l1Place_any s i f m w h0 hf hf2⟩
def parseI (s:ByteArray):Ins:=
 if (s.toList==[102,101,110,99,101])=true then ⟨4,0,0,0⟩
 else if placeV s 0 97 2≥0∧(s.size:Int)=3 then ⟨1,placeV s 2 120 2,placeV s 0 97 2,0⟩
 else if placeV s 0 97 2≥0∧(s.size:Int)=5 then ⟨5,placeV s 2 120 2,placeV s 0 97 2,placeV s 4 48 3⟩
 else if placeV s 0 120 2≥0∧placeV s 2 97 2≥0 then ⟨3,placeV s 0 120 2,placeV s 2 97 2,0⟩
 else ⟨2,placeV s 0 120 2,0,placeV s 2 48 3⟩
theorem l1Parse_any (s:ByteArray) (w:World):Calls Try.prog 34 #[.string s] w fun e w'=>e = .returned (.agg #[.int .i64 (parseI s).op,.int .i64 (parseI s).loc,.int .i64 (parseI s).reg,.int .i64 (parseI s).val])∧Below w.heap.size w w':=by
 by_cases hf:(s.toList==[102,101,110,99,101])=true
 ·have e:parseI s=⟨4,0,0,0⟩:=by unfold parseI;rw[if_pos hf]
  rw[e];clear e;go_enter Try.func34,Try.ntmps34;go_wp2_with fail;refine bodyPost_ret (v:=.agg #[.int .i64 4,.int .i64 0,.int .i64 0,.int .i64 0]) (by simp[results,Try.results34,go_sem, *]) rfl ⟨rfl,?_⟩;exact belowAlloc w _
 ·obtain⟨R,eR,CR⟩:=l1Place_c s 0 97 2 (by omega) (by omega) (by omega)
  obtain⟨L,eL,CL⟩:=l1Place_c s 0 120 2 (by omega) (by omega) (by omega);obtain⟨L2,eL2,CL2⟩:=l1Place_c s 2 120 2 (by omega) (by omega) (by omega);obtain⟨R2,eR2,CR2⟩:=l1Place_c s 2 97 2 (by omega) (by omega) (by omega);obtain⟨V2,eV2,CV2⟩:=l1Place_c s 2 48 3 (by omega) (by omega) (by omega);obtain⟨V4,eV4,CV4⟩:=l1Place_c s 4 48 3 (by omega) (by omega) (by omega);have HI:Hid (parseI s=if R≥0∧(s.size:Int)=3 then ⟨1,L2,R,0⟩ else if R≥0∧(s.size:Int)=5 then ⟨5,L2,R,V4⟩ else if L≥0∧R2≥0 then ⟨3,L,R2,0⟩ else ⟨2,L,0,V2⟩):=hide (by
   unfold parseI;rw[if_neg hf,eR,eL,eL2,eR2,eV2,eV4])
  clear eR eL eL2 eR2 eV2 eV4;have hf':(s.toList==[102,101,110,99,101])=false:=by simpa using hf
  clear hf;have CR:=hide CR;have CL:=hide CL;have CL2:=hide CL2;have CR2:=hide CR2;have CV2:=hide CV2;have CV4:=hide CV4
  generalize parseI s=I at *;have BI0:=hide (BoxI.new w 0 0 0 0 56);have HB0:=hide (belowAlloc w (.cells #[.int .i64 0,.int .i64 0,.int .i64 0,.int .i64 0] 56));go_enter Try.func34,Try.ntmps34;go_wp2_with fail
  (with_reducible refine(CR.out _).mono ?_);rintro e w1 ⟨rfl,hb1⟩
  have BI1:=hide (BI0.out.below hb1 BI0.out.lt);have HB1:=hide (HB0.out.trans (hb1.mono HB0.out.size))
  clear BI0 HB0 hb1;go_wp2_with fail
  (with_reducible refine(CL.out _).mono ?_);rintro e w2 ⟨rfl,hb2⟩
  have BI2:=hide (BI1.out.below hb2 BI1.out.lt);have HB2:=hide (HB1.out.trans (hb2.mono HB1.out.size))
  clear BI1 HB1 hb2;by_cases h1:R≥0
  ·by_cases h2:(s.size:Int)=3
   ·have h2':((s.size:Int)==3)=true:=by simp[h2]
    have HI:Hid (I=⟨1,L2,R,0⟩):=hide (by rw[HI.out,if_pos ⟨h1,h2⟩]);clear h2;go_wp2_with fail
    (with_reducible refine(CL2.out _).mono ?_);rintro e w3 ⟨rfl,hb3⟩
    have BI3:=hide (BI2.out.below hb3 BI2.out.lt);have HB3:=hide (HB2.out.trans (hb3.mono HB2.out.size))
    clear BI2 HB2 hb3;obtain⟨lt3,i0,i1,i2,i3,if'⟩:=BI3.out;go_wp2_with fail;refine bodyPost_ret (v:=.agg #[.int .i64 1,.int .i64 L2,.int .i64 R,.int .i64 0]) (by simp[results,Try.results34,go_sem, *]) rfl ⟨by rw[HI.out],?_⟩;exact((((HB3.out.setCell (Nat.le_refl _) _).setCell (Nat.le_refl _) _).setCell (Nat.le_refl _) _).setCell (Nat.le_refl _) _)
   ·have h2':((s.size:Int)==3)=false:=by simp[h2]
    by_cases h3:(s.size:Int)=5
    ·have h3':((s.size:Int)==5)=true:=by simp[h3]
     have HI:Hid (I=⟨5,L2,R,V4⟩):=hide (by rw[HI.out,if_neg (fun h=>h2 h.2),if_pos ⟨h1,h3⟩]);clear h2 h3;go_wp2_with fail
     (with_reducible refine(CL2.out _).mono ?_);rintro e w3 ⟨rfl,hb3⟩
     have BI3:=hide (BI2.out.below hb3 BI2.out.lt);have HB3:=hide (HB2.out.trans (hb3.mono HB2.out.size))
     clear BI2 HB2 hb3;go_wp2_with fail
     (with_reducible refine(CV4.out _).mono ?_);rintro e w4 ⟨rfl,hb4⟩
     have BI4:=hide (BI3.out.below hb4 BI3.out.lt);have HB4:=hide (HB3.out.trans (hb4.mono HB3.out.size))
     clear BI3 HB3 hb4;obtain⟨lt4,i0,i1,i2,i3,if'⟩:=BI4.out;go_wp2_with fail;refine bodyPost_ret (v:=.agg #[.int .i64 5,.int .i64 L2,.int .i64 R,.int .i64 V4]) (by simp[results,Try.results34,go_sem, *]) rfl ⟨by rw[HI.out],?_⟩;exact((((HB4.out.setCell (Nat.le_refl _) _).setCell (Nat.le_refl _) _).setCell (Nat.le_refl _) _).setCell (Nat.le_refl _) _)
    ·have h3':((s.size:Int)==5)=false:=by simp[h3]
     have HI:Hid (I=if L≥0∧R2≥0 then ⟨3,L,R2,0⟩ else ⟨2,L,0,V2⟩):=hide (by rw[HI.out,if_neg (fun h=>h2 h.2),if_neg (fun h=>h3 h.2)]);clear h2 h3;by_cases h4:L≥0
     ·go_wp2_with fail
      (with_reducible refine(CR2.out _).mono ?_);rintro e w3 ⟨rfl,hb3⟩
      have BI3:=hide (BI2.out.below hb3 BI2.out.lt);have HB3:=hide (HB2.out.trans (hb3.mono HB2.out.size))
      clear BI2 HB2 hb3;by_cases h5:R2≥0
      ·have HI:Hid (I=⟨3,L,R2,0⟩):=hide (by rw[HI.out,if_pos ⟨h4,h5⟩])
       go_wp2_with fail
       (with_reducible refine(CR2.out _).mono ?_);rintro e w4 ⟨rfl,hb4⟩
       have BI4:=hide (BI3.out.below hb4 BI3.out.lt);have HB4:=hide (HB3.out.trans (hb4.mono HB3.out.size))
       clear BI3 HB3 hb4;obtain⟨lt4,i0,i1,i2,i3,if'⟩:=BI4.out;go_wp2_with fail;refine bodyPost_ret (v:=.agg #[.int .i64 3,.int .i64 L,.int .i64 R2,.int .i64 0]) (by simp[results,Try.results34,go_sem, *]) rfl ⟨by rw[HI.out],?_⟩;exact((((HB4.out.setCell (Nat.le_refl _) _).setCell (Nat.le_refl _) _).setCell (Nat.le_refl _) _).setCell (Nat.le_refl _) _)
      ·have h5':decide (R2≥0)=false:=decide_eq_false h5
       have HI:Hid (I=⟨2,L,0,V2⟩):=hide (by rw[HI.out,if_neg (fun h=>h5 h.2)]);clear h5;go_wp2_with fail
       (with_reducible refine(CV2.out _).mono ?_);rintro e w4 ⟨rfl,hb4⟩
       have BI4:=hide (BI3.out.below hb4 BI3.out.lt);have HB4:=hide (HB3.out.trans (hb4.mono HB3.out.size))
       clear BI3 HB3 hb4;obtain⟨lt4,i0,i1,i2,i3,if'⟩:=BI4.out;go_wp2_with fail;refine bodyPost_ret (v:=.agg #[.int .i64 2,.int .i64 L,.int .i64 0,.int .i64 V2]) (by simp[results,Try.results34,go_sem, *]) rfl ⟨by rw[HI.out],?_⟩;exact((((HB4.out.setCell (Nat.le_refl _) _).setCell (Nat.le_refl _) _).setCell (Nat.le_refl _) _).setCell (Nat.le_refl _) _)
     ·have h4':decide (L≥0)=false:=decide_eq_false h4
      have HI:Hid (I=⟨2,L,0,V2⟩):=hide (by rw[HI.out,if_neg (fun h=>h4 h.1)]);clear h4;go_wp2_with fail
      (with_reducible refine(CV2.out _).mono ?_);rintro e w3 ⟨rfl,hb3⟩
      have BI3:=hide (BI2.out.below hb3 BI2.out.lt);have HB3:=hide (HB2.out.trans (hb3.mono HB2.out.size))
      clear BI2 HB2 hb3;obtain⟨lt3,i0,i1,i2,i3,if'⟩:=BI3.out;go_wp2_with fail;refine bodyPost_ret (v:=.agg #[.int .i64 2,.int .i64 L,.int .i64 0,.int .i64 V2]) (by simp[results,Try.results34,go_sem, *]) rfl ⟨by rw[HI.out],?_⟩;exact((((HB3.out.setCell (Nat.le_refl _) _).setCell (Nat.le_refl _) _).setCell (Nat.le_refl _) _).setCell (Nat.le_refl _) _)
  ·have h1':decide (R≥0)=false:=decide_eq_false h1
   have HI:Hid (I=if L≥0∧R2≥0 then ⟨3,L,R2,0⟩ else ⟨2,L,0,V2⟩):=hide (by rw[HI.out,if_neg (fun h=>h1 h.1),if_neg (fun h=>h1 h.1)]);clear h1;by_cases h4:L≥0
   ·go_wp2_with fail
    (with_reducible refine(CR2.out _).mono ?_);rintro e w3 ⟨rfl,hb3⟩
    have BI3:=hide (BI2.out.below hb3 BI2.out.lt);have HB3:=hide (HB2.out.trans (hb3.mono HB2.out.size))
    clear BI2 HB2 hb3;by_cases h5:R2≥0
    ·have HI:Hid (I=⟨3,L,R2,0⟩):=hide (by rw[HI.out,if_pos ⟨h4,h5⟩])
     go_wp2_with fail
     (with_reducible refine(CR2.out _).mono ?_);rintro e w4 ⟨rfl,hb4⟩
     have BI4:=hide (BI3.out.below hb4 BI3.out.lt);have HB4:=hide (HB3.out.trans (hb4.mono HB3.out.size))
     clear BI3 HB3 hb4;obtain⟨lt4,i0,i1,i2,i3,if'⟩:=BI4.out;go_wp2_with fail;refine bodyPost_ret (v:=.agg #[.int .i64 3,.int .i64 L,.int .i64 R2,.int .i64 0]) (by simp[results,Try.results34,go_sem, *]) rfl ⟨by rw[HI.out],?_⟩;exact((((HB4.out.setCell (Nat.le_refl _) _).setCell (Nat.le_refl _) _).setCell (Nat.le_refl _) _).setCell (Nat.le_refl _) _)
    ·have h5':decide (R2≥0)=false:=decide_eq_false h5
     have HI:Hid (I=⟨2,L,0,V2⟩):=hide (by rw[HI.out,if_neg (fun h=>h5 h.2)]);clear h5;go_wp2_with fail
     (with_reducible refine(CV2.out _).mono ?_);rintro e w4 ⟨rfl,hb4⟩
     have BI4:=hide (BI3.out.below hb4 BI3.out.lt);have HB4:=hide (HB3.out.trans (hb4.mono HB3.out.size))
     clear BI3 HB3 hb4;obtain⟨lt4,i0,i1,i2,i3,if'⟩:=BI4.out;go_wp2_with fail;refine bodyPost_ret (v:=.agg #[.int .i64 2,.int .i64 L,.int .i64 0,.int .i64 V2]) (by simp[results,Try.results34,go_sem, *]) rfl ⟨by rw[HI.out],?_⟩;exact((((HB4.out.setCell (Nat.le_refl _) _).setCell (Nat.le_refl _) _).setCell (Nat.le_refl _) _).setCell (Nat.le_refl _) _)
   ·have h4':decide (L≥0)=false:=decide_eq_false h4
    have HI:Hid (I=⟨2,L,0,V2⟩):=hide (by rw[HI.out,if_neg (fun h=>h4 h.1)]);clear h4;go_wp2_with fail
    (with_reducible refine(CV2.out _).mono ?_);rintro e w3 ⟨rfl,hb3⟩
    have BI3:=hide (BI2.out.below hb3 BI2.out.lt);have HB3:=hide (HB2.out.trans (hb3.mono HB2.out.size))
    clear BI2 HB2 hb3;obtain⟨lt3,i0,i1,i2,i3,if'⟩:=BI3.out;go_wp2_with fail;refine bodyPost_ret (v:=.agg #[.int .i64 2,.int .i64 L,.int .i64 0,.int .i64 V2]) (by simp[results,Try.results34,go_sem, *]) rfl ⟨by rw[HI.out],?_⟩;exact((((HB3.out.setCell (Nat.le_refl _) _).setCell (Nat.le_refl _) _).setCell (Nat.le_refl _) _).setCell (Nat.le_refl _) _)
end Go.Proofs.Ytnkfphndfijcoaa
namespace Go.Proofs.Ytnkfphndfijcoaa
open Go.RowKit
def textI (x:Ins):ByteArray:=
 if x.op=1 then strOfNums [97+x.reg]++⟨#[61]⟩++strOfNums [120+x.loc]
 else if x.op=2 then strOfNums [120+x.loc]++⟨#[61]⟩++strOfNums [48+x.val]
 else if x.op=3 then strOfNums [120+x.loc]++⟨#[61]⟩++strOfNums [97+x.reg]
 else if x.op=5 then strOfNums [97+x.reg]++⟨#[61]⟩++strOfNums [120+x.loc]++⟨#[58]⟩++strOfNums [48+x.val]
 else ⟨#[102,101,110,99,101]⟩
theorem textI_size (x:Ins):(textI x).size≤5:=by
 have e1:∀ b,(⟨#[b]⟩:ByteArray).size=1:=fun _=>rfl;have e2:(⟨#[102,101,110,99,101]⟩:ByteArray).size=5:=rfl;have e3:∀ a,(strOfNums [a]).size=1:=fun a=>by rw[size_strN];rfl
 unfold textI;split
 ·rw[ByteArray.size_append,ByteArray.size_append,e1,e3,e3];omega
 ·split
  ·rw[ByteArray.size_append,ByteArray.size_append,e1,e3,e3];omega
  ·split
   ·rw[ByteArray.size_append,ByteArray.size_append,e1,e3,e3];omega
   ·split
    ·rw[ByteArray.size_append,ByteArray.size_append,ByteArray.size_append,ByteArray.size_append,e1,e1,e3,e3,e3];omega
    ·rw[e2];omega
theorem insValid_b {x:Ins}(h:insValid x=true):(x.op=1∨x.op=2∨x.op=3∨x.op=4∨x.op=5)∧0≤x.loc∧x.loc≤2∧0≤x.reg∧x.reg≤2∧0≤x.val∧x.val≤3:=by
 unfold insValid inB at h;split at h
 ·simp at h;omega
 ·split at h
  ·simp at h;omega
  ·split at h
   ·simp at h;omega
   ·split at h
    ·simp at h;omega
    ·cases h
theorem l1Text_any (o l r x:Int) (w:World) (h:insValid ⟨o,l,r,x⟩=true):Calls Try.prog 60 #[.agg #[.int .i64 o,.int .i64 l,.int .i64 r,.int .i64 x]] w fun e w'=>e = .returned (.string (textI ⟨o,l,r,x⟩))∧Below w.heap.size w w':=by
 obtain⟨ho,hl0,hl2,hr0,hr2,hx0,hx2⟩:=insValid_b h;simp only at ho hl0 hl2 hr0 hr2 hx0 hx2;clear h;have z0:(strOfNums [120+l]).size≤10:=by rw[size_strN];simp
 have z1:(strOfNums [97+r]).size≤10:=by rw[size_strN];simp
 have z2:(strOfNums [48+x]).size≤10:=by rw[size_strN];simp
 have HX:=hide (fun w'=>l17Dec_dig x w' hx0 (by omega));have HL:=hide (fun w'=>l1Letter_any 120 l w' hl0 (by omega) (by omega) (by omega));have HR:=hide (fun w'=>l1Letter_any 97 r w' hr0 (by omega) (by omega) (by omega));have HE:Hid (textI ⟨o,l,r,x⟩=if o=1 then strOfNums [97+r]++⟨#[61]⟩++strOfNums [120+l]
  else if o=2 then strOfNums [120+l]++⟨#[61]⟩++strOfNums [48+x]
  else if o=3 then strOfNums [120+l]++⟨#[61]⟩++strOfNums [97+r]
  else if o=5 then strOfNums [97+r]++⟨#[61]⟩++strOfNums [120+l]++⟨#[58]⟩++strOfNums [48+x]
  else ⟨#[102,101,110,99,101]⟩):=hide rfl
 generalize textI ⟨o,l,r,x⟩=Z at *;generalize strOfNums [120+l]=TL at *;generalize strOfNums [97+r]=TR at *;generalize strOfNums [48+x]=TX at *;have BI0:=hide (BoxI.new w o l r x 56);have HB0:=hide (belowAlloc w (.cells #[.int .i64 o,.int .i64 l,.int .i64 r,.int .i64 x] 56));clear hl0 hl2 hr0 hr2 hx0 hx2;rcases ho with rfl | rfl | rfl | rfl | rfl
 ·have HE':Hid (Z=_):=hide (by have h:=HE.out;simp only[if_true]at h;exact h)
  clear HE;go_enter Try.func60,Try.ntmps60;go_wp2_with fail
  (with_reducible refine(HL.out _).mono ?_);rintro e w1 ⟨rfl,hb1⟩
  have BI1:=hide (BI0.out.below hb1 BI0.out.lt);have HB1:=hide (HB0.out.trans (hb1.mono HB0.out.size))
  clear BI0 HB0 hb1;obtain⟨lt1,i0,i1,i2,i3,if'⟩:=BI1.out;go_wp2_with fail;clear lt1 i0 i1 i2 i3 if'
  (with_reducible refine(HR.out _).mono ?_);rintro e w2 ⟨rfl,hb2⟩
  have BI2:=hide (BI1.out.below hb2 BI1.out.lt);have HB2:=hide (HB1.out.trans (hb2.mono HB1.out.size))
  clear BI1 HB1 hb2;obtain⟨lt2,i0,i1,i2,i3,if'⟩:=BI2.out;go_wp2_with fail;go_ret;exact⟨by rw[HE'.out] <;> rfl,HB2.out⟩
 ·have HE':Hid (Z=_):=hide (by have h:=HE.out;simp only[show ((2:Int)=1)=False from by decide,if_false,if_true]at h;exact h)
  clear HE;go_enter Try.func60,Try.ntmps60;go_wp2_with fail
  (with_reducible refine(HL.out _).mono ?_);rintro e w1 ⟨rfl,hb1⟩
  have BI1:=hide (BI0.out.below hb1 BI0.out.lt);have HB1:=hide (HB0.out.trans (hb1.mono HB0.out.size))
  clear BI0 HB0 hb1;obtain⟨lt1,i0,i1,i2,i3,if'⟩:=BI1.out;go_wp2_with fail;clear lt1 i0 i1 i2 i3 if'
  (with_reducible refine(HR.out _).mono ?_);rintro e w2 ⟨rfl,hb2⟩
  have BI2:=hide (BI1.out.below hb2 BI1.out.lt);have HB2:=hide (HB1.out.trans (hb2.mono HB1.out.size))
  clear BI1 HB1 hb2;obtain⟨lt2,i0,i1,i2,i3,if'⟩:=BI2.out;go_wp2_with fail;clear lt2 i0 i1 i2 i3 if'
  (with_reducible refine(HX.out _).mono ?_);rintro e w3 ⟨rfl,hb3⟩
  have BI3:=hide (BI2.out.below hb3 BI2.out.lt);have HB3:=hide (HB2.out.trans (hb3.mono HB2.out.size))
  clear BI2 HB2 hb3;obtain⟨lt3,i0,i1,i2,i3,if'⟩:=BI3.out;go_wp2_with fail;go_ret;exact⟨by rw[HE'.out] <;> rfl,HB3.out⟩
 ·have HE':Hid (Z=_):=hide (by have h:=HE.out;simp only[show ((3:Int)=1)=False from by decide,show ((3:Int)=2)=False from by decide,if_false,if_true]at h;exact h)
  clear HE;go_enter Try.func60,Try.ntmps60;go_wp2_with fail
  (with_reducible refine(HL.out _).mono ?_);rintro e w1 ⟨rfl,hb1⟩
  have BI1:=hide (BI0.out.below hb1 BI0.out.lt);have HB1:=hide (HB0.out.trans (hb1.mono HB0.out.size))
  clear BI0 HB0 hb1;obtain⟨lt1,i0,i1,i2,i3,if'⟩:=BI1.out;go_wp2_with fail;clear lt1 i0 i1 i2 i3 if'
  (with_reducible refine(HR.out _).mono ?_);rintro e w2 ⟨rfl,hb2⟩
  have BI2:=hide (BI1.out.below hb2 BI1.out.lt);have HB2:=hide (HB1.out.trans (hb2.mono HB1.out.size))
  clear BI1 HB1 hb2;obtain⟨lt2,i0,i1,i2,i3,if'⟩:=BI2.out;go_wp2_with fail;go_ret;exact⟨by rw[HE'.out] <;> rfl,HB2.out⟩
 ·have HE':Hid (Z=_):=hide (by have h:=HE.out;simp only[show ((4:Int)=1)=False from by decide,show ((4:Int)=2)=False from by decide,show ((4:Int)=3)=False from by decide,show ((4:Int)=5)=False from by decide,if_false]at h;exact h)
  clear HE;go_enter Try.func60,Try.ntmps60;go_wp2_with fail
  (with_reducible refine(HL.out _).mono ?_);rintro e w1 ⟨rfl,hb1⟩
  have BI1:=hide (BI0.out.below hb1 BI0.out.lt);have HB1:=hide (HB0.out.trans (hb1.mono HB0.out.size))
  clear BI0 HB0 hb1;obtain⟨lt1,i0,i1,i2,i3,if'⟩:=BI1.out;go_wp2_with fail;clear lt1 i0 i1 i2 i3 if'
  (with_reducible refine(HR.out _).mono ?_);rintro e w2 ⟨rfl,hb2⟩
  have BI2:=hide (BI1.out.below hb2 BI1.out.lt);have HB2:=hide (HB1.out.trans (hb2.mono HB1.out.size))
  clear BI1 HB1 hb2;obtain⟨lt2,i0,i1,i2,i3,if'⟩:=BI2.out;go_wp2_with fail;go_ret;exact⟨by rw[HE'.out] <;> rfl,HB2.out⟩
 ·have HE':Hid (Z=_):=hide (by have h:=HE.out;simp only[show ((5:Int)=1)=False from by decide,show ((5:Int)=2)=False from by decide,show ((5:Int)=3)=False from by decide,if_false,if_true]at h;exact h)
  clear HE;go_enter Try.func60,Try.ntmps60;go_wp2_with fail
  (with_reducible refine(HL.out _).mono ?_);rintro e w1 ⟨rfl,hb1⟩
  have BI1:=hide (BI0.out.below hb1 BI0.out.lt);have HB1:=hide (HB0.out.trans (hb1.mono HB0.out.size))
  clear BI0 HB0 hb1;obtain⟨lt1,i0,i1,i2,i3,if'⟩:=BI1.out;go_wp2_with fail;clear lt1 i0 i1 i2 i3 if'
  (with_reducible refine(HR.out _).mono ?_);rintro e w2 ⟨rfl,hb2⟩
  have BI2:=hide (BI1.out.below hb2 BI1.out.lt);have HB2:=hide (HB1.out.trans (hb2.mono HB1.out.size))
  clear BI1 HB1 hb2;obtain⟨lt2,i0,i1,i2,i3,if'⟩:=BI2.out;go_wp2_with fail;clear lt2 i0 i1 i2 i3 if'
  (with_reducible refine(HX.out _).mono ?_);rintro e w3 ⟨rfl,hb3⟩
  have BI3:=hide (BI2.out.below hb3 BI2.out.lt);have HB3:=hide (HB2.out.trans (hb3.mono HB2.out.size))
  clear BI2 HB2 hb3;obtain⟨lt3,i0,i1,i2,i3,if'⟩:=BI3.out;go_wp2_with fail;go_ret;exact⟨by rw[HE'.out] <;> rfl,HB3.out⟩
def rowTx (acc:ByteArray) (r:List Ins):Nat→ByteArray
 | 0=>acc
 | k+1=>(if k=0 then rowTx acc r k else rowTx acc r k++⟨#[59]⟩)++textI (r[k]?.getD ⟨0,0,0,0⟩)
def progTx (p:List (List Ins)):Nat→ByteArray
 | 0=>⟨#[]⟩
 | j+1=>rowTx (if j=0 then progTx p j else progTx p j++⟨#[124]⟩) (p[j]?.getD []) (p[j]?.getD []).length
theorem rowTx_size (acc:ByteArray) (r:List Ins):∀ k,(rowTx acc r k).size≤acc.size+6 * k:=by
 intro k
 induction k with
 | zero=>simp[rowTx]
 | succ k ih =>
  have:=textI_size (r[k]?.getD ⟨0,0,0,0⟩);unfold rowTx;rw[ByteArray.size_append];split
  ·omega
  ·rw[ByteArray.size_append];rw[show (⟨#[59]⟩:ByteArray).size=1 from rfl];omega
theorem progTx_size (p:List (List Ins)) (m:Nat) (h:∀ r∈p,r.length≤m):∀ j,(progTx p j).size≤(6 * m+1) * j:=by
 intro j
 induction j with
 | zero=>simp[progTx,ByteArray.size]
 | succ j ih =>
  unfold progTx;have h1:=rowTx_size (if j=0 then progTx p j else progTx p j++⟨#[124]⟩) (p[j]?.getD []) (p[j]?.getD []).length;have h2:(p[j]?.getD []).length≤m:=by
   cases hj:p[j]? with
   | none=>simp
   | some r=>simpa using h r (List.mem_of_getElem? hj)
  have h3:(if j=0 then progTx p j else progTx p j++⟨#[124]⟩).size≤(progTx p j).size+1:=by
   split
   ·omega
   ·rw[ByteArray.size_append,show (⟨#[124]⟩:ByteArray).size=1 from rfl];omega
  rw[Nat.mul_succ];omega
theorem l1Program_any (v:Value) (p:List (List Ins)) (w:World) (hp:RepP w v p) (hv:∀ r∈p,∀ x∈r,insValid x=true) (hl:p.length≤100) (hl2:∀ r∈p,r.length≤100) :
 Calls Try.prog 35 #[v] w fun e w'=>e = .returned (.string (progTx p p.length))∧Below w.heap.size w w':=by
 obtain⟨a,c,rfl,hc1,hc2,hc3,hp⟩:=hp.open;have HP:=hide hp;clear hp;have HV:=hide hv;clear hv;have HL2:=hide hl2;clear hl2;have HS:=hide (progTx_size p 100 HL2.out);generalize hn:p.length=n at *;have H:=hide hn;clear hn;go_enter Try.func35,Try.ntmps35;go_wp2_with fail
 go_loopw [3,4] (fun s i wr => ∃ j:Nat,j≤n∧i = .int .i64 j∧s = .string (progTx p j)∧Below w.heap.size w wr) (fun _ i _=>n - (intOf i).toNat)
 case atStart=>exact⟨0,by omega,rfl,rfl,Below.refl _ _⟩
 case round =>
  obtain⟨j,hj,rfl,rfl,hb2⟩:=hrel;have hS:=HS.out j;by_cases hlt2:j < n
  ·obtain⟨x,hxk⟩:=get_of_lt (xs:=p) (k:=j) (by rw[H.out];exact hlt2)
   obtain⟨b,o,ra,rc,rfl,hbl,i0,i1⟩:=HP.out.row hxk;have hlt2':=nat_of_lt hlt2;have hxl:=HL2.out x (List.mem_of_getElem? hxk);have hxv:=hide (HV.out x (List.mem_of_getElem? hxk));have IW:=hide i0;have I1:=hide i1;clear i1;obtain⟨A,hA⟩:∃ A,(if j=0 then progTx p j else progTx p j++⟨#[124]⟩)=A:=⟨_,rfl⟩
   have PS:Hid (progTx p (j+1)=rowTx A x x.length):=hide (by
    rw[← hA];conv=>lhs;unfold progTx
    rw[hxk];rfl)
   have RS:=hide (rowTx_size A x);clear hxk;have hAs:A.size≤601 * j+1:=by
    rw[← hA];split
    ·omega
    ·rw[ByteArray.size_append];rw[show (⟨#[124]⟩:ByteArray).size=1 from rfl];omega
   have i0:=(hb2.cell (p:=⟨b,o+j,none⟩) hbl).trans i0;have SP124:(j=0∧progTx p j=A)∨(0 < j∧progTx p j++⟨#[124]⟩=A):=by
    by_cases h0:j=0
    ·rw[if_pos h0]at hA;exact .inl ⟨h0,hA⟩
    ·rw[if_neg h0]at hA;exact .inr ⟨by omega,hA⟩
   clear hA;generalize progTx p j=G at *;rcases SP124 with⟨h0,hA⟩ | ⟨h0,hA⟩
   ·subst hA
    have h0':decide ((0:Int) < (j:Int))=false:=decide_eq_false (by omega);have h0'':decide (0 < j)=false:=decide_eq_false (by omega);clear h0;go_wp2_with fail
    go_loopw [3,5] (fun s i wr => ∃ k:Nat,k≤x.length∧i = .int .i64 k∧s = .string (rowTx G x k)∧Below w.heap.size w wr) (fun _ i _=>x.length - (intOf i).toNat)
    case atStart=>exact⟨0,by omega,rfl,rfl,hb2⟩
    case round =>
     obtain⟨k,hk,rfl,rfl,hb3⟩:=hrel;have hR:=RS.out k;have i0:=(hb3.cell (p:=⟨b,o+j,none⟩) hbl).trans IW.out;by_cases hlt3:k < x.length
     ·obtain⟨y,hyk⟩:=get_of_lt (xs:=x) (k:=k) hlt3
      obtain⟨b',o',rfl,hbl',j0,j1,j2,j3⟩:=(I1.out.below hb3).ins hyk;have hlt3':=nat_of_lt hlt3;have HT:=hide (fun w'=>l1Text_any y.op y.loc y.reg y.val w' (hxv.out y (List.mem_of_getElem? hyk)));have hts:=textI_size y;obtain⟨B,hB⟩:∃ B,(if k=0 then rowTx (G) x k else rowTx (G) x k++⟨#[59]⟩)=B:=⟨_,rfl⟩
      have RSS:Hid (rowTx (G) x (k+1)=B++textI y):=hide (by
       rw[← hB];conv=>lhs;unfold rowTx
       rw[hyk];rfl)
      clear hyk;have hBs:B.size≤(G).size+6 * k+1:=by
       rw[← hB];split
       ·omega
       ·rw[ByteArray.size_append];rw[show (⟨#[59]⟩:ByteArray).size=1 from rfl];omega
      have SP59:(k=0∧rowTx (G) x k=B)∨(0 < k∧rowTx (G) x k++⟨#[59]⟩=B):=by
       by_cases h0:k=0
       ·rw[if_pos h0]at hB;exact .inl ⟨h0,hB⟩
       ·rw[if_neg h0]at hB;exact .inr ⟨by omega,hB⟩
      clear hB;generalize textI y=TY at *;generalize rowTx (G) x k=R at *;rcases SP59 with⟨h1,hB⟩ | ⟨h1,hB⟩
      ·subst hB
       have h1':decide ((0:Int) < (k:Int))=false:=decide_eq_false (by omega);have h1'':decide (0 < k)=false:=decide_eq_false (by omega);clear h1;go_wp2_with fail
       (with_reducible refine(HT.out _).mono ?_);rintro e w4 ⟨rfl,hb4⟩
       go_wp2_with fail;go_roundw
       case rel=>exact⟨k+1,by omega,by go_num,by rw[RSS.out],hb3.trans (hb4.mono hb3.size)⟩
       case measure=>simp[intOf];omega
      ·subst hB
       have h1':(0:Int) < k:=by omega
       go_wp2_with fail
       (with_reducible refine(HT.out _).mono ?_);rintro e w4 ⟨rfl,hb4⟩
       go_wp2_with fail;go_roundw
       case rel=>exact⟨k+1,by omega,by go_num,by rw[RSS.out],hb3.trans (hb4.mono hb3.size)⟩
       case measure=>simp[intOf];omega
     ·have e:k=x.length:=by omega
      subst e;go_wp2_with fail;go_roundw
      case rel=>exact⟨j+1,by omega,by go_num,by rw[PS.out],hb3⟩
      case measure=>simp[intOf];omega
   ·subst hA
    have h0':(0:Int) < j:=by omega
    go_wp2_with fail
    go_loopw [3,5] (fun s i wr => ∃ k:Nat,k≤x.length∧i = .int .i64 k∧s = .string (rowTx (G++⟨#[124]⟩) x k)∧Below w.heap.size w wr) (fun _ i _=>x.length - (intOf i).toNat)
    case atStart=>exact⟨0,by omega,rfl,rfl,hb2⟩
    case round =>
     obtain⟨k,hk,rfl,rfl,hb3⟩:=hrel;have hR:=RS.out k;have i0:=(hb3.cell (p:=⟨b,o+j,none⟩) hbl).trans IW.out;by_cases hlt3:k < x.length
     ·obtain⟨y,hyk⟩:=get_of_lt (xs:=x) (k:=k) hlt3
      obtain⟨b',o',rfl,hbl',j0,j1,j2,j3⟩:=(I1.out.below hb3).ins hyk;have hlt3':=nat_of_lt hlt3;have HT:=hide (fun w'=>l1Text_any y.op y.loc y.reg y.val w' (hxv.out y (List.mem_of_getElem? hyk)));have hts:=textI_size y;obtain⟨B,hB⟩:∃ B,(if k=0 then rowTx ((G++⟨#[124]⟩)) x k else rowTx ((G++⟨#[124]⟩)) x k++⟨#[59]⟩)=B:=⟨_,rfl⟩
      have RSS:Hid (rowTx ((G++⟨#[124]⟩)) x (k+1)=B++textI y):=hide (by
       rw[← hB];conv=>lhs;unfold rowTx
       rw[hyk];rfl)
      clear hyk;have hBs:B.size≤((G++⟨#[124]⟩)).size+6 * k+1:=by
       rw[← hB];split
       ·omega
       ·rw[ByteArray.size_append];rw[show (⟨#[59]⟩:ByteArray).size=1 from rfl];omega
      have SP59:(k=0∧rowTx ((G++⟨#[124]⟩)) x k=B)∨(0 < k∧rowTx ((G++⟨#[124]⟩)) x k++⟨#[59]⟩=B):=by
       by_cases h0:k=0
       ·rw[if_pos h0]at hB;exact .inl ⟨h0,hB⟩
       ·rw[if_neg h0]at hB;exact .inr ⟨by omega,hB⟩
      clear hB;generalize textI y=TY at *;generalize rowTx ((G++⟨#[124]⟩)) x k=R at *;rcases SP59 with⟨h1,hB⟩ | ⟨h1,hB⟩
      ·subst hB
       have h1':decide ((0:Int) < (k:Int))=false:=decide_eq_false (by omega);have h1'':decide (0 < k)=false:=decide_eq_false (by omega);clear h1;go_wp2_with fail
       (with_reducible refine(HT.out _).mono ?_);rintro e w4 ⟨rfl,hb4⟩
       go_wp2_with fail;go_roundw
       case rel=>exact⟨k+1,by omega,by go_num,by rw[RSS.out],hb3.trans (hb4.mono hb3.size)⟩
       case measure=>simp[intOf];omega
      ·subst hB
       have h1':(0:Int) < k:=by omega
       go_wp2_with fail
       (with_reducible refine(HT.out _).mono ?_);rintro e w4 ⟨rfl,hb4⟩
       go_wp2_with fail;go_roundw
       case rel=>exact⟨k+1,by omega,by go_num,by rw[RSS.out],hb3.trans (hb4.mono hb3.size)⟩
       case measure=>simp[intOf];omega
     ·have e:k=x.length:=by omega
      subst e;go_wp2_with fail;go_roundw
      case rel=>exact⟨j+1,by omega,by go_num,by rw[PS.out],hb3⟩
      case measure=>simp[intOf];omega
  ·have e:j=n:=by omega
   subst e;go_wp2_with fail;go_ret;exact⟨rfl,hb2⟩
end Go.Proofs.Ytnkfphndfijcoaa
namespace Go.Proofs.Ytnkfphndfijcoaa
open Go.RowKit
theorem progValid_ins {p:List (List Ins)}(h:progValid p=true):∀ r∈p,∀ x∈r,insValid x=true:=by
 intro r hr x hx;obtain⟨k,hk⟩:=List.getElem?_of_mem hx;unfold progValid shapeOk at h;simp only[Bool.and_eq_true,List.all_eq_true]at h;have:=h.1.1.1.2 r hr;cases hv:insValid x with
 | true=>rfl
 | false=>rw[row_no hk hv]at this;cases this
theorem Own.toSl {α:Type}{E:El α}{T:TypeId}{w:World}{base:Nat}{v:Value}{xs:List α}(h:Own E T w base v xs):∃ a n c,v = .slice a n c∧n=xs.length:=by
 rcases h.shape with⟨rfl,rfl⟩ | ⟨g,cap,rfl,_⟩
 ·exact⟨none,0,0,rfl,rfl⟩
 ·exact⟨_,_,_,rfl,rfl⟩
theorem Own.grown_ne {α β:Type}{E:El α}{F:El β}{T U:TypeId}{w w':World}{base base':Nat}{v u:Value}{xs:List α}{ys:List β}(h:Own E T w base v xs) (k:Own F U w base' u ys) (hT:T≠U) (hg:w.grownBy w' u.ownBlock):Own E T w' base v xs:=
 h.grown hg (by
  rcases hq:v.ownBlock with _ | q
  ·exact .inl rfl
  ·refine .inr (fun e => ?_)
   exact own_ne hT h k q e.symm hq)
theorem flatten_bound (p:List (List Ins)) (m:Nat) (h:∀ r∈p,r.length≤m):p.flatten.length≤p.length * m:=by
 induction p with
 | nil=>simp
 | cons r p ih =>
  have h1:=h r (by simp);have h2:=ih (fun r hr=>h r (by simp[hr]));rw[List.flatten_cons,List.length_append,List.length_cons,Nat.succ_mul];omega
def QP (lo:Nat) (v:Value) (w:World):Prop:=∃ P:List (List Ins),OwnP w lo v P∧P.length≤4∧∀ r∈P,r.length≤8
def QPv (lo:Nat) (v:Value) (w:World) (ok:Bool):Prop:=∃ P:List (List Ins),OwnP w lo v P∧P.length≤4∧(∀ r∈P,r.length≤8)∧(ok=true→progValid P=true)
def RetParseV (w:World) (e:Ending) (w':World):Prop:=∃ v ok,e = .returned (.tuple #[v,.bool ok])∧QPv w.heap.size v w' ok∧Below w.heap.size w w'
def RetParse (w:World) (e:Ending) (w':World):Prop:=∃ v ok,e = .returned (.tuple #[v,.bool ok])∧QP w.heap.size v w'∧Below w.heap.size w w'
theorem sParseProgram_anyV (s:ByteArray) (w:World) (hs:s.size≤1000) :
 Calls Try.prog 20 #[.string s] w (RetParseV w):=by
 have HC:=hide (l17Cut_any s 124 (w.alloc (.cells #[] 54)) hs);have HB0:=hide (belowAlloc w (.cells #[] 54));have HO0:=hide (Own2.empty (E:=InsE) 54 56 w (Nat.le_refl w.heap.size));go_enter Try.func20,Try.ntmps20;go_wp2_with fail
 (with_reducible refine HC.out.mono ?_);rintro e w1 ⟨tv,ts,rfl,hto,hb1,-,hts⟩
 have hT:=hto.mono (show w.heap.size≤_ from HB0.out.size);have hO:=HO0.out.below hb1;have hB:=HB0.out.trans (hb1.mono HB0.out.size);have HTS:=hide hts;clear hto hb1 HC HB0 HO0 hts;obtain⟨ta,tn,tc,rfl,htn⟩:=hT.toSl;have HT:=hide hT;have HO:=hide hO;have HB:=hide hB;have HTN:=hide htn
 clear hT hO hB htn;go_wp2_with fail
 go_loopw [4,6] (fun v i wr => ∃ (j:Nat) (P:List (List Ins)),i = .int .i64 j∧j≤4∧P.length≤j∧(∀ r∈P,r.length≤8)∧OwnP wr w.heap.size v P∧Own StrE 9 wr w.heap.size (.slice ta tn tc) ts∧Below w.heap.size w wr) (fun _ i _=>4 - (intOf i).toNat)
 case atStart=>exact⟨0,[],rfl,by omega,by simp,by simp,HO.out,HT.out,HB.out⟩
 case round =>
  obtain⟨j,P,rfl,hj,hPl,hPr,ho,hT,hb⟩:=hrel;by_cases hlt:j < tn
  ·have hlt':=nat_of_lt hlt
   by_cases hlt3:j≤3
   ·have hlt3':(j:Int)≤3:=by omega
    obtain⟨wm,rfl⟩:∃ wm:World,wm=wr:=⟨_,rfl⟩
    obtain⟨x,hxj⟩:=get_of_lt (xs:=ts) (k:=j) (by rw[← HTN.out];exact hlt);obtain⟨b,o,rfl,hbl,i0⟩:=hT.rep.str hxj;have hxs:=HTS.out x (List.mem_of_getElem? hxj);obtain⟨us,hU,-⟩:=ho.told;have hub:us.length≤68719476736:=by rw[hU.1];omega
    have HU:=hide hU;have HT2:=hide hT;have HX:=hide hxj;have HPr:=hide hPr
    have HC:=hide (l17Cut_any x 59 (wm.alloc (.cells #[] 56)) (by omega));have BL:=hide (belowAlloc wm (.cells #[] 56));clear hU ho hT hxj hPr;have hbs:=hb.size;go_wp2_with fail
    (with_reducible refine HC.out.mono ?_);rintro e w2 ⟨wv,ws,rfl,hwo,hb2,-,-⟩
    have HL0:=hide ((Own.empty (E:=InsE) 56 wm (Nat.le_refl wm.heap.size)).below hb2);have HB2:=hide (BL.out.trans (hb2.mono BL.out.size));have HT3:=hide (HT2.out.below HB2.out);have HW:=hide (hwo.mono (show w.heap.size≤_ from Nat.le_trans hbs BL.out.size));obtain⟨wa,wn,wc,rfl,hwn⟩:=hwo.toSl;have HWN:=hide hwn;clear hwn hwo hb2 HC BL i0;go_wp2_with fail
    go_loopw [7,9] (fun l k wr' => ∃ (K:Nat) (xs:List Ins),k = .int .i64 K∧K≤8∧xs.length=K∧OwnI wr' wm.heap.size l xs∧Own StrE 9 wr' w.heap.size (.slice (some ⟨b,o,none⟩) tn tc) ts∧Own StrE 9 wr' w.heap.size (.slice wa wn wc) ws∧Below wm.heap.size wm wr') (fun _ k _=>8 - (intOf k).toNat)
    case atStart=>exact⟨0,[],rfl,by omega,rfl,HL0.out,HT3.out,HW.out,HB2.out⟩
    case round =>
     obtain⟨K,xs,rfl,hK,hxl,hl,hT,hW,hb3⟩:=hrel;have hbs3:=hb3.size;have HXL:=hide hxl;clear hxl;obtain⟨b2,o2,he,-,i0⟩:=hT.rep.str HX.out;simp only[Option.some.injEq,Addr.mk.injEq,and_true]at he;obtain⟨rfl,rfl⟩:=he;have hbl3:=lt_of_cell i0;by_cases hk:K < wn
     ·have hk':=nat_of_lt hk
      by_cases hk7:K≤7
      ·have hk7':(K:Int)≤7:=by omega
       by_cases hx0:(x.toList==[])=true
       ·have hx0'':x.toList=[]:=by simpa using hx0
        obtain⟨la,ln,lc,rfl,hln⟩:=hl.toSl;have hU3:=hide (HU.out.2.1.below hb3);have HL:=hide hl;have HH:=hide hT
        clear hl hT hW hln;go_wp2_with (at_builtin;refine wpList_app SlcE 54 Try.infoInsS rfl Try.underlying31 w.heap.size _ us ⟨la,ln,lc⟩ (hU3.out.alloc _) (by decide) hub (by simp;omega) rfl _ _ rfl rfl _ 0 1 rfl news_alloc ?_;intro v5 w5 ho5 hgr5);have ho6:=HU.out.app (by decide) (hb3.trans ((Below.refl _ _).alloc hb3.size _)) hbs (s:=⟨la,ln,lc⟩) (HL.out.alloc _) ho5 hgr5;have hT6:=(HH.out.alloc _).grown_ne (hU3.out.alloc _) (by decide) hgr5;have hb6:=below_app (hb.trans (hb3.mono hb.size)) hU3.out hgr5;go_roundw
        case rel=>exact⟨j+1,P++[xs],by go_num,by omega,by simp;omega,by
         intro r hr;rcases List.mem_append.1 hr with h | h
         ·exact HPr.out r h
         ·rw[List.mem_singleton.1 h,HXL.out];omega,ho6,hT6,hb6⟩
        case measure=>simp[intOf];omega
       ·have hx0':(x.toList==[])=false:=by simpa using hx0
        have hx0'':¬ x.toList=[]:=by simpa using hx0
        clear hx0;obtain⟨y,hyk⟩:=get_of_lt (xs:=ws) (k:=K) (by rw[← HWN.out];exact hk);obtain⟨b4,o4,rfl,hbl4,j0⟩:=hW.rep.str hyk;have HY:=hide (fun w'=>l1Parse_any y w');have HH:=hide hT;have HHW:=hide hW;have HHL:=hide hl
        clear hyk hT hW hl;generalize parseI y=I at *;go_wp2_with fail
        (with_reducible refine(HY.out _).mono ?_);rintro e w4 ⟨rfl,hb4⟩
        have hbs4:=hb4.size;have hxl64:xs.length≤68719476736:=by rw[HXL.out];omega
        have hl4:=hide (HHL.out.below hb4);have hT4:=hide (HH.out.below hb4);have hW4:=hide (HHW.out.below hb4)
        have hb34:=hide (hb3.trans (hb4.mono hb3.size));clear HY hb4;go_wp2_with (at_builtin;refine wpList_app InsE 56 Try.infoIns rfl Try.underlying54 wm.heap.size _ xs I (hl4.out.alloc _) (by decide) hxl64 (by simp;omega) rfl _ _ rfl rfl _ 0 1 rfl news_alloc ?_;intro v6 w6 ho6 hgr6);have hb6:=below_app hb34.out hl4.out hgr6;have hT6:=(hT4.out.alloc _).grown_ne (hl4.out.alloc _) (by decide) hgr6;have hW6:=(hW4.out.alloc _).grown_ne (hl4.out.alloc _) (by decide) hgr6;go_roundw
        case rel=>exact⟨K+1,xs++[I],by go_num,by omega,by simp[HXL.out],ho6,hT6,hW6,hb6⟩
        case measure=>simp[intOf];omega
      ·have hk7':decide ((K:Int)≤7)=false:=decide_eq_false (by omega)
       obtain⟨la,ln,lc,rfl,hln⟩:=hl.toSl;have hU3:=hide (HU.out.2.1.below hb3);have HL:=hide hl;have HH:=hide hT
       clear hl hT hW hln;go_wp2_with (at_builtin;refine wpList_app SlcE 54 Try.infoInsS rfl Try.underlying31 w.heap.size _ us ⟨la,ln,lc⟩ (hU3.out.alloc _) (by decide) hub (by simp;omega) rfl _ _ rfl rfl _ 0 1 rfl news_alloc ?_;intro v5 w5 ho5 hgr5);have ho6:=HU.out.app (by decide) (hb3.trans ((Below.refl _ _).alloc hb3.size _)) hbs (s:=⟨la,ln,lc⟩) (HL.out.alloc _) ho5 hgr5;have hT6:=(HH.out.alloc _).grown_ne (hU3.out.alloc _) (by decide) hgr5;have hb6:=below_app (hb.trans (hb3.mono hb.size)) hU3.out hgr5;go_roundw
       case rel=>exact⟨j+1,P++[xs],by go_num,by omega,by simp;omega,by
        intro r hr;rcases List.mem_append.1 hr with h | h
        ·exact HPr.out r h
        ·rw[List.mem_singleton.1 h,HXL.out];omega,ho6,hT6,hb6⟩
       case measure=>simp[intOf];omega
     ·have hk':decide (K < wn)=false:=decide_eq_false hk
      have hk'':decide ((K:Int) < wn)=false:=decide_eq_false (by omega);obtain⟨la,ln,lc,rfl,hln⟩:=hl.toSl;have hU3:=hide (HU.out.2.1.below hb3);have HL:=hide hl;have HH:=hide hT
      clear hl hT hW hln;go_wp2_with (at_builtin;refine wpList_app SlcE 54 Try.infoInsS rfl Try.underlying31 w.heap.size _ us ⟨la,ln,lc⟩ (hU3.out.alloc _) (by decide) hub (by simp;omega) rfl _ _ rfl rfl _ 0 1 rfl news_alloc ?_;intro v5 w5 ho5 hgr5);have ho6:=HU.out.app (by decide) (hb3.trans ((Below.refl _ _).alloc hb3.size _)) hbs (s:=⟨la,ln,lc⟩) (HL.out.alloc _) ho5 hgr5;have hT6:=(HH.out.alloc _).grown_ne (hU3.out.alloc _) (by decide) hgr5;have hb6:=below_app (hb.trans (hb3.mono hb.size)) hU3.out hgr5;go_roundw
      case rel=>exact⟨j+1,P++[xs],by go_num,by omega,by simp;omega,by
       intro r hr;rcases List.mem_append.1 hr with h | h
       ·exact HPr.out r h
       ·rw[List.mem_singleton.1 h,HXL.out];omega,ho6,hT6,hb6⟩
      case measure=>simp[intOf];omega
   ·have hlt3':decide ((j:Int)≤3)=false:=decide_eq_false (by omega)
    obtain⟨us,hU,-⟩:=ho.told;obtain⟨oa,on,oc,rfl,hon⟩:=hU.2.1.toSl;have hfl:P.flatten.length≤1048576:=by
     have:=flatten_bound P 8 hPr;have:P.length * 8≤4 * 8:=Nat.mul_le_mul_right _ (by omega);omega
    have HV:=hide (fun w' h=>sProgramValid_any (.slice oa on oc) P w' h hfl (by omega));have HTX:=hide (fun w' h hv=>l1Program_any (.slice oa on oc) P w' h hv (by omega) (fun r hr=>Nat.le_trans (hPr r hr) (by omega)));have HI:=hide (progValid_ins (p:=P));have HO:=hide ho;have HPr:=hide hPr;have HB:=hide hb
    clear hU hT hon ho hPr hb hfl;go_wp2_with fail
    (with_reducible refine(HV.out _ HO.out.rep).mono ?_);rintro e w4 ⟨rfl,hb4⟩
    have HB4:=hide (HB.out.trans (hb4.mono HB.out.size));have HO4:=hide (HO.out.below hb4);clear hb4 HB HO HV;by_cases hv:progValid P=true
    ·have HTX:=hide (fun w' h=>HTX.out w' h (HI.out hv))
     clear HI;generalize progTx P P.length=X at *;go_wp2_with fail
     (with_reducible refine(HTX.out _ HO4.out.rep).mono ?_);rintro e w5 ⟨rfl,hb5⟩
     have HB5:=hide (HB4.out.trans (hb5.mono HB4.out.size));have HO5:=hide (HO4.out.below hb5);clear hb5 HB4 HO4 HTX;by_cases hq:(X.toList==s.toList)=true
     ·have hq':X.toList=s.toList:=by simpa using hq
      go_wp2_with fail;go_ret2;exact⟨_,_,rfl,⟨P,HO5.out,by omega,HPr.out,fun _=>hv⟩,HB5.out⟩
     ·have hq':(X.toList==s.toList)=false:=by simpa using hq
      have hq'':¬ X.toList=s.toList:=by simpa using hq
      clear hq;go_wp2_with fail;go_ret2;exact⟨_,_,rfl,⟨[],Own2.empty _ _ _ HB5.out.size,by simp,by simp,fun h=>by cases h⟩,HB5.out.trans ((belowAlloc _ _).mono HB5.out.size)⟩
    ·have hv':progValid P=false:=by simpa using hv
     clear hv;go_wp2_with fail;go_ret2;exact⟨_,_,rfl,⟨[],Own2.empty _ _ _ HB4.out.size,by simp,by simp,fun h=>by cases h⟩,HB4.out.trans ((belowAlloc _ _).mono HB4.out.size)⟩
  ·have hlt':decide (j < tn)=false:=decide_eq_false hlt
   have hlt'':decide ((j:Int) < tn)=false:=decide_eq_false (by omega);obtain⟨us,hU,-⟩:=ho.told;obtain⟨oa,on,oc,rfl,hon⟩:=hU.2.1.toSl;have hfl:P.flatten.length≤1048576:=by
    have:=flatten_bound P 8 hPr;have:P.length * 8≤4 * 8:=Nat.mul_le_mul_right _ (by omega);omega
   have HV:=hide (fun w' h=>sProgramValid_any (.slice oa on oc) P w' h hfl (by omega));have HTX:=hide (fun w' h hv=>l1Program_any (.slice oa on oc) P w' h hv (by omega) (fun r hr=>Nat.le_trans (hPr r hr) (by omega)));have HI:=hide (progValid_ins (p:=P));have HO:=hide ho;have HPr:=hide hPr;have HB:=hide hb
   clear hU hT hon ho hPr hb hfl;go_wp2_with fail
   (with_reducible refine(HV.out _ HO.out.rep).mono ?_);rintro e w4 ⟨rfl,hb4⟩
   have HB4:=hide (HB.out.trans (hb4.mono HB.out.size));have HO4:=hide (HO.out.below hb4);clear hb4 HB HO HV;by_cases hv:progValid P=true
   ·have HTX:=hide (fun w' h=>HTX.out w' h (HI.out hv))
    clear HI;generalize progTx P P.length=X at *;go_wp2_with fail
    (with_reducible refine(HTX.out _ HO4.out.rep).mono ?_);rintro e w5 ⟨rfl,hb5⟩
    have HB5:=hide (HB4.out.trans (hb5.mono HB4.out.size));have HO5:=hide (HO4.out.below hb5);clear hb5 HB4 HO4 HTX;by_cases hq:(X.toList==s.toList)=true
    ·have hq':X.toList=s.toList:=by simpa using hq
     go_wp2_with fail;go_ret2;exact⟨_,_,rfl,⟨P,HO5.out,by omega,HPr.out,fun _=>hv⟩,HB5.out⟩
    ·have hq':(X.toList==s.toList)=false:=by simpa using hq
     have hq'':¬ X.toList=s.toList:=by simpa using hq
     clear hq;go_wp2_with fail;go_ret2;exact⟨_,_,rfl,⟨[],Own2.empty _ _ _ HB5.out.size,by simp,by simp,fun h=>by cases h⟩,HB5.out.trans ((belowAlloc _ _).mono HB5.out.size)⟩
   ·have hv':progValid P=false:=by simpa using hv
    clear hv;go_wp2_with fail;go_ret2;exact⟨_,_,rfl,⟨[],Own2.empty _ _ _ HB4.out.size,by simp,by simp,fun h=>by cases h⟩,HB4.out.trans ((belowAlloc _ _).mono HB4.out.size)⟩
theorem sParseProgram_any (s:ByteArray) (w:World) (hs:s.size≤1000) :
 Calls Try.prog 20 #[.string s] w (RetParse w):=
 (sParseProgram_anyV s w hs).mono fun _ _ ⟨v,ok,h1,⟨P,h2,h3,h4,_⟩,h5⟩=>⟨v,ok,h1,⟨P,h2,h3,h4⟩,h5⟩
end Go.Proofs.Ytnkfphndfijcoaa
namespace Go.Proofs.Ytnkfphndfijcoaa
open Go.RowKit
theorem Own.lit {α:Type}{E:El α}{T:TypeId}{w:World}{base:Nat}(hb:base≤w.heap.size) (xs:List α) (cur:Array Value) (n:Nat) (hc:cur.toList=xs.flatMap E.c) (hn:n=xs.length) (hl:n≤1000) :
 Own E T (w.alloc (.cells cur T)) base (.slice (some ⟨w.heap.size,0,none⟩) n n) xs:=by
 subst hn;have hsz:(xs.flatMap E.c).length=xs.length * E.sz:=El.length E xs;refine⟨hsz,.inr ⟨w.heap.size,xs.length,cur,rfl,hb,heap_alloc_new w _,Nat.le_refl _,by unfold maxLen;omega,?_,?_⟩⟩
 ·rw[← hsz,← hc];simp
 ·rw[hc,← hsz,List.take_length]
theorem Outside.grownNew {lo hi:Nat}{w w' w'':World}{row:Option Nat}(h:Outside lo hi w w') (hg:w'.grownBy w'' row) (hr:∀ q,row=some q→w.heap.size≤q):Outside lo hi w w'':=
 ⟨hg.os.trans h.os,hg.tape.trans h.tape,hg.output.trans h.output,Nat.le_trans h.size hg.size,fun k hk hlh=>(hg.block k (by have:=h.size;omega) (fun e=>by have:=hr k e.symm;omega)).trans (h.block k hk hlh)⟩
theorem Rd.grownNew {w w':World}{b:Nat}{a:Option Addr}{c:Nat}{xs:List Int}{p:Int}(h:Rd w b a c xs p) {row:Option Nat}(hg:w.grownBy w' row) (hr:∀ q,row=some q→b < q):Rd w' b a c xs p:=
 h.keep (B:=b+1) ((Below.refl _ _).grown hg h.lt (fun q hq=>hr q hq)) (Nat.lt_succ_self _)
theorem Outside.ownHi {α:Type}{E:El α}{T:TypeId}{b:Nat}{w w':World}(h:Outside b (b+1) w w') {base:Nat}{v:Value}{xs:List α}(ho:Own E T w base v xs) (hb:b < base):Own E T w' base v xs:=
 h.own ho (fun q hq => .inr (by have:=(World.ownsRow.lt ho q hq).1;omega))
theorem own2_one {w w1:World}{base:Nat}(hb:base≤w.heap.size) (x:Ins) (h1:w1=w.alloc (.cells #[.int .i64 x.op,.int .i64 x.loc,.int .i64 x.reg,.int .i64 x.val] 56)) :
 OwnP (w1.alloc (.cells #[.slice (some ⟨w.heap.size,0,none⟩) 1 1] 54)) base (.slice (some ⟨w.heap.size+1,0,none⟩) 1 1) [[x]]:=by
 subst h1;have h1:OwnI (w.alloc (.cells #[.int .i64 x.op,.int .i64 x.loc,.int .i64 x.reg,.int .i64 x.val] 56)) base (.slice (some ⟨w.heap.size,0,none⟩) 1 1) [x]:=
  Own.lit hb [x] _ 1 rfl rfl (by omega)
 have h2:Own SlcE 54 ((w.alloc (.cells #[.int .i64 x.op,.int .i64 x.loc,.int .i64 x.reg,.int .i64 x.val] 56)).alloc (.cells #[.slice (some ⟨w.heap.size,0,none⟩) 1 1] 54)) base (.slice (some ⟨w.heap.size+1,0,none⟩) 1 1) [⟨some ⟨w.heap.size,0,none⟩,1,1⟩]:=by
  have:=Own.lit (E:=SlcE) (T:=54) (w:=w.alloc (.cells #[.int .i64 x.op,.int .i64 x.loc,.int .i64 x.reg,.int .i64 x.val] 56)) (base:=base) (by simp;omega) [⟨some ⟨w.heap.size,0,none⟩,1,1⟩] #[.slice (some ⟨w.heap.size,0,none⟩) 1 1] 1 rfl rfl (by omega);simpa using this
 refine⟨[⟨some ⟨w.heap.size,0,none⟩,1,1⟩],rfl,h2,?_,?_,?_⟩
 ·intro i u r hu hr
  cases i with
  | zero=>simp at hu hr;subst hu;subst hr;exact h1.alloc _
  | succ i=>simp at hu
 ·intro i j u u' hi hj hij
  have:i=0:=by cases i with
   | zero=>rfl
   | succ i=>simp at hi
  have:j=0:=by cases j with
   | zero=>rfl
   | succ j=>simp at hj
  omega
 ·intro i u hu
  cases i with
  | zero=>simp at hu;subst hu;intro k hk;simp[Value.ownBlock]at hk ⊢;omega
  | succ i=>simp at hu
def testTexts:List ByteArray:=[⟨#[120,61,49,59,97,61,121,124,121,61,49,59,97,61,120]⟩,⟨#[120,61,49,59,102,101,110,99,101,59,97,61,121,124,121,61,49,59,102,101,110,99,101,59,97,61,120]⟩,⟨#[120,61,49,59,121,61,49,124,97,61,121,59,98,61,120]⟩,⟨#[120,61,49,59,121,61,49,124,97,61,121,59,102,101,110,99,101,59,98,61,120]⟩,⟨#[120,61,49,59,102,101,110,99,101,59,121,61,49,124,97,61,121,59,98,61,120]⟩,⟨#[97,61,120,59,121,61,49,124,97,61,121,59,120,61,49]⟩,⟨#[97,61,120,59,121,61,97,124,97,61,121,59,120,61,97]⟩,⟨#[120,61,49,124,120,61,50,124,97,61,120,59,98,61,120]⟩,⟨#[120,61,49,124,121,61,49,124,97,61,120,59,98,61,121,124,97,61,121,59,98,61,120]⟩,⟨#[120,61,49,124,97,61,120,59,121,61,49,124,97,61,121,59,98,61,120]⟩,⟨#[120,61,49,124,121,61,49,124,97,61,120,59,98,61,121]⟩,⟨#[97,61,120,58,49,124,97,61,120,58,50,124,120,61,51]⟩,⟨#[120,61,49,59,97,61,120,59,98,61,121,124,121,61,49,59,97,61,121,59,98,61,120]⟩,⟨#[120,61,50,59,121,61,49,124,121,61,50,59,120,61,49]⟩,⟨#[97,61,120,58,49,59,98,61,121,124,97,61,121,58,49,59,98,61,120]⟩,⟨#[120,61,49,59,120,61,50,124,97,61,120,59,98,61,120]⟩,⟨#[120,61,49,59,121,61,49,59,97,61,122,124,122,61,49,59,97,61,121,59,98,61,120]⟩,⟨#[97,61,120,58,49,124,98,61,120,58,49]⟩,⟨#[102,101,110,99,101]⟩,⟨#[]⟩,⟨#[120,61,49,59,97,61,121,124,121,61,49,59,102,101,110,99,101,59,97,61,120]⟩]
theorem testTexts_le:∀ x∈testTexts,x.size≤1000:=by
 have h:(testTexts.all fun x=>decide (x.size≤1000))=true:=by rfl
 intro x hx;have:=List.all_eq_true.1 h x hx;simpa using this
theorem l1Tests_any (w:World):Calls Try.prog 29 #[] w fun e w'=>e = .returned (.slice (some ⟨w.heap.size,0,none⟩) 21 21)∧Own StrE 9 w' w.heap.size (.slice (some ⟨w.heap.size,0,none⟩) 21 21) testTexts∧Below w.heap.size w w':=by
 go_enter Try.func29,Try.ntmps29;go_wp2_with fail;go_ret;exact⟨rfl,Own.lit (Nat.le_refl _) testTexts _ 21 rfl rfl (by omega),belowAlloc _ _⟩
theorem iv1 {a b:Int}(h:0≤a∧a < 2) (k:0≤b∧b < 2):insValid ⟨1,a,b,0⟩=true:=by simp[insValid,inB];omega
theorem iv3 {a b:Int}(h:0≤a∧a < 2) (k:0≤b∧b < 2):insValid ⟨3,a,b,0⟩=true:=by simp[insValid,inB];omega
theorem iv4:insValid ⟨4,0,0,0⟩=true:=by simp[insValid]
theorem iv2 {a x:Int}(h:0≤a∧a < 2) (k:0≤x∧x < 3):insValid ⟨2,a,0,wrap64 (1+x)⟩=true:=by
 have e:wrap64 (1+x)=1+x:=by unfold wrap64;omega
 rw[e];simp[insValid,inB];omega
theorem iv5 {a b x:Int}(h:0≤a∧a < 2) (h2:0≤b∧b < 2) (k:0≤x∧x < 3):insValid ⟨5,a,b,wrap64 (1+x)⟩=true:=by
 have e:wrap64 (1+x)=1+x:=by unfold wrap64;omega
 rw[e];simp[insValid,inB];omega
def IsInsV (v:Value) (_:World):Prop:=∃ o l r x:Int,v = .agg #[.int .i64 o,.int .i64 l,.int .i64 r,.int .i64 x]∧insValid ⟨o,l,r,x⟩=true
theorem l1Instr_anyV (b:Nat) (a:Option Addr) (c:Nat) (xs:List Int) (p:Int) (w:World) (hr:Rd w b a c xs p) (hp:p≤900000000) :
 Calls Try.prog 31 #[.pointer (some ⟨b,0,none⟩)] w (RetRd w b a c xs p 4 IsInsV):=by
 have HP:=hide (fun (p:Int) n w' h hp (hn:n≤100) (hn0:0≤n)=>pick_any b a c xs p n w' h hp (by omega) (by omega));have hlt:=hr.lt;have hne:w.heap.size≠b:=by omega
 have R0:=hide (hr.allocNew (.cells #[.int .i64 0,.int .i64 0,.int .i64 0,.int .i64 0] 56));have O0:=hide (Outside.of_below (lo:=b) (hi:=b+1) (belowAlloc w (.cells #[.int .i64 0,.int .i64 0,.int .i64 0,.int .i64 0] 56)));have BI0:=hide (BoxI.new w 0 0 0 0 56);clear hr;go_enter Try.func31,Try.ntmps31;go_wp2_with fail
 (with_reducible refine(HP.out p _ _ R0.out (by omega) (by omega) (by omega)).mono ?_);rintro e w1 ⟨v1,p1,rfl,⟨q1,rfl,hq1,hk1⟩,hp1,hr1,ho1⟩
 have HK1:=hide (And.intro hq1 (hk1 (by decide)));clear hk1;have R1:=hide hr1;have BI1:=hide (BI0.out.outside ho1 hne);have O1:=hide (O0.out.trans ho1)
 clear hr1 ho1 BI0 R0 O0;go_wp2_with fail
 (with_reducible refine(HP.out p1 _ _ R1.out (by omega) (by omega) (by omega)).mono ?_);rintro e w2 ⟨v2,p2,rfl,⟨q2,rfl,hq2,-⟩,hp2,hr2,ho2⟩
 have R2:=hide hr2;have BI2:=hide (BI1.out.outside ho2 hne);have O2:=hide (O1.out.trans ho2)
 clear hr2 ho2 BI1 R1 O1;by_cases h0:q2=0
 ·subst h0
  obtain⟨lt2,i0,i1,i2,i3,if'⟩:=BI2.out;go_wp2_with fail;refine bodyPost_ret (v:=.agg #[.int .i64 (4),.int .i64 (0),.int .i64 (0),.int .i64 (0)]) (by simp[results,Try.results31,go_sem, *]) rfl ⟨_,p2,rfl,⟨_,_,_,_,rfl,iv4⟩,by omega,((((R2.out.setNew hlt _ _).setNew hlt _ _).setNew hlt _ _).setNew hlt _ _),((((O2.out.setNew (Nat.le_refl _) _ _).setNew (Nat.le_refl _) _ _).setNew (Nat.le_refl _) _ _).setNew (Nat.le_refl _) _ _)⟩
 ·have h0':(q2==0)=false:=by simp[h0]
  clear h0;by_cases h1:q2=1
  ·subst h1
   go_wp2_with fail
   (with_reducible refine(HP.out p2 _ _ R2.out (by omega) (by omega) (by omega)).mono ?_);rintro e w3 ⟨v3,p3,rfl,⟨q3,rfl,hq3,hk3⟩,hp3,hr3,ho3⟩
   have HK3:=hide (And.intro hq3 (hk3 (by decide)));clear hk3;have R3:=hide hr3;have BI3:=hide (BI2.out.outside ho3 hne);have O3:=hide (O2.out.trans ho3)
   clear hr3 ho3 BI2 R2 O2;obtain⟨lt3,i0,i1,i2,i3,if'⟩:=BI3.out;go_wp2_with fail;refine bodyPost_ret (v:=.agg #[.int .i64 (3),.int .i64 (q1),.int .i64 (q3),.int .i64 (0)]) (by simp[results,Try.results31,go_sem, *]) rfl ⟨_,p3,rfl,⟨_,_,_,_,rfl,iv3 HK1.out HK3.out⟩,by omega,((((R3.out.setNew hlt _ _).setNew hlt _ _).setNew hlt _ _).setNew hlt _ _),((((O3.out.setNew (Nat.le_refl _) _ _).setNew (Nat.le_refl _) _ _).setNew (Nat.le_refl _) _ _).setNew (Nat.le_refl _) _ _)⟩
  ·have h1':(q2==1)=false:=by simp[h1]
   clear h1;by_cases h2:q2=2
   ·subst h2
    go_wp2_with fail
    (with_reducible refine(HP.out p2 _ _ R2.out (by omega) (by omega) (by omega)).mono ?_);rintro e w3 ⟨v3,p3,rfl,⟨q3,rfl,hq3,hk3⟩,hp3,hr3,ho3⟩
    have HK3:=hide (And.intro hq3 (hk3 (by decide)));clear hk3;have R3:=hide hr3;have BI3:=hide (BI2.out.outside ho3 hne);have O3:=hide (O2.out.trans ho3)
    clear hr3 ho3 BI2 R2 O2;go_wp2_with fail
    (with_reducible refine(HP.out p3 _ _ R3.out (by omega) (by omega) (by omega)).mono ?_);rintro e w4 ⟨v4,p4,rfl,⟨q4,rfl,hq4,hk4⟩,hp4,hr4,ho4⟩
    have HK4:=hide (And.intro hq4 (hk4 (by decide)));clear hk4;have R4:=hide hr4;have BI4:=hide (BI3.out.outside ho4 hne);have O4:=hide (O3.out.trans ho4)
    clear hr4 ho4 BI3 R3 O3;obtain⟨lt4,i0,i1,i2,i3,if'⟩:=BI4.out;go_wp2_with fail;refine bodyPost_ret (v:=.agg #[.int .i64 (5),.int .i64 (q1),.int .i64 (q3),.int .i64 (wrap64 (1+q4))]) (by simp[results,Try.results31,go_sem, *]) rfl ⟨_,p4,rfl,⟨_,_,_,_,rfl,iv5 HK1.out HK3.out HK4.out⟩,by omega,((((R4.out.setNew hlt _ _).setNew hlt _ _).setNew hlt _ _).setNew hlt _ _),((((O4.out.setNew (Nat.le_refl _) _ _).setNew (Nat.le_refl _) _ _).setNew (Nat.le_refl _) _ _).setNew (Nat.le_refl _) _ _)⟩
   ·have h2':(q2==2)=false:=by simp[h2]
    clear h2;by_cases h3:q2=3
    ·subst h3
     go_wp2_with fail
     (with_reducible refine(HP.out p2 _ _ R2.out (by omega) (by omega) (by omega)).mono ?_);rintro e w3 ⟨v3,p3,rfl,⟨q3,rfl,hq3,hk3⟩,hp3,hr3,ho3⟩
     have HK3:=hide (And.intro hq3 (hk3 (by decide)));clear hk3;have R3:=hide hr3;have BI3:=hide (BI2.out.outside ho3 hne);have O3:=hide (O2.out.trans ho3)
     clear hr3 ho3 BI2 R2 O2;obtain⟨lt3,i0,i1,i2,i3,if'⟩:=BI3.out;go_wp2_with fail;refine bodyPost_ret (v:=.agg #[.int .i64 (2),.int .i64 (q1),.int .i64 (0),.int .i64 (wrap64 (1+q3))]) (by simp[results,Try.results31,go_sem, *]) rfl ⟨_,p3,rfl,⟨_,_,_,_,rfl,iv2 HK1.out HK3.out⟩,by omega,((((R3.out.setNew hlt _ _).setNew hlt _ _).setNew hlt _ _).setNew hlt _ _),((((O3.out.setNew (Nat.le_refl _) _ _).setNew (Nat.le_refl _) _ _).setNew (Nat.le_refl _) _ _).setNew (Nat.le_refl _) _ _)⟩
    ·have h3':(q2==3)=false:=by simp[h3]
     clear h3;by_cases h4:q2=4
     ·subst h4
      go_wp2_with fail
      (with_reducible refine(HP.out p2 _ _ R2.out (by omega) (by omega) (by omega)).mono ?_);rintro e w3 ⟨v3,p3,rfl,⟨q3,rfl,hq3,hk3⟩,hp3,hr3,ho3⟩
      have HK3:=hide (And.intro hq3 (hk3 (by decide)));clear hk3;have R3:=hide hr3;have BI3:=hide (BI2.out.outside ho3 hne);have O3:=hide (O2.out.trans ho3)
      clear hr3 ho3 BI2 R2 O2;obtain⟨lt3,i0,i1,i2,i3,if'⟩:=BI3.out;go_wp2_with fail;refine bodyPost_ret (v:=.agg #[.int .i64 (2),.int .i64 (q1),.int .i64 (0),.int .i64 (wrap64 (1+q3))]) (by simp[results,Try.results31,go_sem, *]) rfl ⟨_,p3,rfl,⟨_,_,_,_,rfl,iv2 HK1.out HK3.out⟩,by omega,((((R3.out.setNew hlt _ _).setNew hlt _ _).setNew hlt _ _).setNew hlt _ _),((((O3.out.setNew (Nat.le_refl _) _ _).setNew (Nat.le_refl _) _ _).setNew (Nat.le_refl _) _ _).setNew (Nat.le_refl _) _ _)⟩
     ·have h4':(q2==4)=false:=by simp[h4]
      clear h4;go_wp2_with fail
      (with_reducible refine(HP.out p2 _ _ R2.out (by omega) (by omega) (by omega)).mono ?_);rintro e w3 ⟨v3,p3,rfl,⟨q3,rfl,hq3,hk3⟩,hp3,hr3,ho3⟩
      have HK3:=hide (And.intro hq3 (hk3 (by decide)));clear hk3;have R3:=hide hr3;have BI3:=hide (BI2.out.outside ho3 hne);have O3:=hide (O2.out.trans ho3)
      clear hr3 ho3 BI2 R2 O2;obtain⟨lt3,i0,i1,i2,i3,if'⟩:=BI3.out;go_wp2_with fail;refine bodyPost_ret (v:=.agg #[.int .i64 (1),.int .i64 (q1),.int .i64 (q3),.int .i64 (0)]) (by simp[results,Try.results31,go_sem, *]) rfl ⟨_,p3,rfl,⟨_,_,_,_,rfl,iv1 HK1.out HK3.out⟩,by omega,((((R3.out.setNew hlt _ _).setNew hlt _ _).setNew hlt _ _).setNew hlt _ _),((((O3.out.setNew (Nat.le_refl _) _ _).setNew (Nat.le_refl _) _ _).setNew (Nat.le_refl _) _ _).setNew (Nat.le_refl _) _ _)⟩
end Go.Proofs.Ytnkfphndfijcoaa
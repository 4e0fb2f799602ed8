/-
  slices.Compare at lists of numbers. No condition.
-/
import Derived.Test.YtngekjpklkjnbaaGreatZp00
import Derived.Sort.Statements
set_option maxHeartbeats 6400000
set_option maxRecDepth 100000
namespace Go.Proofs.YtngekjpklkjnbaaGreat
open Go.RowKit
def Sf (n:Int) (v:Value) (_:World):Prop:=∃ q:Int,v = .int .i64 q∧0≤q∧(1≤n→q < n)
theorem Outside.Zf {lo hi:Nat}{w w':World}(h:Below w.heap.size w w'):Outside lo hi w w':=⟨h.os,h.tape,h.output,h.size,fun k hk _=>h.block k hk⟩
theorem Lk (a b:Nat) (ha:a < 9223372036854775808) (hb:b < 9223372036854775808):bits .xor .i64 (a:Int) (b:Int)=((a ^^^ b:Nat):Int):=by
 have hx:a ^^^ b < 2 ^ 63:=Nat.xor_lt_two_pow Om Om;have h1:(BitVec.ofInt 64 (a:Int)).toNat=a:=by
  rw[BitVec.ofInt_natCast,BitVec.toNat_ofNat];exact Nat.mod_eq_of_lt Om
 have h2:(BitVec.ofInt 64 (b:Int)).toNat=b:=by
  rw[BitVec.ofInt_natCast,BitVec.toNat_ofNat];exact Nat.mod_eq_of_lt Om
 show IntKind.i64.wrap ((BitVec.ofInt 64 (a:Int) ^^^ BitVec.ofInt 64 (b:Int)).toNat:Int)=_;rw[BitVec.toNat_xor,h1,h2,IntKind.wrap_i64];omega
theorem Df (x:Int) (h0:0≤x) (h1:x < 9223372036854775808):0≤bits .xor .i64 x (x / 64):=by
 obtain⟨X,rfl⟩:=Int.eq_ofNat_of_zero_le h0;have d:((X:Int) / 64)=((X / 64:Nat):Int):=by simp
 rw[d,Lk X (X / 64) Om Om];omega
theorem Ky (b:Nat) (a:Option Addr) (c:Nat) (xs:List Int) (p n:Int) (w:World) (hr:Rd w b a c xs p) (hp:p≤1000000000) (hn:n≤1000000000) (hn0 : -1000000000≤n) :
 Calls Tryz.prog 99 #[.pointer (some ⟨b,0,none⟩),.int .i64 n] w (Ke w b a c xs p 1 (Sf n)):=by
 have h0:=hr.c0;have h1:=hr.c1;have hf:=hr.f1;have hlt:=hr.lt;have hp0:=hr.p0
 have HS:=Za (hr.step (p+1) Om);have HO:Hid (Outside b (b+1) w (w.setCell ⟨b,1,none⟩ (.int .i64 (p+1)))):=Za ((Outside.refl b (b+1) w).grown (row:=some b) ⟨rfl,rfl,rfl,Sm,fun q _ hq=>heap_setCell_other w ⟨b,1,none⟩ q _ (fun e=>hq (by simp[e]))⟩ (fun q hq=>by simp at hq;omega));by_cases hn1:n < 1
 ·go_enter Tryz.func99,Tryz.ntmps99
  go_wp2_with fail;go_ret;exact⟨_,_,rfl,⟨0,rfl,Om,fun h=>by omega⟩,Int.le_refl _,HS.out,HO.out⟩
 ·have hn1':decide (n < 1)=false:=decide_eq_false hn1
  obtain⟨aa,cc,hv,hc1,hc2,hc3,-⟩:=hr.rep.open;simp only[Value.slice.injEq,true_and]at hv;obtain⟨rfl,rfl⟩:=hv;by_cases hx:xs.length=0
  ·have hx':((xs.length:Int)==0)=true:=by rw[hx];rfl
   generalize hl:xs.length=l at *;clear hl;go_enter Tryz.func99,Tryz.ntmps99;go_wp2_with fail;go_ret;exact⟨_,_,rfl,⟨0,rfl,Om,fun h=>by omega⟩,Int.le_refl _,HS.out,HO.out⟩
  ·have hx':((xs.length:Int)==0)=false:=by simp;intro h;exact hx (by rw[h];rfl)
   obtain⟨P,rfl⟩:=Int.eq_ofNat_of_zero_le hp0;by_cases hk:P < xs.length
   ·obtain⟨y,hy⟩:=Zd hk
    obtain⟨g,o,rfl,hg,i0⟩:=hr.rep.byte hy;have hgb:=hr.Pu g o (by intro e;simp[e]at hk) rfl;have hyb:=hr.P8 y (List.mem_of_getElem? hy);have hk':=Zh hk;have hgne:g≠b:=Om;clear hy hr;generalize xs.length=l at *;go_enter Tryz.func99,Tryz.ntmps99;go_wp2_with fail;go_ret;exact⟨_,_,rfl,⟨y % n,rfl,Int.emod_nonneg _ Om,fun h=>Int.emod_lt_of_pos _ Om⟩,Int.le_refl _,HS.out,HO.out⟩
   ·have hxl:0 < xs.length:=Om
    obtain⟨K1,hK1⟩:∃ K:Nat,(P:Int) % (xs.length:Int)=(K:Int):=⟨P % xs.length,Sm⟩
    obtain⟨K2,hK2⟩:∃ K:Nat,((P:Int) * 7+3) % (xs.length:Int)=(K:Int):=⟨(P * 7+3) % xs.length,Sm⟩
    have hl1:(K1:Int) < xs.length:=by rw[← hK1];exact Int.emod_lt_of_pos _ Om
    have hl2:(K2:Int) < xs.length:=by rw[← hK2];exact Int.emod_lt_of_pos _ Om
    have hl1':K1 < xs.length:=Om;have hl2':K2 < xs.length:=Om;obtain⟨y1,hy1⟩:=Zd hl1';obtain⟨y2,hy2⟩:=Zd hl2';obtain⟨g,o,rfl,hg,i0⟩:=hr.rep.byte hy1;obtain⟨g',o',hge,hg',j0⟩:=hr.rep.byte hy2;simp only[Option.some.injEq,Addr.mk.injEq,and_true]at hge;obtain⟨rfl,rfl⟩:=hge;have hgb:=hr.Pu g o (by intro e;simp[e]at hxl) rfl;have hyb1:=hr.P8 y1 (List.mem_of_getElem? hy1);have hyb2:=hr.P8 y2 (List.mem_of_getElem? hy2);have hgne:g≠b:=Om;have hkge:decide ((P:Int) < xs.length)=false:=decide_eq_false Om;have hq1:0≤(P:Int) / (xs.length:Int):=Int.ediv_nonneg Om Om;have hq2:(P:Int) / (xs.length:Int)≤(P:Int):=Int.ediv_le_self _ Om;clear hy1 hy2 hr hx;generalize xs.length=l at *;generalize hQ:(P:Int) / (l:Int)=Q at *;have hQ2:(P:Int) / (l:Int)=Q:=hQ;go_enter Tryz.func99,Tryz.ntmps99;go_wp2_with fail;refine Zo Kr Kr ?_
    repeat (go_big_quiet_step (fail))
    refine wpQuiet_nil ?_;intro w1 hb1;go_wp2_with fail;go_ret;have hX0:0≤y1 * 131+y2 * 1117+(P:Int) * 29+Q * 53:=Om;have hX1:y1 * 131+y2 * 1117+(P:Int) * 29+Q * 53 < 9223372036854775808:=Om;have hz:=Df _ hX0 hX1;refine⟨_,_,rfl,⟨_,rfl,Int.tmod_nonneg _ hz,fun h=>Int.tmod_lt_of_pos _ Om⟩,Int.le_refl _,HS.out.Yf hb1 (by simpa using hlt),HO.out.trans (Outside.Zf hb1)⟩
theorem Ko {w w':World}{b:Nat}(h:w'.heap[b]? = w.heap[b]?) (o:Nat):w'.cell? ⟨b,o,none⟩=w.cell? ⟨b,o,none⟩:=by
 unfold World.cell?;rw[h]
def UD (ys:List Int) (v:Value) (_:World):Prop:=∃ y∈ys,v = .int .i64 y
theorem C0 (b:Nat) (a:Option Addr) (c:Nat) (xs:List Int) (p:Int) (v:Value) (ys:List Int) (w:World) (hr:Rd w b a c xs p) (hp:p≤1000000000) (hy:ZC Zq w v ys) (hl:ys.length≤100) (h0:1≤ys.length) (hfar:∀ g o,v = .slice (some ⟨g,o,none⟩) ys.length (match v with | .slice _ _ c=>c | _=>0)→g≠b) :
 Calls Tryz.prog 100 #[.pointer (some ⟨b,0,none⟩),v] w (Ke w b a c xs p 1 (UD ys)):=by
 obtain⟨a2,c2,rfl,-,-,-,hy⟩:=hy.open;have HY:=Za hy;clear hy;have HF:=Za hfar;clear hfar;have HP:=Za (fun w' h=>Ky b a c xs p ys.length w' h hp Om Om);generalize hn:ys.length=n at *;have H:=Za hn;clear hn;go_enter Tryz.func100,Tryz.ntmps100;go_wp2_with fail
 (with_reducible refine(HP.out _ hr).mono ?_);rintro e w1 ⟨v1,p1,rfl,⟨q,rfl,hq0,hq1⟩,hp1,hr1,ho1⟩
 obtain⟨Q,rfl⟩:=Int.eq_ofNat_of_zero_le hq0;have hQ:Q < n:=by have:=hq1 Om;omega
 obtain⟨y,hyq⟩:=Zd (xs:=ys) (k:=Q) (by rw[H.out];exact hQ);obtain⟨g,o,rfl,hg,i0⟩:=HY.out.int hyq;have hgb:=HF.out g o rfl;have i1:w1.cell? ⟨g,o+Q,none⟩=some (.int .i64 y):=by
  rw[← i0];refine Ko (ho1.block g hg Om) _
 have hQ':=Zh hQ;have hm:=List.mem_of_getElem? hyq;clear hyq i0;go_wp2_with fail;go_ret;exact⟨_,p1,rfl,⟨y,hm,rfl⟩,hp1,hr1,ho1⟩
theorem Ze (w:World) (o:Obj):Below w.heap.size w (w.alloc o):=(Below.refl _ _).alloc (Nat.le_refl _) o
theorem Og {b:Nat}{W w1:World}(h:Outside b (b+1) W w1):(∀ g o,g < W.heap.size→g≠b→w1.cell? ⟨g,o,none⟩=W.cell? ⟨g,o,none⟩)∧(∀ g o,g < W.heap.size→g≠b→w1.frozen? ⟨g,o,none⟩=W.frozen? ⟨g,o,none⟩):=by
 refine⟨fun g o hg hne=>Yh (h.block g hg Om) o,fun g o hg hne => ?_⟩;have:=h.block g hg Om;unfold World.frozen?;rw[this]
theorem Outside.Z3 {lo hi:Nat}{w w':World}(h:Outside lo hi w w') {g:Nat}(hg:w.heap.size≤g) (j:Nat) (v:Value):Outside lo hi w (w'.setCell ⟨g,j,none⟩ v):=
 ⟨h.os,h.tape,h.output,by simpa using h.size,fun k hk hlh=>(heap_setCell_other w' ⟨g,j,none⟩ k v (fun e=>by simp at e;omega)).trans (h.block k hk hlh)⟩
theorem Outside.Zp {lo hi:Nat}{w w':World}(h:Outside lo hi w w') (o:Obj):Outside lo hi w (w'.alloc o):=h.trans (Outside.Zf (Ze _ _))
theorem Rd.Z3 {w:World}{b:Nat}{a:Option Addr}{c:Nat}{xs:List Int}{p:Int}(h:Rd w b a c xs p) {g:Nat}(hg:b < g) (j:Nat) (v:Value):Rd (w.setCell ⟨g,j,none⟩ v) b a c xs p:=
 h.Yf (B:=b+1) ((Below.refl _ _).setCell (show b+1≤g from hg) v) (Nat.lt_succ_self _)
theorem Rd.Zp {w:World}{b:Nat}{a:Option Addr}{c:Nat}{xs:List Int}{p:Int}(h:Rd w b a c xs p) (o:Obj):Rd (w.alloc o) b a c xs p:=
 h.Yf (Ze w o) h.lt
theorem H8 (w:World) (ys:List Int) (T:TypeId) (h:ys.length≤100):ZC Zq (w.alloc (.cells (ys.map (Value.int .i64)).toArray T)) (.slice (some ⟨w.heap.size,0,none⟩) ys.length ys.length) ys:=by
 refine⟨_,_,rfl,Nat.le_refl _,by unfold maxLen;omega,fun i x hx=>⟨w.heap.size,0,rfl,fun j u hu => ?_⟩⟩;rw[cell_of_row _ _ _ _ T (0,0) (heap_alloc_new w _)];have hj:j=0:=by have:=(List.getElem?_eq_some_iff.1 hu).1;simp[Zq]at this;omega
 subst hj;simp[Zq]at hu;simp[Zq,hx,hu]
def VT (x y:Int):Int:=if x < y then -1 else if y < x then 1 else 0
def Xf:List Int→List Int→Int
 | [],[]=>0
 | [],_ :: _ => -1
 | _ :: _,[]=>1
 | x :: xs,y :: ys=>if x < y then -1 else if y < x then 1 else Xf xs ys
theorem AM:∀ (l:List Int),Xf l l=0
 | []=>rfl
 | x :: l=>by unfold Xf;simp;exact AM l
theorem Ra:∀ (a b c:List Int),Xf a b < 0→Xf b c < 0→Xf a c < 0
 | [],[],c=>fun h _=>by simp[Xf]at h
 | [],b :: l2,[]=>fun _ h=>by simp[Xf]at h
 | [],b :: l2,c :: l3=>fun _ _=>by simp[Xf]
 | a :: l1,[],c=>fun h _=>by simp[Xf]at h
 | a :: l1,b :: l2,[]=>fun _ h=>by simp[Xf]at h
 | a :: l1,b :: l2,c :: l3=>fun h1 h2=>by
  have ih:=Ra l1 l2 l3;simp only[Xf]at h1 h2 ⊢;by_cases e1:a < b
  ·by_cases e2:b < c
   ·rw[if_pos Om];omega
   ·rw[if_neg e2]at h2
    by_cases e3:c < b
    ·rw[if_pos e3]at h2;omega
    ·rw[if_pos Om];omega
  ·rw[if_neg e1]at h1
   by_cases e4:b < a
   ·rw[if_pos e4]at h1;omega
   ·rw[if_neg e4]at h1
    by_cases e2:b < c
    ·rw[if_pos Om];omega
    ·rw[if_neg e2]at h2
     by_cases e3:c < b
     ·rw[if_pos e3]at h2;omega
     ·rw[if_neg e3]at h2
      rw[if_neg Om,if_neg Om];exact ih h1 h2
theorem UN:∀ (a b c:List Int),¬ Xf a b < 0→¬ Xf b c < 0→¬ Xf a c < 0
 | [],[],c=>fun _ h=>h
 | [],b :: l2,c=>fun h _=>absurd (show Xf [] (b :: l2) < 0 by simp[Xf]) h
 | a :: l1,b,[]=>fun _ _=>by simp[Xf]
 | a :: l1,[],c :: l3=>fun _ h=>absurd (show Xf [] (c :: l3) < 0 by simp[Xf]) h
 | a :: l1,b :: l2,c :: l3=>fun h1 h2=>by
  have ih:=UN l1 l2 l3;simp only[Xf]at h1 h2 ⊢;by_cases e1:a < b
  ·rw[if_pos e1]at h1;omega
  ·rw[if_neg e1]at h1
   by_cases e2:b < c
   ·rw[if_pos e2]at h2;omega
   ·rw[if_neg e2]at h2
    rw[if_neg (show ¬ a < c by omega)];by_cases e4:b < a
    ·rw[if_pos Om];omega
    ·rw[if_neg e4]at h1
     by_cases e3:c < b
     ·rw[if_pos Om];omega
     ·rw[if_neg e3]at h2
      rw[if_neg Om];exact ih h1 h2
theorem Ir {xs ys:List Int}{k:Nat}{x y:Int}(hx:xs[k]? = some x) (hy:ys[k]? = some y):Xf (xs.drop k) (ys.drop k)=if VT x y=0 then Xf (xs.drop (k+1)) (ys.drop (k+1)) else VT x y:=by
 obtain⟨h1,e1⟩:=List.getElem?_eq_some_iff.1 hx;obtain⟨h2,e2⟩:=List.getElem?_eq_some_iff.1 hy;rw[List.drop_eq_getElem_cons h1,List.drop_eq_getElem_cons h2,e1,e2];simp only[Xf,VT];by_cases c1:x < y
 ·simp[c1]
 ·by_cases c2:y < x
  ·simp[c1,c2]
  ·simp[c1,c2]
theorem Ut (x:Int) (w:World):Calls Tryz.prog 168 #[.int .i64 x] w fun e w'=>e = .returned (.bool false)∧w=w':=by
 go_enter Tryz.func168,Tryz.ntmps168;go_wp2_with fail;go_ret;exact⟨Sm,rfl⟩
theorem GZ (x y:Int) (w:World):Calls Tryz.prog 155 #[.int .i64 x,.int .i64 y] w fun e w'=>e = .returned (.int .i64 (VT x y))∧w=w':=by
 have h1:x < y→VT x y = -1:=fun h=>by unfold VT;rw[if_pos h]
 have h2:¬ x < y→y < x→VT x y=1:=fun h h'=>by unfold VT;rw[if_neg h,if_pos h']
 have h3:¬ x < y→¬ y < x→VT x y=0:=fun h h'=>by unfold VT;rw[if_neg h,if_neg h']
 have H1:=Za h1;have H2:=Za h2;have H3:=Za h3
 clear h1 h2 h3;generalize VT x y=r at *;by_cases c1:x < y
 ·obtain rfl:=H1.out c1
  go_enter Tryz.func155,Tryz.ntmps155;go_wp2_with (go_at_call 168;(with_reducible refine(Ut _ w).mono ?_);rintro e w1 ⟨rfl,rfl⟩);go_ret;exact⟨rfl,rfl⟩
 ·by_cases c2:y < x
  ·obtain rfl:=H2.out c1 c2
   go_enter Tryz.func155,Tryz.ntmps155;go_wp2_with (go_at_call 168;(with_reducible refine(Ut _ w).mono ?_);rintro e w1 ⟨rfl,rfl⟩);go_ret;exact⟨rfl,rfl⟩
  ·obtain rfl:=H3.out c1 c2
   go_enter Tryz.func155,Tryz.ntmps155;go_wp2_with (go_at_call 168;(with_reducible refine(Ut _ w).mono ?_);rintro e w1 ⟨rfl,rfl⟩);go_ret;exact⟨rfl,rfl⟩
theorem Dk (v u:Value) (xs ys:List Int) (w:World) (hx:ZC Zq w v xs) (hy:ZC Zq w u ys):Calls Tryz.prog 132 #[v,u] w fun e w'=>e = .returned (.int .i64 (Xf xs ys))∧w=w':=by
 obtain⟨va,vc,rfl,hc1,hc2,hc3,hx⟩:=hx.open;obtain⟨ua,uc,rfl,hd1,hd2,hd3,hy⟩:=hy.open;have HX:=Za hx;have HY:=Za hy
 clear hx hy hc1 hd1 hc3 hd3;obtain⟨R,hR⟩:∃ R,R=Xf xs ys:=⟨_,rfl⟩
 rw[← hR];have HR:Hid (R=Xf (xs.drop 0) (ys.drop 0)):=Za (by simpa using hR);clear hR;generalize hn:xs.length=n at *;generalize hm:ys.length=m at *;have HN:=Za hn;have HM:=Za hm
 clear hn hm;go_enter Tryz.func132,Tryz.ntmps132;go_wp2_with fail
 go_loopw [11] (fun i wr => ∃ k:Nat,k≤n∧k≤m∧i = .int .i64 k∧Hid (R=Xf (xs.drop k) (ys.drop k))∧w=wr) (fun i _=>n - (intOf i).toNat)
 case atStart=>exact⟨0,Nat.zero_le _,Nat.zero_le _,rfl,HR.out |> Za,rfl⟩
 case round =>
  obtain⟨k,hk,hkm,rfl,hr,rfl⟩:=hrel;by_cases hlt:k < n
  ·have hlt':=Zh hlt
   obtain⟨x,hxe⟩:=Zd (xs:=xs) (k:=k) (by rw[HN.out];exact hlt);obtain⟨b,o,rfl,hbl,i0⟩:=HX.out.int hxe;by_cases hlm:k < m
   ·have hlm':=Zh hlm
    obtain⟨y,hye⟩:=Zd (xs:=ys) (k:=k) (by rw[HM.out];exact hlm);obtain⟨b2,o2,rfl,hbl2,j0⟩:=HY.out.int hye;have ST:=Za (Ir hxe hye);clear hxe hye;by_cases hc:VT x y=0
    ·have NR:Hid (R=Xf (xs.drop (k+1)) (ys.drop (k+1))):=Za (by rw[hr.out,ST.out,if_pos hc])
     have HC:=Za hc;clear hc hr;go_wp2_with (go_at_call 155;(with_reducible refine(GZ x y w).mono ?_);rintro e w1 ⟨rfl,rfl⟩;rw[HC.out]);go_roundw
     case rel=>exact⟨k+1,Om,Om,Gn,NR,trivial⟩
     case measure=>simp[intOf];omega
    ·have NR:Hid (R=VT x y):=Za (by rw[hr.out,ST.out,if_neg hc])
     clear hr;have HCI:=Za (GZ x y w);generalize VT x y=z at *;clear ST;obtain rfl:R=z:=NR.out;have hc':(R==0)=false:=by simpa using hc
     have hc2:¬ R=0:=hc;go_wp2_with (go_at_call 155;(with_reducible refine HCI.out.mono ?_);rintro e w1 ⟨rfl,rfl⟩);go_ret;exact⟨rfl,rfl⟩
   ·obtain rfl:k=m:=Om
    have E:Hid (R=1):=Za (by
     rw[hr.out,List.drop_of_length_le (l:=ys) (by rw[HM.out];exact Nat.le_refl _)];obtain⟨h1,e1⟩:=List.getElem?_eq_some_iff.1 hxe;rw[List.drop_eq_getElem_cons h1];simp[Xf])
    clear hxe hr;obtain rfl:=E.out;go_wp2_with fail;go_ret;exact⟨rfl,rfl⟩
  ·obtain rfl:k=n:=Om
   by_cases hlm:k < m
   ·have hlm':=Zh hlm
    have E:Hid (R = -1):=Za (by
     rw[hr.out,List.drop_of_length_le (l:=xs) (by rw[HN.out];exact Nat.le_refl _)];have h1:k < ys.length:=by rw[HM.out];exact hlm
     rw[List.drop_eq_getElem_cons h1];simp[Xf])
    clear hr;obtain rfl:=E.out;go_wp2_with fail;go_ret;exact⟨rfl,rfl⟩
   ·obtain rfl:k=m:=Om
    have E:Hid (R=0):=Za (by
     rw[hr.out,List.drop_of_length_le (l:=xs) (by rw[HN.out];exact Nat.le_refl _),List.drop_of_length_le (l:=ys) (by rw[HM.out];exact Nat.le_refl _)];rfl)
    clear hr;obtain rfl:=E.out;go_wp2_with fail;go_ret;exact⟨rfl,rfl⟩
end Go.Proofs.YtngekjpklkjnbaaGreat
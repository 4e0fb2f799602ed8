/-
  From the form's reading of an argument to what the walks ask of it.
-/
import Derived.Test.YtngekjpklkjnbaaGreatZu00
import Derived.Test.YtngekjpklkjnbaaGreatRows
import Derived.ProofKit
import Derived.Deep.Slices
set_option maxHeartbeats 6400000
set_option maxRecDepth 100000
namespace Go.Proofs.YtngekjpklkjnbaaGreat
open Go.RowKit
def Lp (n:Int) (v:Value) (_:World):Prop:=∃ q:Int,v = .int .i64 q∧0≤q∧(1≤n→q < n)
theorem Outside.Zf {lo hi:Nat}{w w':World}(h:Below w.heap.size w w'):Outside lo hi w w':=⟨h.os,h.tape,h.output,h.size,fun k hk _=>h.block k hk⟩
theorem DP (a b:Nat) (ha:a < 9223372036854775808) (hb:b < 9223372036854775808):bits .xor .i64 (a:Int) (b:Int)=((a ^^^ b:Nat):Int):=by
 have hx:a ^^^ b < 2 ^ 63:=Nat.xor_lt_two_pow Om Om;have h1:(BitVec.ofInt 64 (a:Int)).toNat=a:=by
  rw[BitVec.ofInt_natCast,BitVec.toNat_ofNat];exact Nat.mod_eq_of_lt Om
 have h2:(BitVec.ofInt 64 (b:Int)).toNat=b:=by
  rw[BitVec.ofInt_natCast,BitVec.toNat_ofNat];exact Nat.mod_eq_of_lt Om
 show IntKind.i64.wrap ((BitVec.ofInt 64 (a:Int) ^^^ BitVec.ofInt 64 (b:Int)).toNat:Int)=_;rw[BitVec.toNat_xor,h1,h2,IntKind.wrap_i64];omega
theorem Rv (x:Int) (h0:0≤x) (h1:x < 9223372036854775808):0≤bits .xor .i64 x (x / 64):=by
 obtain⟨X,rfl⟩:=Int.eq_ofNat_of_zero_le h0;have d:((X:Int) / 64)=((X / 64:Nat):Int):=by simp
 rw[d,DP X (X / 64) Om Om];omega
theorem Jf (b:Nat) (a:Option Addr) (c:Nat) (xs:List Int) (p n:Int) (w:World) (hr:Rd w b a c xs p) (hp:p≤1000000000) (hn:n≤1000000000) (hn0 : -1000000000≤n) :
 Calls Tryz.prog 99 #[.pointer (some ⟨b,0,none⟩),.int .i64 n] w (QL w b a c xs p 1 (Lp n)):=by
 have h0:=hr.c0;have h1:=hr.c1;have hf:=hr.f1;have hlt:=hr.lt;have hp0:=hr.p0
 have HS:=Za (hr.step (p+1) Om);have HO:Hid (Outside b (b+1) w (w.setCell ⟨b,1,none⟩ (.int .i64 (p+1)))):=Za ((Outside.refl b (b+1) w).grown (row:=some b) ⟨rfl,rfl,rfl,Sm,fun q _ hq=>heap_setCell_other w ⟨b,1,none⟩ q _ (fun e=>hq (by simp[e]))⟩ (fun q hq=>by simp at hq;omega));by_cases hn1:n < 1
 ·go_enter Tryz.func99,Tryz.ntmps99
  go_wp2_with fail;go_ret;exact⟨_,_,rfl,⟨0,rfl,Om,fun h=>by omega⟩,Int.le_refl _,HS.out,HO.out⟩
 ·have hn1':decide (n < 1)=false:=decide_eq_false hn1
  obtain⟨aa,cc,hv,hc1,hc2,hc3,-⟩:=hr.rep.open;simp only[Value.slice.injEq,true_and]at hv;obtain⟨rfl,rfl⟩:=hv;by_cases hx:xs.length=0
  ·have hx':((xs.length:Int)==0)=true:=by rw[hx];rfl
   generalize hl:xs.length=l at *;clear hl;go_enter Tryz.func99,Tryz.ntmps99;go_wp2_with fail;go_ret;exact⟨_,_,rfl,⟨0,rfl,Om,fun h=>by omega⟩,Int.le_refl _,HS.out,HO.out⟩
  ·have hx':((xs.length:Int)==0)=false:=by simp;intro h;exact hx (by rw[h];rfl)
   obtain⟨P,rfl⟩:=Int.eq_ofNat_of_zero_le hp0;by_cases hk:P < xs.length
   ·obtain⟨y,hy⟩:=Zd hk
    obtain⟨g,o,rfl,hg,i0⟩:=hr.rep.byte hy;have hgb:=hr.IF g o (by intro e;simp[e]at hk) rfl;have hyb:=hr.IM y (List.mem_of_getElem? hy);have hk':=Zh hk;have hgne:g≠b:=Om;clear hy hr;generalize xs.length=l at *;go_enter Tryz.func99,Tryz.ntmps99;go_wp2_with fail;go_ret;exact⟨_,_,rfl,⟨y % n,rfl,Int.emod_nonneg _ Om,fun h=>Int.emod_lt_of_pos _ Om⟩,Int.le_refl _,HS.out,HO.out⟩
   ·have hxl:0 < xs.length:=Om
    obtain⟨K1,hK1⟩:∃ K:Nat,(P:Int) % (xs.length:Int)=(K:Int):=⟨P % xs.length,Sm⟩
    obtain⟨K2,hK2⟩:∃ K:Nat,((P:Int) * 7+3) % (xs.length:Int)=(K:Int):=⟨(P * 7+3) % xs.length,Sm⟩
    have hl1:(K1:Int) < xs.length:=by rw[← hK1];exact Int.emod_lt_of_pos _ Om
    have hl2:(K2:Int) < xs.length:=by rw[← hK2];exact Int.emod_lt_of_pos _ Om
    have hl1':K1 < xs.length:=Om;have hl2':K2 < xs.length:=Om;obtain⟨y1,hy1⟩:=Zd hl1';obtain⟨y2,hy2⟩:=Zd hl2';obtain⟨g,o,rfl,hg,i0⟩:=hr.rep.byte hy1;obtain⟨g',o',hge,hg',j0⟩:=hr.rep.byte hy2;simp only[Option.some.injEq,Addr.mk.injEq,and_true]at hge;obtain⟨rfl,rfl⟩:=hge;have hgb:=hr.IF g o (by intro e;simp[e]at hxl) rfl;have hyb1:=hr.IM y1 (List.mem_of_getElem? hy1);have hyb2:=hr.IM y2 (List.mem_of_getElem? hy2);have hgne:g≠b:=Om;have hkge:decide ((P:Int) < xs.length)=false:=decide_eq_false Om;have hq1:0≤(P:Int) / (xs.length:Int):=Int.ediv_nonneg Om Om;have hq2:(P:Int) / (xs.length:Int)≤(P:Int):=Int.ediv_le_self _ Om;clear hy1 hy2 hr hx;generalize xs.length=l at *;generalize hQ:(P:Int) / (l:Int)=Q at *;have hQ2:(P:Int) / (l:Int)=Q:=hQ;go_enter Tryz.func99,Tryz.ntmps99;go_wp2_with fail;refine Zs Kr Kr ?_
    repeat (go_big_quiet_step (fail))
    refine wpQuiet_nil ?_;intro w1 hb1;go_wp2_with fail;go_ret;have hX0:0≤y1 * 131+y2 * 1117+(P:Int) * 29+Q * 53:=Om;have hX1:y1 * 131+y2 * 1117+(P:Int) * 29+Q * 53 < 9223372036854775808:=Om;have hz:=Rv _ hX0 hX1;refine⟨_,_,rfl,⟨_,rfl,Int.tmod_nonneg _ hz,fun h=>Int.tmod_lt_of_pos _ Om⟩,Int.le_refl _,HS.out.keep hb1 (by simpa using hlt),HO.out.trans (Outside.Zf hb1)⟩
theorem QZ {w w':World}{b:Nat}(h:w'.heap[b]? = w.heap[b]?) (o:Nat):w'.cell? ⟨b,o,none⟩=w.cell? ⟨b,o,none⟩:=by
 unfold World.cell?;rw[h]
def K7 (ys:List Int) (v:Value) (_:World):Prop:=∃ y∈ys,v = .int .i64 y
theorem GY (b:Nat) (a:Option Addr) (c:Nat) (xs:List Int) (p:Int) (v:Value) (ys:List Int) (w:World) (hr:Rd w b a c xs p) (hp:p≤1000000000) (hy:Z7 Zo w v ys) (hl:ys.length≤100) (h0:1≤ys.length) (hfar:∀ g o,v = .slice (some ⟨g,o,none⟩) ys.length (match v with | .slice _ _ c=>c | _=>0)→g≠b) :
 Calls Tryz.prog 100 #[.pointer (some ⟨b,0,none⟩),v] w (QL w b a c xs p 1 (K7 ys)):=by
 obtain⟨a2,c2,rfl,-,-,-,hy⟩:=hy.open;have HY:=Za hy;clear hy;have HF:=Za hfar;clear hfar;have HP:=Za (fun w' h=>Jf b a c xs p ys.length w' h hp Om Om);generalize hn:ys.length=n at *;have H:=Za hn;clear hn;go_enter Tryz.func100,Tryz.ntmps100;go_wp2_with fail
 (with_reducible refine(HP.out _ hr).mono ?_);rintro e w1 ⟨v1,p1,rfl,⟨q,rfl,hq0,hq1⟩,hp1,hr1,ho1⟩
 obtain⟨Q,rfl⟩:=Int.eq_ofNat_of_zero_le hq0;have hQ:Q < n:=by have:=hq1 Om;omega
 obtain⟨y,hyq⟩:=Zd (xs:=ys) (k:=Q) (by rw[H.out];exact hQ);obtain⟨g,o,rfl,hg,i0⟩:=HY.out.int hyq;have hgb:=HF.out g o rfl;have i1:w1.cell? ⟨g,o+Q,none⟩=some (.int .i64 y):=by
  rw[← i0];refine QZ (ho1.block g hg Om) _
 have hQ':=Zh hQ;have hm:=List.mem_of_getElem? hyq;clear hyq i0;go_wp2_with fail;go_ret;exact⟨_,p1,rfl,⟨y,hm,rfl⟩,hp1,hr1,ho1⟩
theorem Ze (w:World) (o:Obj):Below w.heap.size w (w.alloc o):=(Below.refl _ _).alloc (Nat.le_refl _) o
theorem Ho {b:Nat}{W w1:World}(h:Outside b (b+1) W w1):(∀ g o,g < W.heap.size→g≠b→w1.cell? ⟨g,o,none⟩=W.cell? ⟨g,o,none⟩)∧(∀ g o,g < W.heap.size→g≠b→w1.frozen? ⟨g,o,none⟩=W.frozen? ⟨g,o,none⟩):=by
 refine⟨fun g o hg hne=>ZR (h.block g hg Om) o,fun g o hg hne => ?_⟩;have:=h.block g hg Om;unfold World.frozen?;rw[this]
theorem Outside.Zv {lo hi:Nat}{w w':World}(h:Outside lo hi w w') {g:Nat}(hg:w.heap.size≤g) (j:Nat) (v:Value):Outside lo hi w (w'.setCell ⟨g,j,none⟩ v):=
 ⟨h.os,h.tape,h.output,by simpa using h.size,fun k hk hlh=>(heap_setCell_other w' ⟨g,j,none⟩ k v (fun e=>by simp at e;omega)).trans (h.block k hk hlh)⟩
theorem Outside.Zm {lo hi:Nat}{w w':World}(h:Outside lo hi w w') (o:Obj):Outside lo hi w (w'.alloc o):=h.trans (Outside.Zf (Ze _ _))
theorem Rd.Zv {w:World}{b:Nat}{a:Option Addr}{c:Nat}{xs:List Int}{p:Int}(h:Rd w b a c xs p) {g:Nat}(hg:b < g) (j:Nat) (v:Value):Rd (w.setCell ⟨g,j,none⟩ v) b a c xs p:=
 h.keep (B:=b+1) ((Below.refl _ _).setCell (show b+1≤g from hg) v) (Nat.lt_succ_self _)
theorem Rd.Zm {w:World}{b:Nat}{a:Option Addr}{c:Nat}{xs:List Int}{p:Int}(h:Rd w b a c xs p) (o:Obj):Rd (w.alloc o) b a c xs p:=
 h.keep (Ze w o) h.lt
theorem CH (w:World) (ys:List Int) (T:TypeId) (h:ys.length≤100):Z7 Zo (w.alloc (.cells (ys.map (Value.int .i64)).toArray T)) (.slice (some ⟨w.heap.size,0,none⟩) ys.length ys.length) ys:=by
 refine⟨_,_,rfl,Nat.le_refl _,by unfold maxLen;omega,fun i x hx=>⟨w.heap.size,0,rfl,fun j u hu => ?_⟩⟩;rw[cell_of_row _ _ _ _ T (0,0) (heap_alloc_new w _)];have hj:j=0:=by have:=(List.getElem?_eq_some_iff.1 hu).1;simp[Zo]at this;omega
 subst hj;simp[Zo]at hu;simp[Zo,hx,hu]
def Ub:List Int→List Int→Int
 | x :: xs,y :: ys=>if x < y then -1 else if y < x then 1 else Ub xs ys
 | _,_=>0
theorem E5 {a b:List Int}{k:Nat}{x y:Int}(hx:a[k]? = some x) (hy:b[k]? = some y):Ub (a.drop k) (b.drop k)=if x < y then -1 else if y < x then 1 else Ub (a.drop (k+1)) (b.drop (k+1)):=by
 obtain⟨hk,rfl⟩:=List.getElem?_eq_some_iff.1 hx;obtain⟨hk',rfl⟩:=List.getElem?_eq_some_iff.1 hy;rw[List.drop_eq_getElem_cons hk,List.drop_eq_getElem_cons hk',Ub]
theorem E7 {a b:List Int}(h:a.length=b.length):Ub a b=0↔a=b:=by
 induction a generalizing b with
 | nil=>cases b <;> simp_all [Ub]
 | cons x a ih =>
  cases b with
  | nil=>simp at h
  | cons y b =>
   simp only[Ub];have:=ih (b:=b) (by simpa using h);split
   ·constructor
    ·intro h;omega
    ·intro h;simp at h;omega
   ·split
    ·constructor
     ·intro h;omega
     ·intro h;simp at h;omega
    ·rw[this]
     constructor
     ·intro h;rw[h,show x=y by omega]
     ·intro h;simp at h;exact h.2
theorem CA {a b:List Int}{k:Nat}(h:a.length≤k∨b.length≤k):Ub (a.drop k) (b.drop k)=0:=by
 rcases h with h | h
 ·rw[List.drop_of_length_le h];simp[Ub]
 ·rw[List.drop_of_length_le h];cases a.drop k <;> simp[Ub]
theorem JE (v v':Value) (xs ys:List Int) (w:World) (hx:Z7 Zo w v xs) (hy:Z7 Zo w v' ys) :
 Calls Tryz.prog 94 #[v,v'] w fun e w'=>e = .returned (.int .i64 (Ub xs ys))∧Below w.heap.size w w':=by
 obtain⟨a,c,rfl,hc1,hc2,hc3,hx⟩:=hx.open;obtain⟨a',c',rfl,hc1',hc2',hc3',hy⟩:=hy.open;have HX:=Za hx;clear hx;have HY:=Za hy;clear hy;have HS:Hid (Ub (xs.drop 0) (ys.drop 0)=Ub xs ys):=Za Sm;generalize hR:Ub xs ys=R at *;clear hR;generalize hn:xs.length=n at *;generalize hn':ys.length=n' at *;have H:=Za hn;clear hn;have H':=Za hn';clear hn';go_enter Tryz.func94,Tryz.ntmps94;go_wp2_with fail
 go_loopw [5] (fun v wr => ∃ k:Nat,k≤n∧k≤n'∧v = .int .i64 k∧Hid (Ub (xs.drop k) (ys.drop k)=R)∧Below w.heap.size w wr) (fun v _=>n - (intOf v).toNat)
 case atStart=>exact⟨0,Nat.zero_le _,Nat.zero_le _,rfl,HS,Below.refl _ _⟩
 case round =>
  obtain⟨k,hk,hk',rfl,T,hb⟩:=hrel;by_cases hlt:k < n
  ·have hlt1:=Zh hlt
   by_cases hlt2:k < n'
   ·have hlt3:=Zh hlt2
    obtain⟨x,hxk⟩:=Zd (xs:=xs) (k:=k) (by rw[H.out];exact hlt);obtain⟨y,hyk⟩:=Zd (xs:=ys) (k:=k) (by rw[H'.out];exact hlt2);obtain⟨b,o,rfl,hbl,i0⟩:=(HX.out.below hb).int hxk;obtain⟨b',o',rfl,hbl',j0⟩:=(HY.out.below hb).int hyk;have ST:=Za (E5 hxk hyk);clear hxk hyk;by_cases hxy:x < y
    ·have E:Hid (R = -1):=Za (by rw[← T.out,ST.out,if_pos hxy])
     go_wp2_with fail;refine Zs Kr Kr ?_
     repeat (go_big_quiet_step (fail))
     refine wpQuiet_nil ?_;intro w1 hw1;obtain⟨c1,-⟩:=KB hw1;go_wp2_with fail;go_ret;rw[E.out];exact⟨rfl,hb.trans (hw1.mono hb.size)⟩
    ·have E0:Hid ((if y < x then 1 else Ub (xs.drop (k+1)) (ys.drop (k+1)))=R):=Za (by rw[← T.out,ST.out,if_neg hxy])
     have hxy':y≤x:=Int.not_lt.1 hxy;clear hxy;go_wp2_with fail;refine Zs Kr Kr ?_
     repeat (go_big_quiet_step (fail))
     refine wpQuiet_nil ?_;intro w1 hw1;obtain⟨c1,-⟩:=KB hw1;have hbl1:b < w1.heap.size:=by have:=hw1.size;omega
     have hbl1':b' < w1.heap.size:=by have:=hw1.size;omega
     have i1:=(c1 b (o+k) hbl).trans i0;have j1:=(c1 b' (o'+k) hbl').trans j0;by_cases hyx:y < x
     ·have E:Hid (R=1):=Za (by rw[← E0.out,if_pos hyx])
      go_wp2_with fail;refine Zs Kr Kr ?_
      repeat (go_big_quiet_step (fail))
      refine wpQuiet_nil ?_;intro w2 hw2;go_wp2_with fail;go_ret;rw[E.out];exact⟨rfl,(hb.trans (hw1.mono hb.size)).trans (hw2.mono (by have:=hb.size;have:=hw1.size;omega))⟩
     ·have E:Hid (Ub (xs.drop (k+1)) (ys.drop (k+1))=R):=Za (by rw[← E0.out,if_neg hyx])
      have hyx':x≤y:=Int.not_lt.1 hyx;clear hyx;go_wp2_with fail;refine Zs Kr Kr ?_
      repeat (go_big_quiet_step (fail))
      refine wpQuiet_nil ?_;intro w2 hw2;go_wp2_with fail;go_roundw
      case rel=>exact⟨k+1,Om,Om,Gn,E,(hb.trans (hw1.mono hb.size)).trans (hw2.mono (by have:=hb.size;have:=hw1.size;omega))⟩
      case measure=>simp[intOf];omega
   ·have hlt3:decide ((k:Int) < n')=false:=So
    have E:Hid (R=0):=Za (by rw[← T.out];exact CA (.inr (by rw[H'.out];omega)));go_wp2_with fail;go_ret;rw[E.out];exact⟨rfl,hb⟩
  ·have hlt3:decide ((k:Int) < n)=false:=So
   have E:Hid (R=0):=Za (by rw[← T.out];exact CA (.inl (by rw[H.out];omega)));go_wp2_with fail;go_ret;rw[E.out];exact⟨rfl,hb⟩
end Go.Proofs.YtngekjpklkjnbaaGreat
namespace Go.Proofs.YtngekjpklkjnbaaGreat
open Go.RowKit Go.Deep Go.ChangeShapes Go.WideShapes Go.ChangeAt
theorem Gw {w:World}{a:Addr}{v:Value}(h:w.cell? a=some v):a.spot=none:=by
 unfold World.cell? at h;split at h
 ·cases hs:a.spot with
  | none=>rfl
  | some x=>simp[hs]at h
 ·cases h
theorem US {w:World}{base:Nat}{a:Addr}{n:Nat}{cs:List Value}(h:w.cells? base a n=some cs) {j:Nat}{u:Value}(hu:cs[j]? = some u):w.cell? (a.add j)=some u:=by
 unfold World.cells? at h;split at h
 ·have hl:=mapM_some_length h
  have hj:j < n:=by
   have:=(List.getElem?_eq_some_iff.1 hu).1;rw[hl]at this;simpa using this
  have:=mapM_some_get h j j (by simp[hj]);rw[this];exact hu
 ·cases h
theorem RE (b o j:Nat):(⟨b,o,none⟩:Addr).add j=⟨b,o+j,none⟩:=by unfold Addr.add;split <;> simp_all
section
variable {H : Type} {enc : TypeId × Value → H} {P : Program} {w : World} {base : Nat} {spare : Nat → Bool} {held : Bool} {fuel : Nat} {cs : List Value} {x : DataW H × List MemPlace}
theorem Jg {α:Type} [Inhabited α] (E:El α) {t e:TypeId}(ht:P.underlying t=some (.slice e)) (hc:P.cellsOf e=E.sz) (Q:α→Prop)
 (hel:∀ n cs x,DataW.trod enc P w base spare held n e cs=some x→∃ y,cs=E.c y∧Q y) (h:DataW.trod enc P w base spare held fuel t cs=some x):∃ v xs,cs=[v]∧Z7 E w v xs∧∀ y∈xs,Q y:=by
 rcases open_slice ht h with⟨rfl,_⟩ | ⟨a,len,cap,m,n,D,Pl,rfl,hb,hl,hm,hmm,_,hx⟩
 ·exact⟨_,[],rfl,Z7.nil w,fun y h=>by simp at h⟩
 ·have hlm:len≤m:=by rw[hmm];split <;> omega
  have each:∀ i,i < len→∃ y,w.cells? base (a.add (i * E.sz)) E.sz=some (E.c y)∧Q y:=fun i hi=>by
   obtain⟨cs',h1,h2⟩:=hx i Om;obtain⟨y,rfl,hq⟩:=hel n cs' _ h2;rw[hc]at h1;exact⟨y,h1,hq⟩
  obtain⟨f,hf⟩:=choose_lt each;refine⟨_,(List.range len).map f,rfl,⟨some a,cap,Sm,by simpa using hl,hm,fun i y hy => ?_⟩,?_⟩
  ·simp only[List.getElem?_map]at hy
   have hi:i < len:=by
    rcases Nat.lt_or_ge i len with h | h
    ·exact h
    ·rw[List.getElem?_eq_none (by simpa using h)]at hy;simp at hy
   rw[List.getElem?_range hi]at hy;simp at hy;subst hy;have h0:=US (hf 0 Om).1 (El.first (E:=E) (f 0)).choose_spec;rw[Nat.zero_mul]at h0;have hsp:a.spot=none:=Gw (a:=a) (by simpa[Addr.add] using h0);obtain⟨ab,ao,asp⟩:=a;simp at hsp;subst hsp;refine⟨ab,ao,rfl,fun j u hu => ?_⟩;have:=US (hf i hi).1 hu;rwa[RE,RE]at this
  ·intro y hy
   simp only[List.mem_map,List.mem_range]at hy;obtain⟨i,hi,rfl⟩:=hy;exact(hf i hi).2
theorem Kg {t:TypeId}{k:IntKind}(ht:P.underlying t=some (.int k)) {v:Value}{y:Option (DataW H × List MemPlace)}{n:Nat}(h:DataW.trod enc P w base spare held n t [v]=y) (hy:y≠none):∃ i,v = .int k i:=by
 cases y with
 | none=>exact absurd rfl hy
 | some x =>
  obtain⟨i,h1,_⟩:=DataW.trod_int ht h;exact⟨i,by simpa using h1⟩
theorem KH {α β:Type}{Q:α→β→Prop}:∀ (us:List α),(∀ u∈us,∃ r,Q u r)→∃ p:List β,p.length=us.length∧∀ (i:Nat) (u:α) (r:β),us[i]? = some u→p[i]? = some r→Q u r
 | [],_=>⟨[],rfl,fun i u r h=>by simp at h⟩
 | u :: us,h=>by
  obtain⟨r,hr⟩:=h u (List.mem_cons_self ..);obtain⟨p,h1,h2⟩:=KH us (fun u hu=>h u (List.mem_cons_of_mem _ hu));refine⟨r :: p,by simp[h1],fun i u' r' hu hr' => ?_⟩;cases i with
  | zero=>simp at hu hr';subst hu;subst hr';exact hr
  | succ i=>exact h2 i u' r' (by simpa using hu) (by simpa using hr')
instance:Inhabited Zt:=⟨⟨none,0,0⟩⟩
instance:Inhabited Ins:=⟨⟨0,0,0,0⟩⟩
theorem Rj {α:Type} [Inhabited α] (E:El α) {t e q:TypeId}(ht:P.underlying t=some (.slice e)) (he:P.underlying e=some (.slice q)) (hc:P.cellsOf e=1) (hc2:P.cellsOf q=E.sz)
 (hel:∀ n cs x,DataW.trod enc P w base spare held n q cs=some x→∃ y,cs=E.c y) (h:DataW.trod enc P w base spare held fuel t cs=some x):∃ v p,cs=[v]∧Yv E w v p:=by
 obtain⟨v,us,rfl,h1,h2⟩:=Jg Zw ht hc (fun s => ∃ r,Z7 E w s.v r) (fun n cs x hx=>by
  obtain⟨v,r,rfl,hr,_⟩:=Jg E he hc2 (fun _=>True) (fun n cs x hx=>by obtain⟨y,hy⟩:=hel n cs x hx;exact⟨y,hy,trivial⟩) hx;obtain⟨a,c,rfl,h1,h2,h3⟩:=hr;exact⟨⟨a,r.length,c⟩,rfl,r,a,c,rfl,h1,h2,h3⟩) h
 obtain⟨p,h3,h4⟩:=KH us h2;exact⟨v,p,rfl,us,h3.symm,h1,h4⟩
end
section
variable {H : Type} {enc : TypeId × Value → H} {P : Program}
theorem J8 (hl:laidOutB P=true) {W W':World}(hb:Below W.heap.size W W'):∀ {ts:List TypeId}{vs:List Value}{ds:List (DataW H)}{ps:List MemPlace},(∀ t∈ts,P.readableRec t=true∧t < P.types.size) →
 DataW.TrodAll enc P W 0 (fun _=>true) true ts vs ds ps→DataW.TrodAll enc P W' 0 (fun b=>decide (b < W.heap.size)) true ts vs ds ps
 | [],[],[],ps,_,h=>h
 | t :: ts,v :: vs,d :: ds,ps,ht,h=>by
  have hlt:=DataW.TrodAll.lt h;obtain⟨p,q,h1,h2,rfl⟩:=h;exact⟨p,q,Below.trod hl (ht t (List.mem_cons_self ..)).1 (ht t (List.mem_cons_self ..)).2 h1 hb (fun x hx=>hlt x (List.mem_append_left _ hx)),J8 hl hb (fun t ht'=>ht t (List.mem_cons_of_mem _ ht')) h2,rfl⟩
 | [],[],_ :: _,_,_,h=>h.elim
 | [],_ :: _,_,_,_,h=>h.elim
 | _ :: _,[],_,_,_,h=>h.elim
 | _ :: _,_ :: _,[],_,_,h=>h.elim
theorem AQ {f:Func}{s:ChangeSpec}{apart:Bool}{W W':World}{args:Array Value}{ds:List (DataW H)}{before:List MemPlace}{tb:TypeId}(hl:laidOutB P=true) (hts:∀ t∈f.params.toList,P.readableRec t=true∧t < P.types.size)
 (hv:s.vars=[]) (hs:s.fn H (ds++[]) = { results:=[.lit (.bool true)],args:=ds,vars:=[] }) (hr:f.resultTypes = #[tb]) (htb:P.underlying tb=some .bool)
 (hW:DataW.Whole enc P f.params.toList s.vars apart W args.toList ds [] before) (hb:Below W.heap.size W W'):s.post enc P f apart true false false W args (.bool true) W':=by
 have hW2:=hW;obtain⟨p,q,hA,hV,rfl,hfz,hnd⟩:=hW2;rw[hv]at hV;obtain⟨_,rfl⟩:=trodVars_none hV;refine⟨ds,[],_,[],p,[],hW,?_,?_,?_,hb.frame _,fun h=>by cases h⟩
 ·rw[hs,hr]
  exact trodAll_mk1 (shut_bool htb _)
 ·rw[hs]
  exact J8 hl hb hts hA
 ·rw[hs,hv]
  rfl
end
end Go.Proofs.YtngekjpklkjnbaaGreat
/-
  The walk of FnUselessFence: it answers true and turns nothing that was there. No condition but the bytes' own.
-/
import Derived.Test.YtngekjpklkjnbaaGreatZu32
import Derived.Test.YtngekjpklkjnbaaGreatZu31
import Derived.Test.YtngekjpklkjnbaaGreatZu33
set_option maxHeartbeats 6400000
set_option maxRecDepth 100000
namespace Go.Proofs.YtngekjpklkjnbaaGreat
open Go.RowKit
theorem VQ {P:List (List Ins)}(hl:P.length≤5) (h:∀ r∈P,r.length≤9):P.flatten.length≤45:=by
 have:=Yk P 9 h;have:P.length * 9≤5 * 9:=Nat.mul_le_mul_right _ hl;omega
def BR:List ByteArray:=[⟨#[116,115,111]⟩,⟨#[112,115,111]⟩,⟨#[116,115,111]⟩,⟨#[112,115,111]⟩,⟨#[114,97]⟩,⟨#[115,101,113]⟩,⟨#[]⟩]
def JK (w:World) (e:Ending) (w':World):Prop:=∃ (v:Value) (P:List (List Ins)) (s:ByteArray),e = .returned (.tuple #[v,.string s])∧Z5 w' v P∧P.length≤5∧(∀ r∈P,r.length≤9)∧s∈BR∧Below w.heap.size w w'
theorem Du (v:Value) (xs0:List Int) (w:World) (hx:Z7 Zr w v xs0) (hb:∀ x∈xs0,0≤x∧x≤255) :
 Calls Tryz.prog 47 #[v] w (JK w):=by
 have HO:=Za (Av v xs0 w hx hb);clear hx hb;go_enter Tryz.func47,Tryz.ntmps47;go_wp2_with fail
 (with_reducible refine HO.out.mono ?_);rintro e w1 ⟨b,a,c,xs,rfl,hr1,hbs,hb1⟩
 have R1:=Za hr1;have HB1:=Za hb1
 have hlt:=hr1.lt;clear hr1 hb1 HO;go_wp2_with fail
 (with_reducible refine(BN b a c xs 0 _ R1.out Om).mono ?_);rintro e w2 ⟨v2,p2,rfl,hQ,hp2,hr2,ho2⟩
 obtain⟨P,hP,hl,hl2⟩:=hQ;have R2:=Za hr2;have O2:=Za ho2;have HP:=Za hP;have HL2:=Za hl2
 have hs2:=ho2.size;clear hr2 ho2 hP hl2 R1;go_wp2_with fail
 (with_reducible refine(GO b a c xs p2 v2 P _ R2.out Om HP.out.rep hl HL2.out).mono ?_);rintro e w4 ⟨v4,p4,rfl,hQ4,hp4,hr4,ho4⟩
 have R4:=Za hr4;have hs4:=ho4.size;have HB4:=Za (HB1.out.trans (Qt (O2.out.trans ho4) hbs HB1.out.size));have hlt4:b < w4.heap.size:=Om;have L4:=Za (Own.lit (E:=Q5) (T:=9) (Nat.le_refl w4.heap.size) BR #[.string ⟨#[116,115,111]⟩,.string ⟨#[112,115,111]⟩,.string ⟨#[116,115,111]⟩,.string ⟨#[112,115,111]⟩,.string ⟨#[114,97]⟩,.string ⟨#[115,101,113]⟩,.string ⟨#[]⟩] 7 rfl rfl Om);have HF:=Za (EC b a c xs p4 _ BR _ _ (R4.out.Zm _) Om L4.out Dc Dc hlt4);have HQ4:=Za (hQ4.below (Ze w4 (.cells #[.string ⟨#[116,115,111]⟩,.string ⟨#[112,115,111]⟩,.string ⟨#[116,115,111]⟩,.string ⟨#[112,115,111]⟩,.string ⟨#[114,97]⟩,.string ⟨#[115,101,113]⟩,.string ⟨#[]⟩] 9)));have HB5:=Za (HB4.out.alloc HB4.out.size (.cells #[.string ⟨#[116,115,111]⟩,.string ⟨#[112,115,111]⟩,.string ⟨#[116,115,111]⟩,.string ⟨#[112,115,111]⟩,.string ⟨#[114,97]⟩,.string ⟨#[115,101,113]⟩,.string ⟨#[]⟩] 9));clear hr4 ho4 hQ4 L4 R4;go_wp2_with fail
 (with_reducible refine HF.out.mono ?_);rintro e w5 ⟨v5,p5,rfl,⟨y,hy,rfl⟩,hp5,hr5,ho5⟩
 obtain⟨P4,hP4,hl4,hl5⟩:=(HQ4.out.outside ho5 Om).open;have F:Hid (JK w (.returned (.tuple #[v4,.string y])) w5):=Za ⟨v4,P4,y,rfl,hP4,hl4,hl5,hy,HB5.out.trans (Qt ho5 (by have:=HB1.out.size;omega) HB5.out.size)⟩;clear hP4 hl5 ho5 hr5;go_wp2_with fail;go_ret2;exact F.out
theorem QV (v:Value) (xs0:List Int) (w:World) (hx:Z7 Zr w v xs0) (hb:∀ x∈xs0,0≤x∧x≤255) :
 Calls Tryz.prog 20 #[v] w (JK w):=by
 have H:=Za (Du v xs0 w hx hb);clear hx hb;go_enter Tryz.func20,Tryz.ntmps20;go_wp2_with fail
 (with_reducible refine H.out.mono ?_);rintro e w1 ⟨v1,P,s,rfl,h⟩
 have F:=Za (⟨v1,P,s,rfl,h⟩:JK w (.returned (.tuple #[v1,.string s])) w1);clear h;go_wp2_with fail;go_ret2;exact F.out
theorem Z7.I9 {α:Type}{E:El α}{w:World}{a:Option Addr}{n c:Nat}{xs:List α}(h:Z7 E w (.slice a n c) xs) {k:Nat}(hk:k≤xs.length):Z7 E w (.slice a k c) (xs.take k):=by
 obtain⟨a',c',hv,h1,h2,h3⟩:=h;simp only[Value.slice.injEq]at hv;obtain⟨rfl,rfl,rfl⟩:=hv;refine⟨a,c,by rw[List.length_take,Nat.min_eq_left hk],by rw[List.length_take];omega,h2,fun i x hx => ?_⟩;rw[List.getElem?_take]at hx;split at hx
 ·exact h3 i x hx
 ·cases hx
theorem wrap_small {i:Nat}(h:i≤1000):wrap64 ((i:Int)+1)=(i:Int)+1∧IntKind.i64.wrap ((i:Int)+1)=(i:Int)+1:=by
 have h1:wrap64 ((i:Int)+1)=(i:Int)+1:=by unfold wrap64;omega
 exact⟨h1,by rw[IntKind.wrap_i64];omega⟩
theorem Gb {P:Nat→Prop}(h:∃ n,P n):∃ n,P n∧∀ m,m < n→¬ P m:=by
 obtain⟨n,hn⟩:=h
 induction n using Nat.strongRecOn with
 | _ n ih =>
  by_cases hm:∃ m,m < n∧P m
  ·obtain⟨m,h1,h2⟩:=hm
   exact ih m h1 h2
  ·exact⟨n,hn,fun m h1 h2=>hm ⟨m,h1,h2⟩⟩
theorem Kk.ex (ok:Nat→Nat→Bool) (p:List (List Ins)):∃ r,Kk ok p r:=by
 by_cases h:∃ t,t < p.length∧∃ i,i < (p.getD t []).length∧ok t i=true
 ·obtain⟨t,⟨ht,h2⟩,hmin⟩:=Gb h
  obtain⟨i,⟨hi,h3⟩,hmi⟩:=Gb h2;refine⟨some (t,i),ht,hi,h3,fun t' ht' i' hi' => ?_,fun i' hi' => ?_⟩
  ·have:=hmin t' ht'
   cases h4:ok t' i' with
   | false=>rfl
   | true=>exact absurd ⟨Nat.lt_trans ht' ht,i',hi',h4⟩ this
  ·have:=hmi i' hi'
   cases h4:ok t i' with
   | false=>rfl
   | true=>exact absurd ⟨Nat.lt_trans hi' hi,h4⟩ this
 ·refine⟨none,fun t ht i hi => ?_⟩
  cases h4:ok t i with
  | false=>rfl
  | true=>exact absurd ⟨t,ht,i,hi,h4⟩ h
theorem DJ {s:ByteArray}{p:List (List Ins)}{t i:Nat}(h:Xj s p=some (t,i)) :
 ∃ split,s=Uy split∧Zi p=true∧∃ r x,p[t]? = some r∧r[i]? = some x∧x.op=4∧JC p t i=p.set t (r.eraseIdx i)∧∀ o,Vy split (JC p t i) o↔Vy split p o:=by
 unfold Xj at h;split at h
 ·rename_i hc
  obtain⟨split,rfl⟩:=BF hc.2;refine⟨split,rfl,hc.1,?_⟩;have h0:Xj (Uy split) p=some (t,i):=by unfold Xj;rw[if_pos hc];exact h
  rw[Uu hc.1]at h0;obtain⟨r,hr⟩:=Kk.ex (CB split p) p;rw[Ru hr]at h0;subst h0;obtain⟨h1,h2,h3,-,-⟩:=hr;obtain⟨⟨x,hx,h4⟩,h5⟩:=GZ.1 h3;obtain⟨r,hr⟩:=Zd (xs:=p) (k:=t) h1;have hg:=Qw hr;rw[hg]at hx;exact⟨r,x,hr,hx,h4,by unfold JC;rw[hg],fun o=>⟨h5 o,Bv hr hx h4 o⟩⟩
 ·cases h
theorem JU (v:Value) (xs:List Int) (w:World) (h:Z7 Zr w v xs∧∀ x∈xs,0≤x∧x≤255) :
 Calls Tryz.prog 5 #[v] w fun e w'=>e = .returned (.bool true)∧Below w.heap.size w w':=by
 obtain⟨hx,hb⟩:=h;obtain⟨a0,c0,rfl,-,hm,-,hx⟩:=hx.open;have HD:=Za (QV (.slice a0 xs.length c0) xs w hx hb);clear hx hb;generalize xs.length=n at *;by_cases hl:(n:Int) > 1048576
 ·go_enter Tryz.func5,Tryz.ntmps5
  go_wp2_with fail;go_ret;exact⟨rfl,Below.refl _ _⟩
 ·have hl':decide ((n:Int) > 1048576)=false:=decide_eq_false hl
  go_enter Tryz.func5,Tryz.ntmps5;go_wp2_with fail
  (with_reducible refine HD.out.mono ?_);rintro e w1 ⟨v1,P,s,rfl,hP,hPl,hPr,-,hb1⟩
  have hfl:=VQ hPl hPr;have HP:=Za hP;have HB1:=Za hb1
  have HI:=Za (Qr v1 P s w1 hP Om);have HS:=Za (fun W h=>Qj v1 P s W h Om Om);have HR:=Za (fun t i (h:Xj s P=some (t,i))=>DJ h);unfold Kn at HI HS;clear hP hb1 HD hPr hfl hPl;generalize Xj s P=R at *;cases R with
  | none =>
   clear HR;have HI:Hid (Calls Tryz.prog 11 #[v1,.string s] w1 fun e w'=>e = .returned (.tuple #[.agg #[.int .i64 0,.int .i64 0],.bool false])∧Below w1.heap.size w1 w'):=HI;have HS:Hid (∀ W,Z5 W v1 P→Calls Tryz.prog 9 #[v1,.string s] W fun e w'=>e = .returned (.tuple #[.agg #[.int .i64 0,.int .i64 0],.bool false])∧Below W.heap.size W w'):=HS;go_wp2_with fail
   (with_reducible refine HI.out.mono ?_);rintro e w2 ⟨rfl,hb2⟩
   obtain⟨V2,hV2⟩:∃ V2,V2=w2.alloc (.cells #[.int .i64 0,.int .i64 0] 25):=⟨_,rfl⟩
   have hv2:=hb2.alloc hb2.size (.cells #[.int .i64 0,.int .i64 0] 25);rw[← hV2]at hv2;have A2:Hid (V2.heap[w2.heap.size]? = some (.cells #[.int .i64 0,.int .i64 0] 25 (0,0))):=Za (by rw[hV2];exact heap_alloc_new w2 _);have HB2:=Za (HB1.out.trans (hv2.mono HB1.out.size));have HP2:=Za (HP.out.below hv2)
   have HV2:=Za hV2;have hs2:w2.heap.size < V2.heap.size:=by rw[hV2];simp
   clear hb2 hv2 hV2;go_wp2_with fail;rw[← HV2.out];clear HV2 HI
   (with_reducible refine(HS.out V2 HP2.out).mono ?_);rintro e w3 ⟨rfl,hb3⟩
   have hs3:=Nat.lt_of_lt_of_le hs2 hb3.size;have hblk:=(hb3.block w2.heap.size hs2).trans A2.out;have c0:=Zc hblk (k:=0) rfl;have c1:=Zc hblk (k:=1) rfl
   have HB3:=Za ((HB2.out.trans (hb3.mono HB2.out.size)).alloc (by have:=HB1.out.size;have:=HB2.out.size;have:=hb3.size;omega) (.cells #[.int .i64 0,.int .i64 0] 25));clear hb3 hblk;go_wp2_with fail;go_ret;exact⟨rfl,HB3.out⟩
  | some ti =>
   obtain⟨t,i⟩:=ti;have HI:Hid (Calls Tryz.prog 11 #[v1,.string s] w1 fun e w'=>e = .returned (.tuple #[.agg #[.int .i64 (t:Int),.int .i64 (i:Int)],.bool true])∧Below w1.heap.size w1 w'):=HI;have HS:Hid (∀ W,Z5 W v1 P→Calls Tryz.prog 9 #[v1,.string s] W fun e w'=>e = .returned (.tuple #[.agg #[.int .i64 (t:Int),.int .i64 (i:Int)],.bool true])∧Below W.heap.size W w'):=HS;go_wp2_with fail
   (with_reducible refine HI.out.mono ?_);rintro e w2 ⟨rfl,hb2⟩
   obtain⟨V2,hV2⟩:∃ V2,V2=w2.alloc (.cells #[.int .i64 (t:Int),.int .i64 (i:Int)] 25):=⟨_,rfl⟩
   have hv2:=hb2.alloc hb2.size (.cells #[.int .i64 (t:Int),.int .i64 (i:Int)] 25);rw[← hV2]at hv2;have A2:Hid (V2.heap[w2.heap.size]? = some (.cells #[.int .i64 (t:Int),.int .i64 (i:Int)] 25 (0,0))):=Za (by rw[hV2];exact heap_alloc_new w2 _);have HB2:=Za (HB1.out.trans (hv2.mono HB1.out.size));have HP2:=Za (HP.out.below hv2)
   have HV2:=Za hV2;have hs2:w2.heap.size < V2.heap.size:=by rw[hV2];simp
   clear hb2 hv2 hV2;go_wp2_with fail;rw[← HV2.out];clear HV2 HI
   (with_reducible refine(HS.out V2 HP2.out).mono ?_);rintro e w3 ⟨rfl,hb3⟩
   have hs3:=Nat.lt_of_lt_of_le hs2 hb3.size;have hblk:=(hb3.block w2.heap.size hs2).trans A2.out;have c0:=Zc hblk (k:=0) rfl;have c1:=Zc hblk (k:=1) rfl
   obtain⟨split,rfl,hv,r,x,hr,hx,h4,hdel,hiff⟩:=HR.out t i rfl;obtain⟨hn3,-,hr7,-,-⟩:=Z4 hv;have hr77:=(hr7 r (List.mem_of_getElem? hr)).1;have HP3:=Za (HP2.out.below hb3);have HB3:=Za (HB2.out.trans (hb3.mono HB2.out.size));obtain⟨us,hul,hus,hrows⟩:=HP3.out;have htl:=(List.getElem?_eq_some_iff.1 hr).1;obtain⟨u,hu⟩:=Zd (xs:=us) (k:=t) Om;have hRr:=hrows t u r hu hr;have G1:=(Below.refl w3.heap.size w3).alloc (Nat.le_refl _) (.cells #[.int .i64 (t:Int),.int .i64 (i:Int)] 25);have G2:=G1.alloc Sm (.cells #[] 42);have HUS:=Za (hus.below G2);have OE:Hid (Own Zw 42 ((w3.alloc (.cells #[.int .i64 (t:Int),.int .i64 (i:Int)] 25)).alloc (.cells #[] 42)) w3.heap.size (.slice (some ⟨w3.heap.size+1,0,none⟩) 0 0) []):=Za (by
    have h:=Own.empty (E:=Zw) 42 (w3.alloc (.cells #[.int .i64 (t:Int),.int .i64 (i:Int)] 25)) (base:=w3.heap.size) Sm;simpa using h)
   have HUL:Hid (us.length≤3):=Za Om;have HG2:=Za G2;have HU:=Za hu;have HRR:=Za hRr;have HX:=Za hx;have HRW:=Za hr;have HDEL:=Za hdel;have HIFF:=Za hiff;have HV:=Za hv;have HROWS:=Za hrows;have HUL2:=Za hul
   have HBK:=Za hblk;clear HR hus hrows hu hRr G1 G2 hr hx hdel hiff hv hr7 hb3 HS hblk A2 HB2 HP2 hul
   go_upto_region 9 with (at_builtin;refine ZC Zw 42 Tryz.YT rfl Tryz.underlying28 w3.heap.size _ [] us v1 OE.out HUS.out Dc (by have:=HUL.out;simp;omega) So rfl _ _ rfl rfl rfl ?_;intro v4 w4 hown4 hgr4;have OQ:=Za hown4;have HG4:=Za hgr4;clear hown4 hgr4)
   have B4:=Za (HG2.out.grown HG4.out So (fun q hq=>by simp[Value.ownBlock]at hq;omega));rw[List.nil_append]at OQ;rcases OQ.out.shape with⟨-,h0⟩ | ⟨gq,cq,rfl,hgq1,hgq2,-,-⟩
   ·exfalso;have:=HUL2.out;rw[h0]at this;simp at this;omega
   have hgp3:w2.heap.size < w3.heap.size:=hs3;have hgp4:=Nat.lt_of_lt_of_le hgp3 B4.out.size;have hbk4:=(B4.out.block w2.heap.size hgp3).trans HBK.out;have p0:=Zc hbk4 (k:=0) rfl;have p1:=Zc hbk4 (k:=1) rfl
   obtain⟨va,vc,rfl,-,-,-,-⟩:=HP3.out.open;obtain⟨b,o,ra,rc,rfl,hbl3,i3,hR3⟩:=Yv.row HP3.out HRW.out;have hR4:=hR3.below B4.out;have hbl:=Nat.lt_of_lt_of_le hbl3 B4.out.size;have i0:=(B4.out.cell (p:=⟨b,o+t,none⟩) hbl3).trans i3;have hbg:b≠gq:=fun e=>by omega
   have hgb:gq≠b:=fun e=>by omega
   obtain⟨b',o',rfl,hbl3',k0,k1,k2,k3⟩:=hR3.ins HX.out;have HI3:=Za i3;have HK0:=Za k0
   clear hR3 i3 k0 k1 k2 k3;have q0:w4.cell? ⟨gq,t,none⟩=some u.v:=by
    have h:=OQ.out.cell (i:=t) (j:=0) HU.out (u:=u.v) rfl;simpa[Zw] using h
   have qf:=OQ.out.frozen t;have hil:=(List.getElem?_eq_some_iff.1 HX.out).1;have hba:=(Below.refl w4.heap.size w4).alloc (Nat.le_refl _) (.cells #[] 44);have T1:=Za ((hR4.I9 (k:=i) (Nat.le_of_lt hil)).below hba.drew);have T2:=(hR4.HJ (k:=i+1) hil)
   have OE2:Hid (Own ZH 44 (w4.alloc (.cells #[] 44)).drew w4.heap.size (.slice (some ⟨w4.heap.size,0,none⟩) 0 0) []):=Za (Own.empty (E:=ZH) 44 w4 (Nat.le_refl _));rw[show ZH.sz=4 from rfl]at T2;have hl1:([]:List Ins).length+(r.take i).length≤68719476736:=by rw[List.length_take];simp;omega
   have hl2:([]++r.take i).length+(r.drop (i+1)).length≤68719476736:=by rw[List.nil_append,List.length_take,List.length_drop];omega
   have hrc:r.length≤rc:=by obtain⟨_,_,he,h,-,-⟩:=hR4;simp only[Value.slice.injEq]at he;omega
   have hic:(i:Int)≤(rc:Int):=Om;have him:(i:Int)+1≤(r.length:Int):=Om;have hi0:(0:Int)≤(i:Int)+1:=Om;have hit:((i:Int)+1).toNat=i+1:=Om;obtain⟨hwi,hwi2⟩:=wrap_small (i:=i) Om;have htq:(t:Int) < (us.length:Int):=by have:=HUL2.out;omega
   have htP:(t:Int) < (P.length:Int):=Om;have HES:Hid (r.take i++r.drop (i+1)=r.eraseIdx i):=Za (List.eraseIdx_eq_take_drop_succ r i).symm
   -- the program without the LF, as it lies behind the store
   have CUT:Hid (∀ W (s':Zt),Below w4.heap.size w4 W→Own ZH 44 W w4.heap.size s'.v (([]++r.take i)++r.drop (i+1))→Z5 (W.setCell ⟨gq,t,none⟩ s'.v) (.slice (some ⟨gq,0,none⟩) us.length cq) (P.set t (r.eraseIdx i))∧Below w3.heap.size w3 (W.setCell ⟨gq,t,none⟩ s'.v)):=Za (fun W s' hW hs'=>by
    have h1:Own Zw 42 W w3.heap.size (.slice (some ⟨gq,0,none⟩) us.length cq) us:=OQ.out.below hW;have h2:=h1.set (i:=t) (j:=0) s' (u:=s'.v) Dc HU.out rfl;simp only[Zw,Nat.mul_one,Nat.add_zero]at h2;have hB3:Below w3.heap.size w3 (W.setCell ⟨gq,t,none⟩ s'.v):=(B4.out.trans (hW.mono B4.out.size)).setCell So _;refine⟨⟨us.set t s',by rw[List.length_set,List.length_set];exact HUL2.out,h2.rep,fun k y q hy hq => ?_⟩,hB3⟩;rw[List.getElem?_set]at hy hq;by_cases e:t=k
    ·subst e
     rw[if_pos rfl,if_pos (by have:=HUL2.out;omega)]at hy;rw[if_pos rfl,if_pos htl]at hq;cases hy;cases hq;rw[← HES.out];obtain⟨a,ha⟩:=h1.Xa (g:=gq) rfl;exact(hs'.Zy Dc ha).rep
    ·rw[if_neg e]at hy hq
     exact(HROWS.out k y q hy hq).below hB3)
   clear hR4 hbk4
   go_cut [] (fun W=>Z5 W (.slice (some ⟨gq,0,none⟩) us.length cq) (P.set t (r.eraseIdx i))∧Below w3.heap.size w3 W)
   case first =>
    by_cases hck:rc=i+1
    ·rw[if_pos hck]at T2
     subst hck;rw[Nat.sub_self,Nat.sub_eq_zero_of_le (show r.length≤i+1 by omega)]at T2;have T2:=Za T2;have hic2:(i:Int)≤(i:Int)+1:=Int.le_add_one (Int.le_refl _);have hmc2:(r.length:Int)≤(i:Int)+1:=show (r.length:Int)≤((i+1:Nat):Int) from Int.ofNat_le.2 hrc
     go_region_held3 (fun V=>V.cell? ⟨w2.heap.size,0,none⟩=some (.int .i64 (t:Int))∧V.cell? ⟨w2.heap.size,1,none⟩=some (.int .i64 (i:Int))∧V.cell? ⟨b,o+t,none⟩=some (.slice (some ⟨b',o',none⟩) r.length (i+1))) ((simp[go_sem, *]))
      (first
       | (refine Jt ZH 44 Tryz.Y2 rfl Tryz.underlying42 w4.heap.size _ [] (r.take i) _ OE2.out T1.out Dc hl1 Sm Rf _ _ Rf Rf Rf ?_;intro v6 w7 hown6 hgr6;obtain⟨⟨a6,n6,c6⟩,rfl,-⟩:=hown6.YL;have O7:=Za hown6;have B7:=Za (UQ hgr6);have hb7:=B7.out.size;have p07:=(B7.out.cell (p:=⟨w2.heap.size,0,none⟩) hgp4).trans p0;have p17:=(B7.out.cell (p:=⟨w2.heap.size,1,none⟩) hgp4).trans p1;have i07:=(B7.out.cell (p:=⟨b,o+t,none⟩) hbl).trans i0;have q07:=(B7.out.cell (p:=⟨gq,t,none⟩) hgq2).trans q0;have qf7:=(B7.out.frozen (p:=⟨gq,t,none⟩) hgq2).trans qf;have T3:=Za (T2.out.below B7.out);clear hown6 hgr6)
       | (refine Jt ZH 44 Tryz.Y2 rfl Tryz.underlying42 w4.heap.size _ ([]++r.take i) (r.drop (i+1)) _ O7.out T3.out Dc hl2 Om Rf _ _ Rf Rf Rf ?_;intro v7 w8 hown7 hgr7;obtain⟨⟨a7,n7,c7⟩,rfl,-⟩:=hown7.YL;have O8:=Za hown7;have B8:=Za (B7.out.grown hgr7 (Nat.le_of_lt_succ (by have:=B7.out.size;omega)) (fun q hq=>(World.ownsRow.lt O7.out q hq).1));have p08:=(B8.out.cell (p:=⟨w2.heap.size,0,none⟩) hgp4).trans p0;have p18:=(B8.out.cell (p:=⟨w2.heap.size,1,none⟩) hgp4).trans p1;have i08:=(B8.out.cell (p:=⟨b,o+t,none⟩) hbl).trans i0;have q08:=(B8.out.cell (p:=⟨gq,t,none⟩) hgq2).trans q0;have qf8:=(B8.out.frozen (p:=⟨gq,t,none⟩) hgq2).trans qf;clear hown7 hgr7))
     all_goals
      go_wp2_with fail;go_meet;exact CUT.out _ _ B8.out O8.out
    ·rw[if_neg hck]at T2
     have T2:=Za T2
     go_region_held3 (fun V=>V.cell? ⟨w2.heap.size,0,none⟩=some (.int .i64 (t:Int))∧V.cell? ⟨w2.heap.size,1,none⟩=some (.int .i64 (i:Int))∧V.cell? ⟨b,o+t,none⟩=some (.slice (some ⟨b',o',none⟩) r.length rc)) ((simp[go_sem, *]))
      (first
       | (refine Jt ZH 44 Tryz.Y2 rfl Tryz.underlying42 w4.heap.size _ [] (r.take i) _ OE2.out T1.out Dc hl1 Sm Rf _ _ Rf Rf Rf ?_;intro v6 w7 hown6 hgr6;obtain⟨⟨a6,n6,c6⟩,rfl,-⟩:=hown6.YL;have O7:=Za hown6;have B7:=Za (UQ hgr6);have hb7:=B7.out.size;have p07:=(B7.out.cell (p:=⟨w2.heap.size,0,none⟩) hgp4).trans p0;have p17:=(B7.out.cell (p:=⟨w2.heap.size,1,none⟩) hgp4).trans p1;have i07:=(B7.out.cell (p:=⟨b,o+t,none⟩) hbl).trans i0;have q07:=(B7.out.cell (p:=⟨gq,t,none⟩) hgq2).trans q0;have qf7:=(B7.out.frozen (p:=⟨gq,t,none⟩) hgq2).trans qf;have T3:=Za (T2.out.below B7.out);clear hown6 hgr6)
       | (refine Jt ZH 44 Tryz.Y2 rfl Tryz.underlying42 w4.heap.size _ ([]++r.take i) (r.drop (i+1)) _ O7.out T3.out Dc hl2 Om Rf _ _ Rf Rf Rf ?_;intro v7 w8 hown7 hgr7;obtain⟨⟨a7,n7,c7⟩,rfl,-⟩:=hown7.YL;have O8:=Za hown7;have B8:=Za (B7.out.grown hgr7 (Nat.le_of_lt_succ (by have:=B7.out.size;omega)) (fun q hq=>(World.ownsRow.lt O7.out q hq).1));have p08:=(B8.out.cell (p:=⟨w2.heap.size,0,none⟩) hgp4).trans p0;have p18:=(B8.out.cell (p:=⟨w2.heap.size,1,none⟩) hgp4).trans p1;have i08:=(B8.out.cell (p:=⟨b,o+t,none⟩) hbl).trans i0;have q08:=(B8.out.cell (p:=⟨gq,t,none⟩) hgq2).trans q0;have qf8:=(B8.out.frozen (p:=⟨gq,t,none⟩) hgq2).trans qf;clear hown7 hgr7))
     all_goals
      go_wp2_with fail;go_meet;exact CUT.out _ _ B8.out O8.out
   case rest =>
    obtain⟨hq9,hb9⟩:=hcut;have hbk:=(hb9.block w2.heap.size hgp3).trans HBK.out;clear p0 p1 i0 q0 qf;have p0:=Zc hbk (k:=0) rfl;have p1:=Zc hbk (k:=1) rfl
    have i0:=(hb9.cell (p:=⟨b,o+t,none⟩) hbl3).trans HI3.out;have j0:=(hb9.cell (p:=⟨b',o'+i * 4,none⟩) hbl3').trans HK0.out;rw[h4]at j0;have hgpc:w2.heap.size < wc.heap.size:=Nat.lt_of_lt_of_le hgp3 hb9.size;have hblc:=Nat.lt_of_lt_of_le hbl3 hb9.size;have hblc':=Nat.lt_of_lt_of_le hbl3' hb9.size;have HB9:=Za (HB3.out.trans (hb9.mono HB3.out.size));have HQ9:=Za (hq9.below (Below.refl _ _).drew);have HP9:=Za ((HP3.out.below hb9).below (Below.refl _ _).drew);have HMQ:=Za (fun W (h:Z5 W (.slice (some ⟨gq,0,none⟩) us.length cq) (P.set t (r.eraseIdx i)))=>show Calls Tryz.prog 22 #[_,.string (Uy split)] W (YE ((P.set t (r.eraseIdx i)).length * 3+3) (Vy split (P.set t (r.eraseIdx i))) W) from YQ split _ _ W h (by
     rw[← HDEL.out];exact QK (Ju (Vj HRW.out HX.out h4) HV.out)))
    have HMP:=Za (fun W (h:Z5 W (.slice (some ⟨b,o,none⟩) P.length vc) P)=>show Calls Tryz.prog 22 #[_,.string (Uy split)] W (YE (P.length * 3+3) (Vy split P) W) from YQ split _ _ W h (QK HV.out));rw[List.length_set]at HMQ;have hdel:=HDEL.out;rw[hdel]at HIFF;clear hdel hq9 hb9 hbk CUT T1 T2 OE2 hl1 hl2 HUS OE HI HDEL HES hwi hwi2 hi0 hit OQ HG4 hba;generalize Uy split=nm at *
    go_upto_region 10 with fail
    go_region_held3 (fun V=>V.cell? ⟨w2.heap.size,0,none⟩=some (.int .i64 (t:Int))∧V.cell? ⟨w2.heap.size,1,none⟩=some (.int .i64 (i:Int))∧V.cell? ⟨b,o+t,none⟩=some (.slice (some ⟨b',o',none⟩) r.length rc)∧V.cell? ⟨b',o'+i * 4,none⟩=some (.int .i64 4)) ((simp[go_sem, *]))
     (first
      | (go_simp;go_at_call 22;(with_reducible refine(HMQ.out _ HQ9.out).mono ?_);rintro e w10 ⟨vM,M,rfl,hm,hmo,hmi,hb10⟩;have M10:=Za hm;have MO:=Za hmo;have MI:=Za hmi;have B10:=Za hb10;have HP10:=Za (HP9.out.below hb10);have p010:=(hb10.cell (p:=⟨w2.heap.size,0,none⟩) hgpc).trans p0;have p110:=(hb10.cell (p:=⟨w2.heap.size,1,none⟩) hgpc).trans p1;have i010:=(hb10.cell (p:=⟨b,o+t,none⟩) hblc).trans i0;have j010:=(hb10.cell (p:=⟨b',o'+i * 4,none⟩) hblc').trans j0;clear hm hmo hmi hb10)
      | (go_simp;go_at_call 22;(with_reducible refine(HMP.out _ HP10.out).mono ?_);rintro e w11 ⟨vN,N,rfl,hm,hmo,hmi,hb11⟩;obtain rfl:M=N:=AN MO.out hmo (fun z=>(MI.out z).trans ((HIFF.out z).trans (hmi z).symm));have M11:=Za (M10.out.below hb11).rep;have M11':=Za hm.rep;have B11:=Za (B10.out.trans (hb11.mono B10.out.size));have hgp10:=Nat.lt_of_lt_of_le hgpc B10.out.size;have p011:=(hb11.cell (p:=⟨w2.heap.size,0,none⟩) hgp10).trans p010;have p111:=(hb11.cell (p:=⟨w2.heap.size,1,none⟩) hgp10).trans p110;have i011:=(hb11.cell (p:=⟨b,o+t,none⟩) (Nat.lt_of_lt_of_le hblc B10.out.size)).trans i010;have j011:=(hb11.cell (p:=⟨b',o'+i * 4,none⟩) (Nat.lt_of_lt_of_le hblc' B10.out.size)).trans j010;clear hm hmo hmi hb11)
      | (go_simp;go_at_call 21;(with_reducible refine(Ba vM vN M _ M11.out M11'.out).mono ?_);rintro e w12 ⟨rfl,hb12⟩;have B12:=Za (B11.out.trans (hb12.mono B11.out.size));have p012:=(B12.out.cell (p:=⟨w2.heap.size,0,none⟩) hgpc).trans p0;have p112:=(B12.out.cell (p:=⟨w2.heap.size,1,none⟩) hgpc).trans p1;have i012:=(B12.out.cell (p:=⟨b,o+t,none⟩) hblc).trans i0;have j012:=(B12.out.cell (p:=⟨b',o'+i * 4,none⟩) hblc').trans j0;clear hb12))
    all_goals
     go_wp2_with fail;go_ret;exact⟨rfl,HB9.out.trans (((Below.refl _ _).drew.trans B12.out).mono HB9.out.size)⟩
end Go.Proofs.YtngekjpklkjnbaaGreat
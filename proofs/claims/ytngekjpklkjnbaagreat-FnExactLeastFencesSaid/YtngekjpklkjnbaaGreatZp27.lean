/-
  The reference's search through all states with one memory. Condition: a valid program.
-/
import Derived.Test.YtngekjpklkjnbaaGreatZp24
set_option maxHeartbeats 6400000
set_option maxRecDepth 100000
namespace Go.Proofs.YtngekjpklkjnbaaGreat
open Go.RowKit
structure NZ (V:World) (B:Nat) (o:List Int) (L:List (List Int)) (c1 c2:Bool) (u pv:Zs) (W:World):Prop where
 out:Below V.heap.size V W
 o1:c1=true→Own Zq 3 W B u.v o
 o2:c2=true→Qo LS B W B pv.v L
 i2:c2=true→c1=true
theorem NZ.Od {V W W':World}{B:Nat}{o:List Int}{L:List (List Int)}{c2:Bool}{u u' pv:Zs}(h:NZ V B o L false c2 u pv W) (ho:Own Zq 3 W' W.heap.size u'.v o) (hb:Below W.heap.size W W') (hB:B≤W.heap.size):NZ V B o L true c2 u' pv W':=by
 cases hc:c2 with
 | true=>exact(nomatch h.i2 hc)
 | false=>exact⟨h.out.trans (hb.mono h.out.size),fun _=>ho.mono hB,fun e=>(nomatch e),fun e=>(nomatch e)⟩
theorem NZ.call2 {V W W':World}{B:Nat}{o:List Int}{L:List (List Int)}{u pv pv':Zs}(h:NZ V B o L true false u pv W) (ho:Qo LS B W' B pv'.v L) (hb:Below W.heap.size W W'):NZ V B o L true true u pv' W':=
 ⟨h.out.trans (hb.mono h.out.size),fun _=>(h.o1 rfl).below hb,fun _=>ho,fun _=>rfl⟩
theorem Qo.own {Ls:List TypeId}{B:Nat}{w:World}{base:Nat}{v:Value}{L:List (List Int)}(h:Qo Ls B w base v L):∃ u:Zs,v=u.v∧True:=by
 obtain⟨-,us,h1,h2,h3⟩:=h;obtain⟨u,hu,-⟩:=h2.Yy;exact⟨u,hu,trivial⟩
def Ov (w:World) (n:Nat) (outs:List (List Int)) (e:Ending) (w':World):Prop:=∃ (cn:Nat) (vo:Zs),cn≤n∧e = .returned (.agg #[.int .i64 (cn:Int),.slice vo.a vo.n vo.cap])∧Qo LS w.heap.size w' w.heap.size vo.v outs∧Below w.heap.size w w'
def Nk (p:List (List Ins)) (w:World) (e:Ending) (w':World):Prop:=∃ (seen taken:List Sq) (outs:List (List Int)),Lu (ZU p) YN (p.length * 3+3) (Zw p) (ZO p) [] seen taken outs∧Ov w 68719476000 outs e w'
theorem QZ {p:List (List Ins)}{s:Sq}(h:Y2 p s) (hrow:∀ r∈p,r.length≤7):Kn s.pc∧Kn s.rg∧Kn s.mm:=by
 refine⟨fun x hx => ?_,fun x hx=>by have:=h.rg x hx;omega,fun x hx=>by have:=h.mm x hx;omega⟩;obtain⟨t,ht,rfl⟩:=List.mem_iff_getElem.1 hx;obtain⟨r,hr⟩:=Zd (xs:=p) (k:=t) (by rw[← h.lp];exact ht);have h1:=h.pc t s.pc[t] r (List.getElem?_eq_getElem ht) hr;have h2:=hrow r (List.mem_of_getElem? hr);omega
structure Sj (p:List (List Ins)) (w:World) (O:Nat) (vt:Value) (gk:Nat) (v:Value) (work seen taken:List Sq) (outs:List (List Int)) (vo:Zs) (g cap:Nat) (wr:World):Prop where
 hv:v = .slice (some ⟨g,0,none⟩) work.length cap
 ph:G8 3 (Yt p) work=gk
 sr:Vz (ZU p) YN (p.length * 3+3) 3 (Yt p) 68719476000 (Zw p) (ZO p) work seen taken outs
 se:J0 w.heap.size w.heap.size O vt v (work.map Al) (seen.map Aq) taken.length vo outs wr
 lo:outs.length≤taken.length
 bl:Below w.heap.size w wr
def BE (p:List (List Ins)) (w:World) (O:Nat) (vt:Value) (gk:Nat) (v:Value) (wr:World):Prop:=∃ work seen taken outs vo g cap,Sj p w O vt gk v work seen taken outs vo g cap wr
def Gw (p:List (List Ins)) (w:World) (O S:Nat) (vt:Value) (x:SV) (s:Sq) (M:Nat) (taken:List Sq) (outs:List (List Int)) (vo:Zs) (k:Nat) (v:Value) (wr:World):Prop:=∃ (work seen:List Sq) (g cap:Nat),
 v = .slice (some ⟨g,0,none⟩) work.length cap∧XO (ZU p) YN (p.length * 3+3) 3 (Yt p) 68719476000 (Zw p) (ZO p) M s k work seen (s :: taken) outs ∧
 J0 w.heap.size w.heap.size O vt v (work.map Al) (seen.map Aq) (taken.length+1) vo outs wr∧wr.heap[S]? = some (.cells #[.slice x.p.a x.p.n x.p.cap,.slice x.r.a x.r.n x.r.cap,.slice x.m.a x.m.n x.m.cap,.slice x.b.a x.b.n x.b.cap] 141 (0,0)) ∧
 g≠S∧Yu LS w.heap.size wr (fun W=>ZE W x (Al s))∧Below w.heap.size w wr∧outs.length≤taken.length+1
theorem Own.Oe (w:World) {base:Nat}(hb:base≤w.heap.size) (x:SV):Own Ob 141 (w.alloc (.cells #[.slice x.p.a x.p.n x.p.cap,.slice x.r.a x.r.n x.r.cap,.slice x.m.a x.m.n x.m.cap,.slice x.b.a x.b.n x.b.cap] 141)) base (.slice (some ⟨w.heap.size,0,none⟩) 1 1) [x]:=by
 refine⟨rfl,.inr ⟨w.heap.size,1,#[.slice x.p.a x.p.n x.p.cap,.slice x.r.a x.r.n x.r.cap,.slice x.m.a x.m.n x.m.cap,.slice x.b.a x.b.n x.b.cap],rfl,hb,heap_alloc_new w _,Nat.le_refl _,by unfold maxLen;omega,rfl,rfl⟩⟩
theorem Mb {a b c d:Nat}(h:a < b) (h1:b=c) (h2:c=d):a < d:=Om
theorem Sx:dW 3 21≤68719476000:=Dc
theorem I6 (vp:Value) (p:List (List Ins)) (w:World) (hp:Z9 w vp p) (hv:Zg p=true) :
 Calls Tryz.prog 91 #[vp] w (Nk p w):=by
 obtain⟨va,vc,rfl,hc1,hc2,hc3,hp⟩:=hp.open;have HP:=Za hp;have HV:=Za hv
 have hpl:p.length≤3:=(Zv hv).1;have hpr:∀ r∈p,r.length≤7:=fun r hr=>((Zv hv).2.2.1 r hr).1;have HPR:=Za hpr;have HIV:=Za (ZB hv);clear hp hv hpr;generalize hn:p.length=n at *;have HN:=Za hn;clear hn;obtain⟨A0,hA0⟩:∃ A0,A0=w.alloc (.cells #[.int .i64 0,.slice none 0 0] 103):=⟨_,rfl⟩
 have HB:Hid (Below w.heap.size w A0):=Za (by rw[hA0];exact Ze _ _);have hz:A0.heap.size=w.heap.size+1:=by rw[hA0];simp
 have HN2:Hid (A0.heap[w.heap.size]? = some (.cells #[.int .i64 0,.slice none 0 0] 103 (0,0))):=Za (by rw[hA0];exact heap_alloc_new w _);have HA0:=Za hA0;clear hA0;have hs0:(⟨List.replicate n 0,List.replicate (n * 3) 0,List.replicate 3 0,List.replicate 0 []⟩:St)=Al (Zw p):=by rw[← HN.out];rfl
 have HSTART:Hid (∀ w',Calls Tryz.prog 109 #[.slice va n vc,.int .i64 0] w' (XG w' (Al (Zw p)))):=Za (fun w'=>hs0 ▸ (UT va vc n 0 w' Om Om));have HST:=Za (Vz.init (start:=Zw p) (next:=ZO p) (done:=ZU p) (out:=YN) (n:=p.length * 3+3) (b:=3) (rank:=Yt p) (tot:=68719476000) (Nat.le_trans (Hq Dc (UB HV.out _)) Sx));have HKEY:=Za (fun (x:SV) (s:Sq) (w':World) (hok:Y2 p s) (hr:ZE w' x (Al s))=>(by
  obtain⟨k1,k2,k3⟩:=QZ hok HPR.out;have h1:=hok.lp;have h2:=hok.lr;have h3:=hok.lm;have h4:=HN.out;have:=AV x (Al s) w' hr (by show s.pc.length≤1000;omega) (by show s.rg.length≤1000;omega) (by show s.mm.length≤1000;omega) Sm Sm k1 k2 k3 Sm;rwa[NU]at this:Calls Tryz.prog 111 #[.agg #[.slice x.p.a x.p.n x.p.cap,.slice x.r.a x.r.n x.r.cap,.slice x.m.a x.m.n x.m.cap,.slice x.b.a x.b.n x.b.cap]] w' fun e w''=>e = .returned (.string (Aq s))∧Below w'.heap.size w' w''))
 have HKSZ:=Za (fun (s:Sq) (hok:Y2 p s)=>(by
  have h1:=hok.lp;have h2:=hok.lr;have h3:=hok.lm;have h4:=HN.out;rw[strOfNums_size];unfold Jv;simp only[List.length_append];omega:(Aq s).size≤1000000))
 have HMARK:=Za (fun (vt:Value) (ks:List ByteArray) (s:Sq) (base:Nat) (w':World) (hok:Y2 p s) (hr:Ll w' base vt ks) (hk:ks.length≤68719476736) (hB:base≤w'.heap.size)=>FG vt ks (Aq s) base w' hr (HKSZ.out s hok) hk hB);have HOK0:=Za (Y2.start p);have HINJ:=Za (fun (a b:Sq) (ha:Zt (Zw p) (ZO p) a) (hb:Zt (Zw p) (ZO p) b) (e:Aq a=Aq b)=>(by
  have ka:=QZ (Y2.reach HIV.out ha) HPR.out;have kb:=QZ (Y2.reach HIV.out hb) HPR.out;refine EN HIV.out a b ha hb (Ed (fun x hx => ?_) (fun x hx => ?_) e)
  ·rcases List.mem_append.1 hx with h | h
   ·rcases List.mem_append.1 h with h | h
    ·exact ka.1 x h
    ·exact ka.2.1 x h
   ·exact ka.2.2 x h
  ·rcases List.mem_append.1 hx with h | h
   ·rcases List.mem_append.1 h with h | h
    ·exact kb.1 x h
    ·exact kb.2.1 x h
   ·exact kb.2.2 x h:a=b))
 clear hs0;go_enter Tryz.func91,Tryz.ntmps91;go_wp2_with (first
  | (at_make;refine YC Z2 90 ⟨none,0,0⟩ Tryz.AT rfl Tryz.underlying139 4096 Dc Om rfl _ _ rfl rfl rfl ?_;intro w1 hown1 hgr1;rw[← HA0.out]at hown1 hgr1;rw[hz]at hown1;have T1:=Za (ZL.made (E:=JB) (T2:=9) hown1);have B1:=Za ((Below.refl A0.heap.size A0).grown hgr1 (Nat.le_refl _) (fun q hq=>nomatch hq));have hsz1:=B1.out.size;clear hown1 hgr1)
  | (go_at_call 109;(with_reducible refine(HSTART.out _).mono ?_);rintro e w2 ⟨x,m,rfl,hs2,hb2⟩;have S2:=Za hs2;have B2:=Za hb2;have hsz2:=hb2.size;have T2:=Za (((T1.out.mono (show w.heap.size≤w.heap.size+1 by omega)).below hb2).below (Ze w2 (.cells #[.slice x.p.a x.p.n x.p.cap,.slice x.r.a x.r.n x.r.cap,.slice x.m.a x.m.n x.m.cap,.slice x.b.a x.b.n x.b.cap] 141)));clear hs2 hb2)
  | (go_at_call 111;(with_reducible refine(HKEY.out x (Zw p) _ HOK0.out (S2.out.rep.below (Ze _ _))).mono ?_);rintro e w3 ⟨rfl,hb3⟩;have B3:=Za hb3;have hsz3:=hb3.size;have T3:Hid (Ll w3 w.heap.size (.slice (some ⟨w.heap.size+1,0,none⟩) 4096 4096) []):=Za (by show ZL _ _ _ _ _ _ (K6 []);rw[Bk];exact T2.out.below hb3);clear hb3)
  | (go_at_call 110;(with_reducible refine(HMARK.out _ [] (Zw p) w.heap.size w3 HOK0.out T3.out Sm (by simp at hsz3;omega)).mono ?_);rintro e w4 ⟨rfl,ht4,hk4⟩;have T4:=Za ht4;have K4:=Za hk4;have hsz4:=hk4.size;clear ht4 hk4))
 obtain⟨V0,hV0⟩:∃ V0,V0=(w4.alloc (.cells #[] 66)).alloc (.cells #[.int .i64 0,.slice (some ⟨w4.heap.size,0,none⟩) 0 0] 103):=⟨_,rfl⟩
 simp only[World.size_alloc]at hsz3;have BV4:Below w4.heap.size w4 V0:=by rw[hV0];exact(Ze w4 _).alloc Sm _
 have BW2:Below w.heap.size w w2:=(HB.out.trans (B1.out.mono HB.out.size)).trans (B2.out.mono (Nat.le_trans HB.out.size hsz1));have BW3:Below w.heap.size w w3:=(BW2.alloc BW2.size _).trans (B3.out.mono (by simp;have:=BW2.size;omega));have BW4:Below w.heap.size w w4:=BW3.trans (K4.out.below BW3.size);have BL0:Below w.heap.size w V0:=BW4.trans (BV4.mono BW4.size);have WK:Q6 V0 w.heap.size (.slice (some ⟨w2.heap.size,0,none⟩) 1 1) [Al (Zw p)]:=by
  refine⟨[x],rfl,(((Yu.own (Own.Oe w2 BW2.size x) (L:=[90,9]) (B:=w.heap.size) Dc).step (.Zf B3.out)).Yf w4 K4.out).below BV4,fun i y s hy hs => ?_⟩;cases i with
  | zero =>
   simp at hy hs;subst hy;subst hs;exact((((S2.out.loc (L:=LS) (B:=w.heap.size) Dc Dc).step (.Zf (Ze _ _))).step (.Zf B3.out)).step (K4.out.more Dc (Nat.le_refl _))).step (.Zf BV4)
  | succ i=>simp at hy
 have SE0:J0 w.heap.size w.heap.size (w4.heap.size+1) (.slice (some ⟨w.heap.size+1,0,none⟩) 4096 4096) (.slice (some ⟨w2.heap.size,0,none⟩) 1 1) [Al (Zw p)] [Aq (Zw p)] 0 ⟨some ⟨w4.heap.size,0,none⟩,0,0⟩ [] V0:=by
  refine⟨WK,T4.out.below BV4,?_,by rw[hV0];have h:=heap_alloc_new (w4.alloc (.cells #[] 66)) (.cells #[.int .i64 0,.slice (some ⟨w4.heap.size,0,none⟩) 0 0] 103);simpa using h,?_,Nat.le_refl _,by have:=BW4.size;omega,BL0.size⟩
  ·have h1:=(B1.out.block w.heap.size Om).trans HN2.out
   have h2:=(B2.out.block w.heap.size Om).trans h1;have h3:=((Ze w2 (.cells #[.slice x.p.a x.p.n x.p.cap,.slice x.r.a x.r.n x.r.cap,.slice x.m.a x.m.n x.m.cap,.slice x.b.a x.b.n x.b.cap] 141)).block w.heap.size Om).trans h2;have h4:=(B3.out.block w.heap.size So).trans h3;have h5:=K4.out.same h4 Dc;exact(BV4.block w.heap.size (Array.getElem?_eq_some_iff.1 h5).1).trans h5
  ·rw[hV0]
   exact(Qo.empty (Ls:=LS) (B:=w.heap.size) BW4.size).step (.alloc _ _) Dc
 have HR0:BE p w (w4.heap.size+1) (.slice (some ⟨w.heap.size+1,0,none⟩) 4096 4096) (G8 3 (Yt p) [Zw p]) (.slice (some ⟨w2.heap.size,0,none⟩) 1 1) V0:=
  ⟨[Zw p],[Zw p],[],[],⟨some ⟨w4.heap.size,0,none⟩,0,0⟩,w2.heap.size,1,rfl,rfl,HST.out,SE0,Sm,BL0⟩
 have HRR:=Za HR0;have HV0:=Za hV0;obtain⟨O,hO⟩:∃ O,O=w4.heap.size+1:=⟨_,rfl⟩
 obtain⟨vt,hvt⟩:∃ vt:Value,vt = .slice (some ⟨w.heap.size+1,0,none⟩) 4096 4096:=⟨_,rfl⟩
 simp only[← hV0];clear WK SE0 HR0 BL0 BW4 BW3 BW2 BV4 hV0 T4 K4 T1 B1 B2 S2 T2 B3 T3 HST hsz1 hsz2 hsz3 hsz4;rw[← hO]at HRR ⊢;rw[← hvt]at HRR ⊢;clear hO hvt HV0
 go_loopg [4] (G8 3 (Yt p) [Zw p]) (fun gk v wr=>BE p w O vt gk v wr)
 case atStart=>exact HRR.out
 case round =>
  obtain⟨work,seen,taken,outs,vo,g,cap,rfl,hph,hsr,hse,hlo,hbl⟩:=hrel;have HPH:=Za hph;have HSR:=Za hsr;have HSE:=Za hse;have HLO:=Za hlo;have HBL:=Za hbl
  have hct:taken.length≤68719476000:=Nat.le_trans (Nat.le_add_right _ _) hsr.le;rcases List.eq_nil_or_concat work with rfl | ⟨init,s,rfl⟩
  ·have c0:wr.cell? ⟨O,0,none⟩=some (.int .i64 (taken.length:Int)):=Zc hse.bo (k:=0) rfl
   have c1:wr.cell? ⟨O,1,none⟩=some (.slice vo.a vo.n vo.cap):=Zc hse.bo (k:=1) rfl;have r0:wr.cell? ⟨w.heap.size,0,none⟩=some (.int .i64 0):=Zc hse.bn (k:=0) rfl;have r1:wr.cell? ⟨w.heap.size,1,none⟩=some (.slice none 0 0):=Zc hse.bn (k:=1) rfl;have rfz:=Z7 hse.bn;have rl:=Zb r0;have cl:=Zb c0;have t0:BH 103 wr w.heap.size:=⟨_,hse.bn⟩
   have T0:=Za t0;clear hph hsr hse hlo hbl t0;generalize taken.length=cn at *;go_wp2_with fail;have k1:YX LS w.heap.size wr ((wr.setCell ⟨w.heap.size,0,none⟩ (.int .i64 (cn:Int))).setCell ⟨w.heap.size,1,none⟩ (.slice vo.a vo.n vo.cap)):=(YX.Ys T0.out Dc (Nat.le_refl _) _).trans (YX.Ys (T0.out.set _ _ _) Dc (Nat.le_refl _) _);refine bodyPost_ret (v:=.agg #[.int .i64 (cn:Int),.slice vo.a vo.n vo.cap]) (by simp[results,Tryz.results91,go_sem, *]) rfl ⟨seen,taken,outs,HSR.out.all,cn,vo,hct,rfl,?_,?_⟩
   ·exact HSE.out.ol.step k1 Dc
   ·exact(HBL.out.setCell (p:=⟨w.heap.size,0,none⟩) (Nat.le_refl _) _).setCell (p:=⟨w.heap.size,1,none⟩) (Nat.le_refl _) _
  ·rw[List.concat_eq_append] at *
   have hwk:=hse.wk;rw[List.map_append,List.map_singleton]at hwk;obtain⟨hn1,hgl,hgB,hcap,hwk',x,hlx,p0,p1,p2,p3⟩:=hwk.pop;rw[List.length_map]at hwk' p0 p1 p2 p3 hn1;have hreach:=hsr.rc (s:=s) Sm;have HOK:=Za (Y2.reach HIV.out hreach);have HWK:=Za hwk';have HLX:=Za hlx
   have hlen:(init++[s]).length=init.length+1:=by simp
   rw[hlen]at hcap ⊢;have c0:wr.cell? ⟨O,0,none⟩=some (.int .i64 (taken.length:Int)):=Zc hse.bo (k:=0) rfl;have c1:wr.cell? ⟨O,1,none⟩=some (.slice vo.a vo.n vo.cap):=Zc hse.bo (k:=1) rfl;have cfz:=Z7 hse.bo;have cl:=Zb c0;have hm1:init.length≤68719476000:=by have h1:=hsr.len;have h2:=hsr.num;simp at h2;omega
   clear hph hsr hse hlo hbl hwk hwk' hlx hlen hn1;generalize hm:init.length=m at *;have HM:=Za hm;generalize htn:taken.length=cn at *;have HTN:=Za htn;clear hm htn
   -- TAIL
   go_wp2_with fail;obtain⟨S,hS⟩:∃ S,S=wr.heap.size:=⟨_,rfl⟩
   have ec:((cn+1:Nat):Int)=(cn:Int)+1:=Om;have SE0:=((HSE.out.Px HWK.out (.refl _ _ _)).YO (cn+1)).below (Ze _ (.cells #[.slice x.p.a x.p.n x.p.cap,.slice x.r.a x.r.n x.r.cap,.slice x.m.a x.m.n x.m.cap,.slice x.b.a x.b.n x.b.cap] 141));have LX0:=(HLX.out.step (YX.set (j:=0) HSE.out.bo Dc (by have:=HSE.out.lN;have:=HSE.out.lO;omega) (.int .i64 ((cn+1:Nat):Int)))).step (.alloc _ (.cells #[.slice x.p.a x.p.n x.p.cap,.slice x.r.a x.r.n x.r.cap,.slice x.m.a x.m.n x.m.cap,.slice x.b.a x.b.n x.b.cap] 141));have BL0:=(HBL.out.setCell (p:=⟨O,0,none⟩) (by have:=HSE.out.lN;have:=HSE.out.lO;show _≤O;omega) (.int .i64 ((cn+1:Nat):Int))).alloc (by simpa using HBL.out.size) (.cells #[.slice x.p.a x.p.n x.p.cap,.slice x.r.a x.r.n x.r.cap,.slice x.m.a x.m.n x.m.cap,.slice x.b.a x.b.n x.b.cap] 141);rw[ec]at SE0 LX0 BL0;obtain⟨V1,hV1⟩:∃ V1,V1=(wr.setCell ⟨O,0,none⟩ (.int .i64 ((cn:Int)+1))).alloc (.cells #[.slice x.p.a x.p.n x.p.cap,.slice x.r.a x.r.n x.r.cap,.slice x.m.a x.m.n x.m.cap,.slice x.b.a x.b.n x.b.cap] 141):=⟨_,rfl⟩
   have SX0:V1.heap[S]? = some (.cells #[.slice x.p.a x.p.n x.p.cap,.slice x.r.a x.r.n x.r.cap,.slice x.m.a x.m.n x.m.cap,.slice x.b.a x.b.n x.b.cap] 141 (0,0)):=by rw[hV1,hS];have h:=heap_alloc_new (wr.setCell ⟨O,0,none⟩ (.int .i64 ((cn:Int)+1))) (.cells #[.slice x.p.a x.p.n x.p.cap,.slice x.r.a x.r.n x.r.cap,.slice x.m.a x.m.n x.m.cap,.slice x.b.a x.b.n x.b.cap] 141);simpa using h
   rw[← hV1]at SE0 LX0 BL0;have HSE0:=Za SE0;have HLX0:=Za LX0;have HBL0:=Za BL0;have HSX0:=Za SX0
   have hgS0:g < S:=by rw[hS];exact hgl
   have hgS:g≠S:=Om;have hOS:O < S:=by rw[hS];exact cl
   have HDONE:Hid (Calls Tryz.prog 112 #[.slice va n vc,.agg #[.slice x.p.a x.p.n x.p.cap,.slice x.r.a x.r.n x.r.cap,.slice x.m.a x.m.n x.m.cap,.slice x.b.a x.b.n x.b.cap]] V1 fun e w'=>e = .returned (.bool (ZU p s))∧Below V1.heap.size V1 w'):=Za (by
    have:=Rx _ p x (Al s) V1 (HP.out.below (HBL0.out)) HLX0.out.now HOK.out.lp (by have:=HN.out;omega);exact this)
   have HOUT:Hid (∀ W,ZE W x (Al s)→Calls Tryz.prog 114 #[.agg #[.slice x.p.a x.p.n x.p.cap,.slice x.r.a x.r.n x.r.cap,.slice x.m.a x.m.n x.m.cap,.slice x.b.a x.b.n x.b.cap]] W (Xs Zq 3 W (YN s))):=Za (fun W h=>Vo x (Al s) W h (by show s.rg.length≤_;have:=HOK.out.lr;have:=HN.out;omega) (by show s.mm.length≤_;have:=HOK.out.lm;omega));have HPUT:=Za (fun W u (hL:Qo LS w.heap.size W w.heap.size vo.v outs) ho hb=>AW LS w.heap.size w.heap.size (.slice vo.a vo.n vo.cap) u outs (YN s) W hL ho Dc hb (by have h1:=HLO.out;have h2:=HTN.out;omega));have HSX1:=Za hS;have HOL:=Za (XX HOK.out);simp only[← hV1];rw[← hS];clear c0 c1 cfz cl p0 p1 p2 p3 SE0 LX0 BL0 SX0 hV1 hS ec hgl hcap HWK HSE HBL HLX;have k0:V1.cell? ⟨S,0,none⟩=some (.slice x.p.a x.p.n x.p.cap):=Zc HSX0.out (k:=0) rfl;cases hd:ZU p s
   ·have SM0:=Za (HSR.out.no hd)
    have HD:=Za hd;rw[hd]at HDONE;clear hd
    (with_reducible refine HDONE.out.mono ?_);rintro e w1 ⟨rfl,hb1⟩
    have SE2:=Za (HSE0.out.below hb1);have LX2:=Za (HLX0.out.step (.Zf hb1));have BL2:=Za (HBL0.out.trans (hb1.mono HBL0.out.size));have SX2:Hid (w1.heap[S]? = some (.cells #[.slice x.p.a x.p.n x.p.cap,.slice x.r.a x.r.n x.r.cap,.slice x.m.a x.m.n x.m.cap,.slice x.b.a x.b.n x.b.cap] 141 (0,0))):=Za ((hb1.block S (Array.getElem?_eq_some_iff.1 HSX0.out).1).trans HSX0.out)
    clear hb1 k0;go_wp2_with fail;have LO2:Hid (outs.length≤taken.length+1):=Za (by have:=HLO.out;have:=HTN.out;omega);obtain⟨M,hM⟩:∃ M,M=G8 3 (Yt p) (init++[s]):=⟨_,rfl⟩
    rw[← hM]at SM0;have HMM:=Za hM;clear hM
    go_loopw [4,7] (fun v i wr => ∃ k:Nat,k≤n∧i = .int .i64 k∧Gw p w O S vt x s M taken (outs) vo k v wr) (fun _ i _=>n - (intOf i).toNat)
    case atStart=>exact⟨0,Nat.zero_le _,rfl,init,seen,g,cap,by rw[HM.out],SM0.out,by have h:=SE2.out;rw[← HTN.out]at h;exact h,SX2.out,hgS,LX2.out,BL2.out,LO2.out⟩
    case round =>
     obtain⟨k,hk,rfl,work2,seen2,g2,cap2,rfl,hsm,hse,hsx,hgS2,hlx,hbl,hlo2⟩:=hrel;have SM3:=Za hsm;have SE3:=Za hse;have SX3:=Za hsx;have LX3:=Za hlx;have BL3:=Za hbl;have HLO2:=Za hlo2
     clear hsm hse hlx hbl hlo2;by_cases hlt:k < n
     ·have hlt':=Zh hlt
      have d0:wr.cell? ⟨S,0,none⟩=some (.slice x.p.a x.p.n x.p.cap):=Zc hsx (k:=0) rfl;have dl:=Zb d0;clear hsx;obtain⟨r,hrk⟩:=Zd (xs:=p) (k:=k) (by rw[HN.out];exact hlt);obtain⟨c,hck⟩:=Zd (xs:=s.pc) (k:=k) (by rw[HOK.out.lp,HN.out];exact hlt);obtain⟨hc0,hcr⟩:=HOK.out.pc k c r hck hrk;obtain⟨kn,rfl⟩:∃ kn:Nat,c=kn:=⟨c.toNat,Om⟩
      have hrl:=HPR.out r (List.mem_of_getElem? hrk);obtain⟨xpa,xpn,xpc,hxp⟩:∃ a n c,x.p=⟨a,n,c⟩:=⟨_,_,_,rfl⟩
      have hrep:ZC Zq wr (.slice xpa xpn xpc) s.pc:=by have h:=LX3.out.now.pc;rw[hxp]at h;exact h
      obtain⟨b1,o1,rfl,hbl1,i0⟩:=hrep.int hck;obtain⟨_,_,hv1,-,-,-,-⟩:=hrep.open;simp only[Value.slice.injEq]at hv1;obtain⟨-,hxn,-⟩:=hv1;have hxn2:(k:Int) < (xpn:Int):=by have:=HOK.out.lp;have:=HN.out;omega
      obtain⟨b2,o2,qa,qc,hb2e,hbl2,q0,q1⟩:=(HP.out.below BL3.out).row hrk;rw[hxp]at d0;simp only at d0;have RK:=Za hrk;have CK:=Za hck
      have hbs:=BL3.out.size;have D0:=Za d0;clear hrk hck q1 hrep hxn hxp;by_cases heq:kn=r.length
      ·have heq':((kn:Int)==(r.length:Int))=true:=by simp[heq]
       have SK:Hid (ZO p s k=none):=Za (by unfold ZO;simp[RK.out,CK.out,heq]);clear heq hc0 hcr;subst hb2e;go_wp2_with fail;refine Zo Kr Kr ?_
       repeat (go_big_quiet_step (fail))
       refine wpQuiet_nil ?_;intro w5 hw5;go_wp2_with fail;go_roundw
       case rel=>exact⟨k+1,Om,Gn,work2,seen2,g2,cap2,rfl,SM3.out.skip SK.out,SE3.out.below hw5,(hw5.block S dl).trans SX3.out,hgS2,LX3.out.step (.Zf hw5),BL3.out.trans (hw5.mono hbs),HLO2.out⟩
       case measure=>simp[intOf];omega
      ·have heq':((kn:Int)==(r.length:Int))=false:=So
       obtain⟨i,hi⟩:=Zd (xs:=r) (k:=kn) Om;have hiv:=HIV.out r (List.mem_of_getElem? RK.out) i (List.mem_of_getElem? hi);have SK:Hid (ZO p s k=some (ZN s k kn i)):=Za (by unfold ZO;simp[RK.out,CK.out,hi]);have HOK2:=Za (HOK.out.next HIV.out SK.out);have HRK2:=Za (Qw HOK.out SK.out);have HDO:Hid (∀ W,Below w.heap.size w W→ZE W x (Al s)→Calls Tryz.prog 115 #[.slice va n vc,.agg #[.slice x.p.a x.p.n x.p.cap,.slice x.r.a x.r.n x.r.cap,.slice x.m.a x.m.n x.m.cap,.slice x.b.a x.b.n x.b.cap],.int .i64 (k:Int)] W (XG W (Al (ZN s k kn i)))):=Za (fun W hW hx=>Rw _ p x (Al s) k kn i r W (HP.out.below hW) hx CK.out RK.out hi hiv Om (by show s.pc.length≤_;have:=HOK.out.lp;have:=HN.out;omega) (by show s.rg.length=s.pc.length * 3;rw[HOK.out.lr,HOK.out.lp]) HOK.out.lm Sm Sm Om);clear heq hc0 hcr hi hiv;subst hb2e;go_wp2_with fail;refine Zo Kr Kr ?_
       repeat (go_big_quiet_step (fail))
       refine wpQuiet_nil ?_;intro w5 hw5;have hsx5:=(hw5.block S dl).trans SX3.out;have e0:w5.cell? ⟨S,0,none⟩=some (.slice x.p.a x.p.n x.p.cap):=Zc hsx5 (k:=0) rfl;have e1:w5.cell? ⟨S,1,none⟩=some (.slice x.r.a x.r.n x.r.cap):=Zc hsx5 (k:=1) rfl;have e2:w5.cell? ⟨S,2,none⟩=some (.slice x.m.a x.m.n x.m.cap):=Zc hsx5 (k:=2) rfl;have e3:w5.cell? ⟨S,3,none⟩=some (.slice x.b.a x.b.n x.b.cap):=Zc hsx5 (k:=3) rfl;have el:=Zb e0;have SE5:=Za (SE3.out.below hw5);have LX5:=Za (LX3.out.step (.Zf hw5));have BL5:=Za (BL3.out.trans (hw5.mono hbs));have SX5:=Za hsx5
       have hbs5:=BL5.out.size;clear d0 dl i0 q0 hsx5 D0 SX3 LX3 SE3 hw5;go_wp2_with (first
        | (go_at_call 115;(with_reducible refine(HDO.out _ BL5.out LX5.out.now).mono ?_);rintro e w6 ⟨y,my,rfl,hs6,hb6⟩;have S6:=Za hs6;have B6:=Za (hb6.alloc hb6.size (.cells #[.slice y.p.a y.p.n y.p.cap,.slice y.r.a y.r.n y.r.cap,.slice y.m.a y.m.n y.m.cap,.slice y.b.a y.b.n y.b.cap] 141));have hsz6:=hb6.size;clear hs6 hb6)
        | (go_at_call 111;(with_reducible refine(HKEY.out y (ZN s k kn i) _ HOK2.out (S6.out.rep.below (Ze _ _))).mono ?_);rintro e w7 ⟨rfl,hb7⟩;have B7:=Za (B6.out.trans (hb7.mono So));have HX7:Hid (w7.heap[w6.heap.size]? = some (.cells #[.slice y.p.a y.p.n y.p.cap,.slice y.r.a y.r.n y.r.cap,.slice y.m.a y.m.n y.m.cap,.slice y.b.a y.b.n y.b.cap] 141 (0,0))):=Za ((hb7.block w6.heap.size Sm).trans (heap_alloc_new w6 _));have hsz7:=B7.out.size;have LY7:=Za (((S6.out.loc (L:=LS) (B:=w.heap.size) Dc Dc).step (.alloc _ _)).step (.Zf hb7));clear hb7))
       (with_reducible refine(Jp vt (seen2.map Aq) (Aq (ZN s k kn i)) w7 (SE5.out.below B7.out).tb.rep (HKSZ.out _ HOK2.out)).mono ?_);rintro e w8 ⟨D,rfl,hD,rfl⟩
       cases D
       ·have HNO:=Za hD
        clear hD;go_wp2_with (first
         | (go_at_call 110;(with_reducible refine(HMARK.out vt (seen2.map Aq) (ZN s k kn i) w.heap.size w7 HOK2.out (SE5.out.below B7.out).tb (by rw[List.length_map];have:=SM3.out.len;omega) Om).mono ?_);rintro e w9 ⟨rfl,ht9,hk9⟩;have SE9:=Za ((SE5.out.below B7.out).mark ht9 hk9);have K9:=Za hk9;have hx9:=hk9.same HX7.out Dc;have f0:w9.cell? ⟨w6.heap.size,0,none⟩=some (.slice y.p.a y.p.n y.p.cap):=Zc hx9 (k:=0) rfl;have f1:w9.cell? ⟨w6.heap.size,1,none⟩=some (.slice y.r.a y.r.n y.r.cap):=Zc hx9 (k:=1) rfl;have f2:w9.cell? ⟨w6.heap.size,2,none⟩=some (.slice y.m.a y.m.n y.m.cap):=Zc hx9 (k:=2) rfl;have f3:w9.cell? ⟨w6.heap.size,3,none⟩=some (.slice y.b.a y.b.n y.b.cap):=Zc hx9 (k:=3) rfl;have fl9:=Zb f0;obtain⟨xs9,hxl9,hown9,hst9⟩:=SE9.out.wk;have O9:=Za hown9;have XL9:=Za hxl9;have ST9:=Za hst9;have hxb9:xs9.length≤68719476736:=(by rw[hxl9,List.length_map];have h1:=SM3.out.num;have h2:=SM3.out.len;omega);have hsz9:=hk9.size;clear hown9 hxl9 hst9 ht9 hk9 hx9)
         | (at_builtin;refine Z8 Ob 141 Tryz.G6 rfl Tryz.underlying143 w.heap.size _ xs9 y (O9.out.alloc _) Dc hxb9 So rfl _ _ rfl rfl _ 0 1 rfl Zk ?_;intro v10 w10 hown10 hgr10 hat10;have O10:=Za hown10;have G10:=Za hgr10;have A10:=Za hat10;clear hown10 hgr10 hat10))
        rcases O10.out.shape with⟨_,e⟩ | ⟨g10,c10,rfl,hg10,hg10',hc10,_⟩
        ·simp at e
        have hl10:(xs9++[y]).length=(work2++[ZN s k kn i]).length:=by have:=XL9.out;simp only[List.length_append,List.length_singleton,List.length_map]at this ⊢;omega
        have hgS10:g10≠S:=by
         rcases A10.out with h | ⟨q,h,hq⟩
         ·simp[Value.ownBlock]at h;omega
         ·simp[Value.ownBlock]at h;simp at hq;omega
        have bA:=Ze w9 (.cells #[.slice y.p.a y.p.n y.p.cap,.slice y.r.a y.r.n y.r.cap,.slice y.m.a y.m.n y.m.cap,.slice y.b.a y.b.n y.b.cap] 141);have kA:=YX.Zf (L:=LS) (B:=w.heap.size) bA;have k9:=K9.out.more (L':=LS) Dc (Nat.le_refl _);have hw10:=Q6.push (s:=Al (ZN s k kn i)) XL9.out (O9.out.below bA) (fun i x s h1 h2=>(ST9.out i x s h1 h2).step kA) ((LY7.out.step k9).step kA) O10.out G10.out;have k10:YX [141] w.heap.size _ w10:=YX.grown (O9.out.below bA) Dc (Nat.le_refl _) G10.out;have se10:=(SE9.out.below bA).Px hw10 k10;rw[← List.map_singleton (f:=Al),← List.map_append,← List.map_singleton (f:=Aq),← List.map_append]at se10;rw[hl10]at se10 ⊢;have hS9:w9.heap[S]? = _:=K9.out.same ((B7.out.block S el).trans SX5.out) Dc;have hSl:=(Array.getElem?_eq_some_iff.1 hS9).1;have hS10:=(G10.out.block S So (fun e=>by simp[Value.ownBlock]at e;omega)).trans ((heap_alloc_old w9 _ hSl).trans hS9);have lx10:=((((LX5.out.step (.Zf B7.out)).step k9).step kA).step (k10.more Dc (Nat.le_refl _)))
        have bl7:=BL5.out.trans (B7.out.mono hbs5);have bl9:=bl7.trans (K9.out.below bl7.size);have bl10:=(bl9.alloc bl9.size (.cells #[.slice y.p.a y.p.n y.p.cap,.slice y.r.a y.r.n y.r.cap,.slice y.m.a y.m.n y.m.cap,.slice y.b.a y.b.n y.b.cap] 141)).grown G10.out (by simp;have:=bl9.size;omega) (fun q hq=>(World.ownsRow.lt O9.out q hq).1);have sm10:=SM3.out.new SK.out Om HRK2.out;have HF:=Za (⟨work2++[ZN s k kn i],seen2++[ZN s k kn i],g10,c10,rfl,sm10,se10,hS10,hgS10,lx10,bl10,HLO2.out⟩:Gw p w O S vt x s M taken (outs) vo (k+1) _ w10);clear hw10 k10 se10 hS9 hSl hS10 lx10 bl7 bl9 bl10 sm10 bA kA k9;go_roundw
        case rel=>exact⟨k+1,Om,Gn,HF.out⟩
        case measure=>simp[intOf];omega
       ·have SK2:Hid (Aq (ZN s k kn i)∈seen2.map Aq):=Za (hD.1 rfl)
        clear hD;go_wp2_with fail;go_roundw
        case rel=>exact⟨k+1,Om,Gn,work2,seen2,g2,cap2,rfl,SM3.out.Mq (key:=Aq) SK.out SK2.out HINJ.out,SE5.out.below B7.out,(B7.out.block S el).trans SX5.out,hgS2,LX5.out.step (.Zf B7.out),BL5.out.trans (B7.out.mono hbs5),HLO2.out⟩
        case measure=>simp[intOf];omega
     ·obtain rfl:k=n:=Om
      have HG:=Za (Mb SM3.out.Mr HMM.out HPH.out);have HF:=Za (⟨work2,seen2,s :: taken,outs,vo,g2,cap2,rfl,rfl,SM3.out.leave (fun i t h=>by obtain⟨r,c,y,h1,-⟩:=XW h;have:=(List.getElem?_eq_some_iff.1 h1).1;have:=HN.out;omega),SE3.out,HLO2.out,BL3.out⟩:BE p w O vt (G8 3 (Yt p) work2) _ wr);go_wp2_with fail
      go_roundg (G8 3 (Yt p) work2)
      case measure=>exact HG.out
      case rel=>exact HF.out
   ·have SM0:=Za (HSR.out.yes hd HOL.out)
    rw[hd]at HDONE;clear hd
    (with_reducible refine HDONE.out.mono ?_);rintro e w1 ⟨rfl,hb1⟩
    have SE1:=Za (HSE0.out.below hb1);have LX1:=Za (HLX0.out.step (.Zf hb1));have BL1:=Za (HBL0.out.trans (hb1.mono HBL0.out.size));have SX1:Hid (w1.heap[S]? = some (.cells #[.slice x.p.a x.p.n x.p.cap,.slice x.r.a x.r.n x.r.cap,.slice x.m.a x.m.n x.m.cap,.slice x.b.a x.b.n x.b.cap] 141 (0,0))):=Za ((hb1.block S (Array.getElem?_eq_some_iff.1 HSX0.out).1).trans HSX0.out)
    clear hb1 k0;go_wp2_with fail
    -- Ya outs
    refine Zm (n:=6) Kr rfl Kr Kr (fun A ls a' W => ∃ (u:Zs) (pv:Zs) (x43 x44 x45 x46 x47 x48:Value),a'=Zl A [(43,x43),(44,x44),(45,x45),(46,x46),(47,x47),(48,x48)]∧Vd ls 0 [] x43 (.pointer (some ⟨O,1,none⟩))∧Vd ls 1 [] x44 (.slice vo.a vo.n vo.cap)∧Vd ls 2 [] x45 (.agg #[.slice x.p.a x.p.n x.p.cap,.slice x.r.a x.r.n x.r.cap,.slice x.m.a x.m.n x.m.cap,.slice x.b.a x.b.n x.b.cap])∧Vd ls 3 [] x46 (.slice u.a u.n u.cap)∧Vd ls 4 [3] x47 (.slice pv.a pv.n pv.cap)∧Vd ls 5 [] x48 (.pointer (some ⟨O,1,none⟩))∧NZ w1 w.heap.size (YN s) (Xv (YN s) outs) (fl ls 3) (fl ls 4) u pv W) ?r0 ?rs ?re
    case r0 =>
     exact⟨⟨none,0,0⟩,⟨none,0,0⟩,u43,u44,u45,u46,u47,u48,pA,Vs,Vs,Vs,Vs,Vs,Vs,by simp only[Yn];exact⟨(Below.refl _ _).drew,fun h=>(nomatch h),fun h=>(nomatch h),fun h=>(nomatch h)⟩⟩
    case rs =>
     rintro ls a' W hs hnl ⟨u,pv,x43,x44,x45,x46,x47,x48,ha,cv0,cv1,cv2,cv3,cv4,cv5,hJ⟩ k o hkn mc K hK;simp only[Zl,Act.put,List.setIfInBounds_toArray,List.set_cons_succ,List.set_cons_zero]at ha;subst ha;have hkc:k=0∨k=1∨k=2∨k=3∨k=4∨k=5:=Om;have hop:=mc.op;have haf:=mc.after;rcases hkc with rfl | rfl | rfl | rfl | rfl | rfl
     ·simp at hop;subst hop;simp[Region.binds]at haf
      go_simp;exact hK _ _ ⟨u,pv,_,_,_,_,_,_,pA,Ve,cv1.s,cv2.s,cv3.s,cv4.s,cv5.s,by rw[fs 0 3,fs 0 4];exact hJ⟩
     ·simp at hop;subst hop;simp[Region.binds]at haf
      obtain rfl:=(cv0.get (by simp[haf])).symm;have d1:W.cell? ⟨O,1,none⟩=some (.slice vo.a vo.n vo.cap):=Zc ((hJ.out.block O (Array.getElem?_eq_some_iff.1 SE1.out.bo).1).trans SE1.out.bo) (k:=1) rfl;have dl:=Zb d1;go_simp;exact hK _ _ ⟨u,pv,_,_,_,_,_,_,pA,cv0.s,Ve,cv2.s,cv3.s,cv4.s,cv5.s,by rw[fs 1 3,fs 1 4];exact hJ⟩
     ·simp at hop;subst hop;simp[Region.binds]at haf
      have hbx:=(hJ.out.block S (Array.getElem?_eq_some_iff.1 SX1.out).1).trans SX1.out;have d0:W.cell? ⟨S,0,none⟩=some (.slice x.p.a x.p.n x.p.cap):=Zc hbx (k:=0) rfl;have d1:W.cell? ⟨S,1,none⟩=some (.slice x.r.a x.r.n x.r.cap):=Zc hbx (k:=1) rfl;have d2:W.cell? ⟨S,2,none⟩=some (.slice x.m.a x.m.n x.m.cap):=Zc hbx (k:=2) rfl;have d3:W.cell? ⟨S,3,none⟩=some (.slice x.b.a x.b.n x.b.cap):=Zc hbx (k:=3) rfl;have dl:=Zb d0;go_simp;exact hK _ _ ⟨u,pv,_,_,_,_,_,_,pA,cv0.s,cv1.s,Ve,cv3.s,cv4.s,cv5.s,by rw[fs 2 3,fs 2 4];exact hJ⟩
     ·simp at hop;subst hop;simp[Region.binds]at haf
      obtain rfl:=(cv2.get (by simp[haf])).symm;have f3:=Yd mc.new;rw[f3]at hJ;go_simp;go_at_call 114
      (with_reducible refine(HOUT.out W (LX1.out.step (.Zf hJ.out)).now).mono ?_);rintro e u' ⟨v',rfl,ho,hbu⟩
      obtain⟨⟨ua,un,uc⟩,rfl,-⟩:=ho.Yy;exact hK _ _ ⟨⟨ua,un,uc⟩,pv,_,_,_,_,_,_,pA,cv0.s,cv1.s,cv2.s,Ve,cv4.void Dc Dc mc.new,cv5.s,by rw[ZM hs Dc,fs 3 4];exact hJ.Od ho hbu (by have:=SE1.out.sz;have:=hJ.out.size;omega)⟩
     ·simp at hop;subst hop;simp[Region.binds]at haf
      obtain rfl:=(cv1.get (by simp[haf])).symm;obtain rfl:=(cv3.get (by simp[haf])).symm;have f4:=Yd mc.new;rw[f4]at hJ;have f3:=Z5 (show ls[3]? = some true by simp[haf]);rw[f3]at hJ;go_simp;go_at_call 113
      (with_reducible refine(HPUT.out W u (SE1.out.below hJ.out).ol (Yu.own (hJ.o1 rfl) Dc) (by have:=SE1.out.sz;have:=hJ.out.size;omega)).mono ?_);rintro e u' ⟨v',rfl,ho,hbu⟩
      obtain⟨⟨ua,un,uc⟩,rfl,-⟩:=ho.own;exact hK _ _ ⟨u,⟨ua,un,uc⟩,_,_,_,_,_,_,pA,cv0.s,cv1.s,cv2.s,cv3.s,Vd.same (by simp[haf]),cv5.s,by rw[fs 4 3,ZM hs Dc,f3];exact hJ.call2 ho hbu⟩
     ·simp at hop;subst hop;simp[Region.binds]at haf
      go_simp;exact hK _ _ ⟨u,pv,_,_,_,_,_,_,pA,cv0.s,cv1.s,cv2.s,cv3.s,cv4.s,Ve,by rw[fs 5 3,fs 5 4];exact hJ⟩
    case re =>
     rintro ls a' W hall ⟨u,pv,x43,x44,x45,x46,x47,x48,ha,cv0,cv1,cv2,cv3,cv4,cv5,hJ⟩ o hop;simp only[Zl,Act.put,List.setIfInBounds_toArray,List.set_cons_succ,List.set_cons_zero]at ha;subst ha;simp at hop;subst hop;obtain rfl:=cv0.ga hall;obtain rfl:=cv1.ga hall;obtain rfl:=cv2.ga hall;obtain rfl:=cv3.ga hall;obtain rfl:=cv4.ga hall;obtain rfl:=cv5.ga hall;rw[Z5 (hall 3 Dc)]at hJ;rw[Z5 (hall 4 Dc)]at hJ;have hbo:=(hJ.out.block O (Array.getElem?_eq_some_iff.1 SE1.out.bo).1).trans SE1.out.bo;have d1:W.cell? ⟨O,1,none⟩=some (.slice vo.a vo.n vo.cap):=Zc hbo (k:=1) rfl;have dfz:=Z7 hbo;have dl:=Zb d1;go_simp;have SE2:=Za ((SE1.out.below hJ.out).out (vo':=pv) (hJ.o2 rfl));have SX2:Hid ((W.setCell ⟨O,1,none⟩ (.slice pv.a pv.n pv.cap)).heap[S]? = some (.cells #[.slice x.p.a x.p.n x.p.cap,.slice x.r.a x.r.n x.r.cap,.slice x.m.a x.m.n x.m.cap,.slice x.b.a x.b.n x.b.cap] 141 (0,0))):=Za ((heap_setCell_other W ⟨O,1,none⟩ S _ (show S≠O by omega)).trans ((hJ.out.block S (Array.getElem?_eq_some_iff.1 SX1.out).1).trans SX1.out))
     have LX2:=Za ((LX1.out.step (.Zf hJ.out)).step (YX.set (j:=1) hbo Dc (by have:=SE1.out.lN;have:=SE1.out.lO;omega) (.slice pv.a pv.n pv.cap)));have BL2:=Za ((BL1.out.trans (hJ.out.mono BL1.out.size)).setCell (p:=⟨O,1,none⟩) (by have:=SE1.out.lN;have:=SE1.out.lO;show _≤O;omega) (.slice pv.a pv.n pv.cap));obtain⟨V2,hV2⟩:∃ V2,V2=W.setCell ⟨O,1,none⟩ (.slice pv.a pv.n pv.cap):=⟨_,rfl⟩
     rw[← hV2]at SE2 SX2 LX2 BL2;simp only[← hV2];clear hJ hbo d1 dfz dl hV2;go_wp2_with fail;have LO2:Hid ((Xv (YN s) outs).length≤taken.length+1):=Za (by have:=HLO.out;have:=HTN.out;have:=H4 (o:=YN s) outs;omega);obtain⟨M,hM⟩:∃ M,M=G8 3 (Yt p) (init++[s]):=⟨_,rfl⟩
     rw[← hM]at SM0;have HMM:=Za hM;clear hM
     go_loopw [4,7] (fun v i wr => ∃ k:Nat,k≤n∧i = .int .i64 k∧Gw p w O S vt x s M taken (Xv (YN s) outs) pv k v wr) (fun _ i _=>n - (intOf i).toNat)
     case atStart=>exact⟨0,Nat.zero_le _,rfl,init,seen,g,cap,by rw[HM.out],SM0.out,by have h:=SE2.out;rw[← HTN.out]at h;exact h,SX2.out,hgS,LX2.out,BL2.out,LO2.out⟩
     case round =>
      obtain⟨k,hk,rfl,work2,seen2,g2,cap2,rfl,hsm,hse,hsx,hgS2,hlx,hbl,hlo2⟩:=hrel;have SM3:=Za hsm;have SE3:=Za hse;have SX3:=Za hsx;have LX3:=Za hlx;have BL3:=Za hbl;have HLO2:=Za hlo2
      clear hsm hse hlx hbl hlo2;by_cases hlt:k < n
      ·have hlt':=Zh hlt
       have d0:wr.cell? ⟨S,0,none⟩=some (.slice x.p.a x.p.n x.p.cap):=Zc hsx (k:=0) rfl;have dl:=Zb d0;clear hsx;obtain⟨r,hrk⟩:=Zd (xs:=p) (k:=k) (by rw[HN.out];exact hlt);obtain⟨c,hck⟩:=Zd (xs:=s.pc) (k:=k) (by rw[HOK.out.lp,HN.out];exact hlt);obtain⟨hc0,hcr⟩:=HOK.out.pc k c r hck hrk;obtain⟨kn,rfl⟩:∃ kn:Nat,c=kn:=⟨c.toNat,Om⟩
       have hrl:=HPR.out r (List.mem_of_getElem? hrk);obtain⟨xpa,xpn,xpc,hxp⟩:∃ a n c,x.p=⟨a,n,c⟩:=⟨_,_,_,rfl⟩
       have hrep:ZC Zq wr (.slice xpa xpn xpc) s.pc:=by have h:=LX3.out.now.pc;rw[hxp]at h;exact h
       obtain⟨b1,o1,rfl,hbl1,i0⟩:=hrep.int hck;obtain⟨_,_,hv1,-,-,-,-⟩:=hrep.open;simp only[Value.slice.injEq]at hv1;obtain⟨-,hxn,-⟩:=hv1;have hxn2:(k:Int) < (xpn:Int):=by have:=HOK.out.lp;have:=HN.out;omega
       obtain⟨b2,o2,qa,qc,hb2e,hbl2,q0,q1⟩:=(HP.out.below BL3.out).row hrk;rw[hxp]at d0;simp only at d0;have RK:=Za hrk;have CK:=Za hck
       have hbs:=BL3.out.size;have D0:=Za d0;clear hrk hck q1 hrep hxn hxp;by_cases heq:kn=r.length
       ·have heq':((kn:Int)==(r.length:Int))=true:=by simp[heq]
        have SK:Hid (ZO p s k=none):=Za (by unfold ZO;simp[RK.out,CK.out,heq]);clear heq hc0 hcr;subst hb2e;go_wp2_with fail;refine Zo Kr Kr ?_
        repeat (go_big_quiet_step (fail))
        refine wpQuiet_nil ?_;intro w5 hw5;go_wp2_with fail;go_roundw
        case rel=>exact⟨k+1,Om,Gn,work2,seen2,g2,cap2,rfl,SM3.out.skip SK.out,SE3.out.below hw5,(hw5.block S dl).trans SX3.out,hgS2,LX3.out.step (.Zf hw5),BL3.out.trans (hw5.mono hbs),HLO2.out⟩
        case measure=>simp[intOf];omega
       ·have heq':((kn:Int)==(r.length:Int))=false:=So
        obtain⟨i,hi⟩:=Zd (xs:=r) (k:=kn) Om;have hiv:=HIV.out r (List.mem_of_getElem? RK.out) i (List.mem_of_getElem? hi);have SK:Hid (ZO p s k=some (ZN s k kn i)):=Za (by unfold ZO;simp[RK.out,CK.out,hi]);have HOK2:=Za (HOK.out.next HIV.out SK.out);have HRK2:=Za (Qw HOK.out SK.out);have HDO:Hid (∀ W,Below w.heap.size w W→ZE W x (Al s)→Calls Tryz.prog 115 #[.slice va n vc,.agg #[.slice x.p.a x.p.n x.p.cap,.slice x.r.a x.r.n x.r.cap,.slice x.m.a x.m.n x.m.cap,.slice x.b.a x.b.n x.b.cap],.int .i64 (k:Int)] W (XG W (Al (ZN s k kn i)))):=Za (fun W hW hx=>Rw _ p x (Al s) k kn i r W (HP.out.below hW) hx CK.out RK.out hi hiv Om (by show s.pc.length≤_;have:=HOK.out.lp;have:=HN.out;omega) (by show s.rg.length=s.pc.length * 3;rw[HOK.out.lr,HOK.out.lp]) HOK.out.lm Sm Sm Om);clear heq hc0 hcr hi hiv;subst hb2e;go_wp2_with fail;refine Zo Kr Kr ?_
        repeat (go_big_quiet_step (fail))
        refine wpQuiet_nil ?_;intro w5 hw5;have hsx5:=(hw5.block S dl).trans SX3.out;have e0:w5.cell? ⟨S,0,none⟩=some (.slice x.p.a x.p.n x.p.cap):=Zc hsx5 (k:=0) rfl;have e1:w5.cell? ⟨S,1,none⟩=some (.slice x.r.a x.r.n x.r.cap):=Zc hsx5 (k:=1) rfl;have e2:w5.cell? ⟨S,2,none⟩=some (.slice x.m.a x.m.n x.m.cap):=Zc hsx5 (k:=2) rfl;have e3:w5.cell? ⟨S,3,none⟩=some (.slice x.b.a x.b.n x.b.cap):=Zc hsx5 (k:=3) rfl;have el:=Zb e0;have SE5:=Za (SE3.out.below hw5);have LX5:=Za (LX3.out.step (.Zf hw5));have BL5:=Za (BL3.out.trans (hw5.mono hbs));have SX5:=Za hsx5
        have hbs5:=BL5.out.size;clear d0 dl i0 q0 hsx5 D0 SX3 LX3 SE3 hw5;go_wp2_with (first
         | (go_at_call 115;(with_reducible refine(HDO.out _ BL5.out LX5.out.now).mono ?_);rintro e w6 ⟨y,my,rfl,hs6,hb6⟩;have S6:=Za hs6;have B6:=Za (hb6.alloc hb6.size (.cells #[.slice y.p.a y.p.n y.p.cap,.slice y.r.a y.r.n y.r.cap,.slice y.m.a y.m.n y.m.cap,.slice y.b.a y.b.n y.b.cap] 141));have hsz6:=hb6.size;clear hs6 hb6)
         | (go_at_call 111;(with_reducible refine(HKEY.out y (ZN s k kn i) _ HOK2.out (S6.out.rep.below (Ze _ _))).mono ?_);rintro e w7 ⟨rfl,hb7⟩;have B7:=Za (B6.out.trans (hb7.mono So));have HX7:Hid (w7.heap[w6.heap.size]? = some (.cells #[.slice y.p.a y.p.n y.p.cap,.slice y.r.a y.r.n y.r.cap,.slice y.m.a y.m.n y.m.cap,.slice y.b.a y.b.n y.b.cap] 141 (0,0))):=Za ((hb7.block w6.heap.size Sm).trans (heap_alloc_new w6 _));have hsz7:=B7.out.size;have LY7:=Za (((S6.out.loc (L:=LS) (B:=w.heap.size) Dc Dc).step (.alloc _ _)).step (.Zf hb7));clear hb7))
        (with_reducible refine(Jp vt (seen2.map Aq) (Aq (ZN s k kn i)) w7 (SE5.out.below B7.out).tb.rep (HKSZ.out _ HOK2.out)).mono ?_);rintro e w8 ⟨D,rfl,hD,rfl⟩
        cases D
        ·have HNO:=Za hD
         clear hD;go_wp2_with (first
          | (go_at_call 110;(with_reducible refine(HMARK.out vt (seen2.map Aq) (ZN s k kn i) w.heap.size w7 HOK2.out (SE5.out.below B7.out).tb (by rw[List.length_map];have:=SM3.out.len;omega) Om).mono ?_);rintro e w9 ⟨rfl,ht9,hk9⟩;have SE9:=Za ((SE5.out.below B7.out).mark ht9 hk9);have K9:=Za hk9;have hx9:=hk9.same HX7.out Dc;have f0:w9.cell? ⟨w6.heap.size,0,none⟩=some (.slice y.p.a y.p.n y.p.cap):=Zc hx9 (k:=0) rfl;have f1:w9.cell? ⟨w6.heap.size,1,none⟩=some (.slice y.r.a y.r.n y.r.cap):=Zc hx9 (k:=1) rfl;have f2:w9.cell? ⟨w6.heap.size,2,none⟩=some (.slice y.m.a y.m.n y.m.cap):=Zc hx9 (k:=2) rfl;have f3:w9.cell? ⟨w6.heap.size,3,none⟩=some (.slice y.b.a y.b.n y.b.cap):=Zc hx9 (k:=3) rfl;have fl9:=Zb f0;obtain⟨xs9,hxl9,hown9,hst9⟩:=SE9.out.wk;have O9:=Za hown9;have XL9:=Za hxl9;have ST9:=Za hst9;have hxb9:xs9.length≤68719476736:=(by rw[hxl9,List.length_map];have h1:=SM3.out.num;have h2:=SM3.out.len;omega);have hsz9:=hk9.size;clear hown9 hxl9 hst9 ht9 hk9 hx9)
          | (at_builtin;refine Z8 Ob 141 Tryz.G6 rfl Tryz.underlying143 w.heap.size _ xs9 y (O9.out.alloc _) Dc hxb9 So rfl _ _ rfl rfl _ 0 1 rfl Zk ?_;intro v10 w10 hown10 hgr10 hat10;have O10:=Za hown10;have G10:=Za hgr10;have A10:=Za hat10;clear hown10 hgr10 hat10))
         rcases O10.out.shape with⟨_,e⟩ | ⟨g10,c10,rfl,hg10,hg10',hc10,_⟩
         ·simp at e
         have hl10:(xs9++[y]).length=(work2++[ZN s k kn i]).length:=by have:=XL9.out;simp only[List.length_append,List.length_singleton,List.length_map]at this ⊢;omega
         have hgS10:g10≠S:=by
          rcases A10.out with h | ⟨q,h,hq⟩
          ·simp[Value.ownBlock]at h;omega
          ·simp[Value.ownBlock]at h;simp at hq;omega
         have bA:=Ze w9 (.cells #[.slice y.p.a y.p.n y.p.cap,.slice y.r.a y.r.n y.r.cap,.slice y.m.a y.m.n y.m.cap,.slice y.b.a y.b.n y.b.cap] 141);have kA:=YX.Zf (L:=LS) (B:=w.heap.size) bA;have k9:=K9.out.more (L':=LS) Dc (Nat.le_refl _);have hw10:=Q6.push (s:=Al (ZN s k kn i)) XL9.out (O9.out.below bA) (fun i x s h1 h2=>(ST9.out i x s h1 h2).step kA) ((LY7.out.step k9).step kA) O10.out G10.out;have k10:YX [141] w.heap.size _ w10:=YX.grown (O9.out.below bA) Dc (Nat.le_refl _) G10.out;have se10:=(SE9.out.below bA).Px hw10 k10;rw[← List.map_singleton (f:=Al),← List.map_append,← List.map_singleton (f:=Aq),← List.map_append]at se10;rw[hl10]at se10 ⊢;have hS9:w9.heap[S]? = _:=K9.out.same ((B7.out.block S el).trans SX5.out) Dc;have hSl:=(Array.getElem?_eq_some_iff.1 hS9).1;have hS10:=(G10.out.block S So (fun e=>by simp[Value.ownBlock]at e;omega)).trans ((heap_alloc_old w9 _ hSl).trans hS9);have lx10:=((((LX5.out.step (.Zf B7.out)).step k9).step kA).step (k10.more Dc (Nat.le_refl _)))
         have bl7:=BL5.out.trans (B7.out.mono hbs5);have bl9:=bl7.trans (K9.out.below bl7.size);have bl10:=(bl9.alloc bl9.size (.cells #[.slice y.p.a y.p.n y.p.cap,.slice y.r.a y.r.n y.r.cap,.slice y.m.a y.m.n y.m.cap,.slice y.b.a y.b.n y.b.cap] 141)).grown G10.out (by simp;have:=bl9.size;omega) (fun q hq=>(World.ownsRow.lt O9.out q hq).1);have sm10:=SM3.out.new SK.out Om HRK2.out;have HF:=Za (⟨work2++[ZN s k kn i],seen2++[ZN s k kn i],g10,c10,rfl,sm10,se10,hS10,hgS10,lx10,bl10,HLO2.out⟩:Gw p w O S vt x s M taken (Xv (YN s) outs) pv (k+1) _ w10);clear hw10 k10 se10 hS9 hSl hS10 lx10 bl7 bl9 bl10 sm10 bA kA k9;go_roundw
         case rel=>exact⟨k+1,Om,Gn,HF.out⟩
         case measure=>simp[intOf];omega
        ·have SK2:Hid (Aq (ZN s k kn i)∈seen2.map Aq):=Za (hD.1 rfl)
         clear hD;go_wp2_with fail;go_roundw
         case rel=>exact⟨k+1,Om,Gn,work2,seen2,g2,cap2,rfl,SM3.out.Mq (key:=Aq) SK.out SK2.out HINJ.out,SE5.out.below B7.out,(B7.out.block S el).trans SX5.out,hgS2,LX5.out.step (.Zf B7.out),BL5.out.trans (B7.out.mono hbs5),HLO2.out⟩
         case measure=>simp[intOf];omega
      ·obtain rfl:k=n:=Om
       have HG:=Za (Mb SM3.out.Mr HMM.out HPH.out);have HF:=Za (⟨work2,seen2,s :: taken,Xv (YN s) outs,pv,g2,cap2,rfl,rfl,SM3.out.leave (fun i t h=>by obtain⟨r,c,y,h1,-⟩:=XW h;have:=(List.getElem?_eq_some_iff.1 h1).1;have:=HN.out;omega),SE3.out,HLO2.out,BL3.out⟩:BE p w O vt (G8 3 (Yt p) work2) _ wr);go_wp2_with fail
       go_roundg (G8 3 (Yt p) work2)
       case measure=>exact HG.out
       case rel=>exact HF.out
    -- end outs
end Go.Proofs.YtngekjpklkjnbaaGreat
/-
  The reference's step with buffers. Condition: bounds on lengths and numbers.
-/
import Derived.Test.YtnkfphndfijcoaaZo17
import Derived.Deep.LoopGhost
set_option maxHeartbeats 6400000
set_option maxRecDepth 100000
namespace Go.Proofs.Ytnkfphndfijcoaa
open Go.RowKit
structure JSq (V:World) (B:Nat) (o:List Int) (L:List (List Int)) (c1 c2:Bool) (u pv:Slc) (W:World):Prop where
 out:Below V.heap.size V W
 o1:c1=true→Own IntE 3 W B u.v o
 o2:c2=true→OutL LS B W B pv.v L
 i2:c2=true→c1=true
theorem JSq.call1 {V W W':World}{B:Nat}{o:List Int}{L:List (List Int)}{c2:Bool}{u u' pv:Slc}(h:JSq V B o L false c2 u pv W) (ho:Own IntE 3 W' W.heap.size u'.v o) (hb:Below W.heap.size W W') (hB:B≤W.heap.size):JSq V B o L true c2 u' pv W':=by
 cases hc:c2 with
 | true=>exact(nomatch h.i2 hc)
 | false=>exact⟨h.out.trans (hb.mono h.out.size),fun _=>ho.mono hB,fun e=>(nomatch e),fun e=>(nomatch e)⟩
theorem JSq.call2 {V W W':World}{B:Nat}{o:List Int}{L:List (List Int)}{u pv pv':Slc}(h:JSq V B o L true false u pv W) (ho:OutL LS B W' B pv'.v L) (hb:Below W.heap.size W W'):JSq V B o L true true u pv' W':=
 ⟨h.out.trans (hb.mono h.out.size),fun _=>(h.o1 rfl).below hb,fun _=>ho,fun _=>rfl⟩
theorem LocT.own_rep {α:Type}{E:El α}{T:TypeId}{L:List TypeId}{B base:Nat}{w:World}{v:Value}{xs:List α}(h:Own E T w base v xs) (hT:T∉L):LocT L B w (fun W=>Rep E W v xs):=(LocT.own h hT).map fun _ k=>k.rep
theorem OutL.own {Ls:List TypeId}{B:Nat}{w:World}{base:Nat}{v:Value}{L:List (List Int)}(h:OutL Ls B w base v L):∃ u:Slc,v=u.v∧True:=by
 obtain⟨-,us,h1,h2,h3⟩:=h;obtain⟨u,hu,-⟩:=h2.toSlc;exact⟨u,hu,trivial⟩
def RetSea (w:World) (n:Nat) (outs:List (List Int)) (e:Ending) (w':World):Prop:=∃ (cn:Nat) (vo:Slc),cn≤n∧e = .returned (.agg #[.int .i64 (cn:Int),.slice vo.a vo.n vo.cap])∧OutL LS w.heap.size w' w.heap.size vo.v outs∧Below w.heap.size w w'
def SeqPost (p:List (List Ins)) (w:World) (e:Ending) (w':World):Prop:=∃ (seen taken:List Sq) (outs:List (List Int)),SAll (sqDone p) sqOut (p.length * 3+3) (sqStart p) (sqNext p) [] seen taken outs∧RetSea w 68719476000 outs e w'
theorem sqDo_bytes {p:List (List Ins)}{s:Sq}(h:SqOk p s) (hrow:∀ r∈p,r.length≤7):byteR s.pc∧byteR s.rg∧byteR s.mm:=by
 refine⟨fun x hx => ?_,fun x hx=>by have:=h.rg x hx;omega,fun x hx=>by have:=h.mm x hx;omega⟩;obtain⟨t,ht,rfl⟩:=List.mem_iff_getElem.1 hx;obtain⟨r,hr⟩:=get_of_lt (xs:=p) (k:=t) (by rw[← h.lp];exact ht);have h1:=h.pc t s.pc[t] r (List.getElem?_eq_getElem ht) hr;have h2:=hrow r (List.mem_of_getElem? hr);omega
structure SeqR (p:List (List Ins)) (w:World) (O:Nat) (vt:Value) (gk:Nat) (v:Value) (work seen taken:List Sq) (outs:List (List Int)) (vo:Slc) (g cap:Nat) (wr:World):Prop where
 hv:v = .slice (some ⟨g,0,none⟩) work.length cap
 ph:phi 3 (sqLeft p) work=gk
 sr:Srch (sqDone p) sqOut (p.length * 3+3) 3 (sqLeft p) 68719476000 (sqStart p) (sqNext p) work seen taken outs
 se:SeaL w.heap.size w.heap.size O vt v (work.map stQ) (seen.map kyS) taken.length vo outs wr
 lo:outs.length≤taken.length
 bl:Below w.heap.size w wr
def SeqRel (p:List (List Ins)) (w:World) (O:Nat) (vt:Value) (gk:Nat) (v:Value) (wr:World):Prop:=∃ work seen taken outs vo g cap,SeqR p w O vt gk v work seen taken outs vo g cap wr
def SeqIRel (p:List (List Ins)) (w:World) (O S:Nat) (vt:Value) (x:SV) (s:Sq) (M:Nat) (taken:List Sq) (outs:List (List Int)) (vo:Slc) (k:Nat) (v:Value) (wr:World):Prop:=∃ (work seen:List Sq) (g cap:Nat),
 v = .slice (some ⟨g,0,none⟩) work.length cap∧SrchM (sqDone p) sqOut (p.length * 3+3) 3 (sqLeft p) 68719476000 (sqStart p) (sqNext p) M s k work seen (s :: taken) outs ∧
 SeaL w.heap.size w.heap.size O vt v (work.map stQ) (seen.map kyS) (taken.length+1) vo outs wr∧wr.heap[S]? = some (.cells #[.slice x.p.a x.p.n x.p.cap,.slice x.r.a x.r.n x.r.cap,.slice x.m.a x.m.n x.m.cap,.slice x.b.a x.b.n x.b.cap] 64 (0,0)) ∧
 g≠S∧LocT LS w.heap.size wr (fun W=>RepSt W x (stQ s))∧Below w.heap.size w wr∧outs.length≤taken.length+1
theorem Own.litSt (w:World) {base:Nat}(hb:base≤w.heap.size) (x:SV):Own StE 64 (w.alloc (.cells #[.slice x.p.a x.p.n x.p.cap,.slice x.r.a x.r.n x.r.cap,.slice x.m.a x.m.n x.m.cap,.slice x.b.a x.b.n x.b.cap] 64)) base (.slice (some ⟨w.heap.size,0,none⟩) 1 1) [x]:=by
 refine⟨rfl,.inr ⟨w.heap.size,1,#[.slice x.p.a x.p.n x.p.cap,.slice x.r.a x.r.n x.r.cap,.slice x.m.a x.m.n x.m.cap,.slice x.b.a x.b.n x.b.cap],rfl,hb,heap_alloc_new w _,Nat.le_refl _,by unfold maxLen;omega,rfl,rfl⟩⟩
theorem hgk_lt {a b c d:Nat}(h:a < b) (h1:b=c) (h2:c=d):a < d:=by omega
theorem tot3:dW 3 21≤68719476000:=by decide
theorem l3Seq_any (vp:Value) (p:List (List Ins)) (w:World) (hp:RepP w vp p) (hv:progValid p=true) :
 Calls Try.prog 22 #[vp] w (SeqPost p w):=by
 obtain⟨va,vc,rfl,hc1,hc2,hc3,hp⟩:=hp.open;have HP:=hide hp;have HV:=hide hv
 have hpl:p.length≤3:=(valid_le hv).1;have hpr:∀ r∈p,r.length≤7:=fun r hr=>((valid_le hv).2.2.1 r hr).1;have HPR:=hide hpr;have HIV:=hide (valid_ins hv);clear hp hv hpr;generalize hn:p.length=n at *;have HN:=hide hn;clear hn;obtain⟨A0,hA0⟩:∃ A0,A0=w.alloc (.cells #[.int .i64 0,.slice none 0 0] 45):=⟨_,rfl⟩
 have HB:Hid (Below w.heap.size w A0):=hide (by rw[hA0];exact belowAlloc _ _);have hz:A0.heap.size=w.heap.size+1:=by rw[hA0];simp
 have HN2:Hid (A0.heap[w.heap.size]? = some (.cells #[.int .i64 0,.slice none 0 0] 45 (0,0))):=hide (by rw[hA0];exact heap_alloc_new w _);have HA0:=hide hA0;clear hA0;have hs0:(⟨List.replicate n 0,List.replicate (n * 3) 0,List.replicate 3 0,List.replicate 0 []⟩:St)=stQ (sqStart p):=by rw[← HN.out];rfl
 have HSTART:Hid (∀ w',Calls Try.prog 37 #[.slice va n vc,.int .i64 0] w' (RetSt w' (stQ (sqStart p)))):=hide (fun w'=>hs0 ▸ (l3Start_any va vc n 0 w' (by omega) (by omega)));have HST:=hide (Srch.init (start:=sqStart p) (next:=sqNext p) (done:=sqDone p) (out:=sqOut) (n:=p.length * 3+3) (b:=3) (rank:=sqLeft p) (tot:=68719476000) (Nat.le_trans (dW_mono (by decide) (sqLeft_le HV.out _)) tot3));have HKEY:=hide (fun (x:SV) (s:Sq) (w':World) (hok:SqOk p s) (hr:RepSt w' x (stQ s))=>(by
  obtain⟨k1,k2,k3⟩:=sqDo_bytes hok HPR.out;have h1:=hok.lp;have h2:=hok.lr;have h3:=hok.lm;have h4:=HN.out;have:=l3Key_any x (stQ s) w' hr (by show s.pc.length≤1000;omega) (by show s.rg.length≤1000;omega) (by show s.mm.length≤1000;omega) (by simp) (by simp) k1 k2 k3 (by simp);rwa[stKey_q]at this:Calls Try.prog 39 #[.agg #[.slice x.p.a x.p.n x.p.cap,.slice x.r.a x.r.n x.r.cap,.slice x.m.a x.m.n x.m.cap,.slice x.b.a x.b.n x.b.cap]] w' fun e w''=>e = .returned (.string (kyS s))∧Below w'.heap.size w' w''))
 have HKSZ:=hide (fun (s:Sq) (hok:SqOk p s)=>(by
  have h1:=hok.lp;have h2:=hok.lr;have h3:=hok.lm;have h4:=HN.out;rw[strOfNums_size];unfold sqKey;simp only[List.length_append];omega:(kyS s).size≤1000000))
 have HMARK:=hide (fun (vt:Value) (ks:List ByteArray) (s:Sq) (base:Nat) (w':World) (hok:SqOk p s) (hr:Tab w' base vt ks) (hk:ks.length≤68719476736) (hB:base≤w'.heap.size)=>l3Mark_any vt ks (kyS s) base w' hr (HKSZ.out s hok) hk hB);have HOK0:=hide (SqOk.start p);have HINJ:=hide (fun (a b:Sq) (ha:ReachM (sqStart p) (sqNext p) a) (hb:ReachM (sqStart p) (sqNext p) b) (e:kyS a=kyS b)=>(by
  have ka:=sqDo_bytes (SqOk.reach HIV.out ha) HPR.out;have kb:=sqDo_bytes (SqOk.reach HIV.out hb) HPR.out;refine sqKey_reach HIV.out a b ha hb (keyB_inj (fun x hx => ?_) (fun x hx => ?_) e)
  ·rcases List.mem_append.1 hx with h | h
   ·rcases List.mem_append.1 h with h | h
    ·exact ka.1 x h
    ·exact ka.2.1 x h
   ·exact ka.2.2 x h
  ·rcases List.mem_append.1 hx with h | h
   ·rcases List.mem_append.1 h with h | h
    ·exact kb.1 x h
    ·exact kb.2.1 x h
   ·exact kb.2.2 x h:a=b))
 clear hs0;go_enter Try.func22,Try.ntmps22;go_wp2_with (first
  | (at_make;refine wpList_make SlcE 51 ⟨none,0,0⟩ Try.infoStrSM rfl Try.underlying62 4096 (by decide) (by omega) rfl _ _ rfl rfl rfl ?_;intro w1 hown1 hgr1;rw[← HA0.out]at hown1 hgr1;rw[hz]at hown1;have T1:=hide (Own2.made (E:=StrE) (T2:=9) hown1);have B1:=hide ((Below.refl A0.heap.size A0).grown hgr1 (Nat.le_refl _) (fun q hq=>nomatch hq));have hsz1:=B1.out.size;clear hown1 hgr1)
  | (go_at_call 37;(with_reducible refine(HSTART.out _).mono ?_);rintro e w2 ⟨x,m,rfl,hs2,hb2⟩;have S2:=hide hs2;have B2:=hide hb2;have hsz2:=hb2.size;have T2:=hide (((T1.out.mono (show w.heap.size≤w.heap.size+1 by omega)).below hb2).below (belowAlloc w2 (.cells #[.slice x.p.a x.p.n x.p.cap,.slice x.r.a x.r.n x.r.cap,.slice x.m.a x.m.n x.m.cap,.slice x.b.a x.b.n x.b.cap] 64)));clear hs2 hb2)
  | (go_at_call 39;(with_reducible refine(HKEY.out x (sqStart p) _ HOK0.out (S2.out.rep.below (belowAlloc _ _))).mono ?_);rintro e w3 ⟨rfl,hb3⟩;have B3:=hide hb3;have hsz3:=hb3.size;have T3:Hid (Tab w3 w.heap.size (.slice (some ⟨w.heap.size+1,0,none⟩) 4096 4096) []):=hide (by show Own2 _ _ _ _ _ _ (rowsT []);rw[rowsT_nil];exact T2.out.below hb3);clear hb3)
  | (go_at_call 38;(with_reducible refine(HMARK.out _ [] (sqStart p) w.heap.size w3 HOK0.out T3.out (by simp) (by simp at hsz3;omega)).mono ?_);rintro e w4 ⟨rfl,ht4,hk4⟩;have T4:=hide ht4;have K4:=hide hk4;have hsz4:=hk4.size;clear ht4 hk4))
 obtain⟨V0,hV0⟩:∃ V0,V0=(w4.alloc (.cells #[] 34)).alloc (.cells #[.int .i64 0,.slice (some ⟨w4.heap.size,0,none⟩) 0 0] 45):=⟨_,rfl⟩
 simp only[World.size_alloc]at hsz3;have BV4:Below w4.heap.size w4 V0:=by rw[hV0];exact(belowAlloc w4 _).alloc (by simp) _
 have BW2:Below w.heap.size w w2:=(HB.out.trans (B1.out.mono HB.out.size)).trans (B2.out.mono (Nat.le_trans HB.out.size hsz1));have BW3:Below w.heap.size w w3:=(BW2.alloc BW2.size _).trans (B3.out.mono (by simp;have:=BW2.size;omega));have BW4:Below w.heap.size w w4:=BW3.trans (K4.out.below BW3.size);have BL0:Below w.heap.size w V0:=BW4.trans (BV4.mono BW4.size);have WK:WorkL V0 w.heap.size (.slice (some ⟨w2.heap.size,0,none⟩) 1 1) [stQ (sqStart p)]:=by
  refine⟨[x],rfl,(((LocT.own (Own.litSt w2 BW2.size x) (L:=[51,9]) (B:=w.heap.size) (by decide)).step (.of_below B3.out)).keep w4 K4.out).below BV4,fun i y s hy hs => ?_⟩;cases i with
  | zero =>
   simp at hy hs;subst hy;subst hs;exact((((S2.out.loc (L:=LS) (B:=w.heap.size) (by decide) (by decide)).step (.of_below (belowAlloc _ _))).step (.of_below B3.out)).step (K4.out.more (by decide) (Nat.le_refl _))).step (.of_below BV4)
  | succ i=>simp at hy
 have SE0:SeaL w.heap.size w.heap.size (w4.heap.size+1) (.slice (some ⟨w.heap.size+1,0,none⟩) 4096 4096) (.slice (some ⟨w2.heap.size,0,none⟩) 1 1) [stQ (sqStart p)] [kyS (sqStart p)] 0 ⟨some ⟨w4.heap.size,0,none⟩,0,0⟩ [] V0:=by
  refine⟨WK,T4.out.below BV4,?_,by rw[hV0];have h:=heap_alloc_new (w4.alloc (.cells #[] 34)) (.cells #[.int .i64 0,.slice (some ⟨w4.heap.size,0,none⟩) 0 0] 45);simpa using h,?_,Nat.le_refl _,by have:=BW4.size;omega,BL0.size⟩
  ·have h1:=(B1.out.block w.heap.size (by omega)).trans HN2.out
   have h2:=(B2.out.block w.heap.size (by omega)).trans h1;have h3:=((belowAlloc w2 (.cells #[.slice x.p.a x.p.n x.p.cap,.slice x.r.a x.r.n x.r.cap,.slice x.m.a x.m.n x.m.cap,.slice x.b.a x.b.n x.b.cap] 64)).block w.heap.size (by omega)).trans h2;have h4:=(B3.out.block w.heap.size (by simp;omega)).trans h3;have h5:=K4.out.same h4 (by decide);exact(BV4.block w.heap.size (Array.getElem?_eq_some_iff.1 h5).1).trans h5
  ·rw[hV0]
   exact(OutL.empty (Ls:=LS) (B:=w.heap.size) BW4.size).step (.alloc _ _) (by decide)
 have HR0:SeqRel p w (w4.heap.size+1) (.slice (some ⟨w.heap.size+1,0,none⟩) 4096 4096) (phi 3 (sqLeft p) [sqStart p]) (.slice (some ⟨w2.heap.size,0,none⟩) 1 1) V0:=
  ⟨[sqStart p],[sqStart p],[],[],⟨some ⟨w4.heap.size,0,none⟩,0,0⟩,w2.heap.size,1,rfl,rfl,HST.out,SE0,by simp,BL0⟩
 have HRR:=hide HR0;have HV0:=hide hV0;obtain⟨O,hO⟩:∃ O,O=w4.heap.size+1:=⟨_,rfl⟩
 obtain⟨vt,hvt⟩:∃ vt:Value,vt = .slice (some ⟨w.heap.size+1,0,none⟩) 4096 4096:=⟨_,rfl⟩
 simp only[← hV0];clear WK SE0 HR0 BL0 BW4 BW3 BW2 BV4 hV0 T4 K4 T1 B1 B2 S2 T2 B3 T3 HST hsz1 hsz2 hsz3 hsz4;rw[← hO]at HRR ⊢;rw[← hvt]at HRR ⊢;clear hO hvt HV0
 go_loopg [4] (phi 3 (sqLeft p) [sqStart p]) (fun gk v wr=>SeqRel p w O vt gk v wr)
 case atStart=>exact HRR.out
 case round =>
  obtain⟨work,seen,taken,outs,vo,g,cap,rfl,hph,hsr,hse,hlo,hbl⟩:=hrel;have HPH:=hide hph;have HSR:=hide hsr;have HSE:=hide hse;have HLO:=hide hlo;have HBL:=hide hbl
  have hct:taken.length≤68719476000:=Nat.le_trans (Nat.le_add_right _ _) hsr.le;rcases List.eq_nil_or_concat work with rfl | ⟨init,s,rfl⟩
  ·have c0:wr.cell? ⟨O,0,none⟩=some (.int .i64 (taken.length:Int)):=cellH hse.bo (k:=0) rfl
   have c1:wr.cell? ⟨O,1,none⟩=some (.slice vo.a vo.n vo.cap):=cellH hse.bo (k:=1) rfl;have r0:wr.cell? ⟨w.heap.size,0,none⟩=some (.int .i64 0):=cellH hse.bn (k:=0) rfl;have r1:wr.cell? ⟨w.heap.size,1,none⟩=some (.slice none 0 0):=cellH hse.bn (k:=1) rfl;have rfz:=frozH hse.bn;have rl:=lt_of_cell r0;have cl:=lt_of_cell c0;have t0:TyB 45 wr w.heap.size:=⟨_,hse.bn⟩
   have T0:=hide t0;clear hph hsr hse hlo hbl t0;generalize taken.length=cn at *;go_wp2_with fail;have k1:KpT LS w.heap.size wr ((wr.setCell ⟨w.heap.size,0,none⟩ (.int .i64 (cn:Int))).setCell ⟨w.heap.size,1,none⟩ (.slice vo.a vo.n vo.cap)):=(KpT.setT T0.out (by decide) (Nat.le_refl _) _).trans (KpT.setT (T0.out.set _ _ _) (by decide) (Nat.le_refl _) _);refine bodyPost_ret (v:=.agg #[.int .i64 (cn:Int),.slice vo.a vo.n vo.cap]) (by simp[results,Try.results22,go_sem, *]) rfl ⟨seen,taken,outs,HSR.out.all,cn,vo,hct,rfl,?_,?_⟩
   ·exact HSE.out.ol.step k1 (by decide)
   ·exact(HBL.out.setCell (p:=⟨w.heap.size,0,none⟩) (Nat.le_refl _) _).setCell (p:=⟨w.heap.size,1,none⟩) (Nat.le_refl _) _
  ·rw[List.concat_eq_append] at *
   have hwk:=hse.wk;rw[List.map_append,List.map_singleton]at hwk;obtain⟨hn1,hgl,hgB,hcap,hwk',x,hlx,p0,p1,p2,p3⟩:=hwk.pop;rw[List.length_map]at hwk' p0 p1 p2 p3 hn1;have hreach:=hsr.rc (s:=s) (by simp);have HOK:=hide (SqOk.reach HIV.out hreach);have HWK:=hide hwk';have HLX:=hide hlx
   have hlen:(init++[s]).length=init.length+1:=by simp
   rw[hlen]at hcap ⊢;have c0:wr.cell? ⟨O,0,none⟩=some (.int .i64 (taken.length:Int)):=cellH hse.bo (k:=0) rfl;have c1:wr.cell? ⟨O,1,none⟩=some (.slice vo.a vo.n vo.cap):=cellH hse.bo (k:=1) rfl;have cfz:=frozH hse.bo;have cl:=lt_of_cell c0;have hm1:init.length≤68719476000:=by have h1:=hsr.len;have h2:=hsr.num;simp at h2;omega
   clear hph hsr hse hlo hbl hwk hwk' hlx hlen hn1;generalize hm:init.length=m at *;have HM:=hide hm;generalize htn:taken.length=cn at *;have HTN:=hide htn;clear hm htn
   -- TAIL
   go_wp2_with fail;obtain⟨S,hS⟩:∃ S,S=wr.heap.size:=⟨_,rfl⟩
   have ec:((cn+1:Nat):Int)=(cn:Int)+1:=by omega
   have SE0:=((HSE.out.wkS HWK.out (.refl _ _ _)).cnt (cn+1)).below (belowAlloc _ (.cells #[.slice x.p.a x.p.n x.p.cap,.slice x.r.a x.r.n x.r.cap,.slice x.m.a x.m.n x.m.cap,.slice x.b.a x.b.n x.b.cap] 64));have LX0:=(HLX.out.step (KpT.set (j:=0) HSE.out.bo (by decide) (by have:=HSE.out.lN;have:=HSE.out.lO;omega) (.int .i64 ((cn+1:Nat):Int)))).step (.alloc _ (.cells #[.slice x.p.a x.p.n x.p.cap,.slice x.r.a x.r.n x.r.cap,.slice x.m.a x.m.n x.m.cap,.slice x.b.a x.b.n x.b.cap] 64));have BL0:=(HBL.out.setCell (p:=⟨O,0,none⟩) (by have:=HSE.out.lN;have:=HSE.out.lO;show _≤O;omega) (.int .i64 ((cn+1:Nat):Int))).alloc (by simpa using HBL.out.size) (.cells #[.slice x.p.a x.p.n x.p.cap,.slice x.r.a x.r.n x.r.cap,.slice x.m.a x.m.n x.m.cap,.slice x.b.a x.b.n x.b.cap] 64);rw[ec]at SE0 LX0 BL0;obtain⟨V1,hV1⟩:∃ V1,V1=(wr.setCell ⟨O,0,none⟩ (.int .i64 ((cn:Int)+1))).alloc (.cells #[.slice x.p.a x.p.n x.p.cap,.slice x.r.a x.r.n x.r.cap,.slice x.m.a x.m.n x.m.cap,.slice x.b.a x.b.n x.b.cap] 64):=⟨_,rfl⟩
   have SX0:V1.heap[S]? = some (.cells #[.slice x.p.a x.p.n x.p.cap,.slice x.r.a x.r.n x.r.cap,.slice x.m.a x.m.n x.m.cap,.slice x.b.a x.b.n x.b.cap] 64 (0,0)):=by rw[hV1,hS];have h:=heap_alloc_new (wr.setCell ⟨O,0,none⟩ (.int .i64 ((cn:Int)+1))) (.cells #[.slice x.p.a x.p.n x.p.cap,.slice x.r.a x.r.n x.r.cap,.slice x.m.a x.m.n x.m.cap,.slice x.b.a x.b.n x.b.cap] 64);simpa using h
   rw[← hV1]at SE0 LX0 BL0;have HSE0:=hide SE0;have HLX0:=hide LX0;have HBL0:=hide BL0;have HSX0:=hide SX0
   have hgS0:g < S:=by rw[hS];exact hgl
   have hgS:g≠S:=by omega
   have hOS:O < S:=by rw[hS];exact cl
   have HDONE:Hid (Calls Try.prog 40 #[.slice va n vc,.agg #[.slice x.p.a x.p.n x.p.cap,.slice x.r.a x.r.n x.r.cap,.slice x.m.a x.m.n x.m.cap,.slice x.b.a x.b.n x.b.cap]] V1 fun e w'=>e = .returned (.bool (sqDone p s))∧Below V1.heap.size V1 w'):=hide (by
    have:=l3Done_any _ p x (stQ s) V1 (HP.out.below (HBL0.out)) HLX0.out.now HOK.out.lp (by have:=HN.out;omega);exact this)
   have HOUT:Hid (∀ W,RepSt W x (stQ s)→Calls Try.prog 42 #[.agg #[.slice x.p.a x.p.n x.p.cap,.slice x.r.a x.r.n x.r.cap,.slice x.m.a x.m.n x.m.cap,.slice x.b.a x.b.n x.b.cap]] W (RetOwn IntE 3 W (sqOut s))):=hide (fun W h=>l3Outcome_any x (stQ s) W h (by show s.rg.length≤_;have:=HOK.out.lr;have:=HN.out;omega) (by show s.mm.length≤_;have:=HOK.out.lm;omega));have HPUT:=hide (fun W u (hL:OutL LS w.heap.size W w.heap.size vo.v outs) ho hb=>l3Put_any LS w.heap.size w.heap.size (.slice vo.a vo.n vo.cap) u outs (sqOut s) W hL ho (by decide) hb (by have h1:=HLO.out;have h2:=HTN.out;omega));have HSX1:=hide hS;have HOL:=hide (sqOut_length HOK.out);simp only[← hV1];rw[← hS];clear c0 c1 cfz cl p0 p1 p2 p3 SE0 LX0 BL0 SX0 hV1 hS ec hgl hcap HWK HSE HBL HLX;have k0:V1.cell? ⟨S,0,none⟩=some (.slice x.p.a x.p.n x.p.cap):=cellH HSX0.out (k:=0) rfl;cases hd:sqDone p s
   ·have SM0:=hide (HSR.out.no hd)
    have HD:=hide hd;rw[hd]at HDONE;clear hd
    (with_reducible refine HDONE.out.mono ?_);rintro e w1 ⟨rfl,hb1⟩
    have SE2:=hide (HSE0.out.below hb1);have LX2:=hide (HLX0.out.step (.of_below hb1));have BL2:=hide (HBL0.out.trans (hb1.mono HBL0.out.size));have SX2:Hid (w1.heap[S]? = some (.cells #[.slice x.p.a x.p.n x.p.cap,.slice x.r.a x.r.n x.r.cap,.slice x.m.a x.m.n x.m.cap,.slice x.b.a x.b.n x.b.cap] 64 (0,0))):=hide ((hb1.block S (Array.getElem?_eq_some_iff.1 HSX0.out).1).trans HSX0.out)
    clear hb1 k0;go_wp2_with fail;have LO2:Hid (outs.length≤taken.length+1):=hide (by have:=HLO.out;have:=HTN.out;omega);obtain⟨M,hM⟩:∃ M,M=phi 3 (sqLeft p) (init++[s]):=⟨_,rfl⟩
    rw[← hM]at SM0;have HMM:=hide hM;clear hM
    go_loopw [4,7] (fun v i wr => ∃ k:Nat,k≤n∧i = .int .i64 k∧SeqIRel p w O S vt x s M taken (outs) vo k v wr) (fun _ i _=>n - (intOf i).toNat)
    case atStart=>exact⟨0,Nat.zero_le _,rfl,init,seen,g,cap,by rw[HM.out],SM0.out,by have h:=SE2.out;rw[← HTN.out]at h;exact h,SX2.out,hgS,LX2.out,BL2.out,LO2.out⟩
    case round =>
     obtain⟨k,hk,rfl,work2,seen2,g2,cap2,rfl,hsm,hse,hsx,hgS2,hlx,hbl,hlo2⟩:=hrel;have SM3:=hide hsm;have SE3:=hide hse;have SX3:=hide hsx;have LX3:=hide hlx;have BL3:=hide hbl;have HLO2:=hide hlo2
     clear hsm hse hlx hbl hlo2;by_cases hlt:k < n
     ·have hlt':=nat_of_lt hlt
      have d0:wr.cell? ⟨S,0,none⟩=some (.slice x.p.a x.p.n x.p.cap):=cellH hsx (k:=0) rfl;have dl:=lt_of_cell d0;clear hsx;obtain⟨r,hrk⟩:=get_of_lt (xs:=p) (k:=k) (by rw[HN.out];exact hlt);obtain⟨c,hck⟩:=get_of_lt (xs:=s.pc) (k:=k) (by rw[HOK.out.lp,HN.out];exact hlt);obtain⟨hc0,hcr⟩:=HOK.out.pc k c r hck hrk;obtain⟨kn,rfl⟩:∃ kn:Nat,c=kn:=⟨c.toNat,by omega⟩
      have hrl:=HPR.out r (List.mem_of_getElem? hrk);obtain⟨xpa,xpn,xpc,hxp⟩:∃ a n c,x.p=⟨a,n,c⟩:=⟨_,_,_,rfl⟩
      have hrep:Rep IntE wr (.slice xpa xpn xpc) s.pc:=by have h:=LX3.out.now.pc;rw[hxp]at h;exact h
      obtain⟨b1,o1,rfl,hbl1,i0⟩:=hrep.int hck;obtain⟨_,_,hv1,-,-,-,-⟩:=hrep.open;simp only[Value.slice.injEq]at hv1;obtain⟨-,hxn,-⟩:=hv1;have hxn2:(k:Int) < (xpn:Int):=by have:=HOK.out.lp;have:=HN.out;omega
      obtain⟨b2,o2,qa,qc,hb2e,hbl2,q0,q1⟩:=(HP.out.below BL3.out).row hrk;rw[hxp]at d0;simp only at d0;have RK:=hide hrk;have CK:=hide hck
      have hbs:=BL3.out.size;have D0:=hide d0;clear hrk hck q1 hrep hxn hxp;by_cases heq:kn=r.length
      ·have heq':((kn:Int)==(r.length:Int))=true:=by simp[heq]
       have SK:Hid (sqNext p s k=none):=hide (by unfold sqNext;simp[RK.out,CK.out,heq]);clear heq hc0 hcr;subst hb2e;go_wp2_with fail;refine wp_region_bw (by kernel_rfl) (by kernel_rfl) ?_
       repeat (go_big_quiet_step (fail))
       refine wpQuiet_nil ?_;intro w5 hw5;go_wp2_with fail;go_roundw
       case rel=>exact⟨k+1,by omega,by go_num,work2,seen2,g2,cap2,rfl,SM3.out.skip SK.out,SE3.out.below hw5,(hw5.block S dl).trans SX3.out,hgS2,LX3.out.step (.of_below hw5),BL3.out.trans (hw5.mono hbs),HLO2.out⟩
       case measure=>simp[intOf];omega
      ·have heq':((kn:Int)==(r.length:Int))=false:=by simp;omega
       obtain⟨i,hi⟩:=get_of_lt (xs:=r) (k:=kn) (by omega);have hiv:=HIV.out r (List.mem_of_getElem? RK.out) i (List.mem_of_getElem? hi);have SK:Hid (sqNext p s k=some (sqDo s k kn i)):=hide (by unfold sqNext;simp[RK.out,CK.out,hi]);have HOK2:=hide (HOK.out.next HIV.out SK.out);have HRK2:=hide (sqLeft_next HOK.out SK.out);have HDO:Hid (∀ W,Below w.heap.size w W→RepSt W x (stQ s)→Calls Try.prog 43 #[.slice va n vc,.agg #[.slice x.p.a x.p.n x.p.cap,.slice x.r.a x.r.n x.r.cap,.slice x.m.a x.m.n x.m.cap,.slice x.b.a x.b.n x.b.cap],.int .i64 (k:Int)] W (RetSt W (stQ (sqDo s k kn i)))):=hide (fun W hW hx=>l3Do_any _ p x (stQ s) k kn i r W (HP.out.below hW) hx CK.out RK.out hi hiv (by omega) (by show s.pc.length≤_;have:=HOK.out.lp;have:=HN.out;omega) (by show s.rg.length=s.pc.length * 3;rw[HOK.out.lr,HOK.out.lp]) HOK.out.lm (by simp) (by simp) (by omega));clear heq hc0 hcr hi hiv;subst hb2e;go_wp2_with fail;refine wp_region_bw (by kernel_rfl) (by kernel_rfl) ?_
       repeat (go_big_quiet_step (fail))
       refine wpQuiet_nil ?_;intro w5 hw5;have hsx5:=(hw5.block S dl).trans SX3.out;have e0:w5.cell? ⟨S,0,none⟩=some (.slice x.p.a x.p.n x.p.cap):=cellH hsx5 (k:=0) rfl;have e1:w5.cell? ⟨S,1,none⟩=some (.slice x.r.a x.r.n x.r.cap):=cellH hsx5 (k:=1) rfl;have e2:w5.cell? ⟨S,2,none⟩=some (.slice x.m.a x.m.n x.m.cap):=cellH hsx5 (k:=2) rfl;have e3:w5.cell? ⟨S,3,none⟩=some (.slice x.b.a x.b.n x.b.cap):=cellH hsx5 (k:=3) rfl;have el:=lt_of_cell e0;have SE5:=hide (SE3.out.below hw5);have LX5:=hide (LX3.out.step (.of_below hw5));have BL5:=hide (BL3.out.trans (hw5.mono hbs));have SX5:=hide hsx5
       have hbs5:=BL5.out.size;clear d0 dl i0 q0 hsx5 D0 SX3 LX3 SE3 hw5;go_wp2_with (first
        | (go_at_call 43;(with_reducible refine(HDO.out _ BL5.out LX5.out.now).mono ?_);rintro e w6 ⟨y,my,rfl,hs6,hb6⟩;have S6:=hide hs6;have B6:=hide (hb6.alloc hb6.size (.cells #[.slice y.p.a y.p.n y.p.cap,.slice y.r.a y.r.n y.r.cap,.slice y.m.a y.m.n y.m.cap,.slice y.b.a y.b.n y.b.cap] 64));have hsz6:=hb6.size;clear hs6 hb6)
        | (go_at_call 39;(with_reducible refine(HKEY.out y (sqDo s k kn i) _ HOK2.out (S6.out.rep.below (belowAlloc _ _))).mono ?_);rintro e w7 ⟨rfl,hb7⟩;have B7:=hide (B6.out.trans (hb7.mono (by simp;omega)));have HX7:Hid (w7.heap[w6.heap.size]? = some (.cells #[.slice y.p.a y.p.n y.p.cap,.slice y.r.a y.r.n y.r.cap,.slice y.m.a y.m.n y.m.cap,.slice y.b.a y.b.n y.b.cap] 64 (0,0))):=hide ((hb7.block w6.heap.size (by simp)).trans (heap_alloc_new w6 _));have hsz7:=B7.out.size;have LY7:=hide (((S6.out.loc (L:=LS) (B:=w.heap.size) (by decide) (by decide)).step (.alloc _ _)).step (.of_below hb7));clear hb7))
       (with_reducible refine(l3Found_any vt (seen2.map kyS) (kyS (sqDo s k kn i)) w7 (SE5.out.below B7.out).tb.rep (HKSZ.out _ HOK2.out)).mono ?_);rintro e w8 ⟨D,rfl,hD,rfl⟩
       cases D
       ·have HNO:=hide hD
        clear hD;go_wp2_with (first
         | (go_at_call 38;(with_reducible refine(HMARK.out vt (seen2.map kyS) (sqDo s k kn i) w.heap.size w7 HOK2.out (SE5.out.below B7.out).tb (by rw[List.length_map];have:=SM3.out.len;omega) (by omega)).mono ?_);rintro e w9 ⟨rfl,ht9,hk9⟩;have SE9:=hide ((SE5.out.below B7.out).mark ht9 hk9);have K9:=hide hk9;have hx9:=hk9.same HX7.out (by decide);have f0:w9.cell? ⟨w6.heap.size,0,none⟩=some (.slice y.p.a y.p.n y.p.cap):=cellH hx9 (k:=0) rfl;have f1:w9.cell? ⟨w6.heap.size,1,none⟩=some (.slice y.r.a y.r.n y.r.cap):=cellH hx9 (k:=1) rfl;have f2:w9.cell? ⟨w6.heap.size,2,none⟩=some (.slice y.m.a y.m.n y.m.cap):=cellH hx9 (k:=2) rfl;have f3:w9.cell? ⟨w6.heap.size,3,none⟩=some (.slice y.b.a y.b.n y.b.cap):=cellH hx9 (k:=3) rfl;have fl9:=lt_of_cell f0;obtain⟨xs9,hxl9,hown9,hst9⟩:=SE9.out.wk;have O9:=hide hown9;have XL9:=hide hxl9;have ST9:=hide hst9;have hxb9:xs9.length≤68719476736:=(by rw[hxl9,List.length_map];have h1:=SM3.out.num;have h2:=SM3.out.len;omega);have hsz9:=hk9.size;clear hown9 hxl9 hst9 ht9 hk9 hx9)
         | (at_builtin;refine wpList_appAt StE 64 Try.infoStM rfl Try.underlying66 w.heap.size _ xs9 y (O9.out.alloc _) (by decide) hxb9 (by simp;omega) rfl _ _ rfl rfl _ 0 1 rfl news_alloc ?_;intro v10 w10 hown10 hgr10 hat10;have O10:=hide hown10;have G10:=hide hgr10;have A10:=hide hat10;clear hown10 hgr10 hat10))
        rcases O10.out.shape with⟨_,e⟩ | ⟨g10,c10,rfl,hg10,hg10',hc10,_⟩
        ·simp at e
        have hl10:(xs9++[y]).length=(work2++[sqDo s k kn i]).length:=by have:=XL9.out;simp only[List.length_append,List.length_singleton,List.length_map]at this ⊢;omega
        have hgS10:g10≠S:=by
         rcases A10.out with h | ⟨q,h,hq⟩
         ·simp[Value.ownBlock]at h;omega
         ·simp[Value.ownBlock]at h;simp at hq;omega
        have bA:=belowAlloc w9 (.cells #[.slice y.p.a y.p.n y.p.cap,.slice y.r.a y.r.n y.r.cap,.slice y.m.a y.m.n y.m.cap,.slice y.b.a y.b.n y.b.cap] 64);have kA:=KpT.of_below (L:=LS) (B:=w.heap.size) bA;have k9:=K9.out.more (L':=LS) (by decide) (Nat.le_refl _);have hw10:=WorkL.push (s:=stQ (sqDo s k kn i)) XL9.out (O9.out.below bA) (fun i x s h1 h2=>(ST9.out i x s h1 h2).step kA) ((LY7.out.step k9).step kA) O10.out G10.out;have k10:KpT [64] w.heap.size _ w10:=KpT.grown (O9.out.below bA) (by decide) (Nat.le_refl _) G10.out;have se10:=(SE9.out.below bA).wkS hw10 k10;rw[← List.map_singleton (f:=stQ),← List.map_append,← List.map_singleton (f:=kyS),← List.map_append]at se10;rw[hl10]at se10 ⊢;have hS9:w9.heap[S]? = _:=K9.out.same ((B7.out.block S el).trans SX5.out) (by decide);have hSl:=(Array.getElem?_eq_some_iff.1 hS9).1;have hS10:=(G10.out.block S (by simp;omega) (fun e=>by simp[Value.ownBlock]at e;omega)).trans ((heap_alloc_old w9 _ hSl).trans hS9);have lx10:=((((LX5.out.step (.of_below B7.out)).step k9).step kA).step (k10.more (by decide) (Nat.le_refl _)))
        have bl7:=BL5.out.trans (B7.out.mono hbs5);have bl9:=bl7.trans (K9.out.below bl7.size);have bl10:=(bl9.alloc bl9.size (.cells #[.slice y.p.a y.p.n y.p.cap,.slice y.r.a y.r.n y.r.cap,.slice y.m.a y.m.n y.m.cap,.slice y.b.a y.b.n y.b.cap] 64)).grown G10.out (by simp;have:=bl9.size;omega) (fun q hq=>(World.ownsRow.lt O9.out q hq).1);have sm10:=SM3.out.new SK.out (by omega) HRK2.out;have HF:=hide (⟨work2++[sqDo s k kn i],seen2++[sqDo s k kn i],g10,c10,rfl,sm10,se10,hS10,hgS10,lx10,bl10,HLO2.out⟩:SeqIRel p w O S vt x s M taken (outs) vo (k+1) _ w10);clear hw10 k10 se10 hS9 hSl hS10 lx10 bl7 bl9 bl10 sm10 bA kA k9;go_roundw
        case rel=>exact⟨k+1,by omega,by go_num,HF.out⟩
        case measure=>simp[intOf];omega
       ·have SK2:Hid (kyS (sqDo s k kn i)∈seen2.map kyS):=hide (hD.1 rfl)
        clear hD;go_wp2_with fail;go_roundw
        case rel=>exact⟨k+1,by omega,by go_num,work2,seen2,g2,cap2,rfl,SM3.out.old (key:=kyS) SK.out SK2.out HINJ.out,SE5.out.below B7.out,(B7.out.block S el).trans SX5.out,hgS2,LX5.out.step (.of_below B7.out),BL5.out.trans (B7.out.mono hbs5),HLO2.out⟩
        case measure=>simp[intOf];omega
     ·obtain rfl:k=n:=by omega
      have HG:=hide (hgk_lt SM3.out.phi_lt HMM.out HPH.out);have HF:=hide (⟨work2,seen2,s :: taken,outs,vo,g2,cap2,rfl,rfl,SM3.out.leave (fun i t h=>by obtain⟨r,c,y,h1,-⟩:=sqNext_parts h;have:=(List.getElem?_eq_some_iff.1 h1).1;have:=HN.out;omega),SE3.out,HLO2.out,BL3.out⟩:SeqRel p w O vt (phi 3 (sqLeft p) work2) _ wr);go_wp2_with fail
      go_roundg (phi 3 (sqLeft p) work2)
      case measure=>exact HG.out
      case rel=>exact HF.out
   ·have SM0:=hide (HSR.out.yes hd HOL.out)
    rw[hd]at HDONE;clear hd
    (with_reducible refine HDONE.out.mono ?_);rintro e w1 ⟨rfl,hb1⟩
    have SE1:=hide (HSE0.out.below hb1);have LX1:=hide (HLX0.out.step (.of_below hb1));have BL1:=hide (HBL0.out.trans (hb1.mono HBL0.out.size));have SX1:Hid (w1.heap[S]? = some (.cells #[.slice x.p.a x.p.n x.p.cap,.slice x.r.a x.r.n x.r.cap,.slice x.m.a x.m.n x.m.cap,.slice x.b.a x.b.n x.b.cap] 64 (0,0))):=hide ((hb1.block S (Array.getElem?_eq_some_iff.1 HSX0.out).1).trans HSX0.out)
    clear hb1 k0;go_wp2_with fail
    -- reg outs
    refine wp_region_inv3 (n:=6) (by kernel_rfl) rfl (by kernel_rfl) (by kernel_rfl) (fun A ls a' W => ∃ (u:Slc) (pv:Slc) (x43 x44 x45 x46 x47 x48:Value),a'=putAll A [(43,x43),(44,x44),(45,x45),(46,x46),(47,x47),(48,x48)]∧Vd ls 0 [] x43 (.pointer (some ⟨O,1,none⟩))∧Vd ls 1 [] x44 (.slice vo.a vo.n vo.cap)∧Vd ls 2 [] x45 (.agg #[.slice x.p.a x.p.n x.p.cap,.slice x.r.a x.r.n x.r.cap,.slice x.m.a x.m.n x.m.cap,.slice x.b.a x.b.n x.b.cap])∧Vd ls 3 [] x46 (.slice u.a u.n u.cap)∧Vd ls 4 [3] x47 (.slice pv.a pv.n pv.cap)∧Vd ls 5 [] x48 (.pointer (some ⟨O,1,none⟩))∧JSq w1 w.heap.size (sqOut s) (putO (sqOut s) outs) (fl ls 3) (fl ls 4) u pv W) ?r0 ?rs ?re
    case r0 =>
     exact⟨⟨none,0,0⟩,⟨none,0,0⟩,u43,u44,u45,u46,u47,u48,by simp only[putAll,Act.put,List.setIfInBounds_toArray,List.set_cons_succ,List.set_cons_zero],Vd.start,Vd.start,Vd.start,Vd.start,Vd.start,Vd.start,by simp only[fl_start];exact⟨(Below.refl _ _).drew,fun h=>(nomatch h),fun h=>(nomatch h),fun h=>(nomatch h)⟩⟩
    case rs =>
     rintro ls a' W hs hnl ⟨u,pv,x43,x44,x45,x46,x47,x48,ha,cv0,cv1,cv2,cv3,cv4,cv5,hJ⟩ k o hkn mc K hK;simp only[putAll,Act.put,List.setIfInBounds_toArray,List.set_cons_succ,List.set_cons_zero]at ha;subst ha;have hkc:k=0∨k=1∨k=2∨k=3∨k=4∨k=5:=by omega
     have hop:=mc.op;have haf:=mc.after;rcases hkc with rfl | rfl | rfl | rfl | rfl | rfl
     ·simp at hop;subst hop;simp[Region.binds]at haf
      go_simp;exact hK _ _ ⟨u,pv,_,_,_,_,_,_,by simp only[putAll,Act.put,List.setIfInBounds_toArray,List.set_cons_succ,List.set_cons_zero],Vd.same (by simp),cv1.set (by decide),cv2.set (by decide),cv3.set (by decide),cv4.set (by decide),cv5.set (by decide),by rw[fl_set (show 0≠3 by decide),fl_set (show 0≠4 by decide)];exact hJ⟩
     ·simp at hop;subst hop;simp[Region.binds]at haf
      obtain rfl:=(cv0.get (by simp[haf])).symm;have d1:W.cell? ⟨O,1,none⟩=some (.slice vo.a vo.n vo.cap):=cellH ((hJ.out.block O (Array.getElem?_eq_some_iff.1 SE1.out.bo).1).trans SE1.out.bo) (k:=1) rfl;have dl:=lt_of_cell d1;go_simp;exact hK _ _ ⟨u,pv,_,_,_,_,_,_,by simp only[putAll,Act.put,List.setIfInBounds_toArray,List.set_cons_succ,List.set_cons_zero],cv0.set (by decide),Vd.same (by simp),cv2.set (by decide),cv3.set (by decide),cv4.set (by decide),cv5.set (by decide),by rw[fl_set (show 1≠3 by decide),fl_set (show 1≠4 by decide)];exact hJ⟩
     ·simp at hop;subst hop;simp[Region.binds]at haf
      have hbx:=(hJ.out.block S (Array.getElem?_eq_some_iff.1 SX1.out).1).trans SX1.out;have d0:W.cell? ⟨S,0,none⟩=some (.slice x.p.a x.p.n x.p.cap):=cellH hbx (k:=0) rfl;have d1:W.cell? ⟨S,1,none⟩=some (.slice x.r.a x.r.n x.r.cap):=cellH hbx (k:=1) rfl;have d2:W.cell? ⟨S,2,none⟩=some (.slice x.m.a x.m.n x.m.cap):=cellH hbx (k:=2) rfl;have d3:W.cell? ⟨S,3,none⟩=some (.slice x.b.a x.b.n x.b.cap):=cellH hbx (k:=3) rfl;have dl:=lt_of_cell d0;go_simp;exact hK _ _ ⟨u,pv,_,_,_,_,_,_,by simp only[putAll,Act.put,List.setIfInBounds_toArray,List.set_cons_succ,List.set_cons_zero],cv0.set (by decide),cv1.set (by decide),Vd.same (by simp),cv3.set (by decide),cv4.set (by decide),cv5.set (by decide),by rw[fl_set (show 2≠3 by decide),fl_set (show 2≠4 by decide)];exact hJ⟩
     ·simp at hop;subst hop;simp[Region.binds]at haf
      obtain rfl:=(cv2.get (by simp[haf])).symm;have f3:=fl_no mc.new;rw[f3]at hJ;go_simp;go_at_call 42
      (with_reducible refine(HOUT.out W (LX1.out.step (.of_below hJ.out)).now).mono ?_);rintro e u' ⟨v',rfl,ho,hbu⟩
      obtain⟨⟨ua,un,uc⟩,rfl,-⟩:=ho.toSlc;exact hK _ _ ⟨⟨ua,un,uc⟩,pv,_,_,_,_,_,_,by simp only[putAll,Act.put,List.setIfInBounds_toArray,List.set_cons_succ,List.set_cons_zero],cv0.set (by decide),cv1.set (by decide),cv2.set (by decide),Vd.same (by simp),cv4.void (by decide) (by decide) mc.new,cv5.set (by decide),by rw[fl_got hs (by decide),fl_set (show 3≠4 by decide)];exact hJ.call1 ho hbu (by have:=SE1.out.sz;have:=hJ.out.size;omega)⟩
     ·simp at hop;subst hop;simp[Region.binds]at haf
      obtain rfl:=(cv1.get (by simp[haf])).symm;obtain rfl:=(cv3.get (by simp[haf])).symm;have f4:=fl_no mc.new;rw[f4]at hJ;have f3:=fl_yes (show ls[3]? = some true by simp[haf]);rw[f3]at hJ;go_simp;go_at_call 41
      (with_reducible refine(HPUT.out W u (SE1.out.below hJ.out).ol (LocT.own (hJ.o1 rfl) (by decide)) (by have:=SE1.out.sz;have:=hJ.out.size;omega)).mono ?_);rintro e u' ⟨v',rfl,ho,hbu⟩
      obtain⟨⟨ua,un,uc⟩,rfl,-⟩:=ho.own;exact hK _ _ ⟨u,⟨ua,un,uc⟩,_,_,_,_,_,_,by simp only[putAll,Act.put,List.setIfInBounds_toArray,List.set_cons_succ,List.set_cons_zero],cv0.set (by decide),cv1.set (by decide),cv2.set (by decide),cv3.set (by decide),Vd.same (by simp[haf]),cv5.set (by decide),by rw[fl_set (show 4≠3 by decide),fl_got hs (by decide),f3];exact hJ.call2 ho hbu⟩
     ·simp at hop;subst hop;simp[Region.binds]at haf
      go_simp;exact hK _ _ ⟨u,pv,_,_,_,_,_,_,by simp only[putAll,Act.put,List.setIfInBounds_toArray,List.set_cons_succ,List.set_cons_zero],cv0.set (by decide),cv1.set (by decide),cv2.set (by decide),cv3.set (by decide),cv4.set (by decide),Vd.same (by simp),by rw[fl_set (show 5≠3 by decide),fl_set (show 5≠4 by decide)];exact hJ⟩
    case re =>
     rintro ls a' W hall ⟨u,pv,x43,x44,x45,x46,x47,x48,ha,cv0,cv1,cv2,cv3,cv4,cv5,hJ⟩ o hop;simp only[putAll,Act.put,List.setIfInBounds_toArray,List.set_cons_succ,List.set_cons_zero]at ha;subst ha;simp at hop;subst hop;obtain rfl:=(cv0.get (hall 0 (by decide))).symm;obtain rfl:=(cv1.get (hall 1 (by decide))).symm;obtain rfl:=(cv2.get (hall 2 (by decide))).symm;obtain rfl:=(cv3.get (hall 3 (by decide))).symm;obtain rfl:=(cv4.get (hall 4 (by decide))).symm;obtain rfl:=(cv5.get (hall 5 (by decide))).symm;rw[fl_yes (hall 3 (by decide))]at hJ;rw[fl_yes (hall 4 (by decide))]at hJ;have hbo:=(hJ.out.block O (Array.getElem?_eq_some_iff.1 SE1.out.bo).1).trans SE1.out.bo;have d1:W.cell? ⟨O,1,none⟩=some (.slice vo.a vo.n vo.cap):=cellH hbo (k:=1) rfl;have dfz:=frozH hbo;have dl:=lt_of_cell d1;go_simp;have SE2:=hide ((SE1.out.below hJ.out).out (vo':=pv) (hJ.o2 rfl))
     have SX2:Hid ((W.setCell ⟨O,1,none⟩ (.slice pv.a pv.n pv.cap)).heap[S]? = some (.cells #[.slice x.p.a x.p.n x.p.cap,.slice x.r.a x.r.n x.r.cap,.slice x.m.a x.m.n x.m.cap,.slice x.b.a x.b.n x.b.cap] 64 (0,0))):=hide ((heap_setCell_other W ⟨O,1,none⟩ S _ (show S≠O by omega)).trans ((hJ.out.block S (Array.getElem?_eq_some_iff.1 SX1.out).1).trans SX1.out));have LX2:=hide ((LX1.out.step (.of_below hJ.out)).step (KpT.set (j:=1) hbo (by decide) (by have:=SE1.out.lN;have:=SE1.out.lO;omega) (.slice pv.a pv.n pv.cap)));have BL2:=hide ((BL1.out.trans (hJ.out.mono BL1.out.size)).setCell (p:=⟨O,1,none⟩) (by have:=SE1.out.lN;have:=SE1.out.lO;show _≤O;omega) (.slice pv.a pv.n pv.cap));obtain⟨V2,hV2⟩:∃ V2,V2=W.setCell ⟨O,1,none⟩ (.slice pv.a pv.n pv.cap):=⟨_,rfl⟩
     rw[← hV2]at SE2 SX2 LX2 BL2;simp only[← hV2];clear hJ hbo d1 dfz dl hV2;go_wp2_with fail;have LO2:Hid ((putO (sqOut s) outs).length≤taken.length+1):=hide (by have:=HLO.out;have:=HTN.out;have:=putO_le (o:=sqOut s) outs;omega);obtain⟨M,hM⟩:∃ M,M=phi 3 (sqLeft p) (init++[s]):=⟨_,rfl⟩
     rw[← hM]at SM0;have HMM:=hide hM;clear hM
     go_loopw [4,7] (fun v i wr => ∃ k:Nat,k≤n∧i = .int .i64 k∧SeqIRel p w O S vt x s M taken (putO (sqOut s) outs) pv k v wr) (fun _ i _=>n - (intOf i).toNat)
     case atStart=>exact⟨0,Nat.zero_le _,rfl,init,seen,g,cap,by rw[HM.out],SM0.out,by have h:=SE2.out;rw[← HTN.out]at h;exact h,SX2.out,hgS,LX2.out,BL2.out,LO2.out⟩
     case round =>
      obtain⟨k,hk,rfl,work2,seen2,g2,cap2,rfl,hsm,hse,hsx,hgS2,hlx,hbl,hlo2⟩:=hrel;have SM3:=hide hsm;have SE3:=hide hse;have SX3:=hide hsx;have LX3:=hide hlx;have BL3:=hide hbl;have HLO2:=hide hlo2
      clear hsm hse hlx hbl hlo2;by_cases hlt:k < n
      ·have hlt':=nat_of_lt hlt
       have d0:wr.cell? ⟨S,0,none⟩=some (.slice x.p.a x.p.n x.p.cap):=cellH hsx (k:=0) rfl;have dl:=lt_of_cell d0;clear hsx;obtain⟨r,hrk⟩:=get_of_lt (xs:=p) (k:=k) (by rw[HN.out];exact hlt);obtain⟨c,hck⟩:=get_of_lt (xs:=s.pc) (k:=k) (by rw[HOK.out.lp,HN.out];exact hlt);obtain⟨hc0,hcr⟩:=HOK.out.pc k c r hck hrk;obtain⟨kn,rfl⟩:∃ kn:Nat,c=kn:=⟨c.toNat,by omega⟩
       have hrl:=HPR.out r (List.mem_of_getElem? hrk);obtain⟨xpa,xpn,xpc,hxp⟩:∃ a n c,x.p=⟨a,n,c⟩:=⟨_,_,_,rfl⟩
       have hrep:Rep IntE wr (.slice xpa xpn xpc) s.pc:=by have h:=LX3.out.now.pc;rw[hxp]at h;exact h
       obtain⟨b1,o1,rfl,hbl1,i0⟩:=hrep.int hck;obtain⟨_,_,hv1,-,-,-,-⟩:=hrep.open;simp only[Value.slice.injEq]at hv1;obtain⟨-,hxn,-⟩:=hv1;have hxn2:(k:Int) < (xpn:Int):=by have:=HOK.out.lp;have:=HN.out;omega
       obtain⟨b2,o2,qa,qc,hb2e,hbl2,q0,q1⟩:=(HP.out.below BL3.out).row hrk;rw[hxp]at d0;simp only at d0;have RK:=hide hrk;have CK:=hide hck
       have hbs:=BL3.out.size;have D0:=hide d0;clear hrk hck q1 hrep hxn hxp;by_cases heq:kn=r.length
       ·have heq':((kn:Int)==(r.length:Int))=true:=by simp[heq]
        have SK:Hid (sqNext p s k=none):=hide (by unfold sqNext;simp[RK.out,CK.out,heq]);clear heq hc0 hcr;subst hb2e;go_wp2_with fail;refine wp_region_bw (by kernel_rfl) (by kernel_rfl) ?_
        repeat (go_big_quiet_step (fail))
        refine wpQuiet_nil ?_;intro w5 hw5;go_wp2_with fail;go_roundw
        case rel=>exact⟨k+1,by omega,by go_num,work2,seen2,g2,cap2,rfl,SM3.out.skip SK.out,SE3.out.below hw5,(hw5.block S dl).trans SX3.out,hgS2,LX3.out.step (.of_below hw5),BL3.out.trans (hw5.mono hbs),HLO2.out⟩
        case measure=>simp[intOf];omega
       ·have heq':((kn:Int)==(r.length:Int))=false:=by simp;omega
        obtain⟨i,hi⟩:=get_of_lt (xs:=r) (k:=kn) (by omega);have hiv:=HIV.out r (List.mem_of_getElem? RK.out) i (List.mem_of_getElem? hi);have SK:Hid (sqNext p s k=some (sqDo s k kn i)):=hide (by unfold sqNext;simp[RK.out,CK.out,hi]);have HOK2:=hide (HOK.out.next HIV.out SK.out);have HRK2:=hide (sqLeft_next HOK.out SK.out);have HDO:Hid (∀ W,Below w.heap.size w W→RepSt W x (stQ s)→Calls Try.prog 43 #[.slice va n vc,.agg #[.slice x.p.a x.p.n x.p.cap,.slice x.r.a x.r.n x.r.cap,.slice x.m.a x.m.n x.m.cap,.slice x.b.a x.b.n x.b.cap],.int .i64 (k:Int)] W (RetSt W (stQ (sqDo s k kn i)))):=hide (fun W hW hx=>l3Do_any _ p x (stQ s) k kn i r W (HP.out.below hW) hx CK.out RK.out hi hiv (by omega) (by show s.pc.length≤_;have:=HOK.out.lp;have:=HN.out;omega) (by show s.rg.length=s.pc.length * 3;rw[HOK.out.lr,HOK.out.lp]) HOK.out.lm (by simp) (by simp) (by omega));clear heq hc0 hcr hi hiv;subst hb2e;go_wp2_with fail;refine wp_region_bw (by kernel_rfl) (by kernel_rfl) ?_
        repeat (go_big_quiet_step (fail))
        refine wpQuiet_nil ?_;intro w5 hw5;have hsx5:=(hw5.block S dl).trans SX3.out;have e0:w5.cell? ⟨S,0,none⟩=some (.slice x.p.a x.p.n x.p.cap):=cellH hsx5 (k:=0) rfl;have e1:w5.cell? ⟨S,1,none⟩=some (.slice x.r.a x.r.n x.r.cap):=cellH hsx5 (k:=1) rfl;have e2:w5.cell? ⟨S,2,none⟩=some (.slice x.m.a x.m.n x.m.cap):=cellH hsx5 (k:=2) rfl;have e3:w5.cell? ⟨S,3,none⟩=some (.slice x.b.a x.b.n x.b.cap):=cellH hsx5 (k:=3) rfl;have el:=lt_of_cell e0;have SE5:=hide (SE3.out.below hw5);have LX5:=hide (LX3.out.step (.of_below hw5));have BL5:=hide (BL3.out.trans (hw5.mono hbs));have SX5:=hide hsx5
        have hbs5:=BL5.out.size;clear d0 dl i0 q0 hsx5 D0 SX3 LX3 SE3 hw5;go_wp2_with (first
         | (go_at_call 43;(with_reducible refine(HDO.out _ BL5.out LX5.out.now).mono ?_);rintro e w6 ⟨y,my,rfl,hs6,hb6⟩;have S6:=hide hs6;have B6:=hide (hb6.alloc hb6.size (.cells #[.slice y.p.a y.p.n y.p.cap,.slice y.r.a y.r.n y.r.cap,.slice y.m.a y.m.n y.m.cap,.slice y.b.a y.b.n y.b.cap] 64));have hsz6:=hb6.size;clear hs6 hb6)
         | (go_at_call 39;(with_reducible refine(HKEY.out y (sqDo s k kn i) _ HOK2.out (S6.out.rep.below (belowAlloc _ _))).mono ?_);rintro e w7 ⟨rfl,hb7⟩;have B7:=hide (B6.out.trans (hb7.mono (by simp;omega)));have HX7:Hid (w7.heap[w6.heap.size]? = some (.cells #[.slice y.p.a y.p.n y.p.cap,.slice y.r.a y.r.n y.r.cap,.slice y.m.a y.m.n y.m.cap,.slice y.b.a y.b.n y.b.cap] 64 (0,0))):=hide ((hb7.block w6.heap.size (by simp)).trans (heap_alloc_new w6 _));have hsz7:=B7.out.size;have LY7:=hide (((S6.out.loc (L:=LS) (B:=w.heap.size) (by decide) (by decide)).step (.alloc _ _)).step (.of_below hb7));clear hb7))
        (with_reducible refine(l3Found_any vt (seen2.map kyS) (kyS (sqDo s k kn i)) w7 (SE5.out.below B7.out).tb.rep (HKSZ.out _ HOK2.out)).mono ?_);rintro e w8 ⟨D,rfl,hD,rfl⟩
        cases D
        ·have HNO:=hide hD
         clear hD;go_wp2_with (first
          | (go_at_call 38;(with_reducible refine(HMARK.out vt (seen2.map kyS) (sqDo s k kn i) w.heap.size w7 HOK2.out (SE5.out.below B7.out).tb (by rw[List.length_map];have:=SM3.out.len;omega) (by omega)).mono ?_);rintro e w9 ⟨rfl,ht9,hk9⟩;have SE9:=hide ((SE5.out.below B7.out).mark ht9 hk9);have K9:=hide hk9;have hx9:=hk9.same HX7.out (by decide);have f0:w9.cell? ⟨w6.heap.size,0,none⟩=some (.slice y.p.a y.p.n y.p.cap):=cellH hx9 (k:=0) rfl;have f1:w9.cell? ⟨w6.heap.size,1,none⟩=some (.slice y.r.a y.r.n y.r.cap):=cellH hx9 (k:=1) rfl;have f2:w9.cell? ⟨w6.heap.size,2,none⟩=some (.slice y.m.a y.m.n y.m.cap):=cellH hx9 (k:=2) rfl;have f3:w9.cell? ⟨w6.heap.size,3,none⟩=some (.slice y.b.a y.b.n y.b.cap):=cellH hx9 (k:=3) rfl;have fl9:=lt_of_cell f0;obtain⟨xs9,hxl9,hown9,hst9⟩:=SE9.out.wk;have O9:=hide hown9;have XL9:=hide hxl9;have ST9:=hide hst9;have hxb9:xs9.length≤68719476736:=(by rw[hxl9,List.length_map];have h1:=SM3.out.num;have h2:=SM3.out.len;omega);have hsz9:=hk9.size;clear hown9 hxl9 hst9 ht9 hk9 hx9)
          | (at_builtin;refine wpList_appAt StE 64 Try.infoStM rfl Try.underlying66 w.heap.size _ xs9 y (O9.out.alloc _) (by decide) hxb9 (by simp;omega) rfl _ _ rfl rfl _ 0 1 rfl news_alloc ?_;intro v10 w10 hown10 hgr10 hat10;have O10:=hide hown10;have G10:=hide hgr10;have A10:=hide hat10;clear hown10 hgr10 hat10))
         rcases O10.out.shape with⟨_,e⟩ | ⟨g10,c10,rfl,hg10,hg10',hc10,_⟩
         ·simp at e
         have hl10:(xs9++[y]).length=(work2++[sqDo s k kn i]).length:=by have:=XL9.out;simp only[List.length_append,List.length_singleton,List.length_map]at this ⊢;omega
         have hgS10:g10≠S:=by
          rcases A10.out with h | ⟨q,h,hq⟩
          ·simp[Value.ownBlock]at h;omega
          ·simp[Value.ownBlock]at h;simp at hq;omega
         have bA:=belowAlloc w9 (.cells #[.slice y.p.a y.p.n y.p.cap,.slice y.r.a y.r.n y.r.cap,.slice y.m.a y.m.n y.m.cap,.slice y.b.a y.b.n y.b.cap] 64);have kA:=KpT.of_below (L:=LS) (B:=w.heap.size) bA;have k9:=K9.out.more (L':=LS) (by decide) (Nat.le_refl _);have hw10:=WorkL.push (s:=stQ (sqDo s k kn i)) XL9.out (O9.out.below bA) (fun i x s h1 h2=>(ST9.out i x s h1 h2).step kA) ((LY7.out.step k9).step kA) O10.out G10.out;have k10:KpT [64] w.heap.size _ w10:=KpT.grown (O9.out.below bA) (by decide) (Nat.le_refl _) G10.out;have se10:=(SE9.out.below bA).wkS hw10 k10;rw[← List.map_singleton (f:=stQ),← List.map_append,← List.map_singleton (f:=kyS),← List.map_append]at se10;rw[hl10]at se10 ⊢;have hS9:w9.heap[S]? = _:=K9.out.same ((B7.out.block S el).trans SX5.out) (by decide);have hSl:=(Array.getElem?_eq_some_iff.1 hS9).1;have hS10:=(G10.out.block S (by simp;omega) (fun e=>by simp[Value.ownBlock]at e;omega)).trans ((heap_alloc_old w9 _ hSl).trans hS9);have lx10:=((((LX5.out.step (.of_below B7.out)).step k9).step kA).step (k10.more (by decide) (Nat.le_refl _)))
         have bl7:=BL5.out.trans (B7.out.mono hbs5);have bl9:=bl7.trans (K9.out.below bl7.size);have bl10:=(bl9.alloc bl9.size (.cells #[.slice y.p.a y.p.n y.p.cap,.slice y.r.a y.r.n y.r.cap,.slice y.m.a y.m.n y.m.cap,.slice y.b.a y.b.n y.b.cap] 64)).grown G10.out (by simp;have:=bl9.size;omega) (fun q hq=>(World.ownsRow.lt O9.out q hq).1);have sm10:=SM3.out.new SK.out (by omega) HRK2.out;have HF:=hide (⟨work2++[sqDo s k kn i],seen2++[sqDo s k kn i],g10,c10,rfl,sm10,se10,hS10,hgS10,lx10,bl10,HLO2.out⟩:SeqIRel p w O S vt x s M taken (putO (sqOut s) outs) pv (k+1) _ w10);clear hw10 k10 se10 hS9 hSl hS10 lx10 bl7 bl9 bl10 sm10 bA kA k9;go_roundw
         case rel=>exact⟨k+1,by omega,by go_num,HF.out⟩
         case measure=>simp[intOf];omega
        ·have SK2:Hid (kyS (sqDo s k kn i)∈seen2.map kyS):=hide (hD.1 rfl)
         clear hD;go_wp2_with fail;go_roundw
         case rel=>exact⟨k+1,by omega,by go_num,work2,seen2,g2,cap2,rfl,SM3.out.old (key:=kyS) SK.out SK2.out HINJ.out,SE5.out.below B7.out,(B7.out.block S el).trans SX5.out,hgS2,LX5.out.step (.of_below B7.out),BL5.out.trans (B7.out.mono hbs5),HLO2.out⟩
         case measure=>simp[intOf];omega
      ·obtain rfl:k=n:=by omega
       have HG:=hide (hgk_lt SM3.out.phi_lt HMM.out HPH.out);have HF:=hide (⟨work2,seen2,s :: taken,putO (sqOut s) outs,pv,g2,cap2,rfl,rfl,SM3.out.leave (fun i t h=>by obtain⟨r,c,y,h1,-⟩:=sqNext_parts h;have:=(List.getElem?_eq_some_iff.1 h1).1;have:=HN.out;omega),SE3.out,HLO2.out,BL3.out⟩:SeqRel p w O vt (phi 3 (sqLeft p) work2) _ wr);go_wp2_with fail
       go_roundg (phi 3 (sqLeft p) work2)
       case measure=>exact HG.out
       case rel=>exact HF.out
    -- end outs
end Go.Proofs.Ytnkfphndfijcoaa
namespace Go.Proofs.Ytnkfphndfijcoaa
open Go.RowKit
theorem rep_drop2 {W:World}{lb lo n c:Nat}{a b:Int}{rest:List Int}(h:Rep IntE W (.slice (some ⟨lb,lo,none⟩) n c) (a :: b :: rest)):Rep IntE W (.slice (if c=2 then some ⟨lb,lo,none⟩ else some ⟨lb,lo+2,none⟩) (n - 2) (c - 2)) rest:=by
 obtain⟨ad,c',hv,h1,h2,h3⟩:=h;simp only[Value.slice.injEq,List.length_cons]at hv h1;obtain⟨rfl,rfl,rfl⟩:=hv;refine⟨if c=2 then some ⟨lb,lo,none⟩ else some ⟨lb,lo+2,none⟩,c - 2,by congr 1,by omega,by omega,fun i x hx => ?_⟩;obtain⟨bb,oo,hb,hc⟩:=h3 (i+2) x (by simpa using hx);simp only[Option.some.injEq,Addr.mk.injEq,and_true]at hb;obtain⟨rfl,rfl⟩:=hb;have hlt:=(List.getElem?_eq_some_iff.1 hx).1;rw[if_neg (by omega)];refine⟨lb,lo+2,rfl,fun j u hu => ?_⟩;have:=hc j u hu;rw[← this]
 congr 2
 simp only[IntE];omega
structure JF (V:World) (rest:List Int) (c1 c2:Bool) (O2:Nat) (g:Slc) (W:World):Prop where
 bl:Below V.heap.size V W
 lit:c1=true→c2=false→Own IntE 3 W V.heap.size (.slice (some ⟨O2,0,none⟩) 0 0) []
 ap:c2=true→Own IntE 3 W V.heap.size g.v rest
 i:c2=true→c1=true
theorem JF.start {V W:World}(rest:List Int) (O2:Nat) (g:Slc) (h:Below V.heap.size V W):JF V rest false false O2 g W:=⟨h,fun h=>(by cases h),fun h=>(by cases h),fun h=>(by cases h)⟩
theorem JF.lit0 {V W:World}{rest:List Int}{c2:Bool}{O2:Nat}{g:Slc}(h:JF V rest false c2 O2 g W):JF V rest true c2 W.heap.size g (W.alloc (.cells #[] 3)):=by
 have h2:c2=false:=by cases hc:c2 with
  | false=>rfl
  | true=>exact(nomatch h.i hc)
 subst h2;exact⟨h.bl.alloc h.bl.size _,fun _ _=>Own.empty 3 W h.bl.size,fun e=>(by cases e),fun _=>rfl⟩
theorem JF.app {V W W':World}{rest:List Int}{O2:Nat}{g g':Slc}(h:JF V rest true false O2 g W) (ho:Own IntE 3 W' V.heap.size g'.v ([]++rest)) (hg:W.grownBy W' (Slc.v ⟨some ⟨O2,0,none⟩,0,0⟩).ownBlock):JF V rest true true O2 g' W':=
 ⟨h.bl.grown hg h.bl.size (fun q hq=>(World.ownsRow.lt (h.lit rfl rfl) q hq).1),fun _ e=>(by cases e),fun _=>ho,fun _=>rfl⟩
theorem l4Do_f (vp:Value) (p:List (List Ins)) (x:SV) (s:St) (mv k ln:Nat) (v:Int) (rest:List Int) (split:Bool) (w:World) (hp:RepP w vp p) (hx:RepSt w x s) (hmv:mv=p.length+k) (hk:s.bf[k]? = some ((ln:Int) :: v :: rest)) (hln:ln < 3)
 (h1:s.pc.length≤1000) (h2:s.rg.length≤1000) (h3:s.mm.length=3) (h4:s.bf.length≤100) (h5:∀ o∈s.bf,o.length≤1000) :
 Calls Try.prog 48 #[vp,.agg #[.slice x.p.a x.p.n x.p.cap,.slice x.r.a x.r.n x.r.cap,.slice x.m.a x.m.n x.m.cap,.slice x.b.a x.b.n x.b.cap],.bool split,.int .i64 (mv:Int)] w
  (RetSt w ⟨s.pc,s.rg,s.mm.set ln v,s.bf.set k rest⟩):=by
 obtain⟨⟨pa,pn,pk⟩,⟨ra,rn,rk⟩,⟨ma,mn,mk⟩,⟨ba,bn,bk⟩⟩:=x;obtain⟨va,vc,rfl,hc1,hc2,hc3,hp⟩:=hp.open;obtain⟨_,_,hv4,-,-,-,-⟩:=hx.bf.open;simp only[Slc.v,Value.slice.injEq]at hv4;obtain⟨rfl,hn4,rfl⟩:=hv4;obtain⟨b2,o2,qa,qc,rfl,hbl2,q0,q1⟩:=(show Rep2 IntE w (.slice ba bn bk) s.bf from hx.bf).row hk;obtain⟨lb,lo,rfl,hlb,l0⟩:=q1.int (k:=0) rfl;obtain⟨lb',lo',hle,hlb',l1⟩:=q1.int (k:=1) rfl;simp only[Option.some.injEq,Addr.mk.injEq,and_true]at hle;obtain⟨rfl,rfl⟩:=hle;simp only[Nat.add_zero]at l0;have hrow5:=h5 _ (List.mem_of_getElem? hk);obtain⟨n2,hn2⟩:∃ n2,n2=((ln:Int) :: v :: rest).length:=⟨_,rfl⟩
 rw[← hn2]at q0 q1 hrow5;simp only[List.length_cons]at hn2;have hkl:=(List.getElem?_eq_some_iff.1 hk).1;have hsub:IntKind.i64.wrap ((mv:Int) - (p.length:Int))=(k:Int):=by rw[IntKind.wrap_i64];omega
 have hge:(p.length:Int)≤(mv:Int):=by omega
 have hkn:(k:Int) < (bn:Int):=by omega
 have hl0:(0:Int) < (n2:Int):=by omega
 have hl1:(1:Int) < (n2:Int):=by omega
 have hl2:(2:Int)≤(n2:Int):=by omega
 have hl2n:2≤n2:=by omega
 have hl0n:0 < n2:=by omega
 have hl0e:¬ n2=0:=by omega
 have hl0l:¬ (n2:Int)≤0:=by omega
 have hqc:n2≤qc:=by obtain⟨_,_,hv,h,_,_⟩:=q1;simp only[Value.slice.injEq]at hv;omega
 have HX:=hide hx;have HK:=hide hk;have HMM:=hide (show ln < s.mm.length by omega)
 have HRD:=hide (fun W (hW:Below w.heap.size w W)=>rep_drop2 (q1.below hW));have HRL:=hide (show rest.length≤1000 by omega);have HCP:=hide (fun w' (h:RepSt w' ⟨⟨pa,pn,pk⟩,⟨ra,rn,rk⟩,⟨ma,mn,mk⟩,⟨some ⟨b2,o2,none⟩,bn,bk⟩⟩ s)=>l3Copy_any _ s w' h (by omega) (by omega) (by omega) (by omega) (fun o ho=>by have:=h5 o ho;omega));obtain⟨A0,hA0⟩:∃ A0,A0=(w.alloc (.cells #[.slice pa pn pk,.slice ra rn rk,.slice ma mn mk,.slice (some ⟨b2,o2,none⟩) bn bk] 64)).alloc (.cells #[.slice none 0 0,.slice none 0 0,.slice none 0 0,.slice none 0 0] 64):=⟨_,rfl⟩
 have hz:A0.heap.size=w.heap.size+2:=by rw[hA0];simp
 have HX2:Hid (A0.heap[w.heap.size]? = some (.cells #[.slice pa pn pk,.slice ra rn rk,.slice ma mn mk,.slice (some ⟨b2,o2,none⟩) bn bk] 64 (0,0))):=hide (by
  rw[hA0,heap_alloc_old _ _ (by simp)];exact heap_alloc_new w _)
 have HR2:Hid (A0.heap[w.heap.size+1]? = some (.cells #[.slice none 0 0,.slice none 0 0,.slice none 0 0,.slice none 0 0] 64 (0,0))):=hide (by
  have h:=heap_alloc_new (w.alloc (.cells #[.slice pa pn pk,.slice ra rn rk,.slice ma mn mk,.slice (some ⟨b2,o2,none⟩) bn bk] 64)) (.cells #[.slice none 0 0,.slice none 0 0,.slice none 0 0,.slice none 0 0] 64);rw[hA0];simpa using h)
 have HB:Hid (Below w.heap.size w A0):=hide (by rw[hA0];exact(belowAlloc w _).alloc (by simp) _);have a0:A0.cell? ⟨w.heap.size,0,none⟩=some (.slice pa pn pk):=cellH HX2.out (k:=0) rfl;have a1:A0.cell? ⟨w.heap.size,1,none⟩=some (.slice ra rn rk):=cellH HX2.out (k:=1) rfl;have a2:A0.cell? ⟨w.heap.size,2,none⟩=some (.slice ma mn mk):=cellH HX2.out (k:=2) rfl;have a3:A0.cell? ⟨w.heap.size,3,none⟩=some (.slice (some ⟨b2,o2,none⟩) bn bk):=cellH HX2.out (k:=3) rfl;have al:=lt_of_cell a0;have HA0:=hide hA0;have Q0:=hide q0;have L0:=hide l0;have L1:=hide l1;have HMV:=hide hmv
 have HZ:=hide hz;clear hn4 hx hp q1 hA0 hk h1 h2 h3 h4 h5 q0 l0 l1 hlb' hmv hn2 hkl hrow5 hz;generalize hpn:p.length=n at *;clear hpn;go_enter Try.func48,Try.ntmps48;go_wp2_with fail;rw[← HA0.out]
 go_wp2_with (go_at_call 63;(with_reducible refine(HCP.out _ (HX.out.below HB.out)).mono ?_);rintro e w1 ⟨y,m,rfl,hs1,hb1⟩;have S1:=hide hs1;have B1:=hide hb1;have hsz1:=hb1.size;have c3:=(hb1.cell (p:=⟨w.heap.size,3,none⟩) al).trans a3;have c3w:(w1.alloc (.cells #[.slice y.p.a y.p.n y.p.cap,.slice y.r.a y.r.n y.r.cap,.slice y.m.a y.m.n y.m.cap,.slice y.b.a y.b.n y.b.cap] 64)).cell? ⟨w.heap.size,3,none⟩=some (.slice (some ⟨b2,o2,none⟩) bn bk):=((belowAlloc w1 (.cells #[.slice y.p.a y.p.n y.p.cap,.slice y.r.a y.r.n y.r.cap,.slice y.m.a y.m.n y.m.cap,.slice y.b.a y.b.n y.b.cap] 64)).cell (p:=⟨w.heap.size,3,none⟩) (lt_of_cell c3)).trans c3;have c3l:=lt_of_cell c3w;have qw:(w1.alloc (.cells #[.slice y.p.a y.p.n y.p.cap,.slice y.r.a y.r.n y.r.cap,.slice y.m.a y.m.n y.m.cap,.slice y.b.a y.b.n y.b.cap] 64)).cell? ⟨b2,o2+k,none⟩=some (.slice (some ⟨lb,lo,none⟩) n2 qc):=(((HB.out.trans (hb1.mono HB.out.size)).alloc (HB.out.trans (hb1.mono HB.out.size)).size (.cells #[.slice y.p.a y.p.n y.p.cap,.slice y.r.a y.r.n y.r.cap,.slice y.m.a y.m.n y.m.cap,.slice y.b.a y.b.n y.b.cap] 64)).cell (p:=⟨b2,o2+k,none⟩) hbl2).trans Q0.out;have qwl:=lt_of_cell qw;clear hs1 hb1 c3)
 clear c3w c3l qw qwl a0 a1 a2 a3 al;obtain⟨V,hV⟩:∃ V,V=w1.alloc (.cells #[.slice y.p.a y.p.n y.p.cap,.slice y.r.a y.r.n y.r.cap,.slice y.m.a y.m.n y.m.cap,.slice y.b.a y.b.n y.b.cap] 64):=⟨_,rfl⟩
 have hz:=HZ.out;have BV:Hid (Below A0.heap.size A0 V):=hide (by rw[hV];exact B1.out.alloc B1.out.size _);have HD1:Hid (DoF w w1.heap.size m [.slice pa pn pk,.slice ra rn rk,.slice ma mn mk,.slice (some ⟨b2,o2,none⟩) bn bk] y s V):=hide (by
  refine⟨(BV.out.block w.heap.size (by omega)).trans HX2.out,(BV.out.block (w.heap.size+1) (by omega)).trans HR2.out,?_,?_,HB.out.trans (BV.out.mono HB.out.size),by omega,S1.out.lh⟩
  ·rw[hV];exact heap_alloc_new w1 _
  ·have h:=S1.out.below (belowAlloc w1 (.cells #[.slice y.p.a y.p.n y.p.cap,.slice y.r.a y.r.n y.r.cap,.slice y.m.a y.m.n y.m.cap,.slice y.b.a y.b.n y.b.cap] 64));rw[hz]at h;rw[hV];exact h)
 rw[← hV];clear hV S1 B1 hz hsz1 BV;obtain⟨gm,hgm,-⟩:=HD1.out.st.ln.o3.open1 (get_of_lt HMM.out).choose_spec;obtain⟨⟨yp1,yp2,yp3⟩,⟨yr1,yr2,yr3⟩,⟨ym1,ym2,ym3⟩,⟨yb1,yb2,yb3⟩⟩:=y;subst hgm;have hym2:(ln:Int) < (ym2:Int):=by have:=(show ym2=s.mm.length from HD1.out.st.ln.o3.len);have:=HMM.out;omega
 -- reg r4f
 refine wp_region_inv3 (n:=9) (by kernel_rfl) rfl (by kernel_rfl) (by kernel_rfl) (fun A ls a' W => ∃ (x27 x28 x29 x30 x31 x32 x33 x34 x35:Value),a'=putAll A [(27,x27),(28,x28),(29,x29),(30,x30),(31,x31),(32,x32),(33,x33),(34,x34),(35,x35)]∧Vd ls 0 [] x27 (.pointer (some ⟨w1.heap.size,2,none⟩))∧Vd ls 1 [] x28 (.slice (some ⟨gm,0,none⟩) ym2 ym3)∧Vd ls 2 [] x29 (.slice (some ⟨lb,lo,none⟩) n2 qc)∧Vd ls 3 [] x30 (.pointer (some ⟨lb,lo,none⟩))∧Vd ls 4 [] x31 (.int .i64 (ln:Int))∧Vd ls 5 [] x32 (.slice (some ⟨lb,lo,none⟩) n2 qc)∧Vd ls 6 [] x33 (.pointer (some ⟨lb,lo+1,none⟩))∧Vd ls 7 [] x34 (.int .i64 v)∧Vd ls 8 [] x35 (.pointer (some ⟨gm,ln,none⟩))∧Below V.heap.size V W) ?r0 ?rs ?re
 case r0 =>
  exact⟨undef,undef,undef,undef,undef,undef,undef,undef,undef,by simp only[putAll,Act.put,List.setIfInBounds_toArray,List.set_cons_succ,List.set_cons_zero],Vd.start,Vd.start,Vd.start,Vd.start,Vd.start,Vd.start,Vd.start,Vd.start,Vd.start,by exact(Below.refl _ _).drew⟩
 case rs =>
  rintro ls a' W hs hnl ⟨x27,x28,x29,x30,x31,x32,x33,x34,x35,ha,cv0,cv1,cv2,cv3,cv4,cv5,cv6,cv7,cv8,hJ⟩ k o hkn mc K hK;simp only[putAll,Act.put,List.setIfInBounds_toArray,List.set_cons_succ,List.set_cons_zero]at ha;subst ha;have hkc:k=0∨k=1∨k=2∨k=3∨k=4∨k=5∨k=6∨k=7∨k=8:=by omega
  have hop:=mc.op;have haf:=mc.after;rcases hkc with rfl | rfl | rfl | rfl | rfl | rfl | rfl | rfl | rfl
  ·simp at hop;subst hop;simp[Region.binds]at haf
   go_simp;exact hK _ _ ⟨_,_,_,_,_,_,_,_,_,by simp only[putAll,Act.put,List.setIfInBounds_toArray,List.set_cons_succ,List.set_cons_zero],Vd.same (by simp),cv1.set (by decide),cv2.set (by decide),cv3.set (by decide),cv4.set (by decide),cv5.set (by decide),cv6.set (by decide),cv7.set (by decide),cv8.set (by decide),by exact hJ⟩
  ·simp at hop;subst hop;simp[Region.binds]at haf
   obtain rfl:=(cv0.get (by simp[haf])).symm;have d2:W.cell? ⟨w1.heap.size,2,none⟩=some (.slice (some ⟨gm,0,none⟩) ym2 ym3):=cellH ((hJ.block w1.heap.size (Array.getElem?_eq_some_iff.1 HD1.out.bo).1).trans HD1.out.bo) (k:=2) rfl;have dl:=lt_of_cell d2;go_simp;exact hK _ _ ⟨_,_,_,_,_,_,_,_,_,by simp only[putAll,Act.put,List.setIfInBounds_toArray,List.set_cons_succ,List.set_cons_zero],cv0.set (by decide),Vd.same (by simp),cv2.set (by decide),cv3.set (by decide),cv4.set (by decide),cv5.set (by decide),cv6.set (by decide),cv7.set (by decide),cv8.set (by decide),by exact hJ⟩
  ·simp at hop;subst hop;simp[Region.binds]at haf
   go_simp;exact hK _ _ ⟨_,_,_,_,_,_,_,_,_,by simp only[putAll,Act.put,List.setIfInBounds_toArray,List.set_cons_succ,List.set_cons_zero],cv0.set (by decide),cv1.set (by decide),Vd.same (by simp),cv3.set (by decide),cv4.set (by decide),cv5.set (by decide),cv6.set (by decide),cv7.set (by decide),cv8.set (by decide),by exact hJ⟩
  ·simp at hop;subst hop;simp[Region.binds]at haf
   obtain rfl:=(cv2.get (by simp[haf])).symm;go_simp;exact hK _ _ ⟨_,_,_,_,_,_,_,_,_,by simp only[putAll,Act.put,List.setIfInBounds_toArray,List.set_cons_succ,List.set_cons_zero],cv0.set (by decide),cv1.set (by decide),cv2.set (by decide),Vd.same (by simp),cv4.set (by decide),cv5.set (by decide),cv6.set (by decide),cv7.set (by decide),cv8.set (by decide),by exact hJ⟩
  ·simp at hop;subst hop;simp[Region.binds]at haf
   obtain rfl:=(cv3.get (by simp[haf])).symm;have hbw:=HD1.out.bl.trans (hJ.mono HD1.out.bl.size);have q2:=(hbw.cell (p:=⟨lb,lo,none⟩) hlb).trans L0.out;have ql:=lt_of_cell q2;go_simp;exact hK _ _ ⟨_,_,_,_,_,_,_,_,_,by simp only[putAll,Act.put,List.setIfInBounds_toArray,List.set_cons_succ,List.set_cons_zero],cv0.set (by decide),cv1.set (by decide),cv2.set (by decide),cv3.set (by decide),Vd.same (by simp),cv5.set (by decide),cv6.set (by decide),cv7.set (by decide),cv8.set (by decide),by exact hJ⟩
  ·simp at hop;subst hop;simp[Region.binds]at haf
   go_simp;exact hK _ _ ⟨_,_,_,_,_,_,_,_,_,by simp only[putAll,Act.put,List.setIfInBounds_toArray,List.set_cons_succ,List.set_cons_zero],cv0.set (by decide),cv1.set (by decide),cv2.set (by decide),cv3.set (by decide),cv4.set (by decide),Vd.same (by simp),cv6.set (by decide),cv7.set (by decide),cv8.set (by decide),by exact hJ⟩
  ·simp at hop;subst hop;simp[Region.binds]at haf
   obtain rfl:=(cv5.get (by simp[haf])).symm;go_simp;exact hK _ _ ⟨_,_,_,_,_,_,_,_,_,by simp only[putAll,Act.put,List.setIfInBounds_toArray,List.set_cons_succ,List.set_cons_zero],cv0.set (by decide),cv1.set (by decide),cv2.set (by decide),cv3.set (by decide),cv4.set (by decide),cv5.set (by decide),Vd.same (by simp),cv7.set (by decide),cv8.set (by decide),by exact hJ⟩
  ·simp at hop;subst hop;simp[Region.binds]at haf
   obtain rfl:=(cv6.get (by simp[haf])).symm;have hbw:=HD1.out.bl.trans (hJ.mono HD1.out.bl.size);have q2:=(hbw.cell (p:=⟨lb,lo+1,none⟩) hlb).trans L1.out;have ql:=lt_of_cell q2;go_simp;exact hK _ _ ⟨_,_,_,_,_,_,_,_,_,by simp only[putAll,Act.put,List.setIfInBounds_toArray,List.set_cons_succ,List.set_cons_zero],cv0.set (by decide),cv1.set (by decide),cv2.set (by decide),cv3.set (by decide),cv4.set (by decide),cv5.set (by decide),cv6.set (by decide),Vd.same (by simp),cv8.set (by decide),by exact hJ⟩
  ·simp at hop;subst hop;simp[Region.binds]at haf
   obtain rfl:=(cv1.get (by simp[haf])).symm;obtain rfl:=(cv4.get (by simp[haf])).symm;go_simp;exact hK _ _ ⟨_,_,_,_,_,_,_,_,_,by simp only[putAll,Act.put,List.setIfInBounds_toArray,List.set_cons_succ,List.set_cons_zero],cv0.set (by decide),cv1.set (by decide),cv2.set (by decide),cv3.set (by decide),cv4.set (by decide),cv5.set (by decide),cv6.set (by decide),cv7.set (by decide),Vd.same (by simp),by exact hJ⟩
 case re =>
  rintro ls a' W hall ⟨x27,x28,x29,x30,x31,x32,x33,x34,x35,ha,cv0,cv1,cv2,cv3,cv4,cv5,cv6,cv7,cv8,hJ⟩ o hop;simp only[putAll,Act.put,List.setIfInBounds_toArray,List.set_cons_succ,List.set_cons_zero]at ha;subst ha;simp at hop;subst hop;obtain rfl:=(cv0.get (hall 0 (by decide))).symm;obtain rfl:=(cv1.get (hall 1 (by decide))).symm;obtain rfl:=(cv2.get (hall 2 (by decide))).symm;obtain rfl:=(cv3.get (hall 3 (by decide))).symm;obtain rfl:=(cv4.get (hall 4 (by decide))).symm;obtain rfl:=(cv5.get (hall 5 (by decide))).symm;obtain rfl:=(cv6.get (hall 6 (by decide))).symm;obtain rfl:=(cv7.get (hall 7 (by decide))).symm;obtain rfl:=(cv8.get (hall 8 (by decide))).symm;obtain⟨hD,hgl,⟨z,hz0⟩,hfz⟩:=(HD1.out.below hJ).mm (k:=ln) rfl HMM.out (v);go_simp;have HD2:=hide hD;obtain⟨V2,hV2⟩:∃ V2,V2=W.setCell ⟨gm,ln,none⟩ (.int .i64 (v)):=⟨_,rfl⟩
  rw[← hV2]at HD2;simp only[← hV2];clear hD hgl hz0 hfz hJ hV2;go_wp2_with fail;obtain⟨us,hU,-⟩:=HD2.out.st.bf.told;rcases hU.2.1.shape with⟨_,hn⟩ | ⟨gb,cb,hyb,-⟩
  ·exfalso
   have h1:=hU.1;have h2:=(List.getElem?_eq_some_iff.1 HK.out).1;rw[hn]at h1;simp at h1;have h3:s.bf.length=0:=by first | exact h1.symm | simpa using h1.symm | (rw[← h1];rfl)
   omega
  simp only[Slc.v,Value.slice.injEq]at hyb;obtain⟨rfl,rfl,rfl⟩:=hyb;obtain⟨u,hu,hgl,hcell,hrow,-⟩:=hU.row HK.out;have HCELL:=hide hcell;have HUU:=hide hu;have HFZ:Hid (V2.frozen? ⟨gb,k,none⟩=false):=hide (hU.2.1.frozen _)
  have HU:=hide hU;have HGL:=hide hgl
  have hku:(k:Int) < (us.length:Int):=by have:=(List.getElem?_eq_some_iff.1 hu).1;omega
  clear hU hu hcell hrow hgl
  -- reg r5f
  refine wp_region_inv3 (n:=11) (by kernel_rfl) rfl (by kernel_rfl) (by kernel_rfl) (fun A ls a' W => ∃ (O2:Nat) (g:Slc) (x36 x37 x38 x39 x40 x41 x42 x43 x44 x45 x46:Value),a'=putAll A [(36,x36),(37,x37),(38,x38),(39,x39),(40,x40),(41,x41),(42,x42),(43,x43),(44,x44),(45,x45),(46,x46)]∧Vd ls 0 [] x36 (.pointer (some ⟨w1.heap.size,3,none⟩))∧Vd ls 1 [] x37 (.slice (some ⟨gb,0,none⟩) us.length yb3)∧Vd ls 2 [] x38 (.int .i64 (mv:Int))∧Vd ls 3 [] x39 (.slice va n vc)∧Vd ls 4 [] x40 (.int .i64 (n:Int))∧Vd ls 5 [] x41 (.int .i64 (k:Int))∧Vd ls 6 [] x42 (.slice (some ⟨O2,0,none⟩) 0 0)∧Vd ls 7 [] x43 (.slice (some ⟨lb,lo,none⟩) n2 qc)∧Vd ls 8 [] x44 (.slice (if qc=2 then some ⟨lb,lo,none⟩ else some ⟨lb,lo+2,none⟩) (n2 - 2) (qc - 2))∧Vd ls 9 [6] x45 (.slice g.a g.n g.cap)∧Vd ls 10 [] x46 (.pointer (some ⟨gb,k,none⟩))∧JF V2 rest (fl ls 6) (fl ls 9) O2 g W) ?r0 ?rs ?re
  case r0 =>
   exact⟨0,⟨none,0,0⟩,undef,undef,undef,undef,undef,undef,undef,undef,undef,undef,undef,by simp only[putAll,Act.put,List.setIfInBounds_toArray,List.set_cons_succ,List.set_cons_zero],Vd.start,Vd.start,Vd.start,Vd.start,Vd.start,Vd.start,Vd.start,Vd.start,Vd.start,Vd.start,Vd.start,by simp only[fl_start];exact JF.start rest _ _ (Below.refl _ _).drew⟩
  case rs =>
   rintro ls a' W hs hnl ⟨O2,g,x36,x37,x38,x39,x40,x41,x42,x43,x44,x45,x46,ha,cv0,cv1,cv2,cv3,cv4,cv5,cv6,cv7,cv8,cv9,cv10,hJ⟩ k o hkn mc K hK;simp only[putAll,Act.put,List.setIfInBounds_toArray,List.set_cons_succ,List.set_cons_zero]at ha;subst ha;have hkc:k=0∨k=1∨k=2∨k=3∨k=4∨k=5∨k=6∨k=7∨k=8∨k=9∨k=10:=by omega
   have hop:=mc.op;have haf:=mc.after;rcases hkc with rfl | rfl | rfl | rfl | rfl | rfl | rfl | rfl | rfl | rfl | rfl
   ·simp at hop;subst hop;simp[Region.binds]at haf
    go_simp;exact hK _ _ ⟨O2,g,_,_,_,_,_,_,_,_,_,_,_,by simp only[putAll,Act.put,List.setIfInBounds_toArray,List.set_cons_succ,List.set_cons_zero],Vd.same (by simp),cv1.set (by decide),cv2.set (by decide),cv3.set (by decide),cv4.set (by decide),cv5.set (by decide),cv6.set (by decide),cv7.set (by decide),cv8.set (by decide),cv9.set (by decide),cv10.set (by decide),by rw[fl_set (show 0≠6 by decide),fl_set (show 0≠9 by decide)];exact hJ⟩
   ·simp at hop;subst hop;simp[Region.binds]at haf
    obtain rfl:=(cv0.get (by simp[haf])).symm;have d3:W.cell? ⟨w1.heap.size,3,none⟩=some (.slice (some ⟨gb,0,none⟩) us.length yb3):=cellH ((hJ.bl.block w1.heap.size (Array.getElem?_eq_some_iff.1 HD2.out.bo).1).trans HD2.out.bo) (k:=3) rfl;have dl:=lt_of_cell d3;go_simp;exact hK _ _ ⟨O2,g,_,_,_,_,_,_,_,_,_,_,_,by simp only[putAll,Act.put,List.setIfInBounds_toArray,List.set_cons_succ,List.set_cons_zero],cv0.set (by decide),Vd.same (by simp),cv2.set (by decide),cv3.set (by decide),cv4.set (by decide),cv5.set (by decide),cv6.set (by decide),cv7.set (by decide),cv8.set (by decide),cv9.set (by decide),cv10.set (by decide),by rw[fl_set (show 1≠6 by decide),fl_set (show 1≠9 by decide)];exact hJ⟩
   ·simp at hop;subst hop;simp[Region.binds]at haf
    go_simp;exact hK _ _ ⟨O2,g,_,_,_,_,_,_,_,_,_,_,_,by simp only[putAll,Act.put,List.setIfInBounds_toArray,List.set_cons_succ,List.set_cons_zero],cv0.set (by decide),cv1.set (by decide),Vd.same (by simp),cv3.set (by decide),cv4.set (by decide),cv5.set (by decide),cv6.set (by decide),cv7.set (by decide),cv8.set (by decide),cv9.set (by decide),cv10.set (by decide),by rw[fl_set (show 2≠6 by decide),fl_set (show 2≠9 by decide)];exact hJ⟩
   ·simp at hop;subst hop;simp[Region.binds]at haf
    go_simp;exact hK _ _ ⟨O2,g,_,_,_,_,_,_,_,_,_,_,_,by simp only[putAll,Act.put,List.setIfInBounds_toArray,List.set_cons_succ,List.set_cons_zero],cv0.set (by decide),cv1.set (by decide),cv2.set (by decide),Vd.same (by simp),cv4.set (by decide),cv5.set (by decide),cv6.set (by decide),cv7.set (by decide),cv8.set (by decide),cv9.set (by decide),cv10.set (by decide),by rw[fl_set (show 3≠6 by decide),fl_set (show 3≠9 by decide)];exact hJ⟩
   ·simp at hop;subst hop;simp[Region.binds]at haf
    obtain rfl:=(cv3.get (by simp[haf])).symm;go_simp;exact hK _ _ ⟨O2,g,_,_,_,_,_,_,_,_,_,_,_,by simp only[putAll,Act.put,List.setIfInBounds_toArray,List.set_cons_succ,List.set_cons_zero],cv0.set (by decide),cv1.set (by decide),cv2.set (by decide),cv3.set (by decide),Vd.same (by simp),cv5.set (by decide),cv6.set (by decide),cv7.set (by decide),cv8.set (by decide),cv9.set (by decide),cv10.set (by decide),by rw[fl_set (show 4≠6 by decide),fl_set (show 4≠9 by decide)];exact hJ⟩
   ·simp at hop;subst hop;simp[Region.binds]at haf
    obtain rfl:=(cv2.get (by simp[haf])).symm;obtain rfl:=(cv4.get (by simp[haf])).symm;go_simp;exact hK _ _ ⟨O2,g,_,_,_,_,_,_,_,_,_,_,_,by simp only[putAll,Act.put,List.setIfInBounds_toArray,List.set_cons_succ,List.set_cons_zero],cv0.set (by decide),cv1.set (by decide),cv2.set (by decide),cv3.set (by decide),cv4.set (by decide),Vd.same (by simp),cv6.set (by decide),cv7.set (by decide),cv8.set (by decide),cv9.set (by decide),cv10.set (by decide),by rw[fl_set (show 5≠6 by decide),fl_set (show 5≠9 by decide)];exact hJ⟩
   ·simp at hop;subst hop;simp[Region.binds]at haf
    have f6:=fl_no mc.new;rw[f6]at hJ;go_simp;exact hK _ _ ⟨W.heap.size,g,_,_,_,_,_,_,_,_,_,_,_,by simp only[putAll,Act.put,List.setIfInBounds_toArray,List.set_cons_succ,List.set_cons_zero],cv0.set (by decide),cv1.set (by decide),cv2.set (by decide),cv3.set (by decide),cv4.set (by decide),cv5.set (by decide),Vd.same (by simp),cv7.set (by decide),cv8.set (by decide),cv9.void (by decide) (by decide) mc.new,cv10.set (by decide),by rw[fl_got hs (by decide),fl_set (show 6≠9 by decide)];exact hJ.lit0⟩
   ·simp at hop;subst hop;simp[Region.binds]at haf
    go_simp;exact hK _ _ ⟨O2,g,_,_,_,_,_,_,_,_,_,_,_,by simp only[putAll,Act.put,List.setIfInBounds_toArray,List.set_cons_succ,List.set_cons_zero],cv0.set (by decide),cv1.set (by decide),cv2.set (by decide),cv3.set (by decide),cv4.set (by decide),cv5.set (by decide),cv6.set (by decide),Vd.same (by simp),cv8.set (by decide),cv9.set (by decide),cv10.set (by decide),by rw[fl_set (show 7≠6 by decide),fl_set (show 7≠9 by decide)];exact hJ⟩
   ·simp at hop;subst hop;simp[Region.binds]at haf
    obtain rfl:=(cv7.get (by simp[haf])).symm;go_simp;exact hK _ _ ⟨O2,g,_,_,_,_,_,_,_,_,_,_,_,by simp only[putAll,Act.put,List.setIfInBounds_toArray,List.set_cons_succ,List.set_cons_zero],cv0.set (by decide),cv1.set (by decide),cv2.set (by decide),cv3.set (by decide),cv4.set (by decide),cv5.set (by decide),cv6.set (by decide),cv7.set (by decide),Vd.same (by simp),cv9.set (by decide),cv10.set (by decide),by rw[fl_set (show 8≠6 by decide),fl_set (show 8≠9 by decide)];exact hJ⟩
   ·simp at hop;subst hop;simp[Region.binds]at haf
    obtain rfl:=(cv6.get (by simp[haf])).symm;obtain rfl:=(cv8.get (by simp[haf])).symm;have f9:=fl_no mc.new;rw[f9]at hJ;have f6:=fl_yes (show ls[6]? = some true by simp[haf]);rw[f6]at hJ;refine step_appSAtM IntE 3 Try.infoInt rfl Try.underlying34 V2.heap.size ⟨some ⟨O2,0,none⟩,0,0⟩ [] rest _ (hJ.lit rfl rfl) (HRD.out W (HD2.out.bl.trans (hJ.bl.mono HD2.out.bl.size))) (by decide) (by have:=HRL.out;simp;omega) hJ.bl.size (by rfl) _ _ (by rfl) (by rfl) (by rfl) ?_;intro g6 w6 hown6 hgr6 hat6;exact hK _ _ ⟨O2,g6,_,_,_,_,_,_,_,_,_,_,_,by simp only[putAll,Act.put,List.setIfInBounds_toArray,List.set_cons_succ,List.set_cons_zero],cv0.set (by decide),cv1.set (by decide),cv2.set (by decide),cv3.set (by decide),cv4.set (by decide),cv5.set (by decide),cv6.set (by decide),cv7.set (by decide),cv8.set (by decide),Vd.same (by simp[haf]),cv10.set (by decide),by rw[fl_set (show 9≠6 by decide),fl_got hs (by decide),f6];exact hJ.app hown6 hgr6⟩
   ·simp at hop;subst hop;simp[Region.binds]at haf
    obtain rfl:=(cv1.get (by simp[haf])).symm;obtain rfl:=(cv5.get (by simp[haf])).symm;go_simp;exact hK _ _ ⟨O2,g,_,_,_,_,_,_,_,_,_,_,_,by simp only[putAll,Act.put,List.setIfInBounds_toArray,List.set_cons_succ,List.set_cons_zero],cv0.set (by decide),cv1.set (by decide),cv2.set (by decide),cv3.set (by decide),cv4.set (by decide),cv5.set (by decide),cv6.set (by decide),cv7.set (by decide),cv8.set (by decide),cv9.set (by decide),Vd.same (by simp),by rw[fl_set (show 10≠6 by decide),fl_set (show 10≠9 by decide)];exact hJ⟩
  case re =>
   rintro ls a' W hall ⟨O2,g,x36,x37,x38,x39,x40,x41,x42,x43,x44,x45,x46,ha,cv0,cv1,cv2,cv3,cv4,cv5,cv6,cv7,cv8,cv9,cv10,hJ⟩ o hop;simp only[putAll,Act.put,List.setIfInBounds_toArray,List.set_cons_succ,List.set_cons_zero]at ha;subst ha;simp at hop;subst hop;obtain rfl:=(cv0.get (hall 0 (by decide))).symm;obtain rfl:=(cv1.get (hall 1 (by decide))).symm;obtain rfl:=(cv2.get (hall 2 (by decide))).symm;obtain rfl:=(cv3.get (hall 3 (by decide))).symm;obtain rfl:=(cv4.get (hall 4 (by decide))).symm;obtain rfl:=(cv5.get (hall 5 (by decide))).symm;obtain rfl:=(cv6.get (hall 6 (by decide))).symm;obtain rfl:=(cv7.get (hall 7 (by decide))).symm;obtain rfl:=(cv8.get (hall 8 (by decide))).symm;obtain rfl:=(cv9.get (hall 9 (by decide))).symm;obtain rfl:=(cv10.get (hall 10 (by decide))).symm;rw[fl_yes (hall 6 (by decide))]at hJ;rw[fl_yes (hall 9 (by decide))]at hJ;have dg:W.cell? ⟨gb,k,none⟩=some (.slice u.a u.n u.cap):=(hJ.bl.cell (p:=⟨gb,k,none⟩) HGL.out).trans HCELL.out;have dgl:=lt_of_cell dg;have dfz:W.frozen? ⟨gb,k,none⟩=false:=(World.frozen?_of_block (a:=⟨gb,k,none⟩) (hJ.bl.block gb HGL.out)).trans HFZ.out;go_simp;have ho:=hJ.ap rfl
   have hD:=HD2.out.bfput rfl HU.out HUU.out (ho.mono HD2.out.st.lh) ⟨hJ.bl.os,hJ.bl.tape,hJ.bl.output,hJ.bl.size,fun q hq _=>hJ.bl.block q hq⟩ (fun q hq => .inr (World.ownsRow.lt ho q hq).1);obtain⟨V3,hV3⟩:∃ V3,V3=W.setCell ⟨gb,k,none⟩ (.slice g.a g.n g.cap):=⟨_,rfl⟩
   rw[← hV3]at hD;have HD3:=hide hD;simp only[← hV3];clear hD ho dg dgl dfz hJ hV3;have hD:=HD3.out;have g0:V3.cell? ⟨w1.heap.size,0,none⟩=some (.slice yp1 yp2 yp3):=cellH hD.bo (k:=0) rfl;have g1:V3.cell? ⟨w1.heap.size,1,none⟩=some (.slice yr1 yr2 yr3):=cellH hD.bo (k:=1) rfl;have g2:V3.cell? ⟨w1.heap.size,2,none⟩=some (.slice (some ⟨gm,0,none⟩) ym2 ym3):=cellH hD.bo (k:=2) rfl;have g3:V3.cell? ⟨w1.heap.size,3,none⟩=some (.slice (some ⟨gb,0,none⟩) us.length yb3):=cellH hD.bo (k:=3) rfl;have gl:=lt_of_cell g0;have r0:V3.cell? ⟨w.heap.size+1,0,none⟩=some (.slice none 0 0):=cellH hD.br (k:=0) rfl;have r1:V3.cell? ⟨w.heap.size+1,1,none⟩=some (.slice none 0 0):=cellH hD.br (k:=1) rfl;have r2:V3.cell? ⟨w.heap.size+1,2,none⟩=some (.slice none 0 0):=cellH hD.br (k:=2) rfl;have r3:V3.cell? ⟨w.heap.size+1,3,none⟩=some (.slice none 0 0):=cellH hD.br (k:=3) rfl;have rfz:=frozH hD.br;have rl:=lt_of_cell r0;clear hD;go_wp2_with fail
   all_goals
    have hS:=HD3.out.st.mono (show w.heap.size≤w.heap.size+2 by omega);have t0:TyB 64 V3 (w.heap.size+1):=⟨_,HD3.out.br⟩
    refine bodyPost_ret (v:=.agg #[.slice yp1 yp2 yp3,.slice yr1 yr2 yr3,.slice (some ⟨gm,0,none⟩) ym2 ym3,.slice (some ⟨gb,0,none⟩) us.length yb3]) (by simp[results,Try.results48,go_sem, *]) rfl ⟨⟨⟨yp1,yp2,yp3⟩,⟨yr1,yr2,yr3⟩,⟨some ⟨gm,0,none⟩,ym2,ym3⟩,⟨some ⟨gb,0,none⟩,us.length,yb3⟩⟩,m,rfl,?_,?_⟩
    ·exact(((hS.setT (by decide) (by decide) t0).setT (by decide) (by decide) (t0.set _ _ _)).setT (by decide) (by decide) ((t0.set _ _ _).set _ _ _)).setT (by decide) (by decide) (((t0.set _ _ _).set _ _ _).set _ _ _)
    ·exact(((HD3.out.bl.setCell (p:=⟨w.heap.size+1,0,none⟩) (show w.heap.size≤w.heap.size+1 by omega) _).setCell (p:=⟨w.heap.size+1,1,none⟩) (show w.heap.size≤w.heap.size+1 by omega) _).setCell (p:=⟨w.heap.size+1,2,none⟩) (show w.heap.size≤w.heap.size+1 by omega) _).setCell (p:=⟨w.heap.size+1,3,none⟩) (show w.heap.size≤w.heap.size+1 by omega) _
  -- end r5f
 -- end r4f
end Go.Proofs.Ytnkfphndfijcoaa
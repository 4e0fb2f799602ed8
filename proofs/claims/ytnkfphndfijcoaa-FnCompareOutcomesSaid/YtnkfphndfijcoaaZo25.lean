/-
  The reference's step with views. Condition: bounds on lengths, the step is possible.
-/
import Derived.Test.YtnkfphndfijcoaaZo22
import Derived.Test.YtnkfphndfijcoaaZo07
import Derived.StillTailTactics
import Derived.Test.YtnkfphndfijcoaaZo24
import Derived.Test.YtnkfphndfijcoaaZo17
set_option maxHeartbeats 6400000
set_option maxRecDepth 100000
namespace Go.Proofs.Ytnkfphndfijcoaa
open Go.RowKit
theorem bump_no {loc:Nat}{k a:Int}{v:List Int}(h:v[loc]? = some a) (hk:¬ k≤a):bump loc k v=v:=by
 unfold bump;have e:v.getD loc 0=a:=by rw[List.getD_eq_getElem?_getD,h];rfl
 rw[e,if_neg hk];obtain⟨h1,h2⟩:=List.getElem?_eq_some_iff.1 h;rw[← h2];exact List.set_getElem_self h1
theorem bump_yes {loc:Nat}{k a:Int}{v:List Int}(h:v[loc]? = some a) (hk:k≤a):bump loc k v=v.set loc (a+1):=by
 unfold bump;have e:v.getD loc 0=a:=by rw[List.getD_eq_getElem?_getD,h];rfl
 rw[e,if_pos hk]
theorem OwnVw.lrow {w:World}{base:Nat}{x:SV}{s:Vw}{us lu:List Slc}{ms:List (List MV)}(h:OwnVw w base x s us lu ms) {i:Nat}{l:List Mg}(hl:s.ls[i]? = some l) :
 ∃ gl cl ra rc,x.b=⟨some ⟨gl,0,none⟩,s.ls.length,cl⟩∧lu[i]? = some ⟨ra,l.length,rc⟩∧w.cell? ⟨gl,i,none⟩=some (.slice ra l.length rc)∧base≤gl∧w.frozen? ⟨gl,i,none⟩=false:=by
 have hil:=(List.getElem?_eq_some_iff.1 hl).1;obtain⟨u,hu⟩:=get_of_lt (xs:=lu) (k:=i) (by rw[h.ll];exact hil);obtain⟨mr,hmr⟩:=get_of_lt (xs:=ms) (k:=i) (by rw[h.lm];exact hil);obtain⟨e1,-⟩:=h.mv i mr l hmr hl;have hn:=(h.hm i u mr hu hmr).rep.open;obtain⟨ra,rc,hv,-⟩:=hn;have hue:u=⟨ra,l.length,rc⟩:=by
  obtain⟨a,n,c'⟩:=u;simp only[Slc.v,Value.slice.injEq]at hv;obtain⟨rfl,rfl,rfl⟩:=hv;rw[e1]
 subst hue;rcases h.hl.shape with⟨-,h0⟩ | ⟨gl,cl,hvl,hbl,-,-,-⟩
 ·rw[h0]at hu;simp at hu
 have hbe:x.b=⟨some ⟨gl,0,none⟩,lu.length,cl⟩:=by
  obtain⟨xp,xr,xm,⟨a,n,c'⟩⟩:=x;simp only[Slc.v,Value.slice.injEq]at hvl;obtain⟨rfl,rfl,rfl⟩:=hvl;rfl
 have hhl:=h.hl;rw[hbe]at hhl;have c1:=hhl.cell (j:=0) hu rfl;simp only[SlcE,Nat.mul_one,Nat.add_zero]at c1;exact⟨gl,cl,ra,rc,by rw[hbe,h.ll],hu,c1,hbl,Own.frozen hhl i⟩
theorem bumpM_no {loc:Nat}{k a:Int}{m:Mg}(h:m.view[loc]? = some a) (hk:¬ k≤a):bumpM loc k m=m:=by
 unfold bumpM;rw[bump_no h hk]
theorem Try.infoMsgU:(Try.prog.info? 101).map (fun i=>(i.zero,i.size,i.bytes))=some (some (.agg #[.int .i64 0,.bool false,.slice none 0 0]),3,40):=by kernel_rfl
theorem Rep.takeEW {α:Type}{E:El α}{w:World}{a:Option Addr}{n c:Nat}{xs:List α}(h:Rep E w (.slice a n c) xs) {k:Nat}(hk:k≤xs.length):Rep E w (.slice a k c) (xs.take k):=by
 obtain⟨a',c',hv,h1,h2,h3⟩:=h;simp only[Value.slice.injEq]at hv;obtain⟨rfl,rfl,rfl⟩:=hv;refine⟨a,c,by rw[List.length_take,Nat.min_eq_left hk],by rw[List.length_take];omega,h2,fun i x hx => ?_⟩;rw[List.getElem?_take]at hx;split at hx
 ·exact h3 i x hx
 ·cases hx
theorem wrapA {a:Int}(h:0≤a∧a≤1000000):wrap64 (a+1)=a+1∧IntKind.i64.wrap (a+1)=a+1:=by
 have h1:wrap64 (a+1)=a+1:=by unfold wrap64;omega
 exact⟨h1,by rw[IntKind.wrap_i64];omega⟩
theorem l5Insert_any (x:SV) (s:Vw) (us lu:List Slc) (ms:List (List MV)) (t lc kn:Nat) (val:Int) (w:World) (base B:Nat) (h:OwnVw w base x s us lu ms) (hv3:∀ v∈s.vw,v.length=3) (hva:∀ v∈s.vw,∀ a∈v,0≤a∧a≤1000000)
 (hm3:∀ l∈s.ls,∀ m∈l,m.view.length=3∧∀ a∈m.view,0≤a∧a≤1000000) (hvl:s.vw.length≤3) (ht:t < s.vw.length) (hll:s.ls.length=3) (hl1:∀ l∈s.ls,l.length≤1000) (hlc:lc < 3) (hl00:∀ l∈s.ls,0 < l.length) (hkn:∀ l,s.ls[lc]? = some l→kn≤l.length) (hB:B≤base) :
 Calls Try.prog 74 #[.agg #[.slice x.p.a x.p.n x.p.cap,.slice x.r.a x.r.n x.r.cap,.slice x.m.a x.m.n x.m.cap,.slice x.b.a x.b.n x.b.cap],.int .i64 (t:Int),.int .i64 (lc:Int),.int .i64 (kn:Int),.int .i64 val] w
  fun e w'=>e = .returned (.tuple #[])∧(∃ lu' ms',OwnVw w' base x (vwPut s t lc kn val) us lu' ms')∧KpT [3,102] B w w':=by
 have HO00:=h;obtain⟨v0,hv0⟩:=get_of_lt (xs:=s.vw) (k:=t) ht;obtain⟨gm,cm,-,-,hxm,-,-,-,-⟩:=h.view hv0 (by rw[hv3 v0 (List.mem_of_getElem? hv0)];decide);obtain⟨⟨pa,pn,pk⟩,⟨ra,rn,rk⟩,⟨ma,mn,mk⟩,⟨ba,bn,bk⟩⟩:=x;simp only[Slc.mk.injEq]at hxm;obtain⟨rfl,rfl,rfl⟩:=hxm;have hbn:bn=3:=by
  obtain⟨_,_,hb,-,-⟩:=h.rep.ls.open;simp only[Slc.v,Value.slice.injEq]at hb;omega
 subst hbn;obtain⟨l0,hl0⟩:=get_of_lt (xs:=s.ls) (k:=0) (by omega);obtain⟨gl,cl,-,-,hxb,-⟩:=h.lrow hl0;simp only[Slc.mk.injEq]at hxb;obtain⟨rfl,-,rfl⟩:=hxb;obtain⟨x,hx⟩:∃ x:SV,x=⟨⟨pa,pn,pk⟩,⟨ra,rn,rk⟩,⟨some ⟨gm,0,none⟩,s.vw.length,mk⟩,⟨some ⟨gl,0,none⟩,3,bk⟩⟩:=⟨_,rfl⟩
 rw[← hx]at h;obtain⟨A0,hA0⟩:∃ A0,A0=w.alloc (.cells #[.slice pa pn pk,.slice ra rn rk,.slice (some ⟨gm,0,none⟩) s.vw.length mk,.slice (some ⟨gl,0,none⟩) 3 bk] 79):=⟨_,rfl⟩
 have BA:=hide (show Below w.heap.size w A0 by rw[hA0];exact belowAlloc _ _);have hz:A0.heap.size=w.heap.size+1:=by rw[hA0];simp
 have HX2:Hid (A0.heap[w.heap.size]? = some (.cells #[.slice pa pn pk,.slice ra rn rk,.slice (some ⟨gm,0,none⟩) s.vw.length mk,.slice (some ⟨gl,0,none⟩) 3 bk] 79 (0,0))):=hide (by rw[hA0];exact heap_alloc_new w _);have HA0:=hide hA0;have HO0:=hide (h.below BA.out);have HX:=hide hx;have HV3:=hide hv3;have HVA:=hide hva;have HM3:=hide hm3;have HLL:=hide hll;have HL1:=hide hl1;have HL00:=hide hl00;have HKN:=hide hkn;have HT:=hide ht
 -- no row of the state is the box
 have NB:Hid (∀ (W:World) (q:Nat) (E:Vw) (lu':List Slc) (ms':List (List MV)),q=q):=hide (fun _ _ _ _ _=>rfl);have HBX1:Hid (∀ (W:World) (g j:Nat) (z:Value),g≠w.heap.size→W.heap[w.heap.size]? = some (.cells #[.slice pa pn pk,.slice ra rn rk,.slice (some ⟨gm,0,none⟩) s.vw.length mk,.slice (some ⟨gl,0,none⟩) 3 bk] 79 (0,0))→(W.setCell ⟨g,j,none⟩ z).heap[w.heap.size]? = some (.cells #[.slice pa pn pk,.slice ra rn rk,.slice (some ⟨gm,0,none⟩) s.vw.length mk,.slice (some ⟨gl,0,none⟩) 3 bk] 79 (0,0))):=hide (fun W g j z hg hW=>(heap_setCell_other W ⟨g,j,none⟩ _ z (show w.heap.size≠g from hg.symm)).trans hW);clear hA0 h hx hv3 hva hm3 hll hl1 hv0 HO00 NB hl00 hkn hl0;generalize hvn:s.vw.length=vl at *;have HVN:=hide hvn;clear hvn;go_enter Try.func74,Try.ntmps74;go_wp2_with fail;rw[← HA0.out]
 go_loopw [10] (fun i wr => ∃ n:Nat,n≤vl∧i = .int .i64 n∧Hid (OwnVw wr base x (bst lc kn s n (dl 0 0)) us lu ms)∧Hid (wr.heap[w.heap.size]? = some (.cells #[.slice pa pn pk,.slice ra rn rk,.slice (some ⟨gm,0,none⟩) vl mk,.slice (some ⟨gl,0,none⟩) 3 bk] 79 (0,0)))∧KpT [3,102] B w wr) (fun i _=>vl - (intOf i).toNat)
 case atStart=>exact⟨0,Nat.zero_le _,rfl,hide (by rw[bst_start];exact HO0.out),HX2,.of_below BA.out⟩
 case round =>
  obtain⟨n,hn,rfl,HO,HBX,hb⟩:=hrel;have HBB:=hide hb;have d2:=cellH HBX.out (k:=2) rfl;have dlw:=lt_of_cell d2;clear hb;by_cases hlt:n < vl
  ·have hlt':=nat_of_lt hlt
   obtain⟨v,hv⟩:=get_of_lt (xs:=s.vw) (k:=n) (by rw[HVN.out];exact hlt);have h3:=HV3.out v (List.mem_of_getElem? hv);obtain⟨a,ha⟩:=get_of_lt (xs:=v) (k:=lc) (by rw[h3];exact hlc);obtain⟨ha0,ha1⟩:=HVA.out v (List.mem_of_getElem? hv) a (List.mem_of_getElem? ha);obtain⟨gm',cm',g,c,hxm',hus',h1,hbg,h5⟩:=HO.out.view (t:=n) (bst_view hv) (by rw[h3];decide);rw[HX.out]at hxm';simp only[Slc.mk.injEq,Option.some.injEq,Addr.mk.injEq,and_true]at hxm';obtain⟨rfl,-,-⟩:=hxm';obtain⟨f1,f2,f3⟩:=h5 lc a ha;rw[h3]at h1;have F3:=hide (f3 (a+1));have l1:=lt_of_cell h1;have l2:=lt_of_cell f1
   obtain⟨ag,TG0⟩:=(HO.out.fam.own (2,n,0) _ v (famOf_sv (r':=v) hus' (bst_view hv)).1).typeT (g:=g) rfl;have TG:=hide TG0;clear TG0;have hgne:g≠w.heap.size:=by
    intro e;obtain⟨a',ha'⟩:=(HO.out.fam.own (2,n,0) _ v (famOf_sv (r':=v) hus' (bst_view hv)).1).typeT (g:=g) rfl;rw[e,HBX.out]at ha';simp at ha'
   obtain⟨wa1,wa2⟩:=wrapA ⟨ha0,ha1⟩;have hlc3:(lc:Int) < 3:=Int.ofNat_lt.2 hlc;by_cases hge:(kn:Int)≤a
   ·have hd:decide ((kn:Int)≤a)=true:=decide_eq_true hge
    have ST:=hide (bst_view_succ (loc:=lc) (k:=kn) (D:=dl 0 0) hv);rw[bump_yes ha hge]at ST;clear hge h5 f3 hus';go_wp2_with fail
    go_still_tail 16,(by kernel_rfl)
    go_wp2_with fail;go_roundw
    case rel=>exact⟨n+1,hlt,by go_num,hide (by rw[← ST.out];exact F3.out.below (Below.refl _ _).drew),hide (HBX1.out _ _ _ _ hgne HBX.out),(HBB.out.trans (KpT.set TG.out (by simp) (Nat.le_trans hB hbg) _)).trans (.of_below (Below.refl _ _).drew)⟩
    case measure=>simp[intOf];omega
   ·have hd:decide ((kn:Int)≤a)=false:=decide_eq_false hge
    have ST:=hide (bst_view_same (loc:=lc) (k:=kn) (D:=dl 0 0) hv (bump_no ha hge));clear hge h5 f3 hus';go_wp2_with fail;go_roundw
    case rel=>exact⟨n+1,hlt,by go_num,hide (by rw[ST.out];exact HO.out),HBX,HBB.out⟩
    case measure=>simp[intOf];omega
  ·obtain rfl:n=vl:=Nat.le_antisymm hn (Nat.le_of_not_lt hlt)
   have HO1:=HO;have HBX1':=HBX;have HB1:=HBB
   go_wp2_with fail;clear hlt hn d2 dlw HO HBX HBB HO0 HX2 BA
   go_loopw [11] (fun i wr => ∃ r:Nat,r≤3∧i = .int .i64 r∧Hid (OwnVw wr base x (bst lc kn s n (dl r 0)) us lu ms)∧Hid (wr.heap[w.heap.size]? = some (.cells #[.slice pa pn pk,.slice ra rn rk,.slice (some ⟨gm,0,none⟩) n mk,.slice (some ⟨gl,0,none⟩) 3 bk] 79 (0,0)))∧KpT [3,102] B w wr) (fun i _=>3 - (intOf i).toNat)
   case atStart=>exact⟨0,Nat.zero_le _,rfl,HO1,HBX1',HB1.out⟩
   case round =>
    obtain⟨r,hr,rfl,HO,HBX,hb⟩:=hrel;have HBB:=hide hb;have d3:=cellH HBX.out (k:=3) rfl;have dlw:=lt_of_cell d3;clear hb;by_cases hlt:r < 3
    ·have hlt':(r:Int) < 3:=Int.ofNat_lt.2 hlt
     obtain⟨l,hl⟩:=get_of_lt (xs:=s.ls) (k:=r) (by rw[HLL.out];exact hlt);have hln:=HL1.out l (List.mem_of_getElem? hl);have HL:=hide hl;have HM:=hide (HM3.out l (List.mem_of_getElem? hl));clear hl;go_wp2_with fail;clear d3 dlw
     go_loopw [12] (fun i wr => ∃ j:Nat,j≤l.length∧i = .int .i64 j∧Hid (OwnVw wr base x (bst lc kn s n (dl r j)) us lu ms)∧Hid (wr.heap[w.heap.size]? = some (.cells #[.slice pa pn pk,.slice ra rn rk,.slice (some ⟨gm,0,none⟩) n mk,.slice (some ⟨gl,0,none⟩) 3 bk] 79 (0,0)))∧KpT [3,102] B w wr) (fun i _=>l.length - (intOf i).toNat)
     case atStart=>exact⟨0,Nat.zero_le _,rfl,HO,HBX,HBB.out⟩
     case round =>
      obtain⟨j,hj,rfl,HO,HBX,hb⟩:=hrel;have HBB:=hide hb;have d3:=cellH HBX.out (k:=3) rfl;have dlw:=lt_of_cell d3;clear hb;obtain⟨gl',cl',ra',rc',hxb',hlu',h1,-,-⟩:=HO.out.lrow (bst_row HL.out);rw[HX.out]at hxb';simp only[Slc.mk.injEq,Option.some.injEq,Addr.mk.injEq,and_true]at hxb';obtain⟨rfl,-,-⟩:=hxb';rw[bumpTo_len]at h1 hlu';have l1:=lt_of_cell h1;by_cases hltj:j < l.length
      ·have hltj':=nat_of_lt hltj
       obtain⟨m,hm⟩:=get_of_lt (xs:=l) (k:=j) hltj;obtain⟨hm3,hma⟩:=HM.out m (List.mem_of_getElem? hm);obtain⟨a,ha⟩:=get_of_lt (xs:=m.view) (k:=lc) (by rw[hm3];exact hlc);obtain⟨ha0,ha1⟩:=hma a (List.mem_of_getElem? ha);obtain⟨gl',cl',gr,cr,g,c,-,hlu2,hfam,-,-,-,y2,hbg,-,-,h5⟩:=HO.out.msg (bst_row HL.out) (bumpTo_get hm) (by rw[hm3];decide);rw[hlu']at hlu2;simp only[Option.some.injEq,Slc.mk.injEq]at hlu2;obtain⟨rfl,-,rfl⟩:=hlu2;obtain⟨f1,f2,f3⟩:=h5 lc a ha;rw[hm3]at y2 hfam;have F3:=hide (f3 (a+1));have l2:=lt_of_cell f1;have l3:=lt_of_cell y2
       obtain⟨ag,TG0⟩:=(HO.out.fam.own _ _ _ hfam).typeT (g:=g) rfl;have TG:=hide TG0;clear TG0;have hgne:g≠w.heap.size:=by
        intro e;obtain⟨a',ha'⟩:=(HO.out.fam.own _ _ _ hfam).typeT (g:=g) rfl;rw[e,HBX.out]at ha';simp at ha'
       obtain⟨wa1,wa2⟩:=wrapA ⟨ha0,ha1⟩;have hlc3:(lc:Int) < 3:=Int.ofNat_lt.2 hlc;by_cases hge:(kn:Int)≤a
       ·have hd:decide ((kn:Int)≤a)=true:=decide_eq_true hge
        have ST:=hide (bst_msg_succ (loc:=lc) (k:=kn) (n:=n) HL.out hm);rw[show bumpM lc kn m=⟨m.val,m.lock,m.view.set lc (a+1)⟩ from by unfold bumpM;rw[bump_yes ha hge]]at ST;clear hge h5 f3 hfam hlu';go_wp2_with fail
        go_still_tail 24,(by kernel_rfl)
        go_wp2_with fail;go_roundw
        case rel=>exact⟨j+1,hltj,by go_num,hide (by rw[← ST.out];exact F3.out.below (Below.refl _ _).drew),hide (HBX1.out _ _ _ _ hgne HBX.out),(HBB.out.trans (KpT.set TG.out (by simp) (Nat.le_trans hB hbg) _)).trans (.of_below (Below.refl _ _).drew)⟩
        case measure=>simp[intOf];omega
       ·have hd:decide ((kn:Int)≤a)=false:=decide_eq_false hge
        have ST:=hide (bst_msg_same (loc:=lc) (k:=kn) (n:=n) HL.out hm (bumpM_no ha hge));clear hge h5 f3 hfam hlu';go_wp2_with fail;go_roundw
        case rel=>exact⟨j+1,hltj,by go_num,hide (by rw[ST.out];exact HO.out),HBX,HBB.out⟩
        case measure=>simp[intOf];omega
      ·obtain rfl:j=l.length:=Nat.le_antisymm hj (Nat.le_of_not_lt hltj)
       have ST:=hide (bst_row_end (loc:=lc) (k:=kn) (n:=n) HL.out);go_wp2_with fail;go_roundw
       case rel=>exact⟨r+1,hlt,by go_num,hide (by rw[← ST.out];exact HO.out),HBX,HBB.out⟩
       case measure=>simp[intOf];omega
    ·obtain rfl:r=3:=Nat.le_antisymm hr (Nat.le_of_not_lt hlt)
     have EN:Hid (bst lc kn s n (dl 3 0)=⟨s.pc,s.rg,s.vw.map (bump lc kn),s.ls.map (List.map (bumpM lc kn))⟩):=hide (by rw[← HVN.out,← HLL.out];exact bst_end lc kn s);rw[EN.out]at HO;have htv:=HT.out;obtain⟨v0,hv0⟩:=get_of_lt (xs:=s.vw) (k:=t) (by rw[HVN.out];exact htv);have hv03:=HV3.out v0 (List.mem_of_getElem? hv0);obtain⟨s1,hs1⟩:∃ s1:Vw,s1=⟨s.pc,s.rg,s.vw.map (bump lc kn),s.ls.map (List.map (bumpM lc kn))⟩:=⟨_,rfl⟩
     rw[← hs1]at HO;have hvb:s1.vw[t]? = some (bump lc kn v0):=by rw[hs1];simp[hv0]
     obtain⟨vb,hvbe⟩:∃ vb,vb=bump lc kn v0:=⟨_,rfl⟩
     rw[← hvbe]at hvb;have hvb3:vb.length=3:=by rw[hvbe,bump_len];exact hv03
     obtain⟨a0,ha0⟩:=get_of_lt (xs:=vb) (k:=lc) (by rw[hvb3];exact hlc);obtain⟨gm',cm',g,c,hxm',hus',h1,hbg,h5⟩:=HO.out.view (t:=t) hvb (by rw[hvb3];decide);rw[HX.out]at hxm';simp only[Slc.mk.injEq,Option.some.injEq,Addr.mk.injEq,and_true]at hxm';obtain⟨rfl,-,-⟩:=hxm';obtain⟨f1,f2,f3⟩:=h5 lc a0 ha0;have F3:=hide (f3 kn);rw[hvb3]at h1 hus';obtain⟨ag,TG0⟩:=(HO.out.fam.own (2,t,0) _ vb (famOf_sv (r':=vb) hus' hvb).1).typeT (g:=g) rfl;have TG:=hide TG0;clear TG0;have hgne:g≠w.heap.size:=by
      intro e;obtain⟨a',ha'⟩:=(HO.out.fam.own (2,t,0) _ vb (famOf_sv (r':=vb) hus' hvb).1).typeT (g:=g) rfl;rw[e,HBX.out]at ha';simp at ha'
     have hgg:g≠gm:=by
      intro e;obtain⟨a',ha'⟩:=(HO.out.fam.own (2,t,0) _ vb (famOf_sv (r':=vb) hus' hvb).1).typeT (g:=g) rfl;obtain⟨a2,ha2⟩:=HO.out.hv.typeT (g:=gm) (by rw[HX.out];rfl);rw[e,ha2]at ha';simp at ha'
     have hgl:g≠gl:=by
      intro e;obtain⟨a',ha'⟩:=(HO.out.fam.own (2,t,0) _ vb (famOf_sv (r':=vb) hus' hvb).1).typeT (g:=g) rfl;obtain⟨a2,ha2⟩:=HO.out.hl.typeT (g:=gl) (by rw[HX.out];rfl);rw[e,ha2]at ha';simp at ha'
     have hgg2:=hgg.symm;have hgl2:=hgl.symm;have hgne2:=hgne.symm
     have l1:=lt_of_cell h1;have l2:=lt_of_cell f1
     have d2:=cellH HBX.out (k:=2) rfl;have hlc3:(lc:Int) < 3:=Int.ofNat_lt.2 hlc;have htn:(t:Int) < (n:Int):=Int.ofNat_lt.2 htv;obtain⟨W1,hW1⟩:∃ W1,W1=wr.setCell ⟨g,lc,none⟩ (.int .i64 (kn:Int)):=⟨_,rfl⟩
     have HW1:=hide hW1;have hzw:W1.heap.size=wr.heap.size:=by rw[hW1];simp
     rw[← hW1]at F3;have HBX3:=hide (HBX1.out _ g lc (.int .i64 (kn:Int)) hgne HBX.out);rw[← hW1]at HBX3;obtain⟨agl,TGL0⟩:=F3.out.hl.typeT (g:=gl) (by rw[HX.out];rfl);have TGL:=hide TGL0;clear TGL0;have HB3:=hide (show KpT [3,102] B w W1 by rw[hW1];exact HBB.out.trans (KpT.set TG.out (by simp) (Nat.le_trans hB hbg) _));have OE:=hide (Own.empty (E:=IntE) 3 W1 (Nat.le_refl _));rw[hzw]at OE;have hrow:=(F3.out.fam.own (2,t,0) _ (vb.set lc kn) (famOf_sv (r':=vb.set lc kn) hus' (Vw.sv_get hvb)).1)
     have RR:=hide (hrow.rep.below (belowAlloc W1 (.cells #[] 3)));obtain⟨l0,hl0⟩:=get_of_lt (xs:=s.ls) (k:=lc) (by rw[HLL.out];exact hlc);have hkl:=HKN.out l0 hl0;have hl0p:=HL00.out l0 (List.mem_of_getElem? hl0);have hl0b:=HL1.out l0 (List.mem_of_getElem? hl0);have hl1s:(s1.sv t (vb.set lc kn)).ls[lc]? = some (l0.map (bumpM lc kn)):=by rw[hs1];simp[Vw.sv,hl0]
     obtain⟨gl',cl',ra,rc,hxb',hlu',y1,hbgl,y1f⟩:=F3.out.lrow hl1s;rw[List.length_map]at hlu' y1;rw[HX.out]at hxb';simp only[Slc.mk.injEq,Option.some.injEq,Addr.mk.injEq,and_true]at hxb';obtain⟨rfl,-,-⟩:=hxb';obtain⟨mr,hmr⟩:=get_of_lt (xs:=ms) (k:=lc) (by rw[F3.out.lm];exact(List.getElem?_eq_some_iff.1 hl1s).1);have hmrl:mr.length=l0.length:=by rw[(F3.out.mv lc mr _ hmr hl1s).1,List.length_map]
     have hom:=F3.out.hm lc _ mr hlu' hmr;obtain⟨gr,rfl⟩:∃ gr,ra=some ⟨gr,0,none⟩:=by
      rcases hom.shape with⟨-,h0⟩ | ⟨gr,cr,h0,-⟩
      ·rw[h0]at hmrl;simp at hmrl;omega
      ·simp only[Slc.v,Value.slice.injEq]at h0
       exact⟨gr,h0.1⟩
     have hrc:l0.length≤rc:=by
      obtain⟨_,_,he,h,-,-,-⟩:=hom.rep.open;simp only[Slc.v,Value.slice.injEq]at he;omega
     have hknc:(kn:Int)≤(rc:Int):=Int.ofNat_le.2 (Nat.le_trans hkl hrc);have hknl:(kn:Int)≤(l0.length:Int):=Int.ofNat_le.2 hkl;have hlrc:(l0.length:Int)≤(rc:Int):=Int.ofNat_le.2 hrc;have hkn0:(0:Int)≤(kn:Int):=Int.natCast_nonneg _;have HOM:=hide hom;have HMR:=hide hmr;have HLU:=hide hlu';have Y1:=hide y1
     have HRK:=hide (hom.rep.takeEW (k:=kn) (by rw[hmrl];exact hkl));have HMRL:=hide hmrl;have HL1S:=hide hl1s;have Y1F:=hide y1f;have HRF:=hide hom.rep;have HL0:=hide hl0;have HV0:=hide hv0;have HS1:=hide hs1;have HVBE:=hide hvbe
     have y1l:=lt_of_cell y1;have hwlt:w.heap.size < W1.heap.size:=by rw[hzw];exact dlw
     have hlen15:([]:List Int).length+(vb.set lc kn).length≤68719476736:=by rw[List.length_set,hvb3];decide
     have hbs15:wr.heap.size≤(W1.alloc (.cells #[] 3)).heap.size:=by rw[← hzw];simp
     have hlen17:(([]:List MV)++mr.take kn).length≤68719476736:=by rw[List.nil_append,List.length_take];omega
     have hlen16:([]:List MV).length+(mr.take kn).length≤68719476736:=by rw[List.length_take];simp;omega
     have HD2:=hide (cellH HBX3.out (k:=2) rfl);have HD3:=hide (cellH HBX3.out (k:=3) rfl)
     clear hom hmr hlu' hl1s hmrl;clear hW1 hrow h5 f3 hus' hv0 EN HO y1f;go_wp2_with (first
      | (at_builtin;rw[← HW1.out];refine wpList_appS IntE 3 Try.infoInt rfl Try.underlying34 wr.heap.size _ [] (vb.set lc kn) _ OE.out RR.out (by decide) hlen15 hbs15 rfl _ _ rfl rfl rfl ?_;intro v15 w15 hown15 hgr15;obtain⟨⟨a15,n15,c15⟩,rfl,-⟩:=hown15.toSlc;have O15:=hide hown15;have B15:=hide ((belowAlloc W1 (.cells #[] 3)).grown hgr15 (by simp) (fun q hq=>by simp[Value.ownBlock]at hq;rw[hzw];exact Nat.le_of_eq hq));clear hown15 hgr15;obtain⟨W3,hW3⟩:∃ W3,W3=w15.alloc (.cells #[.int .i64 val,.bool false,.slice a15 n15 c15] 101):=⟨_,rfl⟩;have HW3:=hide hW3;have hz3:W3.heap.size=w15.heap.size+1:=(by rw[hW3];simp);have B3:=hide (B15.out.trans ((show Below w15.heap.size w15 W3 from by rw[hW3];exact belowAlloc _ _).mono B15.out.size));have M3:=hide (show W3.heap[w15.heap.size]? = some (.cells #[.int .i64 val,.bool false,.slice a15 n15 c15] 101 (0,0)) from by rw[hW3];exact heap_alloc_new w15 _);have OE3:=hide (show Own MgE 101 (W3.alloc (.cells #[] 101)) (w15.heap.size+1) (.slice (some ⟨w15.heap.size+1,0,none⟩) 0 0) [] from by rw[← hz3];exact Own.empty (E:=MgE) 101 W3 (Nat.le_refl _));have RR3:=hide ((HRK.out.below B3.out).below (belowAlloc W3 (.cells #[] 101)));have d33:=(B15.out.cell (p:=⟨w.heap.size,3,none⟩) hwlt).trans HD3.out;have y13:=(B15.out.cell (p:=⟨gl,lc,none⟩) y1l).trans Y1.out;have e33:=lt_of_cell d33;have e34:=lt_of_cell y13;clear hW3)
      | (at_builtin;rw[← HW3.out];refine wpList_appS MgE 101 Try.infoMsgU rfl Try.underlying102 (w15.heap.size+1) _ [] (mr.take kn) _ OE3.out RR3.out (by decide) hlen16 (by rw[← hz3];simp) rfl _ _ rfl rfl rfl ?_;intro v16 w16 hown16 hgr16;obtain⟨⟨a16,n16,c16⟩,rfl,-⟩:=hown16.toSlc;have O16:=hide hown16;have B16:=hide ((belowAlloc W3 (.cells #[] 101)).grown hgr16 (by simp) (fun q hq=>by simp[Value.ownBlock]at hq;omega));have M16:=hide ((B16.out.block w15.heap.size (by omega)).trans M3.out);have m0:=cellH M16.out (k:=0) rfl;have m1:=cellH M16.out (k:=1) rfl;have m2:=cellH M16.out (k:=2) rfl;have ml:=lt_of_cell m0;clear hown16 hgr16)
      | (at_builtin;refine wpList_app MgE 101 Try.infoMsgU rfl Try.underlying102 (w15.heap.size+1) _ ([]++mr.take kn) ⟨val,false,⟨a15,n15,c15⟩⟩ (O16.out.alloc _) (by decide) hlen17 (by have:=B16.out.size;rw[hz3]at this;simp;omega) rfl _ _ rfl rfl _ 0 1 rfl news_alloc ?_;intro v17 w17 hown17 hgr17;obtain⟨⟨a17,n17,c17⟩,rfl,-⟩:=hown17.toSlc;have O17:=hide hown17;have G17:=hide hgr17;clear hown17 hgr17))
     have O16':Own MgE 101 w16 W3.heap.size (Slc.v ⟨a16,n16,c16⟩) ([]++mr.take kn):=by rw[hz3];exact O16.out
     have B17:=hide (below_app B16.out O16' G17.out);have B117:=hide (B3.out.trans (B17.out.mono B3.out.size));have d37:=(B117.out.cell (p:=⟨w.heap.size,3,none⟩) hwlt).trans HD3.out;have y17:=(B117.out.cell (p:=⟨gl,lc,none⟩) y1l).trans Y1.out;have e37:=lt_of_cell d37;have e38:=lt_of_cell y17
     have O17D:=hide (O17.out.below (Below.refl _ _).drew);have T2:=(HRF.out.below (B117.out.drew)).dropEV (k:=kn) (by rw[HMRL.out];exact hkl);rw[show MgE.sz=3 from rfl]at T2;have hlen18:(([]:List MV)++mr.take kn++[(⟨val,false,⟨a15,n15,c15⟩⟩:MV)]).length+(mr.drop kn).length≤68719476736:=by have:=HMRL.out;simp;omega
     have hbs18:w15.heap.size+1≤w17.drew.heap.size:=by rw[← hz3];exact B17.out.size
     have O15X:Hid (∀ W,Below W3.heap.size W3 W→Own IntE 3 W W1.heap.size (Slc.v ⟨a15,n15,c15⟩) (vb.set lc kn)):=hide (fun W hW=>by
      have h0:Own IntE 3 w15 W1.heap.size (Slc.v ⟨a15,n15,c15⟩) (vb.set lc kn):=by rw[hzw];simpa using O15.out
      have hq:=fun q hq=>(World.ownsRow.lt h0 q hq).2;exact h0.sameT fun q h1=>(hW.block q (by rw[hz3];exact Nat.lt_succ_of_lt (hq q h1))).trans (by rw[HW3.out];exact heap_alloc_old _ _ (hq q h1)))
     have FIN:Hid (∀ (W:World) (u':Slc),Below W1.heap.size W1 W→Own IntE 3 W W1.heap.size (Slc.v ⟨a15,n15,c15⟩) (vb.set lc kn)→Own MgE 101 W (w15.heap.size+1) u'.v (([]++mr.take kn++[(⟨val,false,⟨a15,n15,c15⟩⟩:MV)])++mr.drop kn) →
      (Ending.returned (.tuple #[]) = .returned (.tuple #[])∧(∃ lu' ms',OwnVw (W.setCell ⟨gl,lc,none⟩ u'.v) base x (vwPut s t lc kn val) us lu' ms')∧KpT [3,102] B w (W.setCell ⟨gl,lc,none⟩ u'.v))):=hide (fun W u' hW h1 h2=>by
      have hls:(s1.sv t (vb.set lc kn)).ls.length=3:=by rw[HS1.out];simp[Vw.sv,HLL.out]
      have hput:=F3.out.put (kn:=kn) (g:=⟨val,false,vb.set lc kn⟩) (mn:=(⟨val,false,⟨a15,n15,c15⟩⟩:MV)) (u':=u') hW (by rw[hzw];exact Nat.le_of_lt (Nat.lt_of_le_of_lt hbg l2)) (gl:=gl) (cl:=bk) (by rw[HX.out,hls]) HL1S.out HMR.out (by rw[List.length_map];exact hkl) ⟨rfl,rfl⟩ h1 (by
       have h3:=h2.mono (show W1.heap.size≤w15.heap.size+1 from Nat.le_succ_of_le B15.out.size);simpa using h3)
      have e:vwPut s t lc kn val=(s1.sv t (vb.set lc kn)).sr lc ((l0.map (bumpM lc kn)).take kn++[⟨val,false,vb.set lc kn⟩]++(l0.map (bumpM lc kn)).drop kn):=by
       rw[HS1.out,HVBE.out];unfold vwPut;simp only[Vw.sv,Vw.sr,getD_ls HL0.out];rw[show s.vw.getD t []=v0 by rw[List.getD_eq_getElem?_getD,HV0.out];rfl]
      rw[← e]at hput;exact⟨rfl,⟨_,_,hput⟩,(HB3.out.trans (.of_below hW)).trans (KpT.set ((hW.block gl (Array.getElem?_eq_some_iff.1 TGL.out).1).trans TGL.out) (by simp) (Nat.le_trans hB hbgl) _)⟩)
     clear O16';by_cases hck:rc=kn
     ·rw[if_pos hck]at T2
      have hck:=hck.symm;subst hck;rw[Nat.sub_self,Nat.sub_eq_zero_of_le hrc]at T2;have T2:=hide T2;go_wp2_with fail
      go_region_law (refine step_appS MgE 101 Try.infoMsgU rfl Try.underlying102 (w15.heap.size+1) _ ([]++mr.take kn++[(⟨val,false,⟨a15,n15,c15⟩⟩:MV)]) (mr.drop kn) _ O17D.out T2.out (by decide) hlen18 hbs18 (by rfl) _ _ (by rfl) (by rfl) (by rfl) ?_;intro v18 w18 hown18 hgr18;obtain⟨⟨a18,n18,c18⟩,rfl,-⟩:=hown18.toSlc;have O18:=hide hown18;have B18:=hide (B17.out.drew.grown hgr18 B17.out.drew.size (fun q hq=>by have:=(World.ownsRow.lt O17.out q hq).1;rw[hz3];exact this));have B118:=hide (B3.out.trans (B18.out.mono B3.out.size));have d38:=(B118.out.cell (p:=⟨w.heap.size,3,none⟩) hwlt).trans HD3.out;have y18:=(B118.out.cell (p:=⟨gl,lc,none⟩) y1l).trans Y1.out;have yf18:=(B118.out.frozen (p:=⟨gl,lc,none⟩) y1l).trans Y1F.out;have el8:=lt_of_cell y18;have O15E:=hide (B18.out);clear hown18 hgr18)
      all_goals
       go_wp2_with fail;go_end0;have hf:=FIN.out _ ⟨a18,n18,c18⟩ B118.out (O15X.out _ B18.out) O18.out;rw[HX.out]at hf;exact⟨rfl,hf.2⟩
     ·rw[if_neg hck,Nat.zero_add]at T2
      have T2:=hide T2;go_wp2_with fail
      go_region_law (refine step_appS MgE 101 Try.infoMsgU rfl Try.underlying102 (w15.heap.size+1) _ ([]++mr.take kn++[(⟨val,false,⟨a15,n15,c15⟩⟩:MV)]) (mr.drop kn) _ O17D.out T2.out (by decide) hlen18 hbs18 (by rfl) _ _ (by rfl) (by rfl) (by rfl) ?_;intro v18 w18 hown18 hgr18;obtain⟨⟨a18,n18,c18⟩,rfl,-⟩:=hown18.toSlc;have O18:=hide hown18;have B18:=hide (B17.out.drew.grown hgr18 B17.out.drew.size (fun q hq=>by have:=(World.ownsRow.lt O17.out q hq).1;rw[hz3];exact this));have B118:=hide (B3.out.trans (B18.out.mono B3.out.size));have d38:=(B118.out.cell (p:=⟨w.heap.size,3,none⟩) hwlt).trans HD3.out;have y18:=(B118.out.cell (p:=⟨gl,lc,none⟩) y1l).trans Y1.out;have yf18:=(B118.out.frozen (p:=⟨gl,lc,none⟩) y1l).trans Y1F.out;have el8:=lt_of_cell y18;have O15E:=hide (B18.out);clear hown18 hgr18)
      all_goals
       go_wp2_with fail;go_end0;have hf:=FIN.out _ ⟨a18,n18,c18⟩ B118.out (O15X.out _ B18.out) O18.out;rw[HX.out]at hf;exact⟨rfl,hf.2⟩
end Go.Proofs.Ytnkfphndfijcoaa
namespace Go.Proofs.Ytnkfphndfijcoaa
open Go.RowKit
theorem OwnVw.pcSet {w:World}{base:Nat}{x:SV}{s:Vw}{us lu:List Slc}{ms:List (List MV)}(h:OwnVw w base x s us lu ms) {t:Nat}{a:Int}(ha:s.pc[t]? = some a) :
 ∃ g c,x.p=⟨some ⟨g,0,none⟩,s.pc.length,c⟩∧w.cell? ⟨g,t,none⟩=some (.int .i64 a)∧w.frozen? ⟨g,t,none⟩=false∧base≤g∧∀ z,OwnVw (w.setCell ⟨g,t,none⟩ (.int .i64 z)) base x ⟨s.pc.set t z,s.rg,s.vw,s.ls⟩ us lu ms:=by
 have ho:=h.fam.own (0,0,0) x.p s.pc rfl;have htl:=(List.getElem?_eq_some_iff.1 ha).1;rcases ho.shape with⟨-,h0⟩ | ⟨g,c,hv,hb,-,-,-⟩
 ·rw[h0]at htl;simp at htl
 have hpe:x.p=⟨some ⟨g,0,none⟩,s.pc.length,c⟩:=by
  obtain⟨⟨a,n,c'⟩,xr,xm,xb⟩:=x;simp only[Slc.v,Value.slice.injEq]at hv;obtain⟨rfl,rfl,rfl⟩:=hv;rfl
 rw[hpe]at ho;have hc:=Own.cell (g:=g) ho ha (j:=0) rfl;simp only[IntE,Nat.mul_one,Nat.add_zero]at hc;refine⟨g,c,hpe,hc,Own.frozen (g:=g) ho t,hb,fun z => ?_⟩;refine h.setRow (ix:=(0,0,0)) (r:=s.pc) (by simp[famOf,hpe];exact⟨rfl,rfl⟩) htl z (by simp[famOf,hpe]) (fun j hj => ?_) rfl rfl (fun i l' hl'=>⟨l',hl',rfl,fun k g' hg'=>⟨g',hg',rfl,rfl⟩⟩);unfold famOf;split <;> first | rfl | exact absurd rfl hj
theorem OwnVw.rgSet {w:World}{base:Nat}{x:SV}{s:Vw}{us lu:List Slc}{ms:List (List MV)}(h:OwnVw w base x s us lu ms) {t:Nat}{a:Int}(ha:s.rg[t]? = some a) :
 ∃ g c,x.r=⟨some ⟨g,0,none⟩,s.rg.length,c⟩∧w.cell? ⟨g,t,none⟩=some (.int .i64 a)∧w.frozen? ⟨g,t,none⟩=false∧base≤g∧∀ z,OwnVw (w.setCell ⟨g,t,none⟩ (.int .i64 z)) base x ⟨s.pc,s.rg.set t z,s.vw,s.ls⟩ us lu ms:=by
 have ho:=h.fam.own (1,0,0) x.r s.rg rfl;have htl:=(List.getElem?_eq_some_iff.1 ha).1;rcases ho.shape with⟨-,h0⟩ | ⟨g,c,hv,hb,-,-,-⟩
 ·rw[h0]at htl;simp at htl
 have hpe:x.r=⟨some ⟨g,0,none⟩,s.rg.length,c⟩:=by
  obtain⟨xp,⟨a,n,c'⟩,xm,xb⟩:=x;simp only[Slc.v,Value.slice.injEq]at hv;obtain⟨rfl,rfl,rfl⟩:=hv;rfl
 rw[hpe]at ho;have hc:=Own.cell (g:=g) ho ha (j:=0) rfl;simp only[IntE,Nat.mul_one,Nat.add_zero]at hc;refine⟨g,c,hpe,hc,Own.frozen (g:=g) ho t,hb,fun z => ?_⟩;refine h.setRow (ix:=(1,0,0)) (r:=s.rg) (by simp[famOf,hpe];exact⟨rfl,rfl⟩) htl z (by simp[famOf,hpe]) (fun j hj => ?_) rfl rfl (fun i l' hl'=>⟨l',hl',rfl,fun k g' hg'=>⟨g',hg',rfl,rfl⟩⟩);unfold famOf;split <;> first | rfl | exact absurd rfl hj
theorem Vw.lock_ls {s:Vw}{i k:Nat}{l:List Mg}{m:Mg}(hl:s.ls[i]? = some l) (hm:l[k]? = some m):(vwLock s i k).ls=s.ls.set i (l.set k ⟨m.val,true,m.view⟩):=by
 unfold vwLock;rw[getD_ls hl];show s.ls.set i (l.modify k fun m=>⟨m.val,true,m.view⟩)=_
 congr 1
 apply List.ext_getElem?;intro j;rw[List.getElem?_modify,List.getElem?_set];by_cases e:k=j
 ·subst e
  rw[if_pos rfl,if_pos (List.getElem?_eq_some_iff.1 hm).1,hm];simp
 ·rw[if_neg e]
  simp[e]
theorem OwnVw.lockSet {w:World}{base:Nat}{x:SV}{s:Vw}{us lu:List Slc}{ms:List (List MV)}(h:OwnVw w base x s us lu ms) {i k:Nat}{l:List Mg}{m:Mg}(hl:s.ls[i]? = some l) (hm:l[k]? = some m) :
 ∃ gl cl gr cr,x.b=⟨some ⟨gl,0,none⟩,s.ls.length,cl⟩∧w.cell? ⟨gl,i,none⟩=some (.slice (some ⟨gr,0,none⟩) l.length cr)∧w.cell? ⟨gr,k * 3+1,none⟩=some (.bool m.lock)∧w.frozen? ⟨gr,k * 3+1,none⟩=false∧base≤gr∧TyB 101 w gr ∧
  ∃ ms',OwnVw (w.setCell ⟨gr,k * 3+1,none⟩ (.bool true)) base x (vwLock s i k) us lu ms':=by
 have hil:=(List.getElem?_eq_some_iff.1 hl).1;have hkl:=(List.getElem?_eq_some_iff.1 hm).1;obtain⟨gl,cl,ra,rc,hxb,hlu,hc,hbl,-⟩:=h.lrow hl;obtain⟨mr,hmr⟩:=get_of_lt (xs:=ms) (k:=i) (by rw[h.lm];exact hil);obtain⟨e1,e2⟩:=h.mv i mr l hmr hl;obtain⟨mv,hmv⟩:=get_of_lt (xs:=mr) (k:=k) (by rw[e1];exact hkl);obtain⟨q1,q2⟩:=e2 k mv m hmv hm;have hor:=h.hm i _ mr hlu hmr;rcases hor.shape with⟨-,h0⟩ | ⟨gr,cr,hvr,hbr,-,-,-⟩
 ·rw[h0]at hmv;simp at hmv
 simp only[Slc.v,Value.slice.injEq]at hvr;obtain⟨rfl,-,rfl⟩:=hvr;have r1:=Own.cell (g:=gr) (n:=l.length) (cap:=rc) hor hmv (j:=1) rfl;simp only[MgE]at r1;obtain⟨a,ha⟩:=hor.typeT (g:=gr) rfl;have him:=(List.getElem?_eq_some_iff.1 hmr).1;have hset:=Own.set (g:=gr) (n:=l.length) (cap:=rc) hor (i:=k) (j:=1) (⟨mv.val,true,mv.s⟩:MV) (u:=.bool true) (by decide) hmv rfl;simp only[MgE]at hset;refine⟨gl,cl,gr,rc,hxb,hc,by rw[← q2];exact r1,Own.frozen (g:=gr) (n:=l.length) (cap:=rc) hor _,hbr,⟨a,ha⟩,ms.set i (mr.set k ⟨mv.val,true,mv.s⟩),?_⟩;have hls:=Vw.lock_ls hl hm;have hf:∀ j,famOf x us (ms.set i (mr.set k ⟨mv.val,true,mv.s⟩)) (vwLock s i k) j=famOf x us ms s j:=fun j=>by
  unfold famOf;split <;> try rfl
  rename_i i' k';rw[hls,List.getElem?_set,List.getElem?_set];by_cases e:i=i'
  ·subst e
   rw[if_pos rfl,if_pos rfl,if_pos him,if_pos hil,hmr,hl];simp only[Option.bind_some];rw[List.getElem?_set,List.getElem?_set];by_cases ek:k=k'
   ·subst ek
    rw[if_pos rfl,if_pos rfl,if_pos (List.getElem?_eq_some_iff.1 hmv).1,if_pos hkl,hmv,hm];rfl
   ·rw[if_neg ek,if_neg ek]
  ·rw[if_neg e,if_neg e]
 refine⟨⟨fun j u r hj => ?_,fun j j' u r v q h1 h2 => ?_⟩,h.hv.setOther (by decide) ha,h.hl.setOther (by decide) ha,h.lv,by rw[hls];simp[h.ll],by rw[hls];simp[h.lm],fun j u q hu hq => ?_,fun j q l' hq hl' => ?_,h.mf⟩
 ·rw[hf]at hj
  exact(h.fam.own j u r hj).setOther (by decide) ha
 ·rw[hf]at h1 h2
  exact h.fam.far j j' u r v q h1 h2
 ·rw[List.getElem?_set]at hq
  by_cases e:i=j
  ·subst e
   rw[if_pos rfl,if_pos him]at hq;rw[hlu]at hu;cases hq;cases hu;exact hset
  ·rw[if_neg e]at hq
   exact(h.hm j u q hu hq).setFarV (h.mf i j _ u hlu hu e gr rfl) _ _
 ·rw[hls,List.getElem?_set]at hl'
  rw[List.getElem?_set]at hq;by_cases e:i=j
  ·subst e
   rw[if_pos rfl,if_pos him]at hq;rw[if_pos rfl,if_pos hil]at hl';cases hq;cases hl';refine⟨by simp[e1],fun k' m' g' hm' hg' => ?_⟩;rw[List.getElem?_set]at hm' hg';by_cases ek:k=k'
   ·subst ek
    rw[if_pos rfl,if_pos (List.getElem?_eq_some_iff.1 hmv).1]at hm';rw[if_pos rfl,if_pos hkl]at hg';cases hm';cases hg';exact⟨q1,rfl⟩
   ·rw[if_neg ek]at hm' hg'
    exact e2 k' m' g' hm' hg'
  ·rw[if_neg e]at hl' hq
   exact h.mv j q l' hq hl'
end Go.Proofs.Ytnkfphndfijcoaa
namespace Go.Proofs.Ytnkfphndfijcoaa
open Go.RowKit
section
variable {s s' : Vw} {t k kn lc rc : Nat} {val : Int}
theorem vwDo_fence {loc reg:Int}(h:vwDo s t kn k ⟨4,loc,reg,val⟩=some s'):s'=vwStep s t kn:=by
 unfold vwDo at h;simp only at h;by_cases hk:k=0
 ·simp[hk]at h;exact h.symm
 ·simp[hk]at h
theorem vwDo_load (h:vwDo s t kn k ⟨1,lc,rc,val⟩=some s') (hl:lc < s.ls.length):∃ l m,s.ls[lc]? = some l∧l[k]? = some m∧s'=vwGet (vwStep s t kn) t rc m:=by
 obtain⟨l,hl⟩:=get_of_lt hl;unfold vwDo at h;simp only[Int.toNat_natCast,getD_ls hl]at h;rw[if_neg (by decide),if_pos trivial]at h;cases hm:l[k]? with
 | none=>rw[hm]at h;cases h
 | some m =>
  rw[hm]at h;simp only at h;split at h
  ·cases h;exact⟨l,m,hl,hm,rfl⟩
  ·cases h
theorem vwDo_swap (h:vwDo s t kn k ⟨5,lc,rc,val⟩=some s') (hl:lc < s.ls.length):∃ l m,s.ls[lc]? = some l∧l[k]? = some m∧s'=vwPut (vwLock (vwGet (vwStep s t kn) t rc m) lc k) t lc (k+1) val:=by
 obtain⟨l,hl⟩:=get_of_lt hl;unfold vwDo at h;simp only[Int.toNat_natCast,getD_ls hl]at h;rw[if_neg (by decide),if_neg (by decide),if_pos trivial]at h;cases hm:l[k]? with
 | none=>rw[hm]at h;cases h
 | some m =>
  rw[hm]at h;simp only at h;split at h
  ·cases h;exact⟨l,m,hl,hm,rfl⟩
  ·cases h
theorem vwDo_write {op:Int}(h:vwDo s t kn k ⟨op,lc,rc,val⟩=some s') (ho:op=2∨op=3) (hl:lc < s.ls.length):∃ l,s.ls[lc]? = some l∧k≤l.length∧s'=vwPut (vwStep s t kn) t lc k (if op=3 then s.rg.getD (t * 3+rc) 0 else val):=by
 obtain⟨l,hl⟩:=get_of_lt hl;unfold vwDo at h;simp only[Int.toNat_natCast,getD_ls hl]at h;rw[if_neg (by omega),if_neg (by omega),if_neg (by omega)]at h;cases hm:l[k - 1]? with
 | none=>rw[hm]at h;cases h
 | some m =>
  rw[hm]at h;simp only at h;split at h
  ·rename_i hc
   cases h;exact⟨l,hl,hc.2.1,rfl⟩
  ·cases h
end
theorem ins_ops {x:Ins}(h:insValid x=true):x.op=1∨x.op=2∨x.op=3∨x.op=4∨x.op=5:=by
 unfold insValid at h;by_cases h1:x.op=1
 ·exact .inl h1
 ·by_cases h2:x.op=2
  ·exact .inr (.inl h2)
  ·by_cases h3:x.op=3
   ·exact .inr (.inr (.inl h3))
   ·by_cases h4:x.op=4
    ·exact .inr (.inr (.inr (.inl h4)))
    ·by_cases h5:x.op=5
     ·exact .inr (.inr (.inr (.inr h5)))
     ·simp[h1,h2,h3,h4,h5]at h
structure Do5 (V:World) (B O I:Nat) (vs is:List Value) (y:SV):Prop where
 bx:V.heap[B]? = some (.cells vs.toArray 79 (0,0))
 br:V.heap[B+1]? = some (.cells #[.slice none 0 0,.slice none 0 0,.slice none 0 0,.slice none 0 0] 79 (0,0))
 bo:V.heap[O]? = some (.cells #[.slice y.p.a y.p.n y.p.cap,.slice y.r.a y.r.n y.r.cap,.slice y.m.a y.m.n y.m.cap,.slice y.b.a y.b.n y.b.cap] 79 (0,0))
 bi:V.heap[I]? = some (.cells is.toArray 56 (0,0))
theorem Do5.kp {V V':World}{B B' O I:Nat}{vs is:List Value}{y:SV}{L:List TypeId}(h:Do5 V B O I vs is y) (k:KpT L B' V V') (h1:79∉L) (h2:56∉L):Do5 V' B O I vs is y:=
 ⟨k.same h.bx h1,k.same h.br h1,k.same h.bo h1,k.same h.bi h2⟩
theorem Do5.below {V V':World}{B O I:Nat}{vs is:List Value}{y:SV}(h:Do5 V B O I vs is y) (k:Below V.heap.size V V'):Do5 V' B O I vs is y:=h.kp (KpT.of_below (L:=[]) (B:=0) k) (by simp) (by simp)
end Go.Proofs.Ytnkfphndfijcoaa
namespace Go.Proofs.Ytnkfphndfijcoaa
open Go.RowKit
theorem viewOk.range {ls:List (List Mg)}{v:List Int}(h:viewOk ls v) (hl:ls.length=3) (hll:∀ l∈ls,l.length≤200):v.length=3∧∀ a∈v,0≤a∧a≤1000000:=by
 refine⟨h.1,fun a ha => ?_⟩;obtain⟨i,hi,e⟩:=List.getElem_of_mem ha;obtain⟨l,hl'⟩:=get_of_lt (xs:=ls) (k:=i) (by rw[hl,← h.1];exact hi);have h1:=h.2 i a l (by rw[List.getElem?_eq_getElem hi,e]) hl';have h2:=hll l (List.mem_of_getElem? hl');omega
theorem wrapK {k n:Nat}(h:k < n) (hn:n≤200):wrap64 ((k:Int)+1)=(k:Int)+1∧IntKind.i64.wrap ((k:Int)+1)=(k:Int)+1:=wrapA ⟨by omega,by omega⟩
theorem famOf_pr (x:SV) (us:List Slc) (ms:List (List MV)) (pc rg pc' rg':List Int) (vw:List (List Int)) (ls:List (List Mg)) (i k:Nat):famOf x us ms ⟨pc,rg,vw,ls⟩ (3,i,k)=famOf x us ms ⟨pc',rg',vw,ls⟩ (3,i,k):=rfl
theorem l5Do_any (vp : Value) (p : List (List Ins)) (x : SV) (s s' : Vw) (t k kn lc rc : Nat) (op val : Int) (r : List Ins) (w : World) (hp : RepP w vp p) (hx : RepVw w x s) (hok : VwOk p s) (hpl : p.length ≤ 3) (hll : ∀ l ∈ s.ls, l.length ≤ 200) (hpc : s.pc[t]? = some (kn : Int)) (hrow : p[t]? = some r) (hins : r[kn]? = some ⟨op, lc, rc, val⟩)
    (hv : insValid ⟨op, lc, rc, val⟩ = true) (hrl : r.length ≤ 1000) (hd : vwDo s t kn k ⟨op, lc, rc, val⟩ = some s') :
    Calls Try.prog 54 #[vp, .agg #[.slice x.p.a x.p.n x.p.cap, .slice x.r.a x.r.n x.r.cap, .slice x.m.a x.m.n x.m.cap, .slice x.b.a x.b.n x.b.cap], .int .i64 (t : Int), .int .i64 (k : Int)] w (RetVw w s') := by
  have hr3 := ins_range hv
  have hop5 := ins_ops hv
  simp only at hr3 hop5
  have hlc : lc ≤ 2 := by omega
  have hrc : rc ≤ 2 := by omega
  obtain ⟨⟨pa, pn, pk⟩, ⟨ra, rn, rk⟩, ⟨ma, mn, mk⟩, ⟨ba, bn, bk⟩⟩ := x
  obtain ⟨va, vc, rfl, hc1, hc2, hc3, hp⟩ := hp.open
  obtain ⟨b2, o2, qa, qc, rfl, hbl2, q0, q1⟩ := hp.row hrow
  obtain ⟨b3, o3, rfl, hbl3, r0, r1, r2, r3⟩ := q1.ins hins
  have hpt := (List.getElem?_eq_some_iff.1 hrow).1
  have hkr := (List.getElem?_eq_some_iff.1 hins).1
  obtain ⟨_, _, hv1, -, -, -, -⟩ := hx.pc.open
  obtain ⟨_, _, hv2, -, -, -, -⟩ := hx.rg.open
  simp only [Slc.v, Value.slice.injEq] at hv1 hv2
  obtain ⟨rfl, hn1, rfl⟩ := hv1
  obtain ⟨rfl, hn2, rfl⟩ := hv2
  obtain ⟨b, o, rfl, hbl, i0⟩ := (show Rep IntE w (.slice pa pn pk) s.pc from hx.pc).int hpc
  have hlr := hok.lr; have hlp := hok.lp; have hlv := hok.lv; have hlll := hok.ll
  obtain ⟨qr, hqr⟩ : ∃ qr : Nat, qr = t * 3 + rc := ⟨_, rfl⟩
  have HQR := hide hqr.symm
  have HSTEP := hide (hok.step hrow hpc (by simpa using hins))
  have hqrl : qr < s.rg.length := by omega
  obtain ⟨z, hz⟩ := get_of_lt hqrl
  obtain ⟨b4, o4, rfl, hbl4, g0⟩ := (show Rep IntE w (.slice ra rn rk) s.rg from hx.rg).int hz
  have HX := hide hx; have HOK := hide hok; have HD := hide hd; have HPC := hide hpc; have HLL := hide hll
  have htv : t < s.vw.length := by omega
  have hsl : lc < s.ls.length := by omega
  have HTV := hide htv; have HSL := hide hsl; have HLP := hide hlp; have HLR := hide hlr; have HLV := hide hlv; have HLLL := hide hlll; have HZ := hide hz; have HQRL := hide hqrl
  have HRG := hide (show s.rg.getD (t * 3 + rc) 0 = z by rw [← hqr, List.getD_eq_getElem?_getD, hz]; rfl)
  have ht2 : t ≤ 2 := by omega
  have HREG := hide (fun w' => (l3Reg_M t rc w' ht2 hrc).mono fun e w'' ⟨h1, h2⟩ => (⟨by rw [hqr]; exact h1, h2⟩ : e = Ending.returned (.int .i64 (qr : Int)) ∧ w' = w''))
  have htn : (t : Int) < (pn : Int) := by omega
  have htn2 : (t : Int) < (p.length : Int) := by omega
  have htn3 : (t : Int) < (s.pc.length : Int) := by omega
  have hkn2 : (kn : Int) < (r.length : Int) := by omega
  have hqn : (qr : Int) < (rn : Int) := by omega
  have hqn2 : (qr : Int) < (s.rg.length : Int) := by omega
  have hlcn : (lc : Int) < 3 := by omega
  obtain ⟨hkw1, hkw2⟩ := wrapA (a := (kn : Int)) ⟨by omega, by omega⟩
  have HCP := hide (fun w' (h : RepVw w' ⟨⟨some ⟨b, o, none⟩, pn, pk⟩, ⟨some ⟨b4, o4, none⟩, rn, rk⟩, ⟨ma, mn, mk⟩, ⟨ba, bn, bk⟩⟩ s) => l5Copy_any _ s w' h (by omega) (by omega) (by omega) (fun r hr => by have := (hok.vw r hr).1; omega) (by omega) (fun l hl => ⟨by have := hll l hl; omega, fun m hm => by have := (hok.ms l hl m hm).2.1; omega⟩))
  obtain ⟨A0, hA0⟩ : ∃ A0, A0 = (w.alloc (.cells #[.slice (some ⟨b, o, none⟩) pn pk, .slice (some ⟨b4, o4, none⟩) rn rk, .slice ma mn mk, .slice ba bn bk] 79)).alloc (.cells #[.slice none 0 0, .slice none 0 0, .slice none 0 0, .slice none 0 0] 79) := ⟨_, rfl⟩
  have hz0 : A0.heap.size = w.heap.size + 2 := by rw [hA0]; simp
  have HX2 : Hid (A0.heap[w.heap.size]? = some (.cells #[.slice (some ⟨b, o, none⟩) pn pk, .slice (some ⟨b4, o4, none⟩) rn rk, .slice ma mn mk, .slice ba bn bk] 79 (0, 0))) := hide (by
    rw [hA0, heap_alloc_old _ _ (by simp)]; exact heap_alloc_new w _)
  have HR2 : Hid (A0.heap[w.heap.size + 1]? = some (.cells #[.slice none 0 0, .slice none 0 0, .slice none 0 0, .slice none 0 0] 79 (0, 0))) := hide (by
    have h := heap_alloc_new (w.alloc (.cells #[.slice (some ⟨b, o, none⟩) pn pk, .slice (some ⟨b4, o4, none⟩) rn rk, .slice ma mn mk, .slice ba bn bk] 79)) (.cells #[.slice none 0 0, .slice none 0 0, .slice none 0 0, .slice none 0 0] 79)
    rw [hA0]; simpa using h)
  have HB : Hid (Below w.heap.size w A0) := hide (by rw [hA0]; exact (belowAlloc w _).alloc (by simp) _)
  have HA0 := hide hA0
  have Q0 := hide q0; have R0 := hide r0; have R1 := hide r1; have R2 := hide r2; have R3 := hide r3; have I0 := hide i0; have G0 := hide g0
  clear hqr hn1 hn2 hx hp q1 hA0 hpc hrow hins hrl q0 r0 r1 r2 r3 i0 g0 hok hd hll hz hlr hlp hlv hlll htv hsl hqrl hv hr3
  go_enter Try.func54, Try.ntmps54
  go_wp2_with fail
  rw [← HA0.out]
  go_wp2_with (go_at_call 72; (with_reducible refine (HCP.out _ (HX.out.below HB.out)).mono ?_); rintro e w1 ⟨⟨⟨yp1, yp2, yp3⟩, ⟨yr1, yr2, yr3⟩, ⟨ym1, ym2, ym3⟩, ⟨yb1, yb2, yb3⟩⟩, us, lu, ms, rfl, hs1, hb1⟩; have S1 := hide hs1; have B1 := hide hb1; have hsz1 := hb1.size; clear hs1 hb1)
  obtain ⟨gp, cp, hyp, -, -, hbgp, -⟩ := S1.out.pcSet HPC.out
  obtain ⟨gr, cr, hyr, -, -, hbgr, -⟩ := S1.out.rgSet HZ.out
  obtain ⟨lrow, hlrow⟩ := get_of_lt HSL.out
  obtain ⟨gl, cl, -, -, hyb, -, -, hbgl, -⟩ := S1.out.lrow hlrow
  simp only [Slc.mk.injEq] at hyp hyr hyb
  obtain ⟨rfl, rfl, rfl⟩ := hyp
  obtain ⟨rfl, rfl, rfl⟩ := hyr
  obtain ⟨rfl, rfl, rfl⟩ := hyb
  clear hlrow
  obtain ⟨y, hy⟩ : ∃ y : SV, y = ⟨⟨some ⟨gp, 0, none⟩, s.pc.length, yp3⟩, ⟨some ⟨gr, 0, none⟩, s.rg.length, yr3⟩, ⟨ym1, ym2, ym3⟩, ⟨some ⟨gl, 0, none⟩, s.ls.length, yb3⟩⟩ := ⟨_, rfl⟩
  have HY := hide hy
  obtain ⟨V, hV⟩ : ∃ V, V = w1.alloc (.cells #[.slice (some ⟨gp, 0, none⟩) s.pc.length yp3, .slice (some ⟨gr, 0, none⟩) s.rg.length yr3, .slice ym1 ym2 ym3, .slice (some ⟨gl, 0, none⟩) s.ls.length yb3] 79) := ⟨_, rfl⟩
  have BV : Hid (Below A0.heap.size A0 V) := hide (by rw [hV]; exact B1.out.alloc B1.out.size _)
  have BO : Hid (V.heap[w1.heap.size]? = some (.cells #[.slice (some ⟨gp, 0, none⟩) s.pc.length yp3, .slice (some ⟨gr, 0, none⟩) s.rg.length yr3, .slice ym1 ym2 ym3, .slice (some ⟨gl, 0, none⟩) s.ls.length yb3] 79 (0, 0))) := hide (by rw [hV]; exact heap_alloc_new w1 _)
  have S2 : Hid (OwnVw V (w.heap.size + 2) y s us lu ms) := hide (by rw [hy, hV, ← hz0]; exact S1.out.below (belowAlloc w1 _))
  have hzV : V.heap.size = w1.heap.size + 1 := by rw [hV]; simp
  have HV := hide hV
  rw [← hV]
  clear hV S1 B1 hy
  have BW := hide (HB.out.trans (BV.out.mono HB.out.size))
  have x0 : V.cell? ⟨w.heap.size, 0, none⟩ = some (.slice (some ⟨b, o, none⟩) pn pk) := cellH ((BV.out.block w.heap.size (by omega)).trans HX2.out) (k := 0) rfl
  have xl := lt_of_cell x0
  have q0 := (BW.out.cell (p := ⟨b2, o2 + t, none⟩) hbl2).trans Q0.out
  have ql := lt_of_cell q0
  have i0 := (BW.out.cell (p := ⟨b, o + t, none⟩) hbl).trans I0.out
  have il := lt_of_cell i0
  have r0 := (BW.out.cell (p := ⟨b3, o3 + kn * 4, none⟩) hbl3).trans R0.out
  have r1 := (BW.out.cell (p := ⟨b3, o3 + kn * 4 + 1, none⟩) hbl3).trans R1.out
  have r2 := (BW.out.cell (p := ⟨b3, o3 + kn * 4 + 2, none⟩) hbl3).trans R2.out
  have r3 := (BW.out.cell (p := ⟨b3, o3 + kn * 4 + 3, none⟩) hbl3).trans R3.out
  have rl := lt_of_cell r0
  have HZV := hide hzV; have HZ0 := hide hz0; have HSZ1 := hide hsz1
  clear hzV hz0 hsz1
  go_wp2_with fail
  go_region_held3 (fun V => V.cell? ⟨w.heap.size, 0, none⟩ = some (.slice (some ⟨b, o, none⟩) pn pk) ∧ V.cell? ⟨b2, o2 + t, none⟩ = some (.slice (some ⟨b3, o3, none⟩) r.length qc) ∧ V.cell? ⟨b, o + t, none⟩ = some (.int .i64 (kn : Int)) ∧
          V.cell? ⟨b3, o3 + kn * 4, none⟩ = some (.int .i64 op) ∧ V.cell? ⟨b3, o3 + kn * 4 + 1, none⟩ = some (.int .i64 (lc : Int)) ∧ V.cell? ⟨b3, o3 + kn * 4 + 2, none⟩ = some (.int .i64 (rc : Int)) ∧ V.cell? ⟨b3, o3 + kn * 4 + 3, none⟩ = some (.int .i64 val)) ((simp [go_sem, *])) (fail)
  obtain ⟨V2, hV2⟩ : ∃ V2, V2 = (V.alloc (.cells #[.int .i64 op, .int .i64 (lc : Int), .int .i64 (rc : Int), .int .i64 val] 56)).drew := ⟨_, rfl⟩
  rw [← hV2]
  have BV2 := hide (show Below V.heap.size V V2 by rw [hV2]; exact (belowAlloc V _).drew)
  have BI2 : Hid (V2.heap[V.heap.size]? = some (.cells #[.int .i64 op, .int .i64 (lc : Int), .int .i64 (rc : Int), .int .i64 val] 56 (0, 0))) := hide (by rw [hV2]; exact heap_alloc_new V _)
  have D2 : Hid (Do5 V2 w.heap.size w1.heap.size V.heap.size [.slice (some ⟨b, o, none⟩) pn pk, .slice (some ⟨b4, o4, none⟩) rn rk, .slice ma mn mk, .slice ba bn bk] [.int .i64 op, .int .i64 (lc : Int), .int .i64 (rc : Int), .int .i64 val] y) := hide (by
    have h1 := HZV.out; have h2 := HSZ1.out; have h3 := HZ0.out
    refine ⟨(BV2.out.block _ (by omega)).trans ((BV.out.block w.heap.size (by omega)).trans HX2.out), (BV2.out.block _ (by omega)).trans ((BV.out.block (w.heap.size + 1) (by omega)).trans HR2.out), ?_, BI2.out⟩
    rw [HY.out]
    exact (BV2.out.block _ (by omega)).trans BO.out)
  have S2' := hide (S2.out.below BV2.out)
  have BW2 := hide (BW.out.trans (BV2.out.mono BW.out.size))
  clear hV2 x0 xl q0 ql i0 il r0 r1 r2 r3 rl S2 BO BV2 BI2 BW HX2 HR2 HB HA0 BV HV HCP R0 R1 R2 R3
  obtain ⟨gp', cp', hyp', c0, cfz, -, FP⟩ := S2'.out.pcSet HPC.out
  rw [HY.out] at hyp'
  simp only [Slc.mk.injEq, Option.some.injEq, Addr.mk.injEq, and_true] at hyp'
  obtain ⟨rfl, -, rfl⟩ := hyp'
  obtain ⟨agp, TG0⟩ := (S2'.out.fam.own (0, 0, 0) _ _ rfl).typeT (g := gp) (by rw [HY.out]; rfl)
  have K3 := hide ((KpT.set (L := [3]) (B := 0) TG0 (by simp) (Nat.zero_le _) (j := t) (.int .i64 ((kn : Int) + 1))).trans (.of_below (Below.refl _ _).drew))
  have S3 := hide ((FP ((kn : Int) + 1)).below (Below.refl _ _).drew)
  have BW3 := hide ((BW2.out.setCell (p := ⟨gp, t, none⟩) (show w.heap.size ≤ gp by have := HZ0.out; omega) (.int .i64 ((kn : Int) + 1))).drew)
  have o0 : V2.cell? ⟨w1.heap.size, 0, none⟩ = some (.slice (some ⟨gp, 0, none⟩) s.pc.length yp3) := by
    have h := D2.out.bo
    rw [HY.out] at h
    exact cellH h (k := 0) rfl
  have ol := lt_of_cell o0
  have x0 : V2.cell? ⟨w.heap.size, 0, none⟩ = some (.slice (some ⟨b, o, none⟩) pn pk) := cellH D2.out.bx (k := 0) rfl
  have xl := lt_of_cell x0
  have i0 := (BW2.out.cell (p := ⟨b, o + t, none⟩) hbl).trans I0.out
  have il := lt_of_cell i0
  have cl := lt_of_cell c0
  have hne1 : gp ≠ w1.heap.size := by
    intro e
    have h := D2.out.bo
    rw [← e, TG0] at h
    simp at h
  have hbgp' : w.heap.size + 2 ≤ gp := by have := HZ0.out; omega
  have hne2 : gp ≠ w.heap.size := by omega
  have hne3 : gp ≠ b := by omega
  have hne1' := hne1.symm; have hne2' := hne2.symm; have hne3' := hne3.symm
  clear TG0 FP
  go_wp2_with fail
  go_region_held3 (fun V => V.cell? ⟨w1.heap.size, 0, none⟩ = some (.slice (some ⟨gp, 0, none⟩) s.pc.length yp3) ∧ V.cell? ⟨w.heap.size, 0, none⟩ = some (.slice (some ⟨b, o, none⟩) pn pk) ∧ V.cell? ⟨b, o + t, none⟩ = some (.int .i64 (kn : Int))) ((simp [go_sem, *])) (fail)
  obtain ⟨V3, hV3⟩ : ∃ V3, V3 = (V2.setCell ⟨gp, t, none⟩ (.int .i64 ((kn : Int) + 1))).drew := ⟨_, rfl⟩
  rw [← hV3] at K3 S3 BW3
  simp only [← hV3]
  clear hV3 o0 ol x0 xl i0 il c0 cfz cl
  have D3 := hide (D2.out.kp K3.out (by decide) (by decide))
  clear K3 D2 S2' BW2
  have S3 := hide (show OwnVw V3 (w.heap.size + 2) y (vwStep s t kn) us lu ms from S3.out)
  have ci0 : V3.cell? ⟨V.heap.size, 0, none⟩ = some (.int .i64 op) := cellH D3.out.bi (k := 0) rfl
  have ci1 : V3.cell? ⟨V.heap.size, 1, none⟩ = some (.int .i64 (lc : Int)) := cellH D3.out.bi (k := 1) rfl
  have ci2 : V3.cell? ⟨V.heap.size, 2, none⟩ = some (.int .i64 (rc : Int)) := cellH D3.out.bi (k := 2) rfl
  have ci3 : V3.cell? ⟨V.heap.size, 3, none⟩ = some (.int .i64 val) := cellH D3.out.bi (k := 3) rfl
  have cil := lt_of_cell ci0
  have OC : Hid (∀ (W : World) (vs is : List Value) (I : Nat), Do5 W w.heap.size w1.heap.size I vs is y → (W.cell? ⟨w1.heap.size, 0, none⟩ = some (.slice (some ⟨gp, 0, none⟩) s.pc.length yp3) ∧ W.cell? ⟨w1.heap.size, 1, none⟩ = some (.slice (some ⟨gr, 0, none⟩) s.rg.length yr3) ∧ W.cell? ⟨w1.heap.size, 2, none⟩ = some (.slice ym1 ym2 ym3) ∧ W.cell? ⟨w1.heap.size, 3, none⟩ = some (.slice (some ⟨gl, 0, none⟩) s.ls.length yb3)) ∧ w1.heap.size < W.heap.size) := hide (fun W vs is I h => by
    have h := h.bo
    rw [HY.out] at h
    have h0 : W.cell? ⟨w1.heap.size, 0, none⟩ = some (.slice (some ⟨gp, 0, none⟩) s.pc.length yp3) := cellH h (k := 0) rfl
    exact ⟨⟨h0, cellH h (k := 1) rfl, cellH h (k := 2) rfl, cellH h (k := 3) rfl⟩, lt_of_cell h0⟩)
  -- the end
  have FIN : Hid (∀ (W : World) (s'' : Vw) (lu' : List Slc) (ms' : List (List MV)) (vs is : List Value) (I : Nat), OwnVw W (w.heap.size + 2) y s'' us lu' ms' → Do5 W w.heap.size w1.heap.size I vs is y → Below w.heap.size w W →
      (∃ us2 lu2 ms2, OwnVw ((((W.setCell ⟨w.heap.size + 1, 0, none⟩ (.slice (some ⟨gp, 0, none⟩) s.pc.length yp3)).setCell ⟨w.heap.size + 1, 1, none⟩ (.slice (some ⟨gr, 0, none⟩) s.rg.length yr3)).setCell ⟨w.heap.size + 1, 2, none⟩ (.slice ym1 ym2 ym3)).setCell ⟨w.heap.size + 1, 3, none⟩ (.slice (some ⟨gl, 0, none⟩) s.ls.length yb3)) w.heap.size ⟨⟨some ⟨gp, 0, none⟩, s.pc.length, yp3⟩, ⟨some ⟨gr, 0, none⟩, s.rg.length, yr3⟩, ⟨ym1, ym2, ym3⟩, ⟨some ⟨gl, 0, none⟩, s.ls.length, yb3⟩⟩ s'' us2 lu2 ms2) ∧
        Below w.heap.size w ((((W.setCell ⟨w.heap.size + 1, 0, none⟩ (.slice (some ⟨gp, 0, none⟩) s.pc.length yp3)).setCell ⟨w.heap.size + 1, 1, none⟩ (.slice (some ⟨gr, 0, none⟩) s.rg.length yr3)).setCell ⟨w.heap.size + 1, 2, none⟩ (.slice ym1 ym2 ym3)).setCell ⟨w.heap.size + 1, 3, none⟩ (.slice (some ⟨gl, 0, none⟩) s.ls.length yb3))) := hide (fun W s'' lu' ms' vs is I hS hD hB => by
    have t0 : TyB 79 W (w.heap.size + 1) := ⟨_, hD.br⟩
    have hS := (hS.part.mono (base' := w.heap.size) (by omega)).full
    rw [HY.out] at hS
    exact ⟨⟨us, lu', ms', (((hS.setT (by decide) (by decide) (by decide) (by decide) t0 0 _).setT (by decide) (by decide) (by decide) (by decide) (t0.set _ _ _) 1 _).setT (by decide) (by decide) (by decide) (by decide) ((t0.set _ _ _).set _ _ _) 2 _).setT (by decide) (by decide) (by decide) (by decide) (((t0.set _ _ _).set _ _ _).set _ _ _) 3 _⟩,
      (((hB.setCell (p := ⟨w.heap.size + 1, 0, none⟩) (show w.heap.size ≤ w.heap.size + 1 by omega) _).setCell (p := ⟨w.heap.size + 1, 1, none⟩) (show w.heap.size ≤ w.heap.size + 1 by omega) _).setCell (p := ⟨w.heap.size + 1, 2, none⟩) (show w.heap.size ≤ w.heap.size + 1 by omega) _).setCell (p := ⟨w.heap.size + 1, 3, none⟩) (show w.heap.size ≤ w.heap.size + 1 by omega) _⟩)
  have HOK3 := hide (HSTEP.out.to0)
  have hyp1 : y.p = ⟨some ⟨gp, 0, none⟩, s.pc.length, yp3⟩ := by rw [HY.out]
  have hyp2 : y.r = ⟨some ⟨gr, 0, none⟩, s.rg.length, yr3⟩ := by rw [HY.out]
  have hyp3 : y.m = ⟨ym1, ym2, ym3⟩ := by rw [HY.out]
  have hyp4 : y.b = ⟨some ⟨gl, 0, none⟩, s.ls.length, yb3⟩ := by rw [HY.out]
  have HYP := hide (And.intro hyp1 (And.intro hyp2 (And.intro hyp3 hyp4)))
  have HINS := hide (fun (W : World) (s2 : Vw) (lu2 : List Slc) (ms2 : List (List MV)) (k2 : Nat) (kz : Int) (hkz : (k2 : Int) = kz) (val2 : Int) (h : OwnVw W (w.heap.size + 2) y s2 us lu2 ms2) (hok2 : VwOk0 p s2) (hl2 : ∀ l ∈ s2.ls, l.length ≤ 200) (hk : ∀ l, s2.ls[lc]? = some l → k2 ≤ l.length) => (by
    have hvr : ∀ v, viewOk s2.ls v → v.length = 3 ∧ ∀ a ∈ v, 0 ≤ a ∧ a ≤ 1000000 := fun v hv => hv.range hok2.ll hl2
    have hI := l5Insert_any y s2 us lu2 ms2 t lc k2 val2 W (w.heap.size + 2) (w.heap.size + 2) h (fun v hv => (hvr v (hok2.vw v hv)).1) (fun v hv => (hvr v (hok2.vw v hv)).2) (fun l hl m hm => hvr _ (hok2.ms l hl m hm).2) (by rw [hok2.lv]; exact hpl) (by rw [hok2.lv]; exact hpt) hok2.ll (fun l hl => by have := hl2 l hl; omega) (by omega) hok2.ne hk (Nat.le_refl _)
    simp only [hyp1, hyp2, hyp3, hyp4] at hI
    rw [hkz] at hI
    exact hI : Calls Try.prog 74 #[.agg #[.slice (some ⟨gp, 0, none⟩) s.pc.length yp3, .slice (some ⟨gr, 0, none⟩) s.rg.length yr3, .slice ym1 ym2 ym3, .slice (some ⟨gl, 0, none⟩) s.ls.length yb3], .int .i64 (t : Int), .int .i64 (lc : Int), .int .i64 kz, .int .i64 val2] W
      fun e w' => e = .returned (.tuple #[]) ∧ (∃ lu' ms', OwnVw w' (w.heap.size + 2) y (vwPut s2 t lc k2 val2) us lu' ms') ∧ KpT [3, 102] (w.heap.size + 2) W w'))
  clear hyp1 hyp2 hyp3 hyp4
  rcases hop5 with rfl | rfl | rfl | rfl | rfl
  -- cases
  · obtain ⟨l, m, hl, hm, hs'⟩ := vwDo_load HD.out HSL.out
    have hlm := HOK.out.ms l (List.mem_of_getElem? hl) m (List.mem_of_getElem? hm)
    have hm3 := hlm.2.1
    obtain ⟨gl', cl', gr3, cr3, gv, cv, hxb', -, hfm, m0, m1, m2, m3, hbgv, -, -, -⟩ := S3.out.msg (s := vwStep s t kn) hl hm (by omega)
    rw [HY.out] at hxb'
    simp only [Slc.mk.injEq, Option.some.injEq, Addr.mk.injEq, and_true] at hxb'
    obtain ⟨rfl, -, rfl⟩ := hxb'
    rw [hm3] at m3 hfm
    have hkl := (List.getElem?_eq_some_iff.1 hm).1
    have hkl' : (k : Int) < (l.length : Int) := Int.ofNat_lt.2 hkl
    have HKL := hide hkl
    have HL := hide hl; have HM := hide hm; have HFM := hide hfm; have HM3 := hide hm3; have HS' := hide hs'
    have ml0 := lt_of_cell m0; have ml1 := lt_of_cell m1
    obtain ⟨V4, hV4⟩ : ∃ V4, V4 = V3.alloc (.cells #[.int .i64 m.val, .bool m.lock, .slice (some ⟨gv, 0, none⟩) 3 cv] 101) := ⟨_, rfl⟩
    have B4 := hide (show Below V3.heap.size V3 V4 by rw [hV4]; exact belowAlloc _ _)
    have M4 := hide (show V4.heap[V3.heap.size]? = some (.cells #[.int .i64 m.val, .bool m.lock, .slice (some ⟨gv, 0, none⟩) 3 cv] 101 (0, 0)) by rw [hV4]; exact heap_alloc_new V3 _)
    have S4 := hide (S3.out.below B4.out); have D4 := hide (D3.out.below B4.out); have BW4 := hide (BW3.out.trans (B4.out.mono BW3.out.size))
    obtain ⟨⟨o0, o1, o2c, o3c⟩, ol⟩ := OC.out V3 _ _ _ D3.out
    clear hl hm hfm hs' hlm hkl
    go_wp2_with fail
    simp only [← hV4]
    have HV4 := hide hV4
    clear o0 o1 o2c o3c ol m0 m1 m2 m3 ml0 ml1 ci0 ci1 ci2 ci3 cil S3 D3 BW3 hV4
    obtain ⟨⟨o0, o1, o2c, o3c⟩, ol⟩ := OC.out V4 _ _ _ D4.out
    have ci0 : V4.cell? ⟨V.heap.size, 0, none⟩ = some (.int .i64 1) := cellH D4.out.bi (k := 0) rfl
    have ci1 : V4.cell? ⟨V.heap.size, 1, none⟩ = some (.int .i64 (lc : Int)) := cellH D4.out.bi (k := 1) rfl
    have ci2 : V4.cell? ⟨V.heap.size, 2, none⟩ = some (.int .i64 (rc : Int)) := cellH D4.out.bi (k := 2) rfl
    have ci3 : V4.cell? ⟨V.heap.size, 3, none⟩ = some (.int .i64 val) := cellH D4.out.bi (k := 3) rfl
    have cil := lt_of_cell ci0
    have n0 : V4.cell? ⟨V3.heap.size, 0, none⟩ = some (.int .i64 m.val) := cellH M4.out (k := 0) rfl
    have nl := lt_of_cell n0
    obtain ⟨gr', cr', hyr', c0, cfz, -, FP⟩ := S4.out.rgSet (s := vwStep s t kn) HZ.out
    rw [HY.out] at hyr'
    simp only [Slc.mk.injEq, Option.some.injEq, Addr.mk.injEq, and_true] at hyr'
    obtain ⟨rfl, -, rfl⟩ := hyr'
    obtain ⟨agr, TG0⟩ := (S4.out.fam.own (1, 0, 0) _ _ rfl).typeT (g := gr) (by rw [HY.out]; rfl)
    have K5 := hide ((KpT.set (L := [3]) (B := 0) TG0 (by simp) (Nat.zero_le _) (j := qr) (.int .i64 m.val)).trans (.of_below (Below.refl _ _).drew))
    have S5 := hide ((FP m.val).below (Below.refl _ _).drew)
    have BW5 := hide ((BW4.out.setCell (p := ⟨gr, qr, none⟩) (show w.heap.size ≤ gr by have := HZ0.out; omega) (.int .i64 m.val)).drew)
    have hn1 : gr ≠ w1.heap.size := by
      intro e
      have h := D4.out.bo
      rw [← e, TG0] at h
      simp at h
    have hn2 : gr ≠ V.heap.size := by
      intro e
      have h := D4.out.bi
      rw [← e, TG0] at h
      simp at h
    have hn3 : gr ≠ V3.heap.size := by
      intro e
      have h := M4.out
      rw [← e, TG0] at h
      simp at h
    have hn1' := hn1.symm; have hn2' := hn2.symm; have hn3' := hn3.symm
    have cl5 := lt_of_cell c0
    clear TG0 FP
    go_wp2_with fail
    go_region_held3 (fun W => W.cell? ⟨w1.heap.size, 1, none⟩ = some (.slice (some ⟨gr, 0, none⟩) s.rg.length yr3) ∧ W.cell? ⟨V.heap.size, 2, none⟩ = some (.int .i64 (rc : Int)) ∧ W.cell? ⟨V3.heap.size, 0, none⟩ = some (.int .i64 m.val)) ((simp [go_sem, *])) (first | (go_at_call 64; (with_reducible refine (HREG.out _).mono ?_); rintro e w5 ⟨rfl, rfl⟩))
    obtain ⟨V5, hV5⟩ : ∃ V5, V5 = (V4.setCell ⟨gr, qr, none⟩ (.int .i64 m.val)).drew := ⟨_, rfl⟩
    rw [← hV5] at K5 S5 BW5
    simp only [← hV5]
    clear hV5 o0 o1 o2c o3c ol ci0 ci1 ci2 ci3 cil n0 nl c0 cfz cl5
    have D5 := hide (D4.out.kp K5.out (by decide) (by decide))
    have M5 := hide (K5.out.same M4.out (by decide))
    clear S4 BW4 D4 M4 K5 B4
    obtain ⟨⟨o0, o1, o2c, o3c⟩, ol⟩ := OC.out V5 _ _ _ D5.out
    have ci0 : V5.cell? ⟨V.heap.size, 0, none⟩ = some (.int .i64 1) := cellH D5.out.bi (k := 0) rfl
    have ci1 : V5.cell? ⟨V.heap.size, 1, none⟩ = some (.int .i64 (lc : Int)) := cellH D5.out.bi (k := 1) rfl
    have ci2 : V5.cell? ⟨V.heap.size, 2, none⟩ = some (.int .i64 (rc : Int)) := cellH D5.out.bi (k := 2) rfl
    have ci3 : V5.cell? ⟨V.heap.size, 3, none⟩ = some (.int .i64 val) := cellH D5.out.bi (k := 3) rfl
    have cil := lt_of_cell ci0
    have n2 : V5.cell? ⟨V3.heap.size, 2, none⟩ = some (.slice (some ⟨gv, 0, none⟩) 3 cv) := cellH M5.out (k := 2) rfl
    have nl := lt_of_cell n2
    obtain ⟨v, hv⟩ := get_of_lt HTV.out
    have hvo := HOK.out.vw v (List.mem_of_getElem? hv)
    have HJ := hide (l5Join_any y ⟨s.pc.set t ((kn : Int) + 1), s.rg.set qr m.val, s.vw, s.ls⟩ us lu ms t ⟨some ⟨gv, 0, none⟩, 3, cv⟩ (3, lc, k) m.view v V5 (w.heap.size + 2) (w.heap.size + 2) S5.out hv (by simp) (by rw [← HFM.out]; exact famOf_pr _ _ _ _ _ _ _ _ _ _ _) (by rw [HM3.out, hvo.1]) (by rw [hvo.1]; decide) (by rw [hvo.1]; decide) (Nat.le_refl _))
    obtain ⟨hyp1, hyp2, hyp3, hyp4⟩ := HYP.out
    simp only [hyp1, hyp2, hyp3, hyp4] at HJ
    clear hyp1 hyp2 hyp3 hyp4
    have HVE := hide (show s.vw.getD t [] = v by rw [List.getD_eq_getElem?_getD, hv]; rfl)
    clear hv hvo
    go_wp2_with (go_at_call 73; (with_reducible refine HJ.out.mono ?_); rintro e w6 ⟨rfl, hs6, hk6⟩; have S6 := hide hs6; have D6 := hide (D5.out.kp hk6 (by decide) (by decide)); have BW6 := hide (BW5.out.trans ((hk6.below (Array.getElem?_eq_some_iff.1 D5.out.br).1).mono (show w.heap.size ≤ w.heap.size + 2 by omega))); clear hs6 hk6; obtain ⟨⟨p0, p1, p2, p3⟩, pl⟩ := OC.out w6 _ _ _ D6.out; have di0 : w6.cell? ⟨V.heap.size, 0, none⟩ = some (.int .i64 1) := (cellH D6.out.bi (k := 0) rfl); have dil := lt_of_cell di0; have t0 : w6.cell? ⟨w.heap.size + 1, 0, none⟩ = some (.slice none 0 0) := (cellH D6.out.br (k := 0) rfl); have t1 : w6.cell? ⟨w.heap.size + 1, 1, none⟩ = some (.slice none 0 0) := (cellH D6.out.br (k := 1) rfl); have t2 : w6.cell? ⟨w.heap.size + 1, 2, none⟩ = some (.slice none 0 0) := (cellH D6.out.br (k := 2) rfl); have t3 : w6.cell? ⟨w.heap.size + 1, 3, none⟩ = some (.slice none 0 0) := (cellH D6.out.br (k := 3) rfl); have tfz := frozH D6.out.br; have tl := lt_of_cell t0)
    have S7 := hide (show OwnVw w6 (w.heap.size + 2) y s' us lu ms by
      have h := S6.out
      rw [HS'.out]
      have e : (vwGet (vwStep s t kn) t rc m) = Vw.sv ⟨s.pc.set t ((kn : Int) + 1), s.rg.set qr m.val, s.vw, s.ls⟩ t (vwJoin v m.view) := by
        show Vw.mk _ _ _ _ = Vw.mk _ _ _ _
        rw [show (vwStep s t kn).vw.getD t [] = v from HVE.out, Int.toNat_natCast, HQR.out]
        rfl
      rw [e]; exact h)
    go_wp2_with fail
    obtain ⟨⟨us2, lu2, ms2, f1⟩, f2⟩ := FIN.out w6 _ _ _ _ _ _ S7.out D6.out BW6.out
    exact bodyPost_ret (v := .agg #[.slice (some ⟨gp, 0, none⟩) s.pc.length yp3, .slice (some ⟨gr, 0, none⟩) s.rg.length yr3, .slice ym1 ym2 ym3, .slice (some ⟨gl, 0, none⟩) s.ls.length yb3]) (by simp [results, Try.results54, go_sem, *]) rfl ⟨_, us2, lu2, ms2, rfl, f1, f2⟩
  · obtain ⟨l, hl, hkl, hs'⟩ := vwDo_write HD.out (.inl rfl) HSL.out
    rw [if_neg (by decide)] at hs'
    have HI := hide (HINS.out V3 (vwStep s t kn) lu ms k _ rfl val S3.out HOK3.out HLL.out (fun l' h => by have e : some l = some l' := hl.symm.trans h; cases e; exact hkl))
    rw [← hs'] at HI
    clear hl hkl hs'
    obtain ⟨⟨o0, o1, o2c, o3c⟩, ol⟩ := OC.out V3 _ _ _ D3.out
    go_wp2_with (go_at_call 74; (with_reducible refine HI.out.mono ?_); rintro e w4 ⟨rfl, ⟨lu4, ms4, hs4⟩, hk4⟩; have S4 := hide hs4; have D4 := hide (D3.out.kp hk4 (by decide) (by decide)); have BW4 := hide (BW3.out.trans ((hk4.below (Array.getElem?_eq_some_iff.1 D3.out.br).1).mono (show w.heap.size ≤ w.heap.size + 2 by omega))); clear hs4 hk4; obtain ⟨⟨p0, p1, p2, p3⟩, pl⟩ := OC.out w4 _ _ _ D4.out; have t0 : w4.cell? ⟨w.heap.size + 1, 0, none⟩ = some (.slice none 0 0) := (cellH D4.out.br (k := 0) rfl); have t1 : w4.cell? ⟨w.heap.size + 1, 1, none⟩ = some (.slice none 0 0) := (cellH D4.out.br (k := 1) rfl); have t2 : w4.cell? ⟨w.heap.size + 1, 2, none⟩ = some (.slice none 0 0) := (cellH D4.out.br (k := 2) rfl); have t3 : w4.cell? ⟨w.heap.size + 1, 3, none⟩ = some (.slice none 0 0) := (cellH D4.out.br (k := 3) rfl); have tfz := frozH D4.out.br; have tl := lt_of_cell t0)
    go_wp2_with fail
    obtain ⟨⟨us2, lu2, ms2, f1⟩, f2⟩ := FIN.out w4 _ _ _ _ _ _ S4.out D4.out BW4.out
    exact bodyPost_ret (v := .agg #[.slice (some ⟨gp, 0, none⟩) s.pc.length yp3, .slice (some ⟨gr, 0, none⟩) s.rg.length yr3, .slice ym1 ym2 ym3, .slice (some ⟨gl, 0, none⟩) s.ls.length yb3]) (by simp [results, Try.results54, go_sem, *]) rfl ⟨_, us2, lu2, ms2, rfl, f1, f2⟩
  · obtain ⟨l, hl, hkl, hs'⟩ := vwDo_write HD.out (.inr rfl) HSL.out
    rw [if_pos rfl, HRG.out] at hs'
    have x1 : V3.cell? ⟨w.heap.size, 1, none⟩ = some (.slice (some ⟨b4, o4, none⟩) rn rk) := cellH D3.out.bx (k := 1) rfl
    have xl := lt_of_cell x1
    have g0 := (BW3.out.cell (p := ⟨b4, o4 + qr, none⟩) hbl4).trans G0.out
    have gl4 := lt_of_cell g0
    go_wp2_with fail
    refine wp_region_bw (by kernel_rfl) (by kernel_rfl) ?_
    repeat (go_big_quiet_step (first | (go_at_call 64; (with_reducible exact Calls.bw_same (HREG.out _)))))
    refine wpQuiet_nil ?_
    intro W hW
    have S4 := hide (S3.out.below hW); have D4 := hide (D3.out.below hW); have BW4 := hide (BW3.out.trans (hW.mono BW3.out.size))
    clear x1 xl g0 gl4 ci0 ci1 ci2 ci3 cil S3 D3 BW3 hW
    have ci0 : W.cell? ⟨V.heap.size, 0, none⟩ = some (.int .i64 3) := cellH D4.out.bi (k := 0) rfl
    have ci1 : W.cell? ⟨V.heap.size, 1, none⟩ = some (.int .i64 (lc : Int)) := cellH D4.out.bi (k := 1) rfl
    have ci2 : W.cell? ⟨V.heap.size, 2, none⟩ = some (.int .i64 (rc : Int)) := cellH D4.out.bi (k := 2) rfl
    have ci3 : W.cell? ⟨V.heap.size, 3, none⟩ = some (.int .i64 val) := cellH D4.out.bi (k := 3) rfl
    have cil := lt_of_cell ci0
    have HI := hide (HINS.out W (vwStep s t kn) lu ms k _ rfl z S4.out HOK3.out HLL.out (fun l' h => by have e : some l = some l' := hl.symm.trans h; cases e; exact hkl))
    rw [← hs'] at HI
    clear hl hkl hs' S4
    obtain ⟨⟨o0, o1, o2c, o3c⟩, ol⟩ := OC.out W _ _ _ D4.out
    go_wp2_with (go_at_call 74; (with_reducible refine HI.out.mono ?_); rintro e w5 ⟨rfl, ⟨lu5, ms5, hs5⟩, hk5⟩; have S5 := hide hs5; have D5 := hide (D4.out.kp hk5 (by decide) (by decide)); have BW5 := hide (BW4.out.trans ((hk5.below (Array.getElem?_eq_some_iff.1 D4.out.br).1).mono (show w.heap.size ≤ w.heap.size + 2 by omega))); clear hs5 hk5; obtain ⟨⟨p0, p1, p2, p3⟩, pl⟩ := OC.out w5 _ _ _ D5.out; have t0 : w5.cell? ⟨w.heap.size + 1, 0, none⟩ = some (.slice none 0 0) := (cellH D5.out.br (k := 0) rfl); have t1 : w5.cell? ⟨w.heap.size + 1, 1, none⟩ = some (.slice none 0 0) := (cellH D5.out.br (k := 1) rfl); have t2 : w5.cell? ⟨w.heap.size + 1, 2, none⟩ = some (.slice none 0 0) := (cellH D5.out.br (k := 2) rfl); have t3 : w5.cell? ⟨w.heap.size + 1, 3, none⟩ = some (.slice none 0 0) := (cellH D5.out.br (k := 3) rfl); have tfz := frozH D5.out.br; have tl := lt_of_cell t0)
    go_wp2_with fail
    obtain ⟨⟨us2, lu2, ms2, f1⟩, f2⟩ := FIN.out w5 _ _ _ _ _ _ S5.out D5.out BW5.out
    exact bodyPost_ret (v := .agg #[.slice (some ⟨gp, 0, none⟩) s.pc.length yp3, .slice (some ⟨gr, 0, none⟩) s.rg.length yr3, .slice ym1 ym2 ym3, .slice (some ⟨gl, 0, none⟩) s.ls.length yb3]) (by simp [results, Try.results54, go_sem, *]) rfl ⟨_, us2, lu2, ms2, rfl, f1, f2⟩
  · obtain rfl := vwDo_fence HD.out
    obtain ⟨⟨o0, o1, o2c, o3c⟩, ol⟩ := OC.out V3 _ _ _ D3.out
    have r0 : V3.cell? ⟨w.heap.size + 1, 0, none⟩ = some (.slice none 0 0) := cellH D3.out.br (k := 0) rfl
    have r1 : V3.cell? ⟨w.heap.size + 1, 1, none⟩ = some (.slice none 0 0) := cellH D3.out.br (k := 1) rfl
    have r2 : V3.cell? ⟨w.heap.size + 1, 2, none⟩ = some (.slice none 0 0) := cellH D3.out.br (k := 2) rfl
    have r3 : V3.cell? ⟨w.heap.size + 1, 3, none⟩ = some (.slice none 0 0) := cellH D3.out.br (k := 3) rfl
    have rfz := frozH D3.out.br
    have rl := lt_of_cell r0
    go_wp2_with fail
    obtain ⟨⟨us2, lu2, ms2, f1⟩, f2⟩ := FIN.out V3 _ _ _ _ _ _ S3.out D3.out BW3.out
    exact bodyPost_ret (v := .agg #[.slice (some ⟨gp, 0, none⟩) s.pc.length yp3, .slice (some ⟨gr, 0, none⟩) s.rg.length yr3, .slice ym1 ym2 ym3, .slice (some ⟨gl, 0, none⟩) s.ls.length yb3]) (by simp [results, Try.results54, go_sem, *]) rfl ⟨_, us2, lu2, ms2, rfl, f1, f2⟩
  · obtain ⟨l, m, hl, hm, hs'⟩ := vwDo_swap HD.out HSL.out
    have hlm := HOK.out.ms l (List.mem_of_getElem? hl) m (List.mem_of_getElem? hm)
    have hm3 := hlm.2.1
    obtain ⟨gl', cl', gr3, cr3, gv, cv, hxb', -, hfm, m0, m1, m2, m3, hbgv, -, -, -⟩ := S3.out.msg (s := vwStep s t kn) hl hm (by omega)
    rw [HY.out] at hxb'
    simp only [Slc.mk.injEq, Option.some.injEq, Addr.mk.injEq, and_true] at hxb'
    obtain ⟨rfl, -, rfl⟩ := hxb'
    rw [hm3] at m3 hfm
    have hkl := (List.getElem?_eq_some_iff.1 hm).1
    have hkl' : (k : Int) < (l.length : Int) := Int.ofNat_lt.2 hkl
    have HKL := hide hkl
    have HL := hide hl; have HM := hide hm; have HFM := hide hfm; have HM3 := hide hm3; have HS' := hide hs'
    have ml0 := lt_of_cell m0; have ml1 := lt_of_cell m1
    obtain ⟨V4, hV4⟩ : ∃ V4, V4 = V3.alloc (.cells #[.int .i64 m.val, .bool m.lock, .slice (some ⟨gv, 0, none⟩) 3 cv] 101) := ⟨_, rfl⟩
    have B4 := hide (show Below V3.heap.size V3 V4 by rw [hV4]; exact belowAlloc _ _)
    have M4 := hide (show V4.heap[V3.heap.size]? = some (.cells #[.int .i64 m.val, .bool m.lock, .slice (some ⟨gv, 0, none⟩) 3 cv] 101 (0, 0)) by rw [hV4]; exact heap_alloc_new V3 _)
    have S4 := hide (S3.out.below B4.out); have D4 := hide (D3.out.below B4.out); have BW4 := hide (BW3.out.trans (B4.out.mono BW3.out.size))
    obtain ⟨⟨o0, o1, o2c, o3c⟩, ol⟩ := OC.out V3 _ _ _ D3.out
    clear hl hm hfm hs' hlm hkl
    go_wp2_with fail
    simp only [← hV4]
    have HV4 := hide hV4
    clear o0 o1 o2c o3c ol m0 m1 m2 m3 ml0 ml1 ci0 ci1 ci2 ci3 cil S3 D3 BW3 hV4
    obtain ⟨⟨o0, o1, o2c, o3c⟩, ol⟩ := OC.out V4 _ _ _ D4.out
    have ci0 : V4.cell? ⟨V.heap.size, 0, none⟩ = some (.int .i64 5) := cellH D4.out.bi (k := 0) rfl
    have ci1 : V4.cell? ⟨V.heap.size, 1, none⟩ = some (.int .i64 (lc : Int)) := cellH D4.out.bi (k := 1) rfl
    have ci2 : V4.cell? ⟨V.heap.size, 2, none⟩ = some (.int .i64 (rc : Int)) := cellH D4.out.bi (k := 2) rfl
    have ci3 : V4.cell? ⟨V.heap.size, 3, none⟩ = some (.int .i64 val) := cellH D4.out.bi (k := 3) rfl
    have cil := lt_of_cell ci0
    have n0 : V4.cell? ⟨V3.heap.size, 0, none⟩ = some (.int .i64 m.val) := cellH M4.out (k := 0) rfl
    have nl := lt_of_cell n0
    obtain ⟨gr', cr', hyr', c0, cfz, -, FP⟩ := S4.out.rgSet (s := vwStep s t kn) HZ.out
    rw [HY.out] at hyr'
    simp only [Slc.mk.injEq, Option.some.injEq, Addr.mk.injEq, and_true] at hyr'
    obtain ⟨rfl, -, rfl⟩ := hyr'
    obtain ⟨agr, TG0⟩ := (S4.out.fam.own (1, 0, 0) _ _ rfl).typeT (g := gr) (by rw [HY.out]; rfl)
    have K5 := hide ((KpT.set (L := [3]) (B := 0) TG0 (by simp) (Nat.zero_le _) (j := qr) (.int .i64 m.val)).trans (.of_below (Below.refl _ _).drew))
    have S5 := hide ((FP m.val).below (Below.refl _ _).drew)
    have BW5 := hide ((BW4.out.setCell (p := ⟨gr, qr, none⟩) (show w.heap.size ≤ gr by have := HZ0.out; omega) (.int .i64 m.val)).drew)
    have hn1 : gr ≠ w1.heap.size := by
      intro e
      have h := D4.out.bo
      rw [← e, TG0] at h
      simp at h
    have hn2 : gr ≠ V.heap.size := by
      intro e
      have h := D4.out.bi
      rw [← e, TG0] at h
      simp at h
    have hn3 : gr ≠ V3.heap.size := by
      intro e
      have h := M4.out
      rw [← e, TG0] at h
      simp at h
    have hn1' := hn1.symm; have hn2' := hn2.symm; have hn3' := hn3.symm
    have cl5 := lt_of_cell c0
    clear TG0 FP
    go_wp2_with fail
    go_region_held3 (fun W => W.cell? ⟨w1.heap.size, 1, none⟩ = some (.slice (some ⟨gr, 0, none⟩) s.rg.length yr3) ∧ W.cell? ⟨V.heap.size, 2, none⟩ = some (.int .i64 (rc : Int)) ∧ W.cell? ⟨V3.heap.size, 0, none⟩ = some (.int .i64 m.val)) ((simp [go_sem, *])) (first | (go_at_call 64; (with_reducible refine (HREG.out _).mono ?_); rintro e w5 ⟨rfl, rfl⟩))
    obtain ⟨V5, hV5⟩ : ∃ V5, V5 = (V4.setCell ⟨gr, qr, none⟩ (.int .i64 m.val)).drew := ⟨_, rfl⟩
    rw [← hV5] at K5 S5 BW5
    simp only [← hV5]
    clear hV5 o0 o1 o2c o3c ol ci0 ci1 ci2 ci3 cil n0 nl c0 cfz cl5
    have D5 := hide (D4.out.kp K5.out (by decide) (by decide))
    have M5 := hide (K5.out.same M4.out (by decide))
    clear S4 BW4 D4 M4 K5 B4
    obtain ⟨⟨o0, o1, o2c, o3c⟩, ol⟩ := OC.out V5 _ _ _ D5.out
    have ci0 : V5.cell? ⟨V.heap.size, 0, none⟩ = some (.int .i64 5) := cellH D5.out.bi (k := 0) rfl
    have ci1 : V5.cell? ⟨V.heap.size, 1, none⟩ = some (.int .i64 (lc : Int)) := cellH D5.out.bi (k := 1) rfl
    have ci2 : V5.cell? ⟨V.heap.size, 2, none⟩ = some (.int .i64 (rc : Int)) := cellH D5.out.bi (k := 2) rfl
    have ci3 : V5.cell? ⟨V.heap.size, 3, none⟩ = some (.int .i64 val) := cellH D5.out.bi (k := 3) rfl
    have cil := lt_of_cell ci0
    have n2 : V5.cell? ⟨V3.heap.size, 2, none⟩ = some (.slice (some ⟨gv, 0, none⟩) 3 cv) := cellH M5.out (k := 2) rfl
    have nl := lt_of_cell n2
    obtain ⟨v, hv⟩ := get_of_lt HTV.out
    have hvo := HOK.out.vw v (List.mem_of_getElem? hv)
    have HJ := hide (l5Join_any y ⟨s.pc.set t ((kn : Int) + 1), s.rg.set qr m.val, s.vw, s.ls⟩ us lu ms t ⟨some ⟨gv, 0, none⟩, 3, cv⟩ (3, lc, k) m.view v V5 (w.heap.size + 2) (w.heap.size + 2) S5.out hv (by simp) (by rw [← HFM.out]; exact famOf_pr _ _ _ _ _ _ _ _ _ _ _) (by rw [HM3.out, hvo.1]) (by rw [hvo.1]; decide) (by rw [hvo.1]; decide) (Nat.le_refl _))
    obtain ⟨hyp1, hyp2, hyp3, hyp4⟩ := HYP.out
    simp only [hyp1, hyp2, hyp3, hyp4] at HJ
    clear hyp1 hyp2 hyp3 hyp4
    have HVE := hide (show s.vw.getD t [] = v by rw [List.getD_eq_getElem?_getD, hv]; rfl)
    clear hv hvo
    have EQG := hide (show Vw.sv ⟨s.pc.set t ((kn : Int) + 1), s.rg.set qr m.val, s.vw, s.ls⟩ t (vwJoin v m.view) = vwGet (vwStep s t kn) t rc m by
      show Vw.mk _ _ _ _ = Vw.mk _ _ _ _
      rw [show (vwStep s t kn).vw.getD t [] = v from HVE.out, Int.toNat_natCast, HQR.out]
      rfl)
    have HGET := hide (HSTEP.out.get (reg := (rc : Int)) hpt (List.mem_of_getElem? HL.out) (List.mem_of_getElem? HM.out))
    have HLK : Hid ((∀ l' ∈ (vwLock (vwGet (vwStep s t kn) t rc m) lc k).ls, l'.length ≤ 200) ∧ ∀ l', (vwLock (vwGet (vwStep s t kn) t rc m) lc k).ls[lc]? = some l' → k + 1 ≤ l'.length) := hide (by
      have e := Vw.lock_ls (s := vwGet (vwStep s t kn) t rc m) HL.out HM.out
      have hsl := HSL.out
      rw [e]
      refine ⟨fun l' hl' => ?_, fun l' hl' => ?_⟩
      · rcases List.mem_or_eq_of_mem_set hl' with h | h
        · exact HLL.out l' h
        · rw [h, List.length_set]; exact HLL.out l (List.mem_of_getElem? HL.out)
      · rw [List.getElem?_set, if_pos rfl, if_pos (show lc < (vwGet (vwStep s t kn) t rc m).ls.length from hsl)] at hl'
        cases hl'
        rw [List.length_set]
        exact (List.getElem?_eq_some_iff.1 HM.out).1)
    have HK1 := hide (show (((k + 1 : Nat)) : Int) = (k : Int) + 1 from Int.natCast_succ k)
    obtain ⟨hwk1, hwk2⟩ := wrapK HKL.out (HLL.out l (List.mem_of_getElem? HL.out))
    go_upto_region 18 with (go_at_call 73; (with_reducible refine HJ.out.mono ?_); rintro e w6 ⟨rfl, hs6, hk6⟩; have S6 := hide hs6; have D6 := hide (D5.out.kp hk6 (by decide) (by decide)); have BW6 := hide (BW5.out.trans ((hk6.below (Array.getElem?_eq_some_iff.1 D5.out.br).1).mono (show w.heap.size ≤ w.heap.size + 2 by omega))); clear hs6 hk6; obtain ⟨⟨p0, p1, p2, p3⟩, pl⟩ := OC.out w6 _ _ _ D6.out; have di0 : w6.cell? ⟨V.heap.size, 0, none⟩ = some (.int .i64 5) := (cellH D6.out.bi (k := 0) rfl); have dil := lt_of_cell di0; have t0 : w6.cell? ⟨w.heap.size + 1, 0, none⟩ = some (.slice none 0 0) := (cellH D6.out.br (k := 0) rfl); have t1 : w6.cell? ⟨w.heap.size + 1, 1, none⟩ = some (.slice none 0 0) := (cellH D6.out.br (k := 1) rfl); have t2 : w6.cell? ⟨w.heap.size + 1, 2, none⟩ = some (.slice none 0 0) := (cellH D6.out.br (k := 2) rfl); have t3 : w6.cell? ⟨w.heap.size + 1, 3, none⟩ = some (.slice none 0 0) := (cellH D6.out.br (k := 3) rfl); have tfz := frozH D6.out.br; have tl := lt_of_cell t0; have di1 : w6.cell? ⟨V.heap.size, 1, none⟩ = some (.int .i64 (lc : Int)) := (cellH D6.out.bi (k := 1) rfl); have di3 : w6.cell? ⟨V.heap.size, 3, none⟩ = some (.int .i64 val) := (cellH D6.out.bi (k := 3) rfl); obtain ⟨gl7, cl7, gr7, cr7, hb7, u0, u1, u1f, hbg7, ⟨a7, TG7⟩, ms7, F7⟩ := S6.out.lockSet (s := Vw.sv ⟨s.pc.set t ((kn : Int) + 1), s.rg.set qr m.val, s.vw, s.ls⟩ t (vwJoin v m.view)) HL.out HM.out; rw [HY.out] at hb7; simp only [Slc.mk.injEq, Option.some.injEq, Addr.mk.injEq, and_true] at hb7; obtain ⟨rfl, -, rfl⟩ := hb7; have hq1 : gr7 ≠ w1.heap.size := (fun e => by have h := D6.out.bo; rw [← e, TG7] at h; simp at h); have hq2 : gr7 ≠ V.heap.size := (fun e => by have h := D6.out.bi; rw [← e, TG7] at h; simp at h); have hq1' := hq1.symm; have hq2' := hq2.symm; have hq3 : gr7 ≠ w.heap.size + 1 := (Nat.ne_of_gt hbg7); have hq3' := hq3.symm; have K7 := hide (KpT.set (L := [101]) (B := 0) TG7 (by simp) (Nat.zero_le _) (j := k * 3 + 1) (.bool true)); have D7 := hide (D6.out.kp K7.out (by decide) (by decide)); have BW7 := hide (BW6.out.setCell (p := ⟨gr7, k * 3 + 1, none⟩) (show w.heap.size ≤ gr7 by omega) (.bool true)); rw [EQG.out] at F7; obtain ⟨W7, hW7⟩ : ∃ W7, W7 = w6.setCell ⟨gr7, k * 3 + 1, none⟩ (.bool true) := ⟨_, rfl⟩; rw [← hW7] at F7 D7 BW7; have HW7 := hide hW7; clear hW7; have HI := hide (HINS.out _ _ _ _ (k + 1) ((k : Int) + 1) HK1.out val F7 (HGET.out.to0.lock lc k) HLK.out.1 HLK.out.2); rw [← HS'.out] at HI; have ul0 := lt_of_cell u0; have ul1 := lt_of_cell u1; clear TG7 F7 K7)
    simp only [← HW7.out]
    clear p0 p1 p2 p3 pl di0 dil di1 di3 t0 t1 t2 t3 tfz tl u0 u1 u1f ul0 ul1
    obtain ⟨⟨o0, o1, o2c, o3c⟩, ol⟩ := OC.out W7 _ _ _ D7.out
    have ci0 : W7.cell? ⟨V.heap.size, 0, none⟩ = some (.int .i64 5) := cellH D7.out.bi (k := 0) rfl
    have ci1 : W7.cell? ⟨V.heap.size, 1, none⟩ = some (.int .i64 (lc : Int)) := cellH D7.out.bi (k := 1) rfl
    have ci2 : W7.cell? ⟨V.heap.size, 2, none⟩ = some (.int .i64 (rc : Int)) := cellH D7.out.bi (k := 2) rfl
    have ci3 : W7.cell? ⟨V.heap.size, 3, none⟩ = some (.int .i64 val) := cellH D7.out.bi (k := 3) rfl
    have cil := lt_of_cell ci0
    go_wp2_with (go_at_call 74; (with_reducible refine HI.out.mono ?_); rintro e w8 ⟨rfl, ⟨lu8, ms8, hs8⟩, hk8⟩; have S8 := hide hs8; have D8 := hide (D7.out.kp hk8 (by decide) (by decide)); have BW8 := hide (BW7.out.trans ((hk8.below (Array.getElem?_eq_some_iff.1 D7.out.br).1).mono (show w.heap.size ≤ w.heap.size + 2 by omega))); clear hs8 hk8; obtain ⟨⟨p0, p1, p2, p3⟩, pl⟩ := OC.out w8 _ _ _ D8.out; have t0 : w8.cell? ⟨w.heap.size + 1, 0, none⟩ = some (.slice none 0 0) := (cellH D8.out.br (k := 0) rfl); have t1 : w8.cell? ⟨w.heap.size + 1, 1, none⟩ = some (.slice none 0 0) := (cellH D8.out.br (k := 1) rfl); have t2 : w8.cell? ⟨w.heap.size + 1, 2, none⟩ = some (.slice none 0 0) := (cellH D8.out.br (k := 2) rfl); have t3 : w8.cell? ⟨w.heap.size + 1, 3, none⟩ = some (.slice none 0 0) := (cellH D8.out.br (k := 3) rfl); have tfz := frozH D8.out.br; have tl := lt_of_cell t0)
    go_wp2_with fail
    obtain ⟨⟨us2, lu2, ms2, f1⟩, f2⟩ := FIN.out w8 _ _ _ _ _ _ S8.out D8.out BW8.out
    exact bodyPost_ret (v := .agg #[.slice (some ⟨gp, 0, none⟩) s.pc.length yp3, .slice (some ⟨gr, 0, none⟩) s.rg.length yr3, .slice ym1 ym2 ym3, .slice (some ⟨gl, 0, none⟩) s.ls.length yb3]) (by simp [results, Try.results54, go_sem, *]) rfl ⟨_, us2, lu2, ms2, rfl, f1, f2⟩
  -- end cases
end Go.Proofs.Ytnkfphndfijcoaa
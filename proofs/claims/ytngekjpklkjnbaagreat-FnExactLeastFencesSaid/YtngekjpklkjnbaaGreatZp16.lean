/-
  PutFences of the program. Condition: bounds on lengths.
-/
import Derived.Test.YtngekjpklkjnbaaGreatZp12
set_option maxHeartbeats 6400000
set_option maxRecDepth 100000
namespace Go.Proofs.YtngekjpklkjnbaaGreat
open Go.RowKit Go.Shelf
attribute [local go_sem] Oper.semAt_some
def Md (i:Nat) (r:List Ins):List Ins:=r.take i++Qd :: r.drop i
def stepG (L:List Gp) (P:List (List Ins)) (g:Gp):List (List Ins):=if Xo L g=true then P.set g.t.toNat (Md g.i.toNat (P.getD g.t.toNat [])) else P
def Jm (L:List Gp) (p:List (List Ins)) (gs:List Gp):List (List Ins):=gs.foldl (stepG L) p
theorem Ht (p:List (List Ins)) (m:Nat) (h:∀ r∈p,r.length≤m):p.flatten.length≤p.length * m:=by
 induction p with
 | nil=>simp
 | cons r p ih =>
  have h1:=h r Sm;have h2:=ih (fun r hr=>h r (by simp[hr]));rw[List.flatten_cons,List.length_append,List.length_cons,Nat.add_mul];omega
theorem Nl (L all:List Gp):(L.any fun x => !Xo all x) = !Lc L all:=by
 unfold Lc;rw[Bool.eq_iff_iff];simp[Xo]
theorem Rm (L:List Gp) (p:List (List Ins)) (gs:List Gp) (g:Gp):Jm L p (gs++[g])=stepG L (Jm L p gs) g:=by simp[Jm]
def FB (p:List (List Ins)) (k:Nat) (P:List (List Ins)):Prop:=P.length=p.length∧∀ (t:Nat) (r:List Ins),p[t]? = some r→∃ r',P[t]? = some r'∧r.length≤r'.length∧r'.length≤r.length+k
theorem MJ {L:List Gp}{p P:List (List Ins)}{k:Nat}{g:Gp}(h:FB p k P):FB p (k+1) (stepG L P g):=by
 obtain⟨h1,h2⟩:=h;unfold stepG;split
 ·refine⟨by rw[List.length_set];exact h1,fun t r hr => ?_⟩
  obtain⟨r',e1,e2,e3⟩:=h2 t r hr;rw[List.getElem?_set];by_cases e:g.t.toNat=t
  ·have htl:=(List.getElem?_eq_some_iff.1 e1).1
   rw[if_pos e,if_pos Om,List.getD_eq_getElem?_getD,e,e1];refine⟨_,rfl,?_,?_⟩ <;> simp[Md] <;> omega
  ·rw[if_neg e]
   exact⟨r',e1,e2,Om⟩
 ·exact⟨h1,fun t r hr=>by
   obtain⟨r',e1,e2,e3⟩:=h2 t r hr;exact⟨r',e1,e2,Om⟩⟩
theorem I2 (L:List Gp) (p:List (List Ins)):∀ (gs:List Gp) (k:Nat) (P:List (List Ins)),FB p k P→FB p (k+gs.length) (gs.foldl (stepG L) P):=by
 intro gs
 induction gs with
 | nil=>intro k P h;exact h
 | cons g gs ih =>
  intro k P h;have:=ih (k+1) _ (MJ (L:=L) (g:=g) h);rw[List.foldl_cons,List.length_cons];rwa[show k+(gs.length+1)=k+1+gs.length by omega]
theorem LY (L:List Gp) (p:List (List Ins)) (gs:List Gp):FB p gs.length (Jm L p gs):=by
 have:=I2 L p gs 0 p ⟨rfl,fun t r h=>⟨r,h,Nat.le_refl _,Nat.le_refl _⟩⟩;rwa[Nat.zero_add]at this
theorem Fy (L:List Gp) (p:List (List Ins)):∀ k j,j+k=(ZF p).length→Jm L p ((ZF p).drop j).reverse=Y1 (Kk L (ZF p) j) p:=by
 intro k
 induction k with
 | zero =>
  intro j hj;rw[List.drop_of_length_le Om,IL (fun g=>by rw[show j=(ZF p).length by omega];exact Mz g)];rfl
 | succ k ih =>
  intro j hj;obtain⟨g,hg⟩:=Zd (xs:=ZF p) (k:=j) Om;obtain⟨h1,h2⟩:=List.getElem?_eq_some_iff.1 hg;rw[List.drop_eq_getElem_cons h1,h2,List.reverse_cons,Rm,ih (j+1) Om];obtain⟨t,i,r,rfl,hr,hi1,hi2,-⟩:=AR (List.mem_of_getElem? hg);unfold stepG;by_cases hL:(⟨t,i⟩:Gp)∈L
  ·rw[if_pos (by unfold Xo;exact decide_eq_true hL)]
   simp only[Int.toNat_natCast];rw[List.getD_eq_getElem?_getD,JK hr];exact IN hg hL hr hi2
  ·rw[if_neg (by unfold Xo;simp[hL])]
   exact IM hg hL
theorem I3 (L:List Gp) (p:List (List Ins)) (h:Lc L (ZF p)=true):Jm L p (ZF p).reverse=Y1 (Xo L) p:=by
 have:=Fy L p (ZF p).length 0 Om;rw[List.drop_zero]at this;rw[this];refine Aa fun x=>IQ (fun g hg => ?_) x;have:=List.all_eq_true.1 h g hg;simpa using this
theorem Yv.NP {α:Type}{E:El α}{T1 T2:TypeId}{us:List Zs}{w w':World}{base g n cap:Nat}{p:List (List α)}(h:Yv E T1 T2 us w base (.slice (some ⟨g,0,none⟩) n cap) p) {k:Nat}{s s':Zs}(hs:us[k]? = some s) {r':List α}
 (ho:Own E T2 w' base s'.v r') (hg:w.grownBy w' s.v.ownBlock) (hb:s'.v.ownBlock=s.v.ownBlock∨∀ q,s'.v.ownBlock=some q→w.heap.size≤q):Yv E T1 T2 (us.set k s') (w'.setCell ⟨g,k,none⟩ s'.v) base (.slice (some ⟨g,0,none⟩) n cap) (p.set k r'):=by
 obtain⟨h1,h2,h3,h4,h5⟩:=h;have hk:=(List.getElem?_eq_some_iff.1 hs).1;have hglt:=(World.ownsRow.lt h2 g rfl).2;have h2':=h2.grown hg (.inr (fun e=>h5 k s hs g (by rw[← e];rfl) rfl));have h2s:=h2'.set (i:=k) (j:=0) s' (u:=s'.v) Dc hs rfl;simp only[Z2,Nat.mul_one,Nat.add_zero]at h2s;have hgs:w'.grownBy (w'.setCell ⟨g,k,none⟩ s'.v) (some g):=YZ (World.grownBy.refl _ _) _ _;have hlt:∀ (i:Nat) (u:Zs),us[i]? = some u→∀ q,u.v.ownBlock=some q→q < w.heap.size:=fun i u hi q hq=>by
  obtain⟨r,hr⟩:=Zd (xs:=p) (k:=i) (by have:=(List.getElem?_eq_some_iff.1 hi).1;omega);exact(World.ownsRow.lt (h3 i u r hi hr) q hq).2
 have hs5:∀ q,s'.v.ownBlock=some q→q≠g:=fun q hq e=>by
  subst e;rcases hb with hb | hb
  ·exact h5 k s hs q (by rw[← hb];exact hq) rfl
  ·have:=hb q hq;omega
 have hs4:∀ (i:Nat) (u:Zs),us[i]? = some u→i≠k→∀ q,u.v.ownBlock=some q→s'.v.ownBlock≠some q:=fun i u hi hne q hq hq'=>by
  rcases hb with hb | hb
  ·exact h4 i k u s hi hs hne q hq (by rw[← hb];exact hq')
  ·have:=hb q hq';have:=hlt i u hi q hq;omega
 have split:∀ (i:Nat) (u:Zs),(us.set k s')[i]? = some u→(i=k∧u=s')∨(i≠k∧us[i]? = some u):=fun i u hi=>by
  rw[List.getElem?_set]at hi;by_cases e:k=i
  ·subst e;rw[if_pos rfl,if_pos hk]at hi;simp at hi;exact .inl ⟨rfl,hi.symm⟩
  ·rw[if_neg e]at hi;exact .inr ⟨fun h=>e h.symm,hi⟩
 refine⟨by simp[h1],h2s,?_,?_,?_⟩
 ·intro i u r hi hr
  rcases split i u hi with⟨e1,e2⟩ | ⟨hne,hi'⟩
  ·rw[e1,List.getElem?_set,if_pos rfl,if_pos Om]at hr
   simp at hr;subst hr;rw[e2];refine ho.grown hgs ?_;rcases hq:s'.v.ownBlock with _ | q
   ·exact .inl rfl
   ·exact .inr (fun e=>hs5 q hq (by simpa using e))
  ·rw[List.getElem?_set,if_neg (fun e=>hne e.symm)]at hr
   refine((h3 i u r hi' hr).grown hg ?_).grown hgs ?_
   ·rcases hq:u.v.ownBlock with _ | q
    ·exact .inl rfl
    ·exact .inr (fun e=>h4 i k u s hi' hs hne q hq e.symm)
   ·rcases hq:u.v.ownBlock with _ | q
    ·exact .inl rfl
    ·exact .inr (fun e=>h5 i u hi' q hq (by rw[e];rfl))
 ·intro i j u u' hi hj hij q hq hq'
  rcases split i u hi with⟨e1,e2⟩ | ⟨hne,hi'⟩
  ·rcases split j u' hj with⟨e3,e4⟩ | ⟨hne',hj'⟩
   ·omega
   ·rw[e2]at hq;exact hs4 j u' hj' hne' q hq' hq
  ·rcases split j u' hj with⟨e3,e4⟩ | ⟨hne',hj'⟩
   ·rw[e4]at hq';exact hs4 i u hi' hne q hq hq'
   ·exact h4 i j u u' hi' hj' hij q hq hq'
 ·intro i u hi q hq hq'
  rcases split i u hi with⟨e1,e2⟩ | ⟨hne,hi'⟩
  ·rw[e2]at hq;exact hs5 q hq (by simp[Value.ownBlock]at hq';exact hq'.symm)
  ·exact h5 i u hi' q hq hq'
theorem KJ {W W':World}{row:Option Nat}{b:Nat}{cur:Array Value}{T:TypeId}{fr:Nat × Nat}(h:W.heap[b]? = some (.cells cur T fr)) (hg:W.grownBy W' row) (hr:∀ r,row=some r→∃ o:Obj,W.heap[r]? = some o∧o.isCells=false):W'.heap[b]? = some (.cells cur T fr):=by
 rw[hg.block b (Array.getElem?_eq_some_iff.1 h).1 (fun e => ?_),h];obtain⟨o,h1,h2⟩:=hr b e.symm;rw[h]at h1;simp at h1;subst h1;cases h2
theorem EA {α:Type}{E:El α}{T:TypeId}{W W':World}{row:Option Nat}{base:Nat}{v:Value}{xs:List α}(h:Own E T W base v xs) (hg:W.grownBy W' row) (hr:∀ r,row=some r→∃ o:Obj,W.heap[r]? = some o∧o.isCells=false):Own E T W' base v xs:=by
 refine h.grown hg ?_;rcases h.2 with⟨hn,-⟩ | ⟨g,cap,cur,rfl,hb1,hgg,-⟩
 ·rw[hn];exact .inl rfl
 ·refine .inr fun e => ?_
  obtain⟨o,h1,h2⟩:=hr g (by rw[← e];rfl);rw[hgg]at h1;simp at h1;subst h1;cases h2
theorem Be {α:Type}{E:El α}{T1 T2:TypeId}{us:List Zs}{W W':World}{row:Option Nat}{base:Nat}{v:Value}{p:List (List α)}(h:Yv E T1 T2 us W base v p) (hg:W.grownBy W' row) (hr:∀ r,row=some r→∃ o:Obj,W.heap[r]? = some o∧o.isCells=false):Yv E T1 T2 us W' base v p:=by
 obtain⟨h1,h2,h3,h4,h5⟩:=h;exact⟨h1,EA h2 hg hr,fun i u r hu hr'=>EA (h3 i u r hu hr') hg hr,h4,h5⟩
theorem RV {α:Type}{E:El α}{T:TypeId}{W:World}{base:Nat}{v:Value}{xs:List α}(h:Own E T W base v xs) {q:Nat}(hq:v.ownBlock=some q):∃ cur,W.heap[q]? = some (.cells cur T (0,0)):=by
 rcases h.2 with⟨hn,-⟩ | ⟨g,cap,cur,rfl,hb1,hgg,-⟩
 ·rw[hn]at hq;cases hq
 ·simp[Value.ownBlock]at hq;subst hq;exact⟨cur,hgg⟩
theorem Rs {B:Nat}{W W':World}(h:Below W.heap.size W W'):KeepsFrom B W W':=⟨h.size,fun k _ _ hk _=>(h.block k (Array.getElem?_eq_some_iff.1 hk).1).trans hk⟩
structure Dm (w:World) (BL A7 Bs bg g n cap base:Nat) (v2 vg:Value) (og:Obj) (P:List (List Ins)) (W:World):Prop where
 own:∃ us,Yv Zx 42 44 us W base (.slice (some ⟨g,0,none⟩) n cap) P
 bl:W.heap[BL]? = some (.cells #[v2] 33 (0,0))
 a7:W.heap[A7]? = some (.cells #[.slice (some ⟨g,0,none⟩) n cap] 28 (0,0))
 bs:W.heap[Bs]? = some (.cells #[vg] 33 (0,0))
 bg:W.heap[bg]? = some og
 PY:Below w.heap.size w W
theorem Dm.below {w:World}{BL A7 Bs bg g n cap base:Nat}{v2 vg:Value}{og:Obj}{P:List (List Ins)}{W W':World}(h:Dm w BL A7 Bs bg g n cap base v2 vg og P W) (hb:Below W.heap.size W W'):Dm w BL A7 Bs bg g n cap base v2 vg og P W':=by
 obtain⟨⟨us,ho⟩,h1,h2,h3,h4,h5⟩:=h;have k:∀ {b:Nat}{o:Obj},W.heap[b]? = some o→W'.heap[b]? = some o:=fun h=>(hb.block _ (Array.getElem?_eq_some_iff.1 h).1).trans h;exact⟨⟨us,ho.below hb⟩,k h1,k h2,k h3,k h4,h5.trans (hb.mono h5.size)⟩
theorem F4 {α:Type}(f:α→Gp) (pre:List α) (x:α):(pre++[x]).map f=pre.map f++[f x]:=by simp
theorem M9 {β:Type}{w:World}{BL A7 Bs bg g n cap base B:Nat}{v2 vg:Value}{og:Obj}(f:β→List (List Ins)) (hog:og.isCells=true) (hB:w.heap.size≤B):OwnFrom B (fun s W=>Dm w BL A7 Bs bg g n cap base v2 vg og (f s) W):=by
 intro s W W' row h hg hr;have hr':∀ r,row=some r→∃ o:Obj,W.heap[r]? = some o∧o.isCells=false:=fun r e=>(hr r e).2;obtain⟨⟨us,ho⟩,h1,h2,h3,h4,h5⟩:=h;refine⟨⟨us,Be ho hg hr'⟩,KJ h1 hg hr',KJ h2 hg hr',KJ h3 hg hr',?_,h5.grown hg (h5.size) (fun k e=>by have:=(hr k e).1;omega)⟩;rw[hg.block bg (Array.getElem?_eq_some_iff.1 h4).1 (fun e => ?_),h4];obtain⟨o,e1,e2⟩:=hr' bg e.symm;rw[h4]at e1;simp at e1;subst e1;rw[hog]at e2;cases e2
def Vf (ls:Array Bool) (j:Nat) (x v:Value):Prop:=ls[j]? = some true→x=v
theorem Vf.same {ls:Array Bool}{j:Nat}{v:Value}:Vf ls j v v:=fun _=>rfl
theorem Yk {ls:Array Bool}{i j:Nat}(h:i≠j):(ls.setIfInBounds i true)[j]? = ls[j]?:=by rw[Array.getElem?_setIfInBounds,if_neg h]
theorem GA {ls:Array Bool}{i:Nat}(h:i < ls.size):(ls.setIfInBounds i true)[i]? = some true:=by rw[Array.getElem?_setIfInBounds,if_pos rfl,if_pos h]
theorem Vf.set {ls:Array Bool}{i j:Nat}{x v:Value}(h:i≠j) (hv:Vf ls j x v):Vf (ls.setIfInBounds i true) j x v:=fun e=>hv (by rwa[Yk h]at e)
structure Ps (W1:World) (FB:Obj) (A7 A9 g q n cap t i rl sc base:Nat) (R':List Ins) (ls:Array Bool) (x38 x39:Value) (w:World):Prop where
 all:ls[14]? = some true→∀ j,j < 14→ls[j]? = some true
 dep:ls[12]? = some true→ls[11]? = some true
 box:ls[14]?≠some true→(w.cell? ⟨A7,0,none⟩=some (.slice (some ⟨g,0,none⟩) n cap)∧w.cell? ⟨A9,0,none⟩=some (.int .i64 t)∧w.cell? ⟨A9,1,none⟩=some (.int .i64 i)∧w.cell? ⟨g,t,none⟩=some (.slice (some ⟨q,0,none⟩) rl sc)∧w.frozen? ⟨g,t,none⟩=false)
 new:ls[11]?≠some true→w=W1
 OZ:ls[11]? = some true→ls[12]?≠some true→w=W1.alloc FB∧x38 = .slice (some ⟨W1.heap.size,0,none⟩) 1 1
 S7:ls[12]? = some true→ls[14]?≠some true→∃ va vn vc,x39 = .slice va vn vc∧Own Zx 44 w base (.slice va vn vc) R'∧(W1.alloc FB).grownBy w (some q)∧((Value.slice va vn vc).ownBlock=some q∨∀ q',(Value.slice va vn vc).ownBlock=some q'→(W1.alloc FB).heap.size≤q')
 put:ls[14]? = some true→∃ va vn vc w3,w=w3.setCell ⟨g,t,none⟩ (.slice va vn vc)∧Own Zx 44 w3 base (.slice va vn vc) R'∧(W1.alloc FB).grownBy w3 (some q)∧((Value.slice va vn vc).ownBlock=some q∨∀ q',(Value.slice va vn vc).ownBlock=some q'→(W1.alloc FB).heap.size≤q')
theorem Ps.set {W1:World}{FB:Obj}{A7 A9 g q n cap t i rl sc base:Nat}{R':List Ins}{ls:Array Bool}{x38 x39:Value}{w:World}(h:Ps W1 FB A7 A9 g q n cap t i rl sc base R' ls x38 x39 w) {k:Nat}(h1:k≠11) (h2:k≠12) (h3:k≠14) (hk:ls[k]? = some false) (hk14:k < 14) :
 Ps W1 FB A7 A9 g q n cap t i rl sc base R' (ls.setIfInBounds k true) x38 x39 w:=by
 have hn:ls[14]?≠some true:=fun e=>by have:=h.all e k hk14;rw[hk]at this;cases this
 exact⟨fun e=>absurd (by rwa[Yk h3]at e) hn,fun e=>by rw[Yk h2]at e;rw[Yk h1];exact h.dep e,fun _=>h.box hn,fun e=>h.new (by rwa[Yk h1]at e),fun e e'=>h.OZ (by rwa[Yk h1]at e) (by rwa[Yk h2]at e'),fun e _=>h.S7 (by rwa[Yk h2]at e) hn,fun e=>absurd (by rwa[Yk h3]at e) hn⟩
theorem Ps.QT {W1:World}{FB:Obj}{A7 A9 g q n cap t i rl sc base:Nat}{R':List Ins}{ls:Array Bool}{x38 x39:Value}{w:World}(h:Ps W1 FB A7 A9 g q n cap t i rl sc base R' ls x38 x39 w) {k:Nat}(hk:ls[k]? = some false) (hk14:k < 14):ls[14]?≠some true:=
 fun e=>by have:=h.all e k hk14;rw[hk]at this;cases this
abbrev Nh (p:List (List Ins)):={g:Gp // g∈ZF p}
def VW {p:List (List Ins)}(pre:List (Nh p × Nat)):List Gp:=pre.map fun x=>x.1.1
theorem Ma (p:List (List Ins)):VW (p:=p) (ZF p).attach.zipIdx.reverse=(ZF p).reverse:=by
 unfold VW;rw[List.map_reverse]
 congr 1
 have h1:(fun x:Nh p × Nat=>x.1.1)=(fun g:Nh p=>g.1) ∘ Prod.fst:=rfl;rw[h1,← List.map_map,List.zipIdx_map_fst,List.attach_map_subtype_val]
theorem Vg (v v2:Value) (p:List (List Ins)) (L:List Gp) (w:World) (hp:Z9 w v p) (hL:ZC ZZ w v2 L) (hl:p.flatten.length≤1048576) :
 Calls Tryz.prog 25 #[v,v2] w (Lr Zx 42 44 w (Ac p L) (XV p L)):=by
 obtain⟨a2,c2,rfl,hd1,hd2,hd3,hL⟩:=hL.open;have HB0:=Za ((Below.refl w.heap.size w).alloc (Nat.le_refl _) (.cells #[.slice a2 L.length c2] 33));have HP:=Za (hp.below HB0.out);have HL:=Za (hL.below HB0.out)
 have HV:=Za (fun w' h=>Yz v p w' h hl);clear hp hL;have HBL:Hid ((w.alloc (.cells #[.slice a2 L.length c2] 33)).heap[w.heap.size]? = some (.cells #[.slice a2 L.length c2] 33 (0,0))):=Za (heap_alloc_new w _);generalize hm:L.length=m at *;have HM:=Za hm;clear hm;generalize hb:Zg p=b at *;have B:=Za hb;clear hb;refine(callsIn_wide (n:=9)).1 ?_;refine callsIn_of_wp_marks Tryz.func25 rfl trivial ?_ rfl;simp only[Tryz.ntmps25,List.size_toArray,List.length_cons,List.length_nil,Nat.reduceAdd,Nat.reduceSub,Array.replicate_succ,Array.replicate_zero,List.push_toArray,List.append_toArray,List.nil_append,List.cons_append];cases b
 ·have E1:Hid (XV p L=false):=Za (by unfold XV;rw[B.out];rfl)
  have E2:Hid (Ac p L=[]):=Za (by unfold Ac;rw[E1.out];rfl);gi_wp2_with (refine⟨trivial,?_⟩;gi_at_call 34;(with_reducible refine(callsIn_wide.2 (HV.out _ HP.out)).mono ?_);rintro e w1 ⟨rfl,hb1⟩);rw[E1.out,E2.out];refine⟨.tuple #[.slice none 0 0,.bool false],by simp[results,Tryz.results25,go_sem],?_⟩;exact⟨_,rfl,ZL.nil _ _ _ _,HB0.out.trans (hb1.mono HB0.out.size)⟩
 ·obtain⟨hv1,hv2,hv3,-,-⟩:=Zv B.out
  have HR:=Za (CN B.out);have HV3:=Za hv3;have HG:=Za (fun w' h=>DV v p w' h hl);obtain⟨sb,hsb⟩:∃ sb,Lc L (ZF p)=sb:=⟨_,rfl⟩
  have SB:=Za hsb;have HGL:Hid ((ZF p).length≤21):=Za (by
   have h1:=J4 p p.length (Nat.le_refl _);rw[List.take_length]at h1;have h2:=Ht p 7 (fun r hr=>(hv3 r hr).1);have:p.length * 7≤3 * 7:=Nat.mul_le_mul_right _ hv1;have h3:(ZF p).length≤p.flatten.length:=h1;omega)
  clear hsb hv3;generalize hn:p.length=n at *;have H:=Za hn;clear hn;gi_wp2_with (first
   | (refine⟨trivial,?_⟩;gi_at_call 34;(with_reducible refine(callsIn_wide.2 (HV.out _ HP.out)).mono ?_);rintro e w1 ⟨rfl,hb1⟩;have HP1:=Za (HP.out.below hb1))
   | (refine⟨trivial,?_⟩;gi_at_call 44;(with_reducible refine(callsIn_wide.2 (HG.out _ HP1.out)).mono ?_);rintro e w2 ⟨vg,rfl,hvg,hb2⟩;obtain⟨⟨ga,gn,gc⟩,rfl,-⟩:=hvg.Yy;have HVG:=Za hvg;have HB2:=Za (Below.next hb1 hb2);have hbl:=(HB2.out.block w.heap.size Sm).trans HBL.out;have hcl:=cell_of_heap hbl (k:=0) rfl;have hll:=Zb hcl;have HBL2:=Za hbl;clear hvg hb1 hb2 hbl))
  have hbA:=(Below.refl w2.heap.size w2).alloc (Nat.le_refl _) (.cells #[.slice ga gn gc] 33);have HB3:=Za (HB2.out.trans (hbA.mono HB2.out.size));have HVG3:=Za (HVG.out.below hbA);have HCF:=Gf ⟨w2.heap.size,0,none⟩ (.slice a2 m c2) L (fun x => !Xo (ZF p) x) _ (HL.out.below HB3.out) (Pp w2.heap.size (.slice ga gn gc) (ZF p) (w2.alloc (.cells #[.slice ga gn gc] 33)) Sm (by simp[go_sem]) HVG3.out.rep);rw[Nl,SB.out]at HCF;have HCF:=Za HCF;have hA6:(w2.alloc (.cells #[.slice ga gn gc] 33)).heap[w2.heap.size]? = some (.cells #[.slice ga gn gc] 33 (0,0)):=heap_alloc_new w2 _;refine⟨trivial,?_⟩;(with_reducible refine(callsIn_wide.2 HCF.out).mono ?_);rintro e w4 ⟨rfl,hb4⟩;have HA6:=Za ((hb4.block w2.heap.size Sm).trans hA6);have HB4:=Za (HB3.out.trans (hb4.mono HB3.out.size));have HVG4:=Za (HVG3.out.below hb4);clear hA6 hb4 HVG3 HVG hbA HCF hcl hll HB3 HB2 HBL2;cases sb
  ·have E1:Hid (XV p L=false):=Za (by unfold XV;rw[SB.out];simp)
   have E2:Hid (Ac p L=[]):=Za (by unfold Ac;rw[E1.out];rfl);gi_wp2;rw[E1.out,E2.out];refine⟨.tuple #[.slice none 0 0,.bool false],by simp[results,Tryz.results25,go_sem],?_⟩;exact⟨_,rfl,ZL.nil _ _ _ _,HB0.out.trans (HB4.out.mono HB0.out.size)⟩
  ·gi_wp2
   refine⟨trivial,?_⟩;(with_reducible refine(callsIn_wide.2 (Uq v p w4 (HP.out.below HB4.out) (by rw[H.out];omega) HR.out)).mono ?_);rintro e w5 ⟨u,rfl,hu,hb5⟩;obtain⟨us,hU,-⟩:=hu.told;have hul:=hU.1;rcases hU.2.1.shape with⟨-,h0⟩ | ⟨g,cap,rfl,hg1,hg2,hc1,hc2⟩
   ·exfalso;rw[h0,H.out]at hul;simp at hul;omega
   ·have hln:us.length=n:=hul.trans H.out
    rw[hln]at hU hc1 ⊢;clear hu hul;have HU:=Za hU;have ha6:=(hb5.block w2.heap.size (Zb (cell_of_heap HA6.out (k:=0) rfl))).trans HA6.out;have hc6:=cell_of_heap ha6 (k:=0) rfl;have hl6:=Zb hc6;have HB5:=Za (HB4.out.trans (hb5.mono HB4.out.size));have HVG5:=Za (HVG4.out.below hb5);have hbl5:=(HB5.out.block w.heap.size Sm).trans HBL.out;have HBL5:=Za hbl5;have hw45:=hb5.size;clear hU hb5 HVG4 hbl5;gi_wp2_with (refine⟨trivial,?_⟩;gi_at_call 56;(with_reducible refine(callsIn_wide.2 (Bu _ _ _ _)).mono ?_);rintro e w' ⟨rfl,rfl⟩);have hB7:Below w5.heap.size w5 ((w5.alloc (.cells #[.slice (some ⟨g,0,none⟩) n cap] 28)).alloc (.cells #[.slice ga gn gc] 33)):=((Below.refl _ _).alloc (Nat.le_refl _) _).alloc Sm _;have ha7:((w5.alloc (.cells #[.slice (some ⟨g,0,none⟩) n cap] 28)).alloc (.cells #[.slice ga gn gc] 33)).heap[w5.heap.size]? = some (.cells #[.slice (some ⟨g,0,none⟩) n cap] 28 (0,0)):=by
     rw[heap_alloc_old _ _ Sm];exact heap_alloc_new w5 _
    have hbs:((w5.alloc (.cells #[.slice (some ⟨g,0,none⟩) n cap] 28)).alloc (.cells #[.slice ga gn gc] 33)).heap[w5.heap.size+1]? = some (.cells #[.slice ga gn gc] 33 (0,0)):=by
     have:=heap_alloc_new (w5.alloc (.cells #[.slice (some ⟨g,0,none⟩) n cap] 28)) (.cells #[.slice ga gn gc] 33);simpa using this
    have hsz7:((w5.alloc (.cells #[.slice (some ⟨g,0,none⟩) n cap] 28)).alloc (.cells #[.slice ga gn gc] 33)).heap.size=w5.heap.size+2:=by simp
    generalize hW7:(w5.alloc (.cells #[.slice (some ⟨g,0,none⟩) n cap] 28)).alloc (.cells #[.slice ga gn gc] 33)=W7 at *;clear hW7;have HVG7:Own ZZ 25 W7 _ (.slice ga gn gc) (ZF p):=HVG5.out.below hB7;obtain⟨bg,og,hog,hogT,hbg,hbgv⟩:∃ (bg:Nat) (og:Obj),og.isCells=true∧(∀ cur,og≠.cells cur 44 (0,0)∧og≠.cells cur 42 (0,0))∧W7.heap[bg]? = some og∧∀ q o,(Value.slice ga gn gc) = .slice (some ⟨q,o,none⟩) (ZF p).attach.length (match (Value.slice ga gn gc) with | .slice _ _ c=>c | _=>0)→(ZF p).attach≠[]→q=bg:=by
     rcases HVG7.shape with⟨-,h0⟩ | ⟨q,cq,hq,-⟩
     ·exact⟨_,_,rfl,fun cur=>by simp,hbs,fun q o _ hne=>absurd (by rw[h0];rfl) hne⟩
     ·replace hq:Value.slice ga gn gc = .slice (some ⟨q,0,none⟩) (ZF p).length cq:=hq
      obtain⟨cur,hcur⟩:=RV HVG7 (q:=q) (by rw[hq];rfl);refine⟨q,_,rfl,fun cur=>by simp,hcur,fun q' o e _ => ?_⟩;rw[hq]at e;simp only[Value.slice.injEq,Option.some.injEq,Addr.mk.injEq]at e;exact e.1.1.symm
    have hR0:Dm (w.alloc (.cells #[.slice a2 m c2] 33)) w.heap.size w5.heap.size (w5.heap.size+1) bg g n cap w4.heap.size (.slice a2 m c2) (.slice ga gn gc) og p W7:=
     ⟨⟨us,HU.out.below hB7⟩,(hB7.block _ (by have:=HB5.out.size;simp at this;omega)).trans HBL5.out,ha7,hbs,hbg,HB5.out.trans (hB7.mono HB5.out.size)⟩
    have HST:=Dr (Pr:=fun g=>g∈ZF p) 8 Om (w5.heap.size+1) bg (.slice ga gn gc) (ZF p).attach (by rw[List.length_attach];have:=HGL.out;omega) W7 Om (cell_of_heap hbs rfl) (by rw[List.attach_map_subtype_val];exact HVG7.rep) hbgv;have HR0:=Za hR0;have hbgl:=(Array.getElem?_eq_some_iff.1 hbg).1;refine wpIn_rangeFunc_ownH rfl Om (gf:=86) (lb:=#[.pointer (some ⟨w5.heap.size+1,0,none⟩)]) rfl trivial (enters_of Tryz.func86 Kr rfl)
     HST Kd.trans (Nz Om hbgl) (Below.refl _ _) (fun _=>rfl)
     (fun pre W=>Dm (w.alloc (.cells #[.slice a2 m c2] 33)) w.heap.size w5.heap.size (w5.heap.size+1) bg g n cap w4.heap.size (.slice a2 m c2) (.slice ga gn gc) og (Jm L p (VW pre)) W)
     (fun _ _ _=>False)
     (M9 (fun pre=>Jm L p (VW pre)) hog (by have:=HB5.out.size;simp at this ⊢;omega))
     (fun _ _ _ _ _ hs _ _=>hs)
     HR0.out
     (fun x a' W => ∃ A9,W.heap[A9]? = some (.cells #[.int .i64 x.1.1.t,.int .i64 x.1.1.i] 25 (0,0))∧a' = { tmps:=#[v,.slice a2 m c2,undef,.pointer (some ⟨w.heap.size,0,none⟩),.slice none 0 0,.bool false,.pointer (some ⟨w2.heap.size,0,none⟩),.pointer (some ⟨w5.heap.size,0,none⟩),undef,.pointer (some ⟨A9,0,none⟩),v,.bool true,.bool false,v,.slice ga gn gc,.slice a2 m c2,.func (.func 54) #[] #[.pointer (some ⟨w2.heap.size,0,none⟩)],.bool false,v,.slice (some ⟨g,0,none⟩) n cap,.slice ga gn gc,.func (.func 86) #[] #[.pointer (some ⟨w5.heap.size+1,0,none⟩)],.int .i64 (x.2:Int),x.1.1.v,undef,undef,undef,undef,undef,undef,undef,undef,undef,undef,undef,undef,undef,undef,undef,undef,undef,undef,undef,undef,undef],defers:=[] })
     (fun x a' _ W W' row h hg hr=>by
      obtain⟨A9,h1,h2⟩:=h;exact⟨A9,KJ h1 hg (fun r e=>(hr r e).2),h2⟩)
     ?assign ?body ?done ?stop
    case assign =>
     rintro l pre ⟨⟨⟨gt,gi⟩,hgm⟩,ix⟩ W K hi hK;gi_wp2;refine hK _ _ ((KeepsOthers.alloc _ _).from _) ⟨heap_alloc_old _ _ ?_,heap_alloc_old _ _ ?_,Sm⟩ (hi.below ((Below.refl _ _).alloc (Nat.le_refl _) _)) ⟨W.heap.size,heap_alloc_new W _,rfl⟩
     ·exact(Array.getElem?_eq_some_iff.1 hi.bs).1
     ·exact(Array.getElem?_eq_some_iff.1 hi.bg).1
    case body =>
     rintro l pre ⟨⟨⟨gt,gi⟩,hgm⟩,ix⟩ a' W hl ⟨r0,hr0⟩ hi ⟨A9,h9,rfl⟩ hlt;obtain⟨t,i,r,hg0,hpr,hi1,hi2,-⟩:=AR hgm;simp only[Gp.mk.injEq]at hg0;obtain⟨rfl,rfl⟩:=hg0;have HC:=Vc (.slice a2 m c2) L ⟨t,i⟩ W (HL.out.below hi.PY);have hstep:Jm L p (VW (pre++[(⟨⟨t,i⟩,hgm⟩,ix)]))=stepG L (Jm L p (VW pre)) ⟨t,i⟩:=by
      unfold VW;rw[F4,Rm]
     obtain⟨ib,hib⟩:∃ ib,Xo L ⟨(t:Int),(i:Int)⟩=ib:=⟨_,rfl⟩
     rw[hib]at HC;have HC:=Za HC;obtain⟨hFl,hFr⟩:=LY L p (VW pre);have hpl:(VW pre).length≤21:=by unfold VW;rw[List.length_map];have:=HGL.out;rw[List.length_attach]at hlt;omega
     have b0:=cell_of_heap hi.bl (k:=0) rfl;have b1:=Zb b0;have n0:W.cell? ⟨A9,0,none⟩=some (.int .i64 (t:Int)):=cell_of_heap h9 (k:=0) rfl;have n1:W.cell? ⟨A9,1,none⟩=some (.int .i64 (i:Int)):=cell_of_heap h9 (k:=1) rfl;have n2:=Zb n0;have HI:=Za hi;have HST':=Za hstep;have H9:=Za h9;have HIB:=Za hib;obtain⟨r',hr',hle1,hle2⟩:=hFr t r hpr;have htn0:t < n:=by have:=(List.getElem?_eq_some_iff.1 hpr).1;rw[← H.out];exact this
     have htn:=Zh htn0;have HR':=Za hr';have HPR:=Za hpr;clear hi hstep h9 hib hFl hFr hpr hr';dsimp only;cases ib
     ·gi_wp2_with (refine⟨trivial,?_⟩;gi_at_call 55;(with_reducible refine(CallsIn.inRound l (callsIn_wide.2 HC.out)).mono ?_);rintro e w1 ⟨rfl,hb1⟩)
      refine⟨Rs hb1,⟨hb1.block _ (Array.getElem?_eq_some_iff.1 HI.out.bs).1,hb1.block _ (Array.getElem?_eq_some_iff.1 HI.out.bg).1,hb1.size⟩,?_⟩;show Dm _ _ _ _ _ _ _ _ _ _ _ _ (Jm L p (VW _)) _;rw[HST'.out];unfold stepG;rw[if_neg (by rw[HIB.out];simp)];exact HI.out.below hb1
     ·gi_wp2_with fail
      refine⟨trivial,?_⟩
      (with_reducible refine(CallsIn.inRound l (callsIn_wide.2 HC.out)).mono ?_);rintro e w1 ⟨rfl,hb1⟩
      have hi1':=HI.out.below hb1;obtain⟨us1,hU1⟩:=hi1'.own;obtain⟨⟨sa,sn,sc⟩,hus,hgl,hcell,hrow,-⟩:=hU1.row HR'.out;have hbase1:w4.heap.size≤w1.heap.size:=by have:=World.ownsRow.lt hU1.2.1 g rfl;omega
      rcases hrow.shape with⟨-,h0⟩ | ⟨q,cq,hsv,hq1,hq2,hq3,hq4⟩
      ·exfalso;rw[h0]at hle1;have:r.length≤0:=hle1;omega
      ·simp only[Value.slice.injEq]at hsv
       obtain⟨rfl,rfl,rfl⟩:=hsv;have a70:w1.cell? ⟨w5.heap.size,0,none⟩=some (.slice (some ⟨g,0,none⟩) n cap):=cell_of_heap hi1'.a7 (k:=0) rfl;have a71:=Zb a70;have h9':=(hb1.block A9 n2).trans H9.out;have m0:w1.cell? ⟨A9,0,none⟩=some (.int .i64 (t:Int)):=cell_of_heap h9' (k:=0) rfl;have m1:w1.cell? ⟨A9,1,none⟩=some (.int .i64 (i:Int)):=cell_of_heap h9' (k:=1) rfl;have m2:=Zb m0;have hI1:=Za hi1';have HU1:=Za hU1;have HUS:=Za hus;have hqg:q≠g:=fun e=>hU1.2.2.2.2 t _ hus q rfl (by rw[e];rfl);obtain⟨curq,hcurq⟩:=RV hrow (q:=q) rfl;have hq7:w5.heap.size≠q:=fun e=>by rw[← e,hi1'.a7]at hcurq;simp at hcurq
       have hq9:A9≠q:=fun e=>by rw[← e,h9']at hcurq;simp at hcurq
       have HQ:=Za hcurq;have hrl:r'.length≤1048576:=by have:=(HV3.out r (List.mem_of_getElem? HPR.out)).1;omega
       have HINS:=Za (fun (W2:World) (h1:Below w1.heap.size w1 W2) (h2:W2.heap[w1.heap.size]? = some (.cells #[.int .i64 4,.int .i64 0,.int .i64 0,.int .i64 0] 44 (0,0))) =>
        Fe q r'.length sc i w1.heap.size w4.heap.size r' Qd W2 (hrow.below h1) Om hrl Om h2 (Nat.le_trans hbase1 h1.size))
       have HKP:=Za (fun (W2 w3:World) (h1:Below w1.heap.size w1 W2) (h2:W2.grownBy w3 (some q)) (k:Nat) (hk:k < w1.heap.size) (hne:k≠q)=>(h2.block k (Nat.lt_of_lt_of_le hk h1.size) So).trans (h1.block k hk));clear hi1' hU1 hus hrow n0 n1 n2 b0 b1 hcurq h9';generalize hRL:r'.length=rl at *;have HRL:=Za hRL;clear hRL;have hfz:=HU1.out.2.1.frozen t;gi_wp2;have hmx:Tryz.prog.follows .mixedOrders=true:=Kr;have hbX:Below w1.heap.size w1 (w1.alloc (.cells #[.int .i64 4,.int .i64 0,.int .i64 0,.int .i64 0] 44)).drew:=((Below.refl _ _).alloc (Nat.le_refl _) _).drew;have HBX:=Za hbX;have HI2:=Za (HINS.out (w1.alloc (.cells #[.int .i64 4,.int .i64 0,.int .i64 0,.int .i64 0] 44)).drew hbX (heap_alloc_new w1 _));have HK2:=Za (fun w3 h=>HKP.out (w1.alloc (.cells #[.int .i64 4,.int .i64 0,.int .i64 0,.int .i64 0] 44)).drew w3 hbX h);clear hbX HINS HKP;rename_i Q';have HFIN:Hid (∀ (a':Act) (va:Option Addr) (vn vc:Nat) (w3:World),Own Zx 44 w3 w4.heap.size (.slice va vn vc) (r'.take i++Qd :: r'.drop i)→(w1.alloc (.cells #[.int .i64 4,.int .i64 0,.int .i64 0,.int .i64 0] 44)).drew.grownBy w3 (some q) →
        ((Value.slice va vn vc).ownBlock=some q∨∀ q',(Value.slice va vn vc).ownBlock=some q'→(w1.alloc (.cells #[.int .i64 4,.int .i64 0,.int .i64 0,.int .i64 0] 44)).drew.heap.size≤q')→Q' .normal a' (w3.setCell ⟨g,t,none⟩ (.slice va vn vc))):=Za (fun a' va vn vc w3 h1 h2 h3=>by
        have hown:=(HU1.out.below HBX.out).NP (s':=⟨va,vn,vc⟩) HUS.out h1 h2 h3;have hblk:∀ k,k < w1.heap.size→k≠q→k≠g→(w3.setCell ⟨g,t,none⟩ (.slice va vn vc)).heap[k]? = w1.heap[k]?:=fun k hk h h' =>
         (heap_setCell_other w3 ⟨g,t,none⟩ k _ (fun e=>h' (by simpa using e))).trans (HK2.out w3 h2 k hk h)
        obtain⟨curg,hcurg⟩:=RV HU1.out.2.1 (q:=g) rfl;have hfix:∀ (k:Nat) (o:Obj),w1.heap[k]? = some o→(∀ cur,o≠.cells cur 44 (0,0)∧o≠.cells cur 42 (0,0))→(w3.setCell ⟨g,t,none⟩ (.slice va vn vc)).heap[k]? = some o:=fun k o hk ho=>by
         rw[hblk k (Array.getElem?_eq_some_iff.1 hk).1 (fun e => ?_) (fun e => ?_),hk]
         ·subst e;rw[HQ.out]at hk;simp at hk;exact(ho curq).1 hk.symm
         ·subst e;rw[hcurg]at hk;simp at hk;exact(ho curg).2 hk.symm
        have hsz:w1.heap.size≤w3.heap.size:=Nat.le_trans HBX.out.size h2.size;refine⟨⟨by simp;exact Nat.le_trans hb1.size hsz,fun k o _ hk ho => ?_⟩,⟨?_,?_,by simp;exact Nat.le_trans hb1.size hsz⟩,?_⟩
        ·refine hfix k o ((hb1.block k (Array.getElem?_eq_some_iff.1 hk).1).trans hk) (fun cur=>⟨fun e => ?_,fun e => ?_⟩)
         ·rw[e]at ho;cases ho
         ·rw[e]at ho;cases ho
        ·rw[hfix _ _ hI1.out.bs (fun cur=>by simp),HI.out.bs]
        ·rw[hfix _ _ hI1.out.bg hogT,HI.out.bg]
        ·show Dm _ _ _ _ _ _ _ _ _ _ _ _ (Jm L p (VW _)) _
         have e:Jm L p (VW (pre++[(⟨⟨(t:Int),(i:Int)⟩,hgm⟩,ix)]))=(Jm L p (VW pre)).set t (r'.take i++Qd :: r'.drop i):=by
          rw[HST'.out];unfold stepG;rw[if_pos HIB.out];simp only[Int.toNat_natCast];rw[List.getD_eq_getElem?_getD,HR'.out];rfl
         rw[e];refine⟨⟨_,hown⟩,hfix _ _ hI1.out.bl (fun cur=>by simp),hfix _ _ hI1.out.a7 (fun cur=>by simp),hfix _ _ hI1.out.bs (fun cur=>by simp),hfix _ _ hI1.out.bg hogT,?_⟩;have hb01:=hI1.out.PY;have hz4:=HB4.out.size;exact((hb01.trans (HBX.out.mono hb01.size)).grown h2 (Nat.le_trans hb01.size HBX.out.size) (fun k e=>by simp at e;omega)).setCell (show _≤g by omega) _)
       clear_value Q'
       generalize hR':r'.take i++Qd :: r'.drop i=R' at *;generalize ((⟨⟨(t:Int),(i:Int)⟩,hgm⟩:Nh p),ix)=x0 at *;clear hR' HCF HR' HPR HIB HC HI HST' HST H9 HBX HU1 hI1 HUS HQ HRL HBL HVG5 HBL5 HB5 HU HVG7 HA6 HB4 HB0 HP HL HV HR HV3 HG HGL HP1 hR0 HR0 hbgv hbg hbs ha7 hB7 hr0 hpl hL
       refine Gt hmx (fun ls a w' => ∃ x27 x28 x29 x30 x31 x32 x33 x34 x35 x36 x37 x38 x39 x40:Value,a = { tmps:=#[v,.slice a2 m c2,undef,.pointer (some ⟨w.heap.size,0,none⟩),.slice none 0 0,.bool false,.pointer (some ⟨w2.heap.size,0,none⟩),.pointer (some ⟨w5.heap.size,0,none⟩),undef,.pointer (some ⟨A9,0,none⟩),v,.bool true,.bool false,v,.slice ga gn gc,.slice a2 m c2,.func (.func 54) #[] #[.pointer (some ⟨w2.heap.size,0,none⟩)],.bool false,v,.slice (some ⟨g,0,none⟩) n cap,.slice ga gn gc,.func (.func 86) #[] #[.pointer (some ⟨w5.heap.size+1,0,none⟩)],.int .i64 (ix:Int),.agg #[.int .i64 t,.int .i64 i],.slice a2 m c2,.agg #[.int .i64 t,.int .i64 i],.bool true,x27,x28,x29,x30,x31,x32,x33,x34,x35,x36,x37,x38,x39,x40,undef,undef,undef,undef],defers:=[] }∧Vf ls 0 x27 (.slice (some ⟨g,0,none⟩) n cap)∧Vf ls 1 x28 (.pointer (some ⟨A9,0,none⟩))∧Vf ls 2 x29 (.int .i64 t)∧Vf ls 3 x30 (.slice (some ⟨g,0,none⟩) n cap)∧Vf ls 4 x31 (.pointer (some ⟨A9,0,none⟩))∧Vf ls 5 x32 (.int .i64 t)∧Vf ls 6 x33 (.pointer (some ⟨g,t,none⟩))∧Vf ls 7 x34 (.slice (some ⟨q,0,none⟩) rl sc)∧Vf ls 8 x35 (.pointer (some ⟨A9,1,none⟩))∧Vf ls 9 x36 (.int .i64 i)∧Vf ls 10 x37 (.agg #[.int .i64 4,.int .i64 0,.int .i64 0,.int .i64 0])∧Vf ls 13 x40 (.pointer (some ⟨g,t,none⟩))∧Ps w1.drew (.cells #[.int .i64 4,.int .i64 0,.int .i64 0,.int .i64 0] 44) w5.heap.size A9 g q n cap t i rl sc w4.heap.size R' ls x38 x39 w') Kr ?r0 ?rs ?re
       case r0 =>
        exact⟨undef,undef,undef,undef,undef,undef,undef,undef,undef,undef,undef,undef,undef,undef,rfl,fun h=>by simp at h,fun h=>by simp at h,fun h=>by simp at h,fun h=>by simp at h,fun h=>by simp at h,fun h=>by simp at h,fun h=>by simp at h,fun h=>by simp at h,fun h=>by simp at h,fun h=>by simp at h,fun h=>by simp at h,fun h=>by simp at h,⟨fun h=>by simp at h,fun h=>by simp at h,fun _=>⟨a70,m0,m1,hcell,hfz⟩,fun _=>rfl,fun h=>by simp at h,fun h=>by simp at h,fun h=>by simp at h⟩⟩
       case rs =>
        rintro ls a w' hs ⟨x27,x28,x29,x30,x31,x32,x33,x34,x35,x36,x37,x38,x39,x40,rfl,c27,c28,c29,c30,c31,c32,c33,c34,c35,c36,c37,c40,hr⟩ k o mc K hK;have hk:k < 15:=(Array.getElem?_eq_some_iff.1 mc.op).1;have hs:ls.size=15:=hs;have hk15:k=0∨k=1∨k=2∨k=3∨k=4∨k=5∨k=6∨k=7∨k=8∨k=9∨k=10∨k=11∨k=12∨k=13∨k=14:=Om;have hop:=mc.op;have haf:=mc.after;rcases hk15 with rfl | rfl | rfl | rfl | rfl | rfl | rfl | rfl | rfl | rfl | rfl | rfl | rfl | rfl | rfl
        ·simp at hop;subst hop;simp[Region.binds]at haf
         obtain⟨e7,e9,e91,eg,ef⟩:=hr.box (hr.QT mc.new Dc);go_simp;exact hK _ _ ⟨_,_,_,_,_,_,_,_,_,_,_,_,_,_,rfl,Vf.same,c28.set Dc,c29.set Dc,c30.set Dc,c31.set Dc,c32.set Dc,c33.set Dc,c34.set Dc,c35.set Dc,c36.set Dc,c37.set Dc,c40.set Dc,hr.set Dc Dc Dc mc.new Dc⟩
        ·simp at hop;subst hop;simp[Region.binds]at haf
         obtain⟨e7,e9,e91,eg,ef⟩:=hr.box (hr.QT mc.new Dc);go_simp;exact hK _ _ ⟨_,_,_,_,_,_,_,_,_,_,_,_,_,_,rfl,c27.set Dc,Vf.same,c29.set Dc,c30.set Dc,c31.set Dc,c32.set Dc,c33.set Dc,c34.set Dc,c35.set Dc,c36.set Dc,c37.set Dc,c40.set Dc,hr.set Dc Dc Dc mc.new Dc⟩
        ·simp at hop;subst hop;simp[Region.binds]at haf
         obtain rfl:=c28 (by simp[haf]);obtain⟨e7,e9,e91,eg,ef⟩:=hr.box (hr.QT mc.new Dc);go_simp;exact hK _ _ ⟨_,_,_,_,_,_,_,_,_,_,_,_,_,_,rfl,c27.set Dc,c28.set Dc,Vf.same,c30.set Dc,c31.set Dc,c32.set Dc,c33.set Dc,c34.set Dc,c35.set Dc,c36.set Dc,c37.set Dc,c40.set Dc,hr.set Dc Dc Dc mc.new Dc⟩
        ·simp at hop;subst hop;simp[Region.binds]at haf
         obtain⟨e7,e9,e91,eg,ef⟩:=hr.box (hr.QT mc.new Dc);go_simp;exact hK _ _ ⟨_,_,_,_,_,_,_,_,_,_,_,_,_,_,rfl,c27.set Dc,c28.set Dc,c29.set Dc,Vf.same,c31.set Dc,c32.set Dc,c33.set Dc,c34.set Dc,c35.set Dc,c36.set Dc,c37.set Dc,c40.set Dc,hr.set Dc Dc Dc mc.new Dc⟩
        ·simp at hop;subst hop;simp[Region.binds]at haf
         obtain⟨e7,e9,e91,eg,ef⟩:=hr.box (hr.QT mc.new Dc);go_simp;exact hK _ _ ⟨_,_,_,_,_,_,_,_,_,_,_,_,_,_,rfl,c27.set Dc,c28.set Dc,c29.set Dc,c30.set Dc,Vf.same,c32.set Dc,c33.set Dc,c34.set Dc,c35.set Dc,c36.set Dc,c37.set Dc,c40.set Dc,hr.set Dc Dc Dc mc.new Dc⟩
        ·simp at hop;subst hop;simp[Region.binds]at haf
         obtain rfl:=c31 (by simp[haf]);obtain⟨e7,e9,e91,eg,ef⟩:=hr.box (hr.QT mc.new Dc);go_simp;exact hK _ _ ⟨_,_,_,_,_,_,_,_,_,_,_,_,_,_,rfl,c27.set Dc,c28.set Dc,c29.set Dc,c30.set Dc,c31.set Dc,Vf.same,c33.set Dc,c34.set Dc,c35.set Dc,c36.set Dc,c37.set Dc,c40.set Dc,hr.set Dc Dc Dc mc.new Dc⟩
        ·simp at hop;subst hop;simp[Region.binds]at haf
         obtain rfl:=c30 (by simp[haf]);obtain rfl:=c32 (by simp[haf]);obtain⟨e7,e9,e91,eg,ef⟩:=hr.box (hr.QT mc.new Dc);go_simp;exact hK _ _ ⟨_,_,_,_,_,_,_,_,_,_,_,_,_,_,rfl,c27.set Dc,c28.set Dc,c29.set Dc,c30.set Dc,c31.set Dc,c32.set Dc,Vf.same,c34.set Dc,c35.set Dc,c36.set Dc,c37.set Dc,c40.set Dc,hr.set Dc Dc Dc mc.new Dc⟩
        ·simp at hop;subst hop;simp[Region.binds]at haf
         obtain rfl:=c33 (by simp[haf]);obtain⟨e7,e9,e91,eg,ef⟩:=hr.box (hr.QT mc.new Dc);go_simp;exact hK _ _ ⟨_,_,_,_,_,_,_,_,_,_,_,_,_,_,rfl,c27.set Dc,c28.set Dc,c29.set Dc,c30.set Dc,c31.set Dc,c32.set Dc,c33.set Dc,Vf.same,c35.set Dc,c36.set Dc,c37.set Dc,c40.set Dc,hr.set Dc Dc Dc mc.new Dc⟩
        ·simp at hop;subst hop;simp[Region.binds]at haf
         obtain⟨e7,e9,e91,eg,ef⟩:=hr.box (hr.QT mc.new Dc);go_simp;exact hK _ _ ⟨_,_,_,_,_,_,_,_,_,_,_,_,_,_,rfl,c27.set Dc,c28.set Dc,c29.set Dc,c30.set Dc,c31.set Dc,c32.set Dc,c33.set Dc,c34.set Dc,Vf.same,c36.set Dc,c37.set Dc,c40.set Dc,hr.set Dc Dc Dc mc.new Dc⟩
        ·simp at hop;subst hop;simp[Region.binds]at haf
         obtain rfl:=c35 (by simp[haf]);obtain⟨e7,e9,e91,eg,ef⟩:=hr.box (hr.QT mc.new Dc);go_simp;exact hK _ _ ⟨_,_,_,_,_,_,_,_,_,_,_,_,_,_,rfl,c27.set Dc,c28.set Dc,c29.set Dc,c30.set Dc,c31.set Dc,c32.set Dc,c33.set Dc,c34.set Dc,c35.set Dc,Vf.same,c37.set Dc,c40.set Dc,hr.set Dc Dc Dc mc.new Dc⟩
        ·simp at hop;subst hop;simp[Region.binds]at haf
         obtain⟨e7,e9,e91,eg,ef⟩:=hr.box (hr.QT mc.new Dc);go_simp;exact hK _ _ ⟨_,_,_,_,_,_,_,_,_,_,_,_,_,_,rfl,c27.set Dc,c28.set Dc,c29.set Dc,c30.set Dc,c31.set Dc,c32.set Dc,c33.set Dc,c34.set Dc,c35.set Dc,c36.set Dc,Vf.same,c40.set Dc,hr.set Dc Dc Dc mc.new Dc⟩
        ·simp at hop;subst hop;simp[Region.binds]at haf
         obtain rfl:=c37 (by simp[haf]);obtain rfl:=hr.new (by rw[mc.new];simp);have hb:=hr.box (hr.QT mc.new Dc);obtain⟨e7,e9,e91,eg,ef⟩:=hb;have h12:ls[12]?≠some true:=fun e=>by have:=hr.dep e;rw[mc.new]at this;cases this
         have h14:=hr.QT mc.new Dc;go_simp;refine hK _ _ ⟨_,_,_,_,_,_,_,_,_,_,_,_,_,_,rfl,c27.set Dc,c28.set Dc,c29.set Dc,c30.set Dc,c31.set Dc,c32.set Dc,c33.set Dc,c34.set Dc,c35.set Dc,c36.set Dc,c37.set Dc,c40.set Dc,⟨fun e=>absurd (by rwa[Yk Dc]at e) h14,fun e=>absurd (by rwa[Yk Dc]at e) h12,fun _ => ?_,fun e=>absurd (GA Om) e,fun _ _=>⟨rfl,rfl⟩,fun e=>absurd (by rwa[Yk Dc]at e) h12,fun e=>absurd (by rwa[Yk Dc]at e) h14⟩⟩;exact⟨by simpa[go_sem,a71] using e7,by simpa[go_sem,m2] using e9,by simpa[go_sem,m2] using e91,by simpa[go_sem,hgl] using eg,by simpa[go_sem,hgl] using ef⟩
        ·simp at hop;subst hop;simp[Region.binds]at haf
         obtain rfl:=c34 (by simp[haf]);obtain rfl:=c36 (by simp[haf]);have h14:=hr.QT mc.new Dc;obtain⟨rfl,rfl⟩:=hr.OZ (by simp[haf]) (by rw[mc.new];simp);go_simp;refine⟨trivial,?_⟩
         (with_reducible refine(CallsIn.inRound l (callsIn_wide.2 HI2.out)).mono ?_);rintro e w3 ⟨v',rfl,ho3,hgr3,hat3⟩
         obtain⟨⟨va,vn,vc⟩,rfl,-⟩:=ho3.Yy;have kg:=HK2.out w3 hgr3 g hgl Om;have k7:=HK2.out w3 hgr3 w5.heap.size a71 hq7;have k9:=HK2.out w3 hgr3 A9 m2 hq9;exact hK _ _ ⟨_,_,_,_,_,_,_,_,_,_,_,_,_,_,rfl,c27.set Dc,c28.set Dc,c29.set Dc,c30.set Dc,c31.set Dc,c32.set Dc,c33.set Dc,c34.set Dc,c35.set Dc,c36.set Dc,c37.set Dc,c40.set Dc,⟨fun e=>absurd (by rwa[Yk Dc]at e) h14,fun _=>by rw[Yk Dc];simp[haf],fun _=>⟨Xh k7 a70,Xh k9 m0,Xh k9 m1,Xh kg hcell,(World.frozen?_of_block kg).trans hfz⟩,fun e=>absurd (by rw[Yk Dc];simp[haf]) e,fun _ e=>absurd (GA Om) e,fun _ _=>⟨va,vn,vc,rfl,ho3,hgr3,hat3⟩,fun e=>absurd (by rwa[Yk Dc]at e) h14⟩⟩
        ·simp at hop;subst hop;simp[Region.binds]at haf
         obtain rfl:=c27 (by simp[haf]);obtain rfl:=c29 (by simp[haf]);obtain⟨e7,e9,e91,eg,ef⟩:=hr.box (hr.QT mc.new Dc);go_simp;exact hK _ _ ⟨_,_,_,_,_,_,_,_,_,_,_,_,_,_,rfl,c27.set Dc,c28.set Dc,c29.set Dc,c30.set Dc,c31.set Dc,c32.set Dc,c33.set Dc,c34.set Dc,c35.set Dc,c36.set Dc,c37.set Dc,Vf.same,hr.set Dc Dc Dc mc.new Dc⟩
        ·simp at hop;subst hop;simp[Region.binds]at haf
         obtain rfl:=c40 (by simp[haf]);have h14:ls[14]?≠some true:=by rw[mc.new];simp
         obtain⟨va,vn,vc,rfl,k1,k2,k3⟩:=hr.S7 (by simp[haf]) h14;obtain⟨e7,e9,e91,eg,ef⟩:=hr.box h14;have el:=Zb eg;go_simp;refine hK _ _ ⟨_,_,_,_,_,_,_,_,_,_,_,_,_,_,rfl,c27.set Dc,c28.set Dc,c29.set Dc,c30.set Dc,c31.set Dc,c32.set Dc,c33.set Dc,c34.set Dc,c35.set Dc,c36.set Dc,c37.set Dc,c40.set Dc,⟨fun _ j hj => ?_,fun _ => ?_,fun e=>absurd (GA Om) e,fun e => ?_,fun e e' => ?_,fun _ e=>absurd (GA Om) e,fun _=>⟨va,vn,vc,_,rfl,k1,k2,k3⟩⟩⟩
         ·have:j=0∨j=1∨j=2∨j=3∨j=4∨j=5∨j=6∨j=7∨j=8∨j=9∨j=10∨j=11∨j=12∨j=13:=Om
          rw[Yk Om];rcases this with rfl | rfl | rfl | rfl | rfl | rfl | rfl | rfl | rfl | rfl | rfl | rfl | rfl | rfl <;> simp[haf]
         ·rw[Yk Dc];simp[haf]
         ·exact absurd (by rw[Yk Dc];simp[haf]) e
         ·exact absurd (by rw[Yk Dc];simp[haf]) e'
       case re =>
        rintro ls a w' hall ⟨x27,x28,x29,x30,x31,x32,x33,x34,x35,x36,x37,x38,x39,x40,rfl,c27,c28,c29,c30,c31,c32,c33,c34,c35,c36,c37,c40,hr⟩;obtain⟨va,vn,vc,w3,rfl,k1,k2,k3⟩:=hr.put (hall 14 Dc);exact HFIN.out _ va vn vc w3 k1 k2 k3
    case done =>
     rintro D ys W hD rfl h hK;rw[Ma,I3 L p SB.out]at h;have hrows:=Bh (f:=Xo L) (p:=p) (n:=7) (fun r hr=>(HV3.out r hr).1);have hfl:(Y1 (Xo L) p).flatten.length≤1048576:=by
      have h1:=Ht (Y1 (Xo L) p) (2 * 7) hrows;rw[YQ,H.out]at h1;have:n * (2 * 7)≤3 * (2 * 7):=Nat.mul_le_mul_right _ hv1;omega
     obtain⟨us2,hU2⟩:=h.own;have E0:Hid (XV p L=Zg (Y1 (Xo L) p)):=Za (by unfold XV;rw[B.out,SB.out];rfl);have E2:Hid (Ac p L=if Zg (Y1 (Xo L) p)=true then Y1 (Xo L) p else []):=Za (by unfold Ac;rw[E0.out]);have HPV:=Za (Yz (.slice (some ⟨g,0,none⟩) n cap) (Y1 (Xo L) p) W hU2.own.rep hfl);have HU2:=Za hU2;have z0:=cell_of_heap h.a7 (k:=0) rfl;have z1:=Zb z0;have HH:=Za h;clear h hU2 hrows;generalize hpb:Zg (Y1 (Xo L) p)=pb at *;have PB:=Za hpb;clear hpb;cases pb
     ·gi_wp2_with (refine⟨trivial,?_⟩;gi_at_call 34;(with_reducible refine(callsIn_wide.2 HPV.out).mono ?_);rintro e w8 ⟨rfl,hb8⟩;have zz0:=cell_of_heap (HH.out.below hb8).a7 (k:=0) rfl;have zz1:=Zb zz0;have HB8:=Za hb8;clear hb8)
      have hK8:=(HB8.out.block D (Array.getElem?_eq_some_iff.1 hK).1).trans hK;refine⟨Sm,.inl ⟨_,_,rfl,run_takeDeferred hK8,?_⟩⟩;refine⟨.tuple #[.slice none 0 0,.bool false],by simp[results,Tryz.results25,go_sem],?_⟩;rw[E0.out,E2.out];have hb9:=(HH.out.below HB8.out).PY;exact⟨_,rfl,ZL.nil _ _ _ _,HB0.out.trans ((hb9.trans (belowK_b (w:=W7) (by have:=HB5.out.size;omega) w8 D _ _ hD hK8 rfl rfl)).mono HB0.out.size)⟩
     ·gi_wp2_with (refine⟨trivial,?_⟩;gi_at_call 34;(with_reducible refine(callsIn_wide.2 HPV.out).mono ?_);rintro e w8 ⟨rfl,hb8⟩;have zz0:=cell_of_heap (HH.out.below hb8).a7 (k:=0) rfl;have zz1:=Zb zz0;have HB8:=Za hb8;clear hb8)
      have hK8:=(HB8.out.block D (Array.getElem?_eq_some_iff.1 hK).1).trans hK;refine⟨Sm,.inl ⟨_,_,rfl,run_takeDeferred hK8,?_⟩⟩;refine⟨.tuple #[.slice (some ⟨g,0,none⟩) n cap,.bool true],by simp[results,Tryz.results25,go_sem],?_⟩;rw[E0.out,E2.out];have hb9:=(HH.out.below HB8.out).PY;have hz4:=HB4.out.size;have hz0:=HB0.out.size;have ho9:=Be (HU2.out.below HB8.out) (grownBy_putObj' w8 D (.deferred none)) (fun r e=>by cases e;exact⟨_,hK8,rfl⟩);exact⟨_,rfl,(ZL.mono ho9.own Om),HB0.out.trans ((hb9.trans (belowK_b (w:=W7) (by have:=HB5.out.size;omega) w8 D _ _ hD hK8 rfl rfl)).mono HB0.out.size)⟩
    case stop =>
     rintro D c pre W _ _ h _;exact h.elim
end Go.Proofs.YtngekjpklkjnbaaGreat
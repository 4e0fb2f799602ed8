/-
  A state with store buffers after a thread's move. Condition: a state as it can be, a valid instruction.
-/
import Derived.Test.YtngekjpklkjnbaaGreatZp11
import Derived.Test.YtngekjpklkjnbaaGreatZp12
import Derived.Deep.WholeRow
set_option maxHeartbeats 6400000
set_option maxRecDepth 100000
namespace Go.Proofs.YtngekjpklkjnbaaGreat
open Go.RowKit
theorem JQ {p:List (List Ins)}{split:Bool}{s:Bf}{t:Nat}(ht:t < p.length):(Zy p split s t).isSome=YW p split s t:=by
 unfold Zy YW ZW;rw[if_pos ht];cases hr:p[t]? with
 | none=>simp
 | some r =>
  cases hk:s.q.pc[t]? with
  | none=>simp
  | some k =>
   cases hx:r[k.toNat]? with
   | none=>simp[hx]
   | some x =>
    simp only[Option.bind_some,hx];unfold Qa;by_cases h45:x.op=4∨x.op=5
    ·rw[if_pos h45,if_pos h45]
     cases he:Yg s t split <;> simp
    ·rw[if_neg h45,if_neg h45]
     split <;> simp
theorem V5 {p:List (List Ins)}{split:Bool}{s:Bf}{k:Nat}:(Zy p split s (p.length+k)).isSome=Qq s k:=by
 unfold Zy Qq;rw[if_neg Om,Nat.add_sub_cancel_left,List.getD_eq_getElem?_getD];cases hk:s.bf[k]? with
 | none=>simp
 | some row =>
  cases row with
  | nil=>simp
  | cons e r=>obtain⟨l,v⟩:=e;simp
theorem RQ {p:List (List Ins)}{split:Bool}{s:Bf}(m:Nat):m∈Uo p split s↔(Zy p split s m).isSome:=by
 unfold Uo;rw[List.mem_append,List.mem_filter,List.mem_map];constructor
 ·rintro (⟨h1,h2⟩ | ⟨k,h1,rfl⟩)
  ·rw[JQ (List.mem_range.1 h1)];exact h2
  ·rw[V5];exact(List.mem_filter.1 h1).2
 ·intro h
  by_cases hm:m < p.length
  ·rw[JQ hm]at h
   exact .inl ⟨List.mem_range.2 hm,h⟩
  ·obtain⟨k,rfl⟩:∃ k,m=p.length+k:=⟨m - p.length,Om⟩
   rw[V5]at h;refine .inr ⟨k,List.mem_filter.2 ⟨List.mem_range.2 ?_,h⟩,rfl⟩;unfold Qq at h;rw[List.getD_eq_getElem?_getD]at h;cases hk:s.bf[k]? with
   | none=>rw[hk]at h;simp at h
   | some row=>exact(List.getElem?_eq_some_iff.1 hk).1
def Ki (p:List (List Ins)) (split:Bool) (s:Bf) (m:Nat):Bf:=(Zy p split s m).getD s
theorem JD {p:List (List Ins)}{split:Bool}{s s':Bf}{m:Nat}(h:Zy p split s m=some s'):Ki p split s m=s':=by unfold Ki;rw[h];rfl
theorem ZT.QV {p:List (List Ins)}{split:Bool}(hp:∀ r∈p,∀ x∈r,Zi x=true) {s:Bf}(h:Zt (Zr p split) (Zy p split) s):ZT p split s∧Y8 p s≤Y8 p (Zr p split):=by
 induction h with
 | start=>exact⟨ZT.start p split,Nat.le_refl _⟩
 | step _ ht ih=>exact⟨ih.1.next hp ht,Nat.le_trans (Nat.le_of_lt (Jk ih.1 ht)) ih.2⟩
theorem RJ:∀ {l:List (List (Int × Int))}{r:List (Int × Int)},r∈l→r.length≤(l.map List.length).sum
 | [],_,h=>by simp at h
 | x :: l,r,h=>by
  rcases List.mem_cons.1 h with e | e
  ·subst e;simp
  ·have:=RJ e;simp;omega
theorem JP {p:List (List Ins)}{split:Bool}(hv:Zg p=true):Y8 p (Zr p split)≤42:=by
 unfold Y8;have h1:=UB hv (Zr p split).q;have h2:(((Zr p split).bf).map List.length).sum=0:=by
  simp[Zr]
 omega
theorem VQ {p:List (List Ins)}{split:Bool}(hv:Zg p=true) {s:Bf}(h:Zt (Zr p split) (Zy p split) s):∀ r∈s.bf,r.length≤42:=fun r hr=>by
 have h1:=(ZT.QV (ZB hv) h).2;have h2:=JP (split:=split) hv;have h3:=RJ hr;unfold Y8 at h1 h2;omega
theorem Bj:∀ {ls ls':List (List Int)},ls.length=ls'.length→XA ls=XA ls'→ls=ls'
 | [],[],_,_=>rfl
 | [],_ :: _,h,_=>by simp at h
 | _ :: _,[],h,_=>by simp at h
 | r :: ls,r' :: ls',h,e=>by
  simp only[XA,List.flatMap_cons,List.cons_append,List.cons.injEq]at e;have h1:r.length=r'.length:=Om;have h2:=List.append_inj e.2 h1;rw[h2.1,Bj (by simpa using h) h2.2]
theorem AO:∀ {r r':List (Int × Int)},(∀ e∈r,YP e)→(∀ e∈r',YP e)→ZA r=ZA r'→r=r'
 | [],[],_,_,_=>rfl
 | [],_ :: _,_,_,h=>by simp at h
 | _ :: _,[],_,_,h=>by simp at h
 | x :: r,y :: r',h1,h2,h=>by
  simp only[ZA,List.map_cons,List.cons.injEq]at h;have a:=h1 x Sm;have b:=h2 y Sm;unfold YP at a b;have e:x=y:=by
   obtain⟨x1,x2⟩:=x;obtain⟨y1,y2⟩:=y;simp only at a b h;simp only[Prod.mk.injEq];omega
  rw[e,AO (fun z hz=>h1 z (by simp[hz])) (fun z hz=>h2 z (by simp[hz])) h.2]
theorem DA {p:List (List Ins)}{split:Bool}{s s':Bf}(h:ZT p split s) (h':ZT p split s') (hp:p.length≤3) (e:Dz s=Dz s'):s=s':=by
 have h1:=List.append_inj e Rf;have h2:=HJ h.q h'.q hp h1.1;have h3:=Bj (by rw[List.length_map,List.length_map,h.lb,h'.lb]) h1.2;have h4:s.bf=s'.bf:=by
  apply List.ext_getElem (by rw[h.lb,h'.lb]);intro i hi hi';have h5:=congrArg (fun t:List (List Int)=>t[i]?) h3;simp only[List.getElem?_map,List.getElem?_eq_getElem hi,List.getElem?_eq_getElem hi',Option.map_some,Option.some.injEq]at h5;exact AO (h.en _ (List.getElem_mem hi)) (h'.en _ (List.getElem_mem hi')) h5
 cases s;cases s';simp only[Bf.mk.injEq];exact⟨h2,h4⟩
theorem GO {p:List (List Ins)}{split:Bool}{s:Bf}(h:ZT p split s) (hpr:∀ r∈p,r.length≤7) (hr:∀ r∈s.bf,r.length≤42):∀ x∈Dz s,0≤x∧x≤255:=by
 intro x hx;rcases List.mem_append.1 hx with hx | hx
 ·exact KS h.q hpr x hx
 ·unfold XA at hx
  obtain⟨row,h1,h2⟩:=List.mem_flatMap.1 hx;obtain⟨r,h3,rfl⟩:=List.mem_map.1 h1;rcases List.mem_cons.1 h2 with e | e
  ·have:=hr r h3
   rw[e,List.length_map];omega
  ·obtain⟨en,h4,rfl⟩:=List.mem_map.1 e
   have:=h.en r h3 en h4;unfold YP at this;omega
theorem GN {p:List (List Ins)}{split:Bool}{a b:Bf}(ha:ZT p split a) (hb:ZT p split b) (da:Y3 p a=true) (db:Y3 p b=true) (e:YA a=YA b):a=b:=by
 unfold Y3 at da db;rw[Bool.and_eq_true]at da db;have h1:=Ak ha.q hb.q da.2 db.2 e;have h2:a.bf=b.bf:=by
  apply List.ext_getElem (by rw[ha.lb,hb.lb]);intro i hi hi';have h3:=List.all_eq_true.1 da.1 _ (List.getElem_mem hi);have h4:=List.all_eq_true.1 db.1 _ (List.getElem_mem hi');rw[List.isEmpty_iff]at h3 h4;rw[h3,h4]
 cases a;cases b;simp only[Bf.mk.injEq];exact⟨h1,h2⟩
theorem Tryz.Gz:(Tryz.prog.info? 39).map (fun i=>(i.zero,i.size,i.bytes))=some (some (.slice none 0 0),1,24):=Kr
theorem GY (v:Value) (xs:List Int) (w:World) (hx:ZC Zu w v xs) (hn:xs.length≤1000000):Calls Tryz.prog 237 #[v] w (Xs Zu 5 w xs):=by
 obtain⟨a,c,rfl,hc1,hc2,hc3,hx⟩:=hx.open;have HX:=Za hx;have HBE:=Za ((Below.refl w.heap.size w).alloc (Nat.le_refl _) (.cells #[] 5));have HE:=Za (Own.empty (E:=Zu) 5 w (Nat.le_refl _));clear hx hc1 hc3;generalize hn1:xs.length=n1 at *;have HN1:=Za hn1;clear hn1;cases a with
 | none =>
  have hE:=fun w':World=>Lib.run_eql_slice_nil (P:=Tryz.prog) w' 39 5 none n1 c 0 0 Tryz.underlying39;have hxs:xs=[]:=by
   cases xs with
   | nil=>rfl
   | cons x xs=>obtain⟨_,_,hv,_,_,hk⟩:=HX.out;obtain⟨b,o,h,_⟩:=hk 0 x rfl;subst h;simp at hv
  subst hxs;go_enter Tryz.func237,Tryz.ntmps237;go_wp2_with fail;go_ret;exact⟨_,rfl,Own.nil _ _ _,Below.refl _ _⟩
 | some ad =>
  have hE:=fun w':World=>Lib.run_eql_slice_nil (P:=Tryz.prog) w' 39 5 (some ad) n1 c 0 0 Tryz.underlying39;go_enter Tryz.func237,Tryz.ntmps237;go_wp2_with (at_builtin;refine ZJ Zu 5 Tryz.QA rfl Tryz.underlying39 w.heap.size _ [] xs _ HE.out (HX.out.below HBE.out) Dc (by rw[HN1.out];simp;omega) Sm rfl _ _ rfl rfl rfl ?_;intro v1 w1 hown1 hgr1;have O1:=Za hown1;have B1:=Za (HBE.out.grown hgr1 Sm (fun q hq=>by simp[Value.ownBlock]at hq;omega));clear hown1 hgr1);go_ret;exact⟨_,rfl,by simpa using O1.out,B1.out⟩
theorem XH (v:Value) (us:List Zs) (w:World) (hx:ZC Z2 w v us) (hn:us.length≤1000000):Calls Tryz.prog 234 #[v] w (Xs Z2 39 w us):=by
 obtain⟨a,c,rfl,hc1,hc2,hc3,hx⟩:=hx.open;have HX:=Za hx;have HBE:=Za ((Below.refl w.heap.size w).alloc (Nat.le_refl _) (.cells #[] 39));have HE:=Za (Own.empty (E:=Z2) 39 w (Nat.le_refl _));clear hx hc1 hc3;generalize hn1:us.length=n1 at *;have HN1:=Za hn1;clear hn1;cases a with
 | none =>
  have hE:=fun w':World=>Lib.run_eql_slice_nil (P:=Tryz.prog) w' 170 39 none n1 c 0 0 Tryz.underlying170;have hxs:us=[]:=by
   cases us with
   | nil=>rfl
   | cons x xs=>obtain⟨b,o,h,_⟩:=HX.out.NT (k:=0) rfl;cases h
  subst hxs;go_enter Tryz.func234,Tryz.ntmps234;go_wp2_with fail;go_ret;exact⟨_,rfl,Own.nil _ _ _,Below.refl _ _⟩
 | some ad =>
  have hE:=fun w':World=>Lib.run_eql_slice_nil (P:=Tryz.prog) w' 170 39 (some ad) n1 c 0 0 Tryz.underlying170;go_enter Tryz.func234,Tryz.ntmps234;go_wp2_with (at_builtin;refine ZJ Z2 39 Tryz.Gz rfl Tryz.underlying170 w.heap.size _ [] us _ HE.out (HX.out.below HBE.out) Dc (by rw[HN1.out];simp;omega) Sm rfl _ _ rfl rfl rfl ?_;intro v1 w1 hown1 hgr1;have O1:=Za hown1;have B1:=Za (HBE.out.grown hgr1 Sm (fun q hq=>by simp[Value.ownBlock]at hq;omega));clear hown1 hgr1);go_ret;exact⟨_,rfl,by simpa using O1.out,B1.out⟩
theorem RT (va:Option Addr) (vc:Nat) (split:Bool) (p:List (List Ins)) (w:World) (hpl:p.length≤3) :
 Calls Tryz.prog 104 #[.slice va p.length vc,.bool split] w fun e w' => ∃ b wv,e = .returned (AZ 169 b)∧Yc w' b (.slice va p.length vc) split wv (Zr p split)∧Own Z2 39 w' w.heap.size wv.v (List.replicate (p.length * Yw split) ⟨none,0,0⟩)∧Below w.heap.size w w':=by
 have HC:=Za (J8 (.slice va p.length vc) (p:=p));generalize hn:p.length=n at *;have HN:=Za hn;clear hn;cases split
 ·go_enter Tryz.func104,Tryz.ntmps104
  go_wp2_with (at_make;refine YC Z2 39 ⟨none,0,0⟩ Tryz.Gz rfl Tryz.underlying170 n Dc Om rfl _ _ rfl rfl rfl ?_;intro w1 hown1 hgr1);have O1:=Za (hown1.alloc (.cells #[.slice va n vc,.int .u8 0,.int .u8 0,.int .u8 0,.int .u8 0,.int .u8 0,.int .u8 0,.int .u8 0,.int .u8 0,.int .u8 0,.int .u8 0,.int .u8 0,.int .u8 0,.int .u8 0,.int .u8 0,.int .u8 0,.bool false,.slice (some ⟨w.heap.size,0,none⟩) n n] 172));have B1:=Za (((Below.refl w.heap.size w).grown hgr1 (Nat.le_refl _) (fun q hq=>nomatch hq)).alloc (by have:=hgr1.size;omega) (.cells #[.slice va n vc,.int .u8 0,.int .u8 0,.int .u8 0,.int .u8 0,.int .u8 0,.int .u8 0,.int .u8 0,.int .u8 0,.int .u8 0,.int .u8 0,.int .u8 0,.int .u8 0,.int .u8 0,.int .u8 0,.int .u8 0,.bool false,.slice (some ⟨w.heap.size,0,none⟩) n n] 172));clear hown1 hgr1;go_ret;refine⟨_,⟨some ⟨w.heap.size,0,none⟩,n,n⟩,rfl,?_,?_,B1.out⟩
  ·show _=some (Obj.cells (ZV _ (Zw p)++_) _ _)
   rw[HC.out];exact heap_alloc_new w1 _
  ·rw[show n * Yw false=n by simp[Yw]];exact O1.out
 ·go_enter Tryz.func104,Tryz.ntmps104
  go_wp2_with (first
   | (at_make;refine YC Z2 39 ⟨none,0,0⟩ Tryz.Gz rfl Tryz.underlying170 n Dc Om rfl _ _ rfl rfl rfl ?_;intro w1 hown1 hgr1;have B1:=Za (((Below.refl w.heap.size w).grown hgr1 (Nat.le_refl _) (fun q hq=>nomatch hq)).alloc (by have:=hgr1.size;omega) (.cells #[.slice va n vc,.int .u8 0,.int .u8 0,.int .u8 0,.int .u8 0,.int .u8 0,.int .u8 0,.int .u8 0,.int .u8 0,.int .u8 0,.int .u8 0,.int .u8 0,.int .u8 0,.int .u8 0,.int .u8 0,.int .u8 0,.bool true,.slice (some ⟨w.heap.size,0,none⟩) n n] 172));have C1:=Za (heap_alloc_new w1 (.cells #[.slice va n vc,.int .u8 0,.int .u8 0,.int .u8 0,.int .u8 0,.int .u8 0,.int .u8 0,.int .u8 0,.int .u8 0,.int .u8 0,.int .u8 0,.int .u8 0,.int .u8 0,.int .u8 0,.int .u8 0,.int .u8 0,.bool true,.slice (some ⟨w.heap.size,0,none⟩) n n] 172));have bw1:=hgr1.size;have c17:(w1.alloc (.cells #[.slice va n vc,.int .u8 0,.int .u8 0,.int .u8 0,.int .u8 0,.int .u8 0,.int .u8 0,.int .u8 0,.int .u8 0,.int .u8 0,.int .u8 0,.int .u8 0,.int .u8 0,.int .u8 0,.int .u8 0,.int .u8 0,.bool true,.slice (some ⟨w.heap.size,0,none⟩) n n] 172)).cell? ⟨w1.heap.size,17,none⟩=some (.slice (some ⟨w.heap.size,0,none⟩) n n):=Zc (heap_alloc_new w1 _) (k:=17) rfl;clear hown1 hgr1)
   | (at_make;refine YC Z2 39 ⟨none,0,0⟩ Tryz.Gz rfl Tryz.underlying170 (n * 3) Dc Om rfl _ _ rfl (by show Value.int .i64 (3 * (n:Int))=_;congr 1;omega) (by show Value.int .i64 (3 * (n:Int))=_;congr 1;omega) ?_;intro w2 hown2 hgr2;have C2:=Za ((hgr2.block w1.heap.size Sm Sm).trans C1.out);have f17:w2.cell? ⟨w1.heap.size,17,none⟩=some (.slice (some ⟨w.heap.size,0,none⟩) n n):=Zc C2.out (k:=17) rfl;have ffz:=Z7 C2.out;have fl:=Zb f17;have O2:=Za hown2;have B2:=Za (B1.out.grown hgr2 B1.out.size (fun q hq=>nomatch hq));clear hown2 hgr2))
  have h3:=heap_setCell_same w2 w1.heap.size 17 _ _ (.slice (some ⟨w1.heap.size+1,0,none⟩) (n * 3) (n * 3)) C2.out;have H3:=Za h3;have O3:=Za (((O2.out.mono (show w.heap.size≤_ by simp;omega)).Z6 (T:=172) (j:=17) (u:=.slice (some ⟨w1.heap.size+1,0,none⟩) (n * 3) (n * 3)) Dc C2.out));have B3:=Za (B2.out.setCell (p:=⟨w1.heap.size,17,none⟩) bw1 (.slice (some ⟨w1.heap.size+1,0,none⟩) (n * 3) (n * 3)));clear h3;go_ret;refine⟨_,⟨some ⟨w1.heap.size+1,0,none⟩,n * 3,n * 3⟩,rfl,?_,?_,B3.out⟩
  ·show _=some (Obj.cells (ZV _ (Zw p)++_) _ _)
   rw[HC.out];exact H3.out
  ·rw[show n * Yw true=n * 3 by simp[Yw]]
   have:=O3.out;simpa using this
end Go.Proofs.YtngekjpklkjnbaaGreat
namespace Go.Proofs.YtngekjpklkjnbaaGreat
open Go.RowKit Go.Shelf
attribute [local go_sem] Oper.semAt_some
structure XN (x y:Nat) (W W':World):Prop where
 one:W'.heap[x]? = W.heap[x]?
 two:W'.heap[y]? = W.heap[y]?
 size:W.heap.size≤W'.heap.size
theorem XN.refl (x y:Nat) (W:World):XN x y W W:=⟨rfl,rfl,Nat.le_refl _⟩
theorem XN.trans {x y:Nat}{A B C:World}(h:XN x y A B) (k:XN x y B C):XN x y A C:=⟨k.one.trans h.one,k.two.trans h.two,Nat.le_trans h.size k.size⟩
theorem Me {x y:Nat}{w:World}(hx:x < w.heap.size) (hy:y < w.heap.size) (W:World) (l:Nat) (o o':Obj) (hl:w.heap.size≤l) (h:W.heap[l]? = some o) (_:o.isCells=false) (_:o.isWalk=false):XN x y W (W.putObj l o'):=by
 have hg:=grownBy_putObj' W l o';have hlt:=(Array.getElem?_eq_some_iff.1 h).1;exact⟨hg.block x Om So,hg.block y Om So,hg.size⟩
theorem VR {w w':World}{b:Nat}(h:w'.heap[b]? = w.heap[b]?) {o:Nat}{v:Value}(hc:w.cell? ⟨b,o,none⟩=some v):w'.cell? ⟨b,o,none⟩=some v:=by
 rw[← hc];unfold World.cell?;rw[h]
theorem Fl {α:Type}(zs:List α) {k m:Nat}{z:α}(hz:zs[m]? = some z) (hk:k+(m+1)=zs.length):zs.zipIdx.reverse.take (k+1)=zs.zipIdx.reverse.take k++[(z,m)]:=by
 rw[List.take_add_one]
 congr 1
 have hml:=(List.getElem?_eq_some_iff.1 hz).1;rw[List.getElem?_reverse (by rw[List.length_zipIdx];omega),List.length_zipIdx,show zs.length - 1 - k=m by omega,List.getElem?_zipIdx,hz];simp
theorem Lv {Pr : Int → Prop} (n : Nat) (hn : 1 ≤ n) (l Bs b off cap : Nat) (zs : List {g : Int // Pr g}) (J Jx : List ({g : Int // Pr g} × Nat) → World → Prop)
    (hY : ∀ pre x W, J pre W → pre.length < zs.length → YieldAt Fence.wide (n - 1) Tryz.prog l #[.int .i64 (x.2 : Int), Z1 x.1.1] W fun e W' =>
      (e = .returned (.bool true) ∧ J (pre ++ [x]) W' ∧ XN Bs b W W') ∨ (e = .returned (.bool false) ∧ Jx (pre ++ [x]) W'))
    (W : World) (hBs : W.cell? ⟨Bs, 0, none⟩ = some (.slice (some ⟨b, off, none⟩) zs.length cap))
    (hc : ∀ (j : Nat) z, zs[j]? = some z → W.cell? ⟨b, off + j, none⟩ = some (.int .u8 z.1)) (h0 : J [] W) (hl : zs.length ≤ 1048576) :
    CallsIn Fence.wide n Tryz.prog 243 #[.func (.yield l) #[] #[], .pointer (some ⟨Bs, 0, none⟩)] W fun e W' => (∃ v, e = .returned v) ∧
      ((∃ ys, ys = zs.zipIdx.reverse ∧ J ys W') ∨ (∃ k, Jx (zs.zipIdx.reverse.take k) W')) := by
  refine callsIn_of_wp Tryz.func243 rfl trivial ?_ rfl
  simp only [Tryz.ntmps243, List.size_toArray, List.length_cons, List.length_nil, Nat.reduceAdd, Nat.reduceSub, Array.replicate_succ, Array.replicate_zero, List.push_toArray, List.append_toArray, List.nil_append, List.cons_append]
  have BT := Za (fun (k m : Nat) z h1 h2 => Fl zs (k := k) (m := m) (z := z) h1 h2)
  have BA : Hid (zs.zipIdx.reverse.take zs.length = zs.zipIdx.reverse) := Za (List.take_of_length_le (by simp))
  have BL : Hid (∀ k, k ≤ zs.length → (zs.zipIdx.reverse.take k).length = k) := Za (fun k hk => by simp; omega)
  generalize hlen : zs.length = len at *
  have HLEN := Za hlen
  clear hlen
  have hBlt := Zb hBs
  gi_wp2
  gi_loopw [3] (fun i wr => ∃ k m : Nat, k + m = len ∧ i = .int .i64 ((m : Int) - 1) ∧ J (zs.zipIdx.reverse.take k) wr ∧ XN Bs b W wr) (fun i _ => (intOf i + 1).toNat)
  case atStart => exact ⟨0, len, by omega, rfl, by simpa using h0, XN.refl _ _ _⟩
  case round =>
    obtain ⟨k, m, hkm, rfl, hJs, hkp⟩ := hrel
    have hB2 := VR hkp.one hBs
    have hBlt2 := Zb hB2
    cases m with
    | zero =>
      have e0 : decide ((((0 : Nat) : Int) - 1) ≥ 0) = false := by decide
      gi_wp2
      go_end0
      exact ⟨⟨_, rfl⟩, .inl ⟨_, rfl, by rw [← BA.out]; have : k = len := by omega
                                        rw [← this]; exact hJs⟩⟩
    | succ m =>
      have em : (((m + 1 : Nat) : Int) - 1) = (m : Int) := by omega
      rw [em]
      obtain ⟨z, hz⟩ := Zd (xs := zs) (k := m) (by have := HLEN.out; omega)
      have c0 := hc m z hz
      have d0 := VR hkp.two c0
      have hblt2 := Zb d0
      have hml : (m : Int) < len := by omega
      obtain ⟨fn, tmps, assign, body, hy, hR⟩ := hY _ (z, m) wr hJs (by rw [BL.out k (by omega)]; omega)
      have BT2 := Za (BT.out k m z hz (by have := HLEN.out; omega))
      have HR := Za hR
      clear hR c0 hz
      dsimp only at hy
      gi_wp2
      refine HR.out.mono ?_
      rintro e W3 (⟨rfl, hJ3, hk3⟩ | ⟨rfl, hJx3⟩)
      · gi_wp2
        go_roundw
        case rel => exact ⟨k + 1, m, by omega, by go_num, by rw [BT2.out]; exact hJ3, hkp.trans hk3⟩
        case measure => simp [intOf]
      · gi_wp2
        refine bodyPost_ret (results_none rfl _ _ _) rfl ?_
        exact ⟨⟨_, rfl⟩, .inr ⟨k + 1, by rw [BT2.out]; exact hJx3⟩⟩
theorem BN {Pr:Int→Prop}(n:Nat) (l Bs:Nat) (a:Option Addr) (c:Nat) (J:List ({g:Int // Pr g} × Nat)→World→Prop)
 (W:World) (hBs:W.cell? ⟨Bs,0,none⟩=some (.slice a 0 c)) (h0:J [] W) :
 CallsIn Fence.wide n Tryz.prog 243 #[.func (.yield l) #[] #[],.pointer (some ⟨Bs,0,none⟩)] W fun e W'=>(∃ v,e = .returned v)∧J [] W':=by
 refine callsIn_of_wp Tryz.func243 rfl trivial ?_ rfl;simp only[Tryz.ntmps243,List.size_toArray,List.length_cons,List.length_nil,Nat.reduceAdd,Nat.reduceSub,Array.replicate_succ,Array.replicate_zero,List.push_toArray,List.append_toArray,List.nil_append,List.cons_append];have hBlt:=Zb hBs;gi_wp2
 gi_loopw [3] (fun i wr=>i = .int .i64 (-1)∧J [] wr) (fun _ _=>0)
 case atStart=>exact⟨rfl,h0⟩
 case round =>
  obtain⟨rfl,hJs⟩:=hrel;gi_wp2;go_end0;exact⟨⟨_,rfl⟩,hJs⟩
theorem Ar (a:Option Addr) (len cap:Nat) (w:World) :
 Calls Tryz.prog 241 #[.slice a len cap] w fun e w'=>e = .returned (.func (.func 243) #[] #[.pointer (some ⟨w.heap.size,0,none⟩)])∧w'=w.alloc (.cells #[.slice a len cap] 39):=by
 go_enter Tryz.func241,Tryz.ntmps241;go_wp2;go_ret;exact⟨rfl,rfl⟩
theorem Dq {Pr:Int→Prop}(n:Nat) (hn:1≤n) (Bs b:Nat) (v:Value) (zs:List {g:Int // Pr g}) (hl:zs.length≤1048576) (w:World) (hBs:Bs < w.heap.size) (hc:w.cell? ⟨Bs,0,none⟩=some v)
 (hr:ZC Zu w v (zs.map (·.1))) (hb:∀ g o,v = .slice (some ⟨g,o,none⟩) zs.length (match v with | .slice _ _ c=>c | _=>0)→zs≠[]→g=b) :
 SeqStopsK Fence.wide n Tryz.prog 243 #[.pointer (some ⟨Bs,0,none⟩)] (fun x:{g:Int // Pr g} × Nat => #[Value.int .i64 (x.2:Int),Z1 x.1.1]) (XN Bs b) (fun ys=>ys=zs.zipIdx.reverse)
  (fun pre => ∃ k,pre=zs.zipIdx.reverse.take k) zs.length w:=fun l J Jx W hW _ _ hY h0=>by
 have hc':=(hW.cell (p:=⟨Bs,0,none⟩) hBs).trans hc;have hr':=hr.below hW;obtain⟨a,c,rfl,h1,h2,hx⟩:=hr';rw[List.length_map]at hc' h1;by_cases hz:zs=[]
 ·subst hz
  exact(BN n l Bs _ _ J W hc' h0).mono fun e W' ⟨he,hj⟩=>⟨he,.inl ⟨_,rfl,hj⟩⟩
 ·obtain⟨z0,hz0⟩:=Zd (xs:=zs) (k:=0) (List.length_pos_iff.2 hz)
  obtain⟨b',o,rfl,-⟩:=hx 0 z0.1 (by rw[List.getElem?_map,hz0];rfl);obtain rfl:b'=b:=hb b' o (by rw[List.length_map]) hz;refine(Lv n hn l Bs b' o c zs J Jx hY W hc' (fun j z hj => ?_) h0 hl).mono fun e W' ⟨he,h⟩=>⟨he,h.imp (fun ⟨ys,e,hj⟩=>⟨ys,e,hj⟩) (fun ⟨k,hj⟩=>⟨_,⟨k,rfl⟩,hj⟩)⟩
  obtain⟨b2,o2,e2,h2⟩:=hx j z.1 (by rw[List.getElem?_map,hj];rfl);simp only[Option.some.injEq,Addr.mk.injEq,and_true]at e2;obtain⟨rfl,rfl⟩:=e2;simpa[Zu] using h2 0 _ rfl
end Go.Proofs.YtngekjpklkjnbaaGreat
namespace Go.Proofs.YtngekjpklkjnbaaGreat
def Uy:List (Nat × Nat)→Nat
 | []=>0
 | x :: l=>x.1+x.2 * Uy l
def QD:List (Nat × Nat)→Nat
 | []=>1
 | x :: l=>x.2 * QD l
theorem Ad (l l':List (Nat × Nat)):QD (l++l')=QD l * QD l':=by
 induction l with
 | nil=>simp[QD]
 | cons x l ih=>simp only[List.cons_append,QD,ih,Nat.mul_assoc]
theorem N8 {l:List (Nat × Nat)}(h:∀ x∈l,x.1 < x.2):Uy l < QD l:=by
 induction l with
 | nil=>simp[Uy,QD]
 | cons x l ih =>
  have h1:=h x Sm;have h2:=ih fun y hy=>h y (by simp[hy]);have h3:x.2 * (Uy l+1)≤x.2 * QD l:=Nat.mul_le_mul_left _ h2;rw[Nat.mul_add,Nat.mul_one]at h3;simp only[Uy,QD];omega
theorem E4:∀ {l l':List (Nat × Nat)},l.map Prod.snd=l'.map Prod.snd→(∀ x∈l,x.1 < x.2)→(∀ x∈l',x.1 < x.2)→Uy l=Uy l'→l=l'
 | [],[],_,_,_,_=>rfl
 | [],_ :: _,h,_,_,_=>by simp at h
 | _ :: _,[],h,_,_,_=>by simp at h
 | x :: l,y :: l',h,h1,h2,e=>by
  simp only[List.map_cons,List.cons.injEq]at h;have a:=h1 x Sm;have b:=h2 y Sm;simp only[Uy]at e;rw[h.1]at e a;have e1:x.1=y.1:=by
   have:=congrArg (· % y.2) e;simp only[Nat.add_mul_mod_self_left]at this;rwa[Nat.mod_eq_of_lt a,Nat.mod_eq_of_lt b]at this
  have e2:Uy l=Uy l':=by
   rw[e1]at e;exact Nat.eq_of_mul_eq_mul_left Om (Nat.add_left_cancel e)
  rw[E4 h.2 (fun z hz=>h1 z (by simp[hz])) (fun z hz=>h2 z (by simp[hz])) e2,Prod.ext e1 h.1]
def Jj:List Int→Nat
 | []=>0
 | v :: l=>1+v.toNat+4 * Jj l
theorem Lx {l:List Int}(h:∀ x∈l,0≤x∧x≤3):3 * Jj l+4≤4 ^ (l.length+1):=by
 induction l with
 | nil=>simp[Jj]
 | cons v l ih =>
  have h1:=h v Sm;have h2:=ih fun y hy=>h y (by simp[hy]);simp only[Jj,List.length_cons];rw[Nat.pow_succ 4 (l.length+1)];omega
theorem AI:∀ {l l':List Int},(∀ x∈l,0≤x∧x≤3)→(∀ x∈l',0≤x∧x≤3)→Jj l=Jj l'→l=l'
 | [],[],_,_,_=>rfl
 | [],_ :: _,_,_,h=>by simp only[Jj]at h;omega
 | _ :: _,[],_,_,h=>by simp only[Jj]at h;omega
 | v :: l,u :: l',h1,h2,h=>by
  have a:=h1 v Sm;have b:=h2 u Sm;simp only[Jj]at h;rw[AI (l:=l) (l':=l') (fun z hz=>h1 z (by simp[hz])) (fun z hz=>h2 z (by simp[hz])) Om,show v=u by omega]
def UH (k:Nat):Nat:=(4 ^ (k+1) - 1) / 3
theorem Lz {l:List Int}{k:Nat}(h:∀ x∈l,0≤x∧x≤3) (hk:l.length≤k):Jj l < UH k:=by
 have h1:=Lx h;have h2:4 ^ (l.length+1)≤4 ^ (k+1):=Nat.pow_le_pow_right Dc Om;unfold UH;have:=(Nat.le_div_iff_mul_le (k:=3) (x:=Jj l+1) (y:=4 ^ (k+1) - 1) Dc).2 Om;omega
theorem Ly (k:Nat):3 * UH k≤4 ^ (k+1):=by
 have h0:0 < 4 ^ (k+1):=Nat.pow_pos Dc;unfold UH;generalize 4 ^ (k+1)=X at *;omega
def Jf (x:Ins):Bool:=x.op==2||x.op==3
def Kc (split:Bool) (b t:Nat) (r:List Ins):List Int:=(r.filter fun x=>Jf x&&decide (Zj t x.loc split=b)).map fun x=>x.loc
theorem UC (split:Bool) (b t:Nat) {r:List Ins}{k:Nat}{x:Ins}(h:r[k]? = some x):Kc split b t (r.take (k+1))=Kc split b t (r.take k)++(if Jf x=true∧Zj t x.loc split=b then [x.loc] else []):=by
 unfold Kc;rw[List.take_add_one,h,Option.toList_some,List.filter_append,List.map_append]
 congr 1
 by_cases h1:Jf x=true∧Zj t x.loc split=b
 ·rw[if_pos h1];simp[h1]
 ·rw[if_neg h1]
  have:(Jf x&&decide (Zj t x.loc split=b))=false:=by
   cases hs:Jf x with
   | false=>simp
   | true=>simp only[hs,true_and]at h1;simp[h1]
  simp[this]
def BI (p:List (List Ins)) (split:Bool) (s:Bf):Prop:=∀ (b:Nat) (row:List (Int × Int)),s.bf[b]? = some row→∃ pre,Kc split b (b / Yw split) ((p.getD (b / Yw split) []).take (s.q.pc.getD (b / Yw split) 0).toNat)=pre++row.map Prod.fst
theorem BI.step {p:List (List Ins)}{split:Bool}{s s':Bf}{m:Nat}(hok:ZT p split s) (hp:∀ r∈p,∀ x∈r,Zi x=true) (h:BI p split s) (hn:Zy p split s m=some s'):BI p split s':=by
 by_cases hm:m < p.length
 ·obtain⟨r,k,x,hr,hk,hx,hd⟩:=YD hn hm
  have hv:=hp r (List.mem_of_getElem? hr) x (List.mem_of_getElem? hx);have hk0:=(hok.q.pc m k r hk hr).1;have hpr:p.getD m []=r:=by rw[List.getD_eq_getElem?_getD,hr];rfl
  have hkd:s.q.pc.getD m 0=k:=by rw[List.getD_eq_getElem?_getD,hk];rfl
  have hml:=(List.getElem?_eq_some_iff.1 hk).1;have e1:∀ t,(s.q.pc.set m (k+1)).getD t 0=if t=m then k+1 else s.q.pc.getD t 0:=fun t=>by
   rw[List.getD_eq_getElem?_getD,List.getElem?_set];by_cases e:m=t
   ·subst e;simp[hml]
   ·rw[if_neg e,if_neg (fun q=>e q.symm),List.getD_eq_getElem?_getD]
  have Yf:∀ (q':Sq),q'.pc=s.q.pc.set m (k+1)→Jf x=false→BI p split ⟨q',s.bf⟩:=fun q' hq hst b row hb=>by
   obtain⟨pre,hpre⟩:=h b row hb;simp only[hq,e1];by_cases e:b / Yw split=m
   ·rw[if_pos e,e,hpr,show (k+1).toNat=k.toNat+1 by omega,UC split b m hx,if_neg (by simp[hst]),List.append_nil]
    rw[e,hpr,hkd]at hpre;exact⟨pre,hpre⟩
   ·rw[if_neg e];exact⟨pre,hpre⟩
  unfold Qa at hd;split at hd
  ·rename_i h45
   split at hd
   ·simp only[Option.some.injEq]at hd
    subst hd;exact Yf _ rfl (by unfold Jf;rcases h45 with e | e <;> simp[e])
   ·cases hd
  ·split at hd
   ·rename_i h1
    simp only[Option.some.injEq]at hd;subst hd;exact Yf _ rfl (by unfold Jf;simp[h1])
   ·rename_i h45 h1
    simp only[Option.some.injEq]at hd;subst hd;have h23:x.op=2∨x.op=3:=by
     unfold Zi at hv
     repeat' split at hv
     all_goals first | omega | (simp at hv;done)
    have hst:Jf x=true:=by unfold Jf;rcases h23 with e | e <;> simp[e]
    have hloc:0≤x.loc∧x.loc≤2:=by
     unfold Zi VX at hv;rcases h23 with e2 | e2 <;> (simp[e2]at hv;omega)
    intro b row hb;simp only at hb;simp only[e1];rw[List.getElem?_set]at hb;by_cases e:Zj m x.loc split=b
    ·rw[if_pos e]at hb
     split at hb
     ·rename_i hlt
      simp only[Option.some.injEq]at hb;subst hb;subst e;obtain⟨Mq,ho⟩:=Zd (xs:=s.bf) (k:=Zj m x.loc split) (by simpa using hlt);obtain⟨pre,hpre⟩:=h _ Mq ho;rw[Bg hloc.1 hloc.2,hpr,hkd]at hpre;rw[Bg hloc.1 hloc.2,if_pos rfl,hpr,show (k+1).toNat=k.toNat+1 by omega,UC split _ m hx,if_pos ⟨hst,rfl⟩,hpre];exact⟨pre,by rw[List.getD_eq_getElem?_getD,ho];simp⟩
     ·cases hb
    ·rw[if_neg e]at hb
     obtain⟨pre,hpre⟩:=h b row hb;by_cases e2:b / Yw split=m
     ·rw[if_pos e2,e2,hpr,show (k+1).toNat=k.toNat+1 by omega,UC split b m hx,if_neg (by simp[e]),List.append_nil]
      rw[e2,hpr,hkd]at hpre;exact⟨pre,hpre⟩
     ·rw[if_neg e2];exact⟨pre,hpre⟩
 ·obtain⟨l,v,rest,hb0,rfl⟩:=Y9 hn hm
  intro b row hb;simp only at hb;rw[List.getElem?_set]at hb;by_cases e:m - p.length=b
  ·rw[if_pos e]at hb
   split at hb
   ·simp only[Option.some.injEq]at hb
    subst hb;obtain⟨pre,hpre⟩:=h _ _ hb0;rw[← e];exact⟨pre++[l],by simp only;rw[hpre];simp⟩
   ·cases hb
  ·rw[if_neg e]at hb
   exact h b row hb
theorem BI.reach {p:List (List Ins)}{split:Bool}(hp:∀ r∈p,∀ x∈r,Zi x=true) {s:Bf}(h:Zt (Zr p split) (Zy p split) s):BI p split s:=by
 induction h with
 | start =>
  intro b row hb;unfold Zr at hb;simp only[List.getElem?_replicate]at hb;split at hb
  ·simp only[Option.some.injEq]at hb
   subst hb;exact⟨Kc split b (b / Yw split) ((p.getD (b / Yw split) []).take ((Zr p split).q.pc.getD (b / Yw split) 0).toNat),by simp[Zr]⟩
  ·cases hb
 | step h1 ht ih=>exact ih.step (ZT.QV hp h1).1 hp ht
def kB (p:List (List Ins)) (split:Bool) (b:Nat):Nat:=(Kc split b (b / Yw split) (p.getD (b / Yw split) [])).length
theorem BI.len {p:List (List Ins)}{split:Bool}{s:Bf}(h:BI p split s) {b:Nat}{row:List (Int × Int)}(hb:s.bf[b]? = some row):row.length≤kB p split b:=by
 obtain⟨pre,hpre⟩:=h b row hb;have h1:=congrArg List.length hpre;rw[List.length_append,List.length_map]at h1;have h2:(Kc split b (b / Yw split) ((p.getD (b / Yw split) []).take (s.q.pc.getD (b / Yw split) 0).toNat)).length≤kB p split b:=by
  unfold kB Kc;rw[List.length_map,List.length_map];exact((List.take_sublist _ _).filter _).length_le
 omega
theorem BI.same {p:List (List Ins)}{split:Bool}{s s':Bf}(h:BI p split s) (h':BI p split s') {b:Nat}{row row':List (Int × Int)}(hb:s.bf[b]? = some row) (hb':s'.bf[b]? = some row') (hpc:s.q.pc.getD (b / Yw split) 0=s'.q.pc.getD (b / Yw split) 0) (hv:row.map Prod.snd=row'.map Prod.snd):row=row':=by
 obtain⟨pre,hpre⟩:=h b row hb;obtain⟨pre',hpre'⟩:=h' b row' hb';rw[hpc,hpre']at hpre;have hl:row.length=row'.length:=by have:=congrArg List.length hv;simpa using this
 have h1:=(List.append_inj' hpre (by simp[hl])).2;clear hb hb' hpre hpre' hpc pre pre' h h'
 induction row generalizing row' with
 | nil=>cases row' with
  | nil=>rfl
  | cons y r=>simp at hl
 | cons x row ih=>cases row' with
  | nil=>simp at hl
  | cons y row' =>
   simp only[List.map_cons,List.cons.injEq]at hv h1;rw[ih hv.2 (by simpa using hl) h1.2,Prod.ext h1.1.symm hv.1]
def PR (s:Bf):List (Nat × Nat):=(List.range 3).map fun t=>((s.q.pc.getD t 0).toNat,8)
def PM (s:Bf):List (Nat × Nat):=(List.range 3).map fun l=>((s.q.mm.getD l 0).toNat,4)
def Sc (p:List (List Ins)) (s:Bf):List (Nat × Nat):=(List.range 9).map fun j=>((s.q.rg.getD j 0).toNat,if Yx (p.getD (j / 3) []) ((j % 3:Nat):Int)=true then 4 else 1)
def PZ (p:List (List Ins)) (split:Bool) (s:Bf):List (Nat × Nat):=(List.range (p.length * Yw split)).map fun b=>(Jj ((s.bf.getD b []).map Prod.snd),UH (kB p split b))
def Vk (p:List (List Ins)) (split:Bool) (s:Bf):List (Nat × Nat):=PR s++(PM s++(Sc p s++PZ p split s))
theorem Ql {α:Type}{f g:Nat→α}{n:Nat}(h:(List.range n).map f=(List.range n).map g):∀ k,k < n→f k=g k:=fun k hk=>by
 have:=congrArg (fun l:List α=>l[k]?) h;simpa[hk] using this
theorem Up {l:List (Int × Int)}(h:∀ e∈l,YP e):∀ x∈l.map Prod.snd,0≤x∧x≤3:=fun x hx=>by
 obtain⟨e,he,rfl⟩:=List.mem_map.1 hx;exact(h e he).2
theorem Rb {p:List (List Ins)}{split:Bool}{s:Bf}(hv:Zg p=true) (h:Zt (Zr p split) (Zy p split) s):∀ x∈Vk p split s,x.1 < x.2:=by
 have hok:=(ZT.QV (ZB hv) h).1;have hun:=Fj.reach (ZB hv) h;have hbi:=BI.reach (ZB hv) h;have hl:=Zv hv;intro x hx;rcases List.mem_append.1 hx with hx | hx
 ·obtain⟨t,-,rfl⟩:=List.mem_map.1 hx
  show (s.q.pc.getD t 0).toNat < 8;rw[List.getD_eq_getElem?_getD];cases hk:s.q.pc[t]? with
  | none=>simp
  | some k =>
   obtain⟨r,hr⟩:=Zd (xs:=p) (k:=t) (by rw[← hok.q.lp];exact(List.getElem?_eq_some_iff.1 hk).1);have h1:=hok.q.pc t k r hk hr;have h2:=(hl.2.2.1 r (List.mem_of_getElem? hr)).1;simp only[Option.getD_some];omega
 rcases List.mem_append.1 hx with hx | hx
 ·obtain⟨l,-,rfl⟩:=List.mem_map.1 hx
  show (s.q.mm.getD l 0).toNat < 4;have:=Ye hok.q.mm l;omega
 rcases List.mem_append.1 hx with hx | hx
 ·obtain⟨j,hj,rfl⟩:=List.mem_map.1 hx
  have hj9:=List.mem_range.1 hj;show (s.q.rg.getD j 0).toNat < if Yx (p.getD (j / 3) []) ((j % 3:Nat):Int)=true then 4 else 1
  have h1:=Ye hok.q.rg j;split
  ·omega
  ·rename_i hr
   cases hp:p[j / 3]? with
   | none =>
    have:p.length≤j / 3:=by simpa using hp
    have h2:s.q.rg.getD j 0=0:=by
     rw[List.getD_eq_getElem?_getD,List.getElem?_eq_none (by rw[hok.q.lr];omega)];rfl
    omega
   | some r =>
    have h2:=hun.rg (j / 3) (j % 3) r hp (Nat.mod_lt _ Dc) (by
     have e:p.getD (j / 3) []=r:=by rw[List.getD_eq_getElem?_getD,hp];rfl
     rw[e]at hr;simpa using hr)
    rw[show j / 3 * 3+j % 3=j by omega]at h2;omega
 ·obtain⟨b,hb,rfl⟩:=List.mem_map.1 hx
  have hb2:=List.mem_range.1 hb;obtain⟨row,hrow⟩:=Zd (xs:=s.bf) (k:=b) (by rw[hok.lb];exact hb2);have e:s.bf.getD b []=row:=by rw[List.getD_eq_getElem?_getD,hrow];rfl
  show Jj ((s.bf.getD b []).map Prod.snd) < UH (kB p split b);rw[e];exact Lz (Up (hok.en row (List.mem_of_getElem? hrow))) (by rw[List.length_map];exact hbi.len hrow)
theorem It (p:List (List Ins)) (split:Bool) (s s':Bf):(Vk p split s).map Prod.snd=(Vk p split s').map Prod.snd:=by
 unfold Vk PR PM Sc PZ;simp only[List.map_append,List.map_map];rfl
theorem Is {p:List (List Ins)}{split:Bool}{s s':Bf}(hv:Zg p=true) (h:Zt (Zr p split) (Zy p split) s) (h':Zt (Zr p split) (Zy p split) s') (e:Uy (Vk p split s)=Uy (Vk p split s')):s=s':=by
 have hok:=(ZT.QV (ZB hv) h).1;have hok':=(ZT.QV (ZB hv) h').1;have hbi:=BI.reach (ZB hv) h;have hbi':=BI.reach (ZB hv) h';have hl:=Zv hv;have e1:=E4 (It p split s s') (Rb hv h) (Rb hv h') e;unfold Vk at e1;obtain⟨a1,e1⟩:=List.append_inj e1 (by simp[PR]);obtain⟨a2,e1⟩:=List.append_inj e1 (by simp[PM]);obtain⟨a3,a4⟩:=List.append_inj e1 (by simp[Sc]);have r1:∀ k,0≤s.q.pc.getD k 0:=fun k=>by
  rw[List.getD_eq_getElem?_getD];cases hk:s.q.pc[k]? with
  | none=>simp
  | some c =>
   obtain⟨r,hr⟩:=Zd (xs:=p) (k:=k) (by rw[← hok.q.lp];exact(List.getElem?_eq_some_iff.1 hk).1);simpa using (hok.q.pc k c r hk hr).1
 have r1':∀ k,0≤s'.q.pc.getD k 0:=fun k=>by
  rw[List.getD_eq_getElem?_getD];cases hk:s'.q.pc[k]? with
  | none=>simp
  | some c =>
   obtain⟨r,hr⟩:=Zd (xs:=p) (k:=k) (by rw[← hok'.q.lp];exact(List.getElem?_eq_some_iff.1 hk).1);simpa using (hok'.q.pc k c r hk hr).1
 have b1:∀ k,k < 3→s.q.pc.getD k 0=s'.q.pc.getD k 0:=fun k hk=>by
  have h1:=congrArg Prod.fst (Ql a1 k hk);have h2:=r1 k;have h3:=r1' k
  simp only at h1;omega
 have b2:∀ k,k < 3→s.q.mm.getD k 0=s'.q.mm.getD k 0:=fun k hk=>by
  have h1:=congrArg Prod.fst (Ql a2 k hk);have h2:=Ye hok.q.mm k;have h3:=Ye hok'.q.mm k
  simp only at h1;omega
 have b3:∀ k,k < 9→s.q.rg.getD k 0=s'.q.rg.getD k 0:=fun k hk=>by
  have h1:=congrArg Prod.fst (Ql a3 k hk);have h2:=Ye hok.q.rg k;have h3:=Ye hok'.q.rg k
  simp only at h1;omega
 have hn:0 < Yw split:=by cases split <;> simp[Yw]
 have b4:s.bf=s'.bf:=by
  apply List.ext_getElem (by rw[hok.lb,hok'.lb]);intro b hb hb';have hbn:b < p.length * Yw split:=by rw[← hok.lb];exact hb
  have g:=List.getElem?_eq_getElem hb;have g':=List.getElem?_eq_getElem hb';have h1:=congrArg Prod.fst (Ql a4 b hbn);simp only[List.getD_eq_getElem?_getD,g,g',Option.getD_some]at h1;have h2:=AI (Up (hok.en _ (List.mem_of_getElem? g))) (Up (hok'.en _ (List.mem_of_getElem? g'))) h1;have hdv:b / Yw split < 3:=Nat.lt_of_lt_of_le ((Nat.div_lt_iff_lt_mul hn).2 hbn) hl.1;exact BI.same hbi hbi' g g' (b1 _ hdv) h2
 refine DA hok hok' hl.1 ?_;unfold Dz IY;rw[b4,b1 0 Dc,b1 1 Dc,b1 2 Dc,b2 0 Dc,b2 1 Dc,b2 2 Dc,b3 0 Dc,b3 1 Dc,b3 2 Dc,b3 3 Dc,b3 4 Dc,b3 5 Dc,b3 6 Dc,b3 7 Dc,b3 8 Dc]
def ind (b:Bool):Nat:=if b=true then 1 else 0
theorem OK (b:Bool):ind b≤1:=by cases b <;> simp[ind]
theorem EE (r:List Ins):ind (Yx r 0)+ind (Yx r 1)+ind (Yx r 2)≤r.countP fun x=>ZG x.op:=by
 induction r with
 | nil=>simp[Yx,ind]
 | cons x r ih =>
  have h:∀ g:Int,ind (Yx (x :: r) g)≤(if ZG x.op=true∧x.Ya=g then 1 else 0)+ind (Yx r g):=fun g=>by
   unfold Yx;rw[List.any_cons];by_cases h1:ZG x.op=true∧x.Ya=g
   ·rw[if_pos h1];have:=OK ((ZG x.op&&x.Ya==g)||r.any fun x=>ZG x.op&&x.Ya==g);omega
   ·rw[if_neg h1]
    have:(ZG x.op&&x.Ya==g)=false:=by
     cases hr:ZG x.op with
     | false=>simp
     | true=>simp only[hr,true_and]at h1;simp[h1]
    rw[this,Bool.false_or];omega
  have h0:=h 0;have h1:=h 1;have h2:=h 2
  rw[List.countP_cons];by_cases hx:ZG x.op=true
  ·simp only[hx,true_and,if_true]at h0 h1 h2 ⊢
   by_cases e0:x.Ya=0
   ·simp[e0]at h0 h1 h2;omega
   ·by_cases e1:x.Ya=1
    ·simp[e1]at h0 h1 h2;omega
    ·simp only[e0,e1,if_false]at h0 h1
     split at h2 <;> omega
  ·have hx':ZG x.op=false:=by simpa using hx
   simp only[hx',Bool.false_eq_true,false_and,if_false]at h0 h1 h2 ⊢;omega
theorem MI (t:Nat) (r:List Ins) (h:∀ x∈r,Zi x=true):(Kc true (t * 3) t r).length+(Kc true (t * 3+1) t r).length+(Kc true (t * 3+2) t r).length≤r.countP Jf:=by
 induction r with
 | nil=>simp[Kc]
 | cons x r ih =>
  have ih:=ih fun y hy=>h y (by simp[hy]);unfold Kc at ih ⊢;simp only[List.length_map]at ih ⊢;rw[List.countP_cons];have hc:∀ b,((x :: r).filter fun x=>Jf x&&decide (Zj t x.loc true=b)).length=(r.filter fun x=>Jf x&&decide (Zj t x.loc true=b)).length+if Jf x=true∧Zj t x.loc true=b then 1 else 0:=fun b=>by
   rw[List.filter_cons];by_cases h1:Jf x=true∧Zj t x.loc true=b
   ·rw[if_pos h1,if_pos (by simp[h1])];simp
   ·rw[if_neg h1,if_neg (by simpa using h1)];simp
  rw[hc,hc,hc];by_cases hx:Jf x=true
  ·simp only[hx,true_and,if_true]
   generalize Zj t x.loc true=q at *;by_cases e0:q=t * 3
   ·simp only[e0,if_true];rw[if_neg Om,if_neg Om];omega
   ·by_cases e1:q=t * 3+1
    ·simp only[e1,if_true];rw[if_neg Om,if_neg Om];omega
    ·rw[if_neg e0,if_neg e1];split <;> omega
  ·simp only[hx,false_and,Bool.false_eq_true,if_false]
   omega
theorem Pj (t:Nat) (r:List Ins):(Kc false t t r).length≤r.countP Jf:=by
 unfold Kc;rw[List.length_map,List.countP_eq_length_filter];have:(fun x:Ins=>Jf x&&decide (Zj t x.loc false=t))=Jf:=by funext x;simp[Zj]
 rw[this];exact Nat.le_refl _
theorem Nn (r:List Ins) (h:∀ x∈r,Zi x=true):(r.countP fun x=>ZG x.op)+r.countP Jf≤r.countP Zz:=by
 induction r with
 | nil=>simp
 | cons x r ih =>
  have ih:=ih fun y hy=>h y (by simp[hy]);have hv:=(Us (h x Sm)).1;simp only[List.countP_cons];generalize (r.countP fun x=>ZG x.op)=A at *;generalize r.countP Jf=B at *;generalize r.countP Zz=C at *;rcases hv with e | e | e | e | e <;> simp[ZG,Jf,Zz,e] <;> omega
theorem LJ {p:List (List Ins)}{split:Bool}(hv:Zg p=true) (s:Bf):∃ R K,QD (Sc p s)=4 ^ R∧3 ^ (p.length * Yw split) * QD (PZ p split s)≤4 ^ (K+p.length * Yw split)∧R+K≤12:=by
 have hl:=Zv hv;have hi:=ZB hv;refine⟨((List.range 9).map fun j=>ind (Yx (p.getD (j / 3) []) ((j % 3:Nat):Int))).sum,((List.range (p.length * Yw split)).map fun b=>kB p split b).sum,?_,?_,?_⟩
 ·have:∀ l:List Nat,QD (l.map fun j=>((s.q.rg.getD j 0).toNat,if Yx (p.getD (j / 3) []) ((j % 3:Nat):Int)=true then 4 else 1))=4 ^ (l.map fun j=>ind (Yx (p.getD (j / 3) []) ((j % 3:Nat):Int))).sum:=by
   intro l
   induction l with
   | nil=>rfl
   | cons j l ih =>
    simp only[List.map_cons,QD,List.sum_cons,Nat.pow_add,ih]
    congr 1
    unfold ind;split <;> rfl
  exact this _
 ·have:∀ l:List Nat,3 ^ l.length * QD (l.map fun b=>(Jj ((s.bf.getD b []).map Prod.snd),UH (kB p split b)))≤4 ^ ((l.map fun b=>kB p split b).sum+l.length):=by
   intro l
   induction l with
   | nil=>simp[QD]
   | cons b l ih =>
    simp only[List.map_cons,QD,List.sum_cons,List.length_cons];have h1:=Ly (kB p split b);have h2:=Nat.mul_le_mul h1 ih;rw[← Nat.pow_add]at h2;rw[Nat.pow_succ,show kB p split b+(l.map fun b=>kB p split b).sum+(l.length+1)=kB p split b+1+((l.map fun b=>kB p split b).sum+l.length) by omega];refine Nat.le_trans (Nat.le_of_eq ?_) h2;generalize 3 ^ l.length=X;generalize UH (kB p split b)=Y;generalize QD _=Z;rw[Nat.mul_assoc,Nat.mul_assoc,Nat.mul_left_comm X 3,Nat.mul_left_comm X Y]
  have h:=this (List.range (p.length * Yw split));rw[List.length_range]at h;exact h
 ·have row:∀ t r,p[t]? = some r→(ind (Yx r 0)+ind (Yx r 1)+ind (Yx r 2))+(if split=true then (Kc true (t * 3) t r).length+(Kc true (t * 3+1) t r).length+(Kc true (t * 3+2) t r).length else (Kc false t t r).length)≤r.countP Zz:=fun t r hr=>by
   have h0:=hi r (List.mem_of_getElem? hr);have h1:=EE r;have h2:=MI t r h0;have h3:=Pj t r;have h4:=Nn r h0;split <;> omega
  have hc:=hl.2.2.2.1;have hp:=hl.1;clear hl hi hv;unfold kB
  match p,hp,row,hc with
  | [],_,_,_=>cases split <;> simp[List.range_succ,Yx,ind]
  | [a],_,row,hc =>
   have ra:=row 0 a rfl;simp only[YO,List.flatten_cons,List.flatten_nil,List.append_nil]at hc;cases split <;> simp[List.range_succ,Yw,Yx,ind]at ra ⊢ <;> (try simp[Yx,ind]at ra) <;> omega
  | [a,b],_,row,hc =>
   have ra:=row 0 a rfl;have rb:=row 1 b rfl;simp only[YO,List.flatten_cons,List.flatten_nil,List.append_nil,List.countP_append]at hc;cases split <;> simp[List.range_succ,Yw,Yx,ind]at ra rb ⊢ <;> omega
  | [a,b,c],_,row,hc =>
   have ra:=row 0 a rfl;have rb:=row 1 b rfl;have rc:=row 2 c rfl;simp only[YO,List.flatten_cons,List.flatten_nil,List.append_nil,List.countP_append]at hc;cases split <;> simp[List.range_succ,Yw,Yx,ind]at ra rb rc ⊢ <;> omega
  | _ :: _ :: _ :: _ :: _,hp,_,_=>simp at hp
theorem LI {p:List (List Ins)}{split:Bool}(hv:Zg p=true) (s:Bf):QD (Vk p split s)≤7321811000000:=by
 obtain⟨R,K,h1,h2,h3⟩:=LJ (split:=split) hv s;have hnb:p.length * Yw split≤9:=by
  have h4:Yw split≤3:=by cases split <;> simp[Yw]
  have:=Nat.mul_le_mul (Zv hv).1 h4;omega
 unfold Vk;rw[Ad,Ad,Ad,h1];have e1:QD (PR s)=512:=by simp[PR,List.range_succ,QD]
 have e2:QD (PM s)=64:=by simp[PM,List.range_succ,QD]
 rw[e1,e2];generalize QD (PZ p split s)=X at *;generalize p.length * Yw split=nb at *;have h5:3 ^ (9 - nb) * (3 ^ nb * X)≤4 ^ (9 - nb) * 4 ^ (K+nb):=Nat.mul_le_mul (Nat.pow_le_pow_left Dc _) h2;rw[← Nat.mul_assoc,← Nat.pow_add,← Nat.pow_add,show 9 - nb+nb=9 by omega,show 9 - nb+(K+nb)=K+9 by omega]at h5;have h6:4 ^ R * (3 ^ 9 * X)≤4 ^ R * 4 ^ (K+9):=Nat.mul_le_mul_left _ h5;rw[← Nat.pow_add]at h6;have h7:4 ^ (R+(K+9))≤4 ^ 21:=Nat.pow_le_pow_right Dc Om;have h8:4 ^ R * (3 ^ 9 * X)=19683 * (4 ^ R * X):=by rw[Nat.mul_left_comm]
 have h9:(4:Nat) ^ 21=4398046511104:=Dc;rw[h8]at h6;generalize 4 ^ R * X=Y at *;omega
theorem Fs {p:List (List Ins)}{split:Bool}(hv:Zg p=true) {l:List Bf}(hn:l.Nodup) (h:∀ s∈l,Zt (Zr p split) (Zy p split) s):l.length≤7321811000000:=by
 have h1:(l.map fun s=>Uy (Vk p split s)).Nodup:=by
  unfold List.Nodup;rw[List.pairwise_map];refine List.Pairwise.imp_of_mem ?_ hn;intro a b ha hb hab e;exact hab (Is hv (h a ha) (h b hb) e)
 have h2:=Bc 7321811000000 _ h1 fun x hx=>by
  obtain⟨s,hs,rfl⟩:=List.mem_map.1 hx;exact Nat.lt_of_lt_of_le (N8 (Rb hv (h s hs))) (LI hv s)
 simpa using h2
end Go.Proofs.YtngekjpklkjnbaaGreat
namespace Go.Proofs.YtngekjpklkjnbaaGreat
open Go.RowKit
theorem Own.U9 {α:Type}{E:El α}{T:TypeId}{w w':World}{base:Nat}{v:Value}{xs:List α}(h:Own E T w base v xs) (hB:∀ k,v.ownBlock=some k→w'.heap[k]? = w.heap[k]?):Own E T w' base v xs:=by
 refine⟨h.1,?_⟩;rcases h.2 with h0 | ⟨g,cap,cur,hv,hb1,hgg,rest⟩
 ·exact .inl h0
 ·exact .inr ⟨g,cap,cur,hv,hb1,(hB g (by rw[hv];rfl)).trans hgg,rest⟩
def P6 (w:World) (vp:Value) (split:Bool) (s':Bf) (us:List Zs) (k:Nat) (u:Zs) (r r':List Int) (e:Ending) (w':World):Prop:=∃ (b':Nat) (wv' u':Zs),e = .returned (AZ 169 b')∧Yc w' b' vp split wv' s' ∧
 Own Z2 39 w' w.heap.size wv'.v (us.set k u')∧(∀ W,ZC Zu W u.v r→ZC Zu W u'.v r')∧w.heap.size≤b'∧Below w.heap.size w w'
theorem An (pv:Value) (q:Sq) (more:Array Value) {t:Nat}(ht:t < 3) {u:Value}:(ZV pv q++more).setIfInBounds (13+t) u=(ZV pv q).setIfInBounds (13+t) u++more:=by
 rw[Array.setIfInBounds_append_left So]
theorem M7 {W:World}{rb ro un uk:Nat}{l v:Int}{rest:List (Int × Int)}(h:ZC Zu W (Zs.v ⟨some ⟨rb,ro,none⟩,un,uk⟩) (ZA ((l,v) :: rest))):ZC Zu W (Zs.v ⟨if uk=1 then some ⟨rb,ro,none⟩ else some ⟨rb,ro+1,none⟩,un - 1,uk - 1⟩) (ZA rest):=by
 obtain⟨a,c,hv,h1,h2,h3⟩:=h;simp only[Zs.v,Value.slice.injEq,List.map_cons,List.length_cons,List.length_map]at hv h1;obtain⟨rfl,rfl,rfl⟩:=hv;refine⟨if uk=1 then some ⟨rb,ro,none⟩ else some ⟨rb,ro+1,none⟩,uk - 1,by rw[List.length_map];rfl,by rw[List.length_map];omega,Om,fun i x hx => ?_⟩;obtain⟨b,o,hb,hc⟩:=h3 (i+1) x (by simpa using hx);simp only[Option.some.injEq,Addr.mk.injEq,and_true]at hb;obtain⟨rfl,rfl⟩:=hb;have hlt:=(List.getElem?_eq_some_iff.1 hx).1;simp only[List.length_map]at hlt;rw[if_neg Om];refine⟨rb,ro+1,rfl,fun j u hu => ?_⟩;have:=hc j u hu;rw[← this]
 congr 2
 simp only[Zu];omega
theorem KO:∃ d,Tryz.prog.underlying 172=some d∧d.isRow=true:=by
 have h:((Tryz.prog.underlying 172).elim false TypeDesc.isRow)=true:=Kr;revert h;cases Tryz.prog.underlying 172 with
 | none=>intro h;cases h
 | some d=>exact fun h=>⟨d,rfl,h⟩
theorem Xp {P:Program}{op:Oper}{a:Act}{w:World}{K:Act→World→Prop}{Q:Exit→Act→World→Prop}(ty:TypeId) (x y:Operand) (ho:op.op = .store ty x y) (c c':Array Value)
 (hx:a.eval x = .pointer (some ⟨w.heap.size,0,none⟩)) (hy:a.eval y = .agg c') (hi:(P.info? ty).map (·.size)=some c'.size) (hs:c.size=c'.size) (h1:c'.all (·.oneCell')=true)
 (h:K (a.put op.dst undef) (w.alloc (.cells c' ty))):op.wp P a (w.alloc (.cells c ty)) K Q:=by
 unfold Oper.wp execOp;simp only[ho,hx,hy,Instr.storeAt,Instr.sureAddr,Sem.run_bind,Sem.run_pure,Result.andThen_ok,run_storeVar_new w ty c c' hi hs h1];exact h
theorem Na {op:Oper}{a:Act}{w:World}{K:Act→World→Prop}{Q:Exit→Act→World→Prop}(x y:Operand) (ho:op.op = .binOp .sub 3 x y 3) (p q r:Int)
 (hx:a.eval x = .int .i64 p) (hy:a.eval y = .int .i64 q) (hr:wrap64 (p - q)=r) (h:K (a.put op.dst (.int .i64 r)) w):op.wp Tryz.prog a w K Q:=by
 subst hr;unfold Oper.wp execOp;have e:IntKind.wrap .i64 (p - q)=wrap64 (p - q):=IntWalk.i64_left _;rw[← e]at h;simp only[ho,hx,hy];simpa[go_sem] using h
theorem Lf {k:Nat}(h:k≤9):wrap64 (k:Int)=(k:Int):=IntWalk.wrap64_in _ ⟨Om,Om⟩
set_option linter.unusedSimpArgs false in
theorem BS (b k:Nat) (vp:Value) (split:Bool) (wv u:Zs) (us:List Zs) (p:List (List Ins)) (s:Bf) (l v:Int) (rest:List (Int × Int)) (w:World) (hp:Z9 w vp p) (hx:Yc w b vp split wv s) (hus:ZC Z2 w wv.v us) (hul:us.length=s.bf.length) (hu:us[k]? = some u)
 (hrow:ZC Zu w u.v (ZA ((l,v) :: rest))) (hok:ZT p split s) (hpl:p.length≤3) (hk:s.bf[k]? = some ((l,v) :: rest)) (hlen:rest.length≤42) :
 Calls Tryz.prog 230 #[.pointer (some ⟨b,0,none⟩),.int .i64 ((p.length+k:Nat):Int)] w (P6 w vp split ⟨⟨s.q.pc,s.q.rg,s.q.mm.set l.toNat v⟩,s.bf.set k rest⟩ us k u (ZA ((l,v) :: rest)) (ZA rest)):=by
 obtain⟨va,vc,rfl,hc1,hc2,hc3,hp⟩:=hp.open;obtain⟨wa,wn,wk⟩:=wv;have hen:=hok.en _ (List.mem_of_getElem? hk) (l,v) Sm;unfold YP at hen;simp only at hen;obtain⟨ln,rfl⟩:∃ ln:Nat,l=ln:=⟨l.toNat,Om⟩
 have hl3:ln < 3:=Om;have hv3:0≤v∧v≤3:=hen.2;have hklt:=(List.getElem?_eq_some_iff.1 hk).1;have hlb9:s.bf.length≤9:=by
  rw[hok.lb];have:Yw split≤3:=by cases split <;> simp[Yw]
  have:=Nat.mul_le_mul hpl this;omega
 have HUS:=Za hus;obtain⟨wb,wo,hwa,hwl,q0⟩:=ZC.NT (show ZC Z2 w (.slice wa wn wk) us from hus) hu;obtain⟨ua,un,uk⟩:=u;have HWN:Hid (wn=us.length):=Za (by obtain⟨_,_,hv1,-⟩:=hus.open;simp only[Zs.v,Value.slice.injEq]at hv1;exact hv1.2.1);subst hwa;obtain⟨rb,ro,rfl,hrl,r0⟩:∃ rb ro,ua=some ⟨rb,ro,none⟩∧rb < w.heap.size∧w.cell? ⟨rb,ro,none⟩=some (Z1 ((ln:Int) * 16+v)):=by
  obtain⟨a0,c0,hv0,_,_,hh⟩:=hrow;simp only[Zs.v,Value.slice.injEq]at hv0;obtain⟨bb,oo,e0,h0⟩:=hh 0 ((ln:Int) * 16+v) rfl;have h1:=h0 0 (Z1 ((ln:Int) * 16+v)) rfl;simp only[Zu,Nat.zero_mul,Nat.add_zero]at h1;exact⟨bb,oo,hv0.1.trans e0,Zb h1,h1⟩
 have hun:un=rest.length+1:=by obtain⟨_,_,hv1,-⟩:=hrow.open;simp only[Zs.v,Value.slice.injEq]at hv1;rw[hv1.2.1];simp
 have HV:=Za (ZD.Yp hx);have HX:=Za hx;have HROW:=Za hrow
 have c0:=HV.out.c0;have bl:=HV.out.lt;have d16:=hx.split;have d17:=hx.waits;obtain⟨d1,d2,d3,d4,d5,d6,d7,d8,d9,d10,d11,d12,d13,d14,d15⟩:=HV.out.EF;have hsa:=@ZP;have HUL:=Za hul;have HLB:=Za hlb9
 have hul9:us.length≤9:=Om;clear hp hx hus hrow hul hlb9;generalize hn:p.length=n at *;have HN:=Za hn;clear hn;obtain⟨x1,hx1⟩:∃ x,x=s.q.pc.getD 0 0:=⟨_,rfl⟩
 obtain⟨x2,hx2⟩:∃ x,x=s.q.pc.getD 1 0:=⟨_,rfl⟩
 obtain⟨x3,hx3⟩:∃ x,x=s.q.pc.getD 2 0:=⟨_,rfl⟩
 obtain⟨x4,hx4⟩:∃ x,x=s.q.rg.getD 0 0:=⟨_,rfl⟩
 obtain⟨x5,hx5⟩:∃ x,x=s.q.rg.getD 1 0:=⟨_,rfl⟩
 obtain⟨x6,hx6⟩:∃ x,x=s.q.rg.getD 2 0:=⟨_,rfl⟩
 obtain⟨x7,hx7⟩:∃ x,x=s.q.rg.getD 3 0:=⟨_,rfl⟩
 obtain⟨x8,hx8⟩:∃ x,x=s.q.rg.getD 4 0:=⟨_,rfl⟩
 obtain⟨x9,hx9⟩:∃ x,x=s.q.rg.getD 5 0:=⟨_,rfl⟩
 obtain⟨x10,hx10⟩:∃ x,x=s.q.rg.getD 6 0:=⟨_,rfl⟩
 obtain⟨x11,hx11⟩:∃ x,x=s.q.rg.getD 7 0:=⟨_,rfl⟩
 obtain⟨x12,hx12⟩:∃ x,x=s.q.rg.getD 8 0:=⟨_,rfl⟩
 obtain⟨x13,hx13⟩:∃ x,x=s.q.mm.getD 0 0:=⟨_,rfl⟩
 obtain⟨x14,hx14⟩:∃ x,x=s.q.mm.getD 1 0:=⟨_,rfl⟩
 obtain⟨x15,hx15⟩:∃ x,x=s.q.mm.getD 2 0:=⟨_,rfl⟩
 have HA:Hid (ZV (.slice va n vc) s.q ++ #[.bool split,.slice (some ⟨wb,wo,none⟩) wn wk] = #[.slice va n vc,.int .u8 x1,.int .u8 x2,.int .u8 x3,.int .u8 x4,.int .u8 x5,.int .u8 x6,.int .u8 x7,.int .u8 x8,.int .u8 x9,.int .u8 x10,.int .u8 x11,.int .u8 x12,.int .u8 x13,.int .u8 x14,.int .u8 x15,.bool split,.slice (some ⟨wb,wo,none⟩) wn wk]):=Za (by rw[hx1,hx2,hx3,hx4,hx5,hx6,hx7,hx8,hx9,hx10,hx11,hx12,hx13,hx14,hx15];rfl);rw[← hx1]at d1;rw[← hx2]at d2;rw[← hx3]at d3;rw[← hx4]at d4;rw[← hx5]at d5;rw[← hx6]at d6;rw[← hx7]at d7;rw[← hx8]at d8;rw[← hx9]at d9;rw[← hx10]at d10;rw[← hx11]at d11;rw[← hx12]at d12;rw[← hx13]at d13;rw[← hx14]at d14;rw[← hx15]at d15;clear hx1 hx2 hx3 hx4 hx5 hx6 hx7 hx8 hx9 hx10 hx11 hx12 hx13 hx14 hx15;have HLD:Hid (w.rangeAt b 0 [.slice va n vc,.int .u8 x1,.int .u8 x2,.int .u8 x3,.int .u8 x4,.int .u8 x5,.int .u8 x6,.int .u8 x7,.int .u8 x8,.int .u8 x9,.int .u8 x10,.int .u8 x11,.int .u8 x12,.int .u8 x13,.int .u8 x14,.int .u8 x15,.bool split,.slice (some ⟨wb,wo,none⟩) wn wk]):=Za (by
  intro j v hj;have h:w.heap[b]? = some (.cells #[.slice va n vc,.int .u8 x1,.int .u8 x2,.int .u8 x3,.int .u8 x4,.int .u8 x5,.int .u8 x6,.int .u8 x7,.int .u8 x8,.int .u8 x9,.int .u8 x10,.int .u8 x11,.int .u8 x12,.int .u8 x13,.int .u8 x14,.int .u8 x15,.bool split,.slice (some ⟨wb,wo,none⟩) wn wk] 172 (0,0)):=by rw[← HA.out];exact HX.out
  rw[Nat.zero_add];exact Zc h (by simpa using hj))
 have HON:Hid ((#[.slice va n vc,.int .u8 x1,.int .u8 x2,.int .u8 x3,.int .u8 x4,.int .u8 x5,.int .u8 x6,.int .u8 x7,.int .u8 x8,.int .u8 x9,.int .u8 x10,.int .u8 x11,.int .u8 x12,.int .u8 x13,.int .u8 x14,.int .u8 x15,.bool split,.slice (some ⟨wb,wo,none⟩) wn wk]:Array Value).all (fun v=>v.oneCell')=true):=Za (by simp[Value.oneCell']);obtain⟨dB,hUB,hRB⟩:=KO;have HUB:=Za hUB;have HRB:=Za hRB
 clear hUB hRB;go_enter Tryz.func230,Tryz.ntmps230
 iterate 23 (first | (refine wp_load_mid 172 (.tmp 12) rfl b 0 rfl [.slice va n vc,.int .u8 x1,.int .u8 x2,.int .u8 x3,.int .u8 x4,.int .u8 x5,.int .u8 x6,.int .u8 x7,.int .u8 x8,.int .u8 x9,.int .u8 x10,.int .u8 x11,.int .u8 x12,.int .u8 x13,.int .u8 x14,.int .u8 x15,.bool split,.slice (some ⟨wb,wo,none⟩) wn wk] dB HLD.out HUB.out HRB.out Kr ?_;go_simp) | go_values | go_skip | go_guarded | go_step | go_upon)
 refine Xp 172 (.tmp 5) (.tmp 13) rfl _ #[.slice va n vc,.int .u8 x1,.int .u8 x2,.int .u8 x3,.int .u8 x4,.int .u8 x5,.int .u8 x6,.int .u8 x7,.int .u8 x8,.int .u8 x9,.int .u8 x10,.int .u8 x11,.int .u8 x12,.int .u8 x13,.int .u8 x14,.int .u8 x15,.bool split,.slice (some ⟨wb,wo,none⟩) wn wk] rfl rfl Kr rfl HON.out ?_;go_simp;go_wp2_with fail;obtain⟨V1,hV1⟩:∃ V1,V1=w.alloc (.cells #[.slice va n vc,.int .u8 x1,.int .u8 x2,.int .u8 x3,.int .u8 x4,.int .u8 x5,.int .u8 x6,.int .u8 x7,.int .u8 x8,.int .u8 x9,.int .u8 x10,.int .u8 x11,.int .u8 x12,.int .u8 x13,.int .u8 x14,.int .u8 x15,.bool split,.slice (some ⟨wb,wo,none⟩) wn wk] 172):=⟨_,rfl⟩
 have X1:Hid (Yc V1 w.heap.size (.slice va n vc) split ⟨some ⟨wb,wo,none⟩,wn,wk⟩ s):=Za (by rw[hV1];show _=some (Obj.cells (ZV (.slice va n vc) s.q++_) _ _);rw[HA.out];exact heap_alloc_new _ _);have B1:Hid (Below w.heap.size w V1):=Za (by rw[hV1];exact(Below.refl _ _).alloc (Nat.le_refl _) _);simp only[← hV1];clear hV1 d1 d2 d3 d4 d5 d6 d7 d8 d9 d10 d11 d12 d13 d14 d15 HA;have HCL:=Za (XH (.slice (some ⟨wb,wo,none⟩) wn wk) us V1 (HUS.out.below B1.out) Om)
 (with_reducible refine HCL.out.mono ?_);rintro e w2 ⟨vw,rfl,how,hb2⟩
 have hune:us≠[]:=fun e=>by rw[e]at hu;simp at hu
 obtain⟨cg,cc,rfl⟩:=QU how hune;have HOW:=Za how;have hcg:=World.ownsRow.lt how cg rfl;have hlN:w.heap.size < V1.heap.size:=X1.out.lt;have B2:=Za (B1.out.trans (hb2.mono B1.out.size));have X2:=Za (X1.out.below hb2);have hX2:=X2.out;have e17:=hX2.waits;have efz:=Z7 hX2;have el:=hX2.lt;clear hb2 HCL how hX2;have X3:Hid (Yc (w2.setCell ⟨w.heap.size,17,none⟩ (.slice (some ⟨cg,0,none⟩) us.length cc)) w.heap.size (.slice va n vc) split ⟨some ⟨cg,0,none⟩,us.length,cc⟩ s):=Za (heap_setCell_same w2 w.heap.size 17 _ _ (.slice (some ⟨cg,0,none⟩) us.length cc) X2.out);have B3:Hid (Below w.heap.size w (w2.setCell ⟨w.heap.size,17,none⟩ (.slice (some ⟨cg,0,none⟩) us.length cc))):=Za (B2.out.setCell (p:=⟨w.heap.size,17,none⟩) (Nat.le_refl _) _);have g0:=(B3.out.cell (p:=⟨b,0,none⟩) bl).trans c0;have g17:=(B3.out.cell (p:=⟨b,17,none⟩) bl).trans d17;have gq:=(B3.out.cell (p:=⟨wb,wo+k,none⟩) hwl).trans q0;have gr:=(B3.out.cell (p:=⟨rb,ro,none⟩) hrl).trans r0;have bl2:b < w2.heap.size:=Nat.lt_of_lt_of_le bl B2.out.size;have wl2:wb < w2.heap.size:=Nat.lt_of_lt_of_le hwl B2.out.size;have rl2:rb < w2.heap.size:=Nat.lt_of_lt_of_le hrl B2.out.size
 have hkn:k < wn:=by have:=HWN.out;have:=HUL.out;omega
 have hkn2:(k:Int) < (wn:Int):=Om;have hk9:k≤9:=by have:=HWN.out;omega
 have hge:((n:Int)≤(n:Int)+(k:Int)):=Om;have hsub:(n:Int)+(k:Int) - (n:Int)=(k:Int):=Om;have hun0:(0:Int) < (un:Int):=Om;have HUN:=Za hun;have HEN:=Za hen;have HKL:=Za hklt;have HCG:=Za hcg;have HLN:=Za hlN
 clear hun hen hklt hune d16 d17 c0 q0 r0 hul9 hlN hcg hsa hwl hrl;have hw64:=Za (Lf hk9)
 iterate 66 (first | go_values | go_skip | go_guarded | go_step | go_upon | go_back | (simp only[Int.not_lt,Int.not_le] at *;go_simp))
 refine Na (.tmp 28) (.tmp 34) rfl ((n:Int)+(k:Int)) (n:Int) (k:Int) rfl rfl (by rw[hsub];exact hw64.out) ?_;go_simp;go_wp2_with fail;clear hw64 e17 efz el g0;obtain⟨W3,hW3⟩:∃ W,W=w2.setCell ⟨w.heap.size,17,none⟩ (.slice (some ⟨cg,0,none⟩) us.length cc):=⟨_,rfl⟩
 have hcgne:cg≠w.heap.size:=by have h1:=HCG.out.1;have h2:=HLN.out;omega
 have OW3:Hid (Own Z2 39 W3 V1.heap.size (.slice (some ⟨cg,0,none⟩) us.length cc) us):=Za (by
  rw[hW3];exact HOW.out.U9 fun q hq=>heap_setCell_other w2 ⟨w.heap.size,17,none⟩ q _ (show q≠w.heap.size by simp[Value.ownBlock]at hq;rw[← hq];exact hcgne))
 simp only[← hW3]at X3 B3 g17 gq gr ⊢;have hs3:w2.heap.size≤W3.heap.size:=by rw[hW3];simp
 clear hW3;have ck:W3.cell? ⟨cg,k,none⟩=some (.slice (some ⟨rb,ro,none⟩) un uk):=by have:=OW3.out.cell hu (j:=0) rfl;simpa[Z2] using this
 have cgl:=Zb ck;have fk:=OW3.out.frozen;have e17:W3.cell? ⟨w.heap.size,17,none⟩=some (.slice (some ⟨cg,0,none⟩) us.length cc):=X3.out.waits;have el:=Zb e17;have bl3:=Zb g17;have wl3:=Zb gq;have hku:(k:Int) < (us.length:Int):=by have:=HWN.out;omega
 clear bl2 wl2 rl2
 go_region
 obtain⟨ua',hua'⟩:∃ a:Option Addr,a=if uk=1 then some ⟨rb,ro,none⟩ else some ⟨rb,ro+1,none⟩:=⟨_,rfl⟩
 simp only[← hua'];have HUA:=Za hua';clear hua';obtain⟨u',hu'⟩:∃ u':Zs,u'=⟨ua',un - 1,uk - 1⟩:=⟨_,rfl⟩
 obtain⟨W6,hW6⟩:∃ W,W=(W3.setCell ⟨cg,k,none⟩ (.slice u'.a u'.n u'.cap)).drew:=⟨_,rfl⟩
 have OW6:Hid (Own Z2 39 W6 V1.heap.size (.slice (some ⟨cg,0,none⟩) us.length cc) (us.set k u')):=Za (by
  rw[hW6];have:=OW3.out.set (i:=k) (j:=0) u' (u:=.slice u'.a u'.n u'.cap) Dc hu rfl;simp only[Z2,Nat.mul_one,Nat.add_zero]at this;exact this.below (Below.refl _ _).drew)
 have X6:Hid (Yc W6 w.heap.size (.slice va n vc) split ⟨some ⟨cg,0,none⟩,us.length,cc⟩ s):=Za (by
  rw[hW6];exact(heap_setCell_other W3 ⟨cg,k,none⟩ w.heap.size _ (fun e=>hcgne e.symm)).trans X3.out)
 have B6:Hid (Below w.heap.size w W6):=Za (by
  rw[hW6];exact(B3.out.setCell (p:=⟨cg,k,none⟩) (by have h1:=HCG.out.1;have h2:=HLN.out;show w.heap.size≤cg;omega) _).drew)
 have HU':=Za hu';rw[hu']at hW6;rw[← hW6];clear hW6 hu' ck cgl fk e17 el g17 gq gr bl3 wl3 X3 B3 OW3 hku hkn hkn2;have m6:=(ZD.Yp X6.out).c3 ln hl3;have l6:=Zb m6;have f6:=Z7 X6.out;have hln3:(ln:Int) < 3:=Om;have hdq:((ln:Int) * 16+v) / 16=(ln:Int):=Om;have hmq:v % 16=v:=Om;go_wp2_with fail;have h8:=heap_setCell_same W6 w.heap.size (13+ln) _ _ (Z1 v) X6.out;rw[An _ s.q _ hl3,Jy _ _ hl3 (by rw[hok.q.lm];exact hl3)]at h8;have FB:Hid (Yc (W6.setCell ⟨w.heap.size,13+ln,none⟩ (Z1 v)) w.heap.size (.slice va n vc) split ⟨some ⟨cg,0,none⟩,us.length,cc⟩ ⟨⟨s.q.pc,s.q.rg,s.q.mm.set ((ln:Int).toNat) v⟩,s.bf.set k rest⟩):=Za (by rw[Int.toNat_natCast];exact h8);have FO:=Za ((OW6.out.Z6 (T:=172) (j:=13+ln) (u:=Z1 v) Dc X6.out).mono (Nat.le_of_lt HLN.out));have FW:=Za (B6.out.setCell (p:=⟨w.heap.size,13+ln,none⟩) (Nat.le_refl _) (Z1 v));clear h8 m6 l6 f6;go_ret;exact⟨w.heap.size,⟨some ⟨cg,0,none⟩,us.length,cc⟩,u',rfl,FB.out,FO.out,fun W h=>by rw[HU'.out,HUA.out];exact M7 h,Nat.le_refl _,FW.out⟩
end Go.Proofs.YtngekjpklkjnbaaGreat
namespace Go.Proofs.YtngekjpklkjnbaaGreat
open Go.RowKit Go.Shelf
attribute [local go_sem] Oper.semAt_some
theorem Rq {W W':World}{row:Option Nat}{b:Nat}{cur:Array Value}{T:TypeId}{fr:Nat × Nat}(h:W.heap[b]? = some (.cells cur T fr)) (hg:W.grownBy W' row) (hr:∀ r,row=some r→∃ o:Obj,W.heap[r]? = some o∧o.isCells=false):W'.heap[b]? = some (.cells cur T fr):=by
 rw[hg.block b (Array.getElem?_eq_some_iff.1 h).1 (fun e => ?_),h];obtain⟨o,h1,h2⟩:=hr b e.symm;rw[h]at h1;simp at h1;subst h1;cases h2
structure Ho (w:World) (loc:Nat) (v:Value) (W:World):Prop where
 h5:W.heap[w.heap.size]? = some (.cells #[.int .i64 (loc:Int)] 3 (0,0))
 h6:W.heap[w.heap.size+1]? = some (.cells #[v] 5 (0,0))
 bl:Below w.heap.size w W
theorem Ho.grown {w:World}{loc:Nat}{v:Value}{W W':World}{row:Option Nat}{B:Nat}(h:Ho w loc v W) (hB:w.heap.size≤B) (hg:W.grownBy W' row) (hr:∀ r,row=some r→B≤r∧∃ o:Obj,W.heap[r]? = some o∧o.isCells=false):Ho w loc v W':=
 ⟨Rq h.h5 hg fun r e=>(hr r e).2,Rq h.h6 hg fun r e=>(hr r e).2,h.bl.grown hg h.bl.size fun k e=>Nat.le_trans hB (hr k e).1⟩
theorem Ho.put {w:World}{loc:Nat}{v:Value}{W:World}(h:Ho w loc v W) (u:Value):Ho w loc u (W.setCell ⟨w.heap.size+1,0,none⟩ u):=
 ⟨(heap_setCell_other W ⟨w.heap.size+1,0,none⟩ w.heap.size u (by show w.heap.size≠w.heap.size+1;omega)).trans h.h5,heap_setCell_same W (w.heap.size+1) 0 _ _ u h.h6,h.bl.setCell (p:=⟨w.heap.size+1,0,none⟩) (by show w.heap.size≤w.heap.size+1;omega) _⟩
theorem EV (zs:List Int):(zs.attach.zipIdx.reverse).map (fun x=>x.1.1)=zs.reverse:=by
 rw[List.map_reverse]
 congr 1
 have h1:(fun x:{u:Int // u∈zs} × Nat=>x.1.1)=(fun g:{u:Int // u∈zs}=>g.1) ∘ Prod.fst:=rfl;rw[h1,← List.map_map,List.zipIdx_map_fst,List.attach_map_subtype_val]
theorem Cg {e:Int × Int}(h:YP e):(e.1 * 16+e.2) / 16=e.1∧(e.1 * 16+e.2) % 16=e.2:=by
 unfold YP at h;omega
theorem NS {row:List (Int × Int)}(hen:∀ e∈row,YP e) {loc:Nat}(h:∀ x∈(ZA row).attach.zipIdx.reverse,¬ x.1.1 / 16=(loc:Int)):row.reverse.find? (fun e=>e.1==(loc:Int))=none:=by
 rw[List.find?_eq_none];intro e he h2;rw[List.mem_reverse]at he;have h3:e.1 * 16+e.2∈(ZA row).reverse:=List.mem_reverse.2 (List.mem_map.2 ⟨e,he,rfl⟩);rw[← EV]at h3;obtain⟨x,hx,hxe⟩:=List.mem_map.1 h3;refine h x hx ?_;rw[hxe,(Cg (hen e he)).1];exact beq_iff_eq.1 h2
theorem NQ {row:List (Int × Int)}(hen:∀ e∈row,YP e) {loc:Nat}{k:Nat}{pre':List ({u:Int // u∈ZA row} × Nat)}{x:{u:Int // u∈ZA row} × Nat}(h:pre'++[x]=(ZA row).attach.zipIdx.reverse.take k) (hno:∀ y∈pre',¬ y.1.1 / 16=(loc:Int)) (hx:x.1.1 / 16=(loc:Int)):row.reverse.find? (fun e=>e.1==(loc:Int))=some ((loc:Int),x.1.1 % 16):=by
 have h1:(ZA row).reverse=pre'.map (fun x=>x.1.1)++(x.1.1 :: ((ZA row).attach.zipIdx.reverse.drop k).map (fun x=>x.1.1)):=by
  rw[← EV]
  conv=>lhs;rw[← List.take_append_drop k (ZA row).attach.zipIdx.reverse]
  rw[← h];simp
 unfold ZA at h1;rw[← List.map_reverse]at h1;obtain⟨l1,l2,e1,e2,e3⟩:=List.map_eq_append_iff.1 h1;obtain⟨e,l3,rfl,e4,-⟩:=List.map_eq_cons_iff.1 e3;have he:e∈row:=List.mem_reverse.1 (by rw[e1];simp);obtain⟨d1,d2⟩:=Cg (hen e he);rw[e4,hx]at d1;rw[e4]at d2;rw[e1,List.find?_append,List.find?_eq_none.2,Option.none_or,List.find?_cons,← d1]
 ·simp[d2,d1]
 ·intro y hy h2
  have h3:y.1 * 16+y.2∈pre'.map (fun x=>x.1.1):=by rw[← e2];exact List.mem_map.2 ⟨y,hy,rfl⟩
  obtain⟨z,hz,hze⟩:=List.mem_map.1 h3;refine hno z hz ?_;rw[hze,(Cg (hen y (List.mem_reverse.1 (by rw[e1];simp[hy])))).1];exact beq_iff_eq.1 h2
theorem Io {s:Bf}{t loc:Nat}{split:Bool}{row:List (Int × Int)}(h:s.bf[Zj t loc split]? = some row):Y4 s t loc split=match row.reverse.find? (fun e=>e.1==(loc:Int)) with | some e=>e.2 | none=>s.q.mm[loc]?.getD 0:=by
 unfold Y4;rw[List.getD_eq_getElem?_getD,h,Option.getD_some,List.getD_eq_getElem?_getD,Int.toNat_natCast];rfl
theorem Ho.gone {w:World}{loc:Nat}{v:Value}{W:World}(h:Ho w loc v W) {D:Nat}(hD:w.heap.size+1≠D) (o:Obj):(W.putObj D o).cell? ⟨w.heap.size+1,0,none⟩=some v:=
 Zc ((World.putObj_heap_other hD).trans h.h6) (k:=0) rfl
theorem Ho.drew {w:World}{loc:Nat}{v:Value}{W:World}(h:Ho w loc v W):Ho w loc v W.drew:=⟨h.h5,h.h6,h.bl.drew⟩
theorem UJ (b t loc:Nat) (vp:Value) (split:Bool) (wv:Zs) (p:List (List Ins)) (s:Bf) (w:World) (hx:Yc w b vp split wv s) (hw:GC w wv s) (hok:ZT p split s) (ht:t < p.length) (hpl:p.length≤3) (hl:loc≤2) (hlen:∀ r∈s.bf,r.length≤1048576) :
 Calls Tryz.prog 235 #[.pointer (some ⟨b,0,none⟩),.int .i64 (t:Int),.int .i64 (loc:Int)] w fun e w'=>e = .returned (Z1 (Y4 s t loc split))∧Below w.heap.size w w':=by
 obtain⟨wa,wn,wk⟩:=wv;have HX:=Za hx;have HW:=Za hw;have HOK:=Za hok
 have h16:=hx.split;have h17:=hx.waits;have bl:=hx.lt;have ht2:t≤2:=Om;have hqs:Zj t loc split < s.bf.length:=by rw[hok.lb];exact XU ht Om
 obtain⟨q,hq⟩:∃ q,q=Zj t loc split:=⟨_,rfl⟩
 rw[← hq]at hqs;obtain⟨row,hrow⟩:=Zd (xs:=s.bf) (k:=q) hqs;have hrow2:(s.bf.map ZA)[q]? = some (ZA row):=by rw[List.getElem?_map,hrow];rfl
 obtain⟨_,_,hv,-,-,-,-⟩:=hw.open;simp only[Zs.v,Value.slice.injEq]at hv;obtain⟨rfl,hwn,rfl⟩:=hv;rw[List.length_map]at hwn;obtain⟨wb,wo,ra,rc,rfl,hbl2,q0,hrr⟩:=YV.row hw hrow2;rw[List.length_map]at q0;obtain⟨rn,hrn⟩:∃ rn,rn=row.length:=⟨_,rfl⟩
 simp only[← hrn]at q0;have HLN:Hid (rn≤1048576):=Za (by rw[hrn];exact hlen row (List.mem_of_getElem? hrow));have HRN:=Za hrn;have HQ:=Za hq;have HROW:=Za hrow;have HRR:=Za hrr
 have hqn:(q:Int) < (wn:Int):=by rw[hwn];omega
 have HBU:=Za (fun X h=>JR b t loc split X h ht2 hl);simp only[← hq]at HBU;have HB0:=Za (((Below.refl w.heap.size w).alloc (Nat.le_refl _) (.cells #[.int .i64 (loc:Int)] 3)).alloc Sm (.cells #[.int .u8 0] 5));have HEN:Hid (∀ e∈row,YP e):=Za (hok.en row (List.mem_of_getElem? hrow));have HSEE:=Za (Io (t:=t) (loc:=loc) (split:=split) (s:=s) (row:=row) (by rw[← hq];exact hrow));have HGR:Hid (∀ g∈ZA row,0≤g∧g≤47):=Za (fun g hg=>by
  obtain⟨e,he,rfl⟩:=List.mem_map.1 hg;have h1:=hok.en row (List.mem_of_getElem? hrow) e he;unfold YP at h1;omega)
 clear hx hw hok hrow hrow2 hrn hq hwn hrr hlen;refine(callsIn_wide (n:=9)).1 ?_;refine callsIn_of_wp_marks Tryz.func235 rfl trivial ?_ rfl;simp only[Tryz.ntmps235,List.size_toArray,List.length_cons,List.length_nil,Nat.reduceAdd,Nat.reduceSub,Array.replicate_succ,Array.replicate_zero,List.push_toArray,List.append_toArray,List.nil_append,List.cons_append];refine(wpIn_wide (n:=9)).2 ?_;go_wp2_with fail;obtain⟨wB,hwB⟩:∃ W,W=(w.alloc (.cells #[.int .i64 (loc:Int)] 3)).alloc (.cells #[.int .u8 0] 5):=⟨_,rfl⟩
 rw[← hwB];obtain⟨W1,hW1⟩:∃ W,W=wB.drew:=⟨_,rfl⟩
 have BB:Hid (Below w.heap.size w W1):=Za (by rw[hW1,hwB];exact HB0.out.drew);have H5:Hid (W1.heap[w.heap.size]? = some (.cells #[.int .i64 (loc:Int)] 3 (0,0))):=Za (by
  rw[hW1,hwB];show ((w.alloc _).alloc _).heap[w.heap.size]? = _;rw[heap_alloc_old _ _ Sm];exact heap_alloc_new w _)
 have H6:Hid (W1.heap[w.heap.size+1]? = some (.cells #[.int .u8 0] 5 (0,0))):=Za (by
  rw[hW1,hwB];show ((w.alloc _).alloc _).heap[w.heap.size+1]? = _;have:=heap_alloc_new (w.alloc (.cells #[.int .i64 (loc:Int)] 3)) (.cells #[.int .u8 0] 5);simpa using this)
 have q5:W1.cell? ⟨w.heap.size,0,none⟩=some (.int .i64 (loc:Int)):=Zc H5.out (k:=0) rfl;have q16:=(BB.out.cell (p:=⟨b,16,none⟩) bl).trans h16;have q17:=(BB.out.cell (p:=⟨b,17,none⟩) bl).trans h17;have qr:=(BB.out.cell (p:=⟨wb,wo+q,none⟩) hbl2).trans q0;have l5:=Zb q5;have lb:=Zb q17;have lr:=Zb qr;have RR:=Za (HRR.out.below BB.out);have HX1:=Za (HX.out.below BB.out);have HW1:=Za hW1;clear h16 h17 q0 HB0 hwB hW1
 -- Ya read
 refine Zm (n:=10) Kr rfl Kr Kr (fun A ls a' W => ∃ (x9 x10 x11 x12 x13 x14 x15 x16 x17 x18:Value),a'=Zl A [(9,x9),(10,x10),(11,x11),(12,x12),(13,x13),(14,x14),(15,x15),(16,x16),(17,x17),(18,x18)]∧Vd ls 0 [] x9 (.pointer (some ⟨b,0,none⟩))∧Vd ls 1 [] x10 (.pointer (some ⟨b,0,none⟩))∧Vd ls 2 [] x11 (.pointer (some ⟨b,17,none⟩))∧Vd ls 3 [] x12 (.slice (some ⟨wb,wo,none⟩) wn wk)∧Vd ls 4 [] x13 (.pointer (some ⟨b,0,none⟩))∧Vd ls 5 [] x14 (.int .i64 (t:Int))∧Vd ls 6 [] x15 (.int .i64 (loc:Int))∧Vd ls 7 [] x16 (.int .i64 (q:Int))∧Vd ls 8 [] x17 (.pointer (some ⟨wb,wo+q,none⟩))∧Vd ls 9 [] x18 (.slice ra rn rc)∧W=W1) ?r0 ?rs ?re
 case r0 =>
  exact⟨undef,undef,undef,undef,undef,undef,undef,undef,undef,undef,pA,Vs,Vs,Vs,Vs,Vs,Vs,Vs,Vs,Vs,Vs,by exact HW1.out.symm⟩
 case rs =>
  rintro ls a' W hs hnl ⟨x9,x10,x11,x12,x13,x14,x15,x16,x17,x18,ha,cv0,cv1,cv2,cv3,cv4,cv5,cv6,cv7,cv8,cv9,hJ⟩ k o hkn mc K hK;simp only[Zl,Act.put,List.setIfInBounds_toArray,List.set_cons_succ,List.set_cons_zero]at ha;subst ha;have hkc:k=0∨k=1∨k=2∨k=3∨k=4∨k=5∨k=6∨k=7∨k=8∨k=9:=Om;have hop:=mc.op;have haf:=mc.after;rcases hkc with rfl | rfl | rfl | rfl | rfl | rfl | rfl | rfl | rfl | rfl
  ·simp at hop;subst hop;simp[Region.binds]at haf
   obtain rfl:W1=W:=hJ.symm;have hJ:W1=W1:=rfl;go_simp;exact hK _ _ ⟨_,_,_,_,_,_,_,_,_,_,pA,Ve,cv1.s,cv2.s,cv3.s,cv4.s,cv5.s,cv6.s,cv7.s,cv8.s,cv9.s,by exact hJ⟩
  ·simp at hop;subst hop;simp[Region.binds]at haf
   obtain rfl:=(cv0.get (by simp[haf])).symm;obtain rfl:W1=W:=hJ.symm;have hJ:W1=W1:=rfl;go_simp;exact hK _ _ ⟨_,_,_,_,_,_,_,_,_,_,pA,cv0.s,Ve,cv2.s,cv3.s,cv4.s,cv5.s,cv6.s,cv7.s,cv8.s,cv9.s,by exact hJ⟩
  ·simp at hop;subst hop;simp[Region.binds]at haf
   obtain rfl:=(cv1.get (by simp[haf])).symm;obtain rfl:W1=W:=hJ.symm;have hJ:W1=W1:=rfl;go_simp;exact hK _ _ ⟨_,_,_,_,_,_,_,_,_,_,pA,cv0.s,cv1.s,Ve,cv3.s,cv4.s,cv5.s,cv6.s,cv7.s,cv8.s,cv9.s,by exact hJ⟩
  ·simp at hop;subst hop;simp[Region.binds]at haf
   obtain rfl:=(cv2.get (by simp[haf])).symm;obtain rfl:W1=W:=hJ.symm;have hJ:W1=W1:=rfl;go_simp;exact hK _ _ ⟨_,_,_,_,_,_,_,_,_,_,pA,cv0.s,cv1.s,cv2.s,Ve,cv4.s,cv5.s,cv6.s,cv7.s,cv8.s,cv9.s,by exact hJ⟩
  ·simp at hop;subst hop;simp[Region.binds]at haf
   obtain rfl:W1=W:=hJ.symm;have hJ:W1=W1:=rfl;go_simp;exact hK _ _ ⟨_,_,_,_,_,_,_,_,_,_,pA,cv0.s,cv1.s,cv2.s,cv3.s,Ve,cv5.s,cv6.s,cv7.s,cv8.s,cv9.s,by exact hJ⟩
  ·simp at hop;subst hop;simp[Region.binds]at haf
   obtain rfl:W1=W:=hJ.symm;have hJ:W1=W1:=rfl;go_simp;exact hK _ _ ⟨_,_,_,_,_,_,_,_,_,_,pA,cv0.s,cv1.s,cv2.s,cv3.s,cv4.s,Ve,cv6.s,cv7.s,cv8.s,cv9.s,by exact hJ⟩
  ·simp at hop;subst hop;simp[Region.binds]at haf
   obtain rfl:W1=W:=hJ.symm;have hJ:W1=W1:=rfl;go_simp;exact hK _ _ ⟨_,_,_,_,_,_,_,_,_,_,pA,cv0.s,cv1.s,cv2.s,cv3.s,cv4.s,cv5.s,Ve,cv7.s,cv8.s,cv9.s,by exact hJ⟩
  ·simp at hop;subst hop;simp[Region.binds]at haf
   obtain rfl:=(cv4.get (by simp[haf])).symm;obtain rfl:=(cv5.get (by simp[haf])).symm;obtain rfl:=(cv6.get (by simp[haf])).symm;obtain rfl:W1=W:=hJ.symm;have hJ:W1=W1:=rfl;go_simp;go_at_call 236
   (with_reducible refine(HBU.out _ q16).mono ?_);rintro e u ⟨rfl,rfl⟩
   exact hK _ _ ⟨_,_,_,_,_,_,_,_,_,_,pA,cv0.s,cv1.s,cv2.s,cv3.s,cv4.s,cv5.s,cv6.s,Ve,cv8.s,cv9.s,Rf⟩
  ·simp at hop;subst hop;simp[Region.binds]at haf
   obtain rfl:=(cv3.get (by simp[haf])).symm;obtain rfl:=(cv7.get (by simp[haf])).symm;obtain rfl:W1=W:=hJ.symm;have hJ:W1=W1:=rfl;go_simp;exact hK _ _ ⟨_,_,_,_,_,_,_,_,_,_,pA,cv0.s,cv1.s,cv2.s,cv3.s,cv4.s,cv5.s,cv6.s,cv7.s,Ve,cv9.s,by exact hJ⟩
  ·simp at hop;subst hop;simp[Region.binds]at haf
   obtain rfl:=(cv8.get (by simp[haf])).symm;obtain rfl:W1=W:=hJ.symm;have hJ:W1=W1:=rfl;go_simp;exact hK _ _ ⟨_,_,_,_,_,_,_,_,_,_,pA,cv0.s,cv1.s,cv2.s,cv3.s,cv4.s,cv5.s,cv6.s,cv7.s,cv8.s,Ve,by exact hJ⟩
 case re =>
  rintro ls a' W hall ⟨x9,x10,x11,x12,x13,x14,x15,x16,x17,x18,ha,cv0,cv1,cv2,cv3,cv4,cv5,cv6,cv7,cv8,cv9,hJ⟩ o hop;simp only[Zl,Act.put,List.setIfInBounds_toArray,List.set_cons_succ,List.set_cons_zero]at ha;subst ha;simp at hop;subst hop;obtain rfl:=cv0.ga hall;obtain rfl:=cv1.ga hall;obtain rfl:=cv2.ga hall;obtain rfl:=cv3.ga hall;obtain rfl:=cv4.ga hall;obtain rfl:=cv5.ga hall;obtain rfl:=cv6.ga hall;obtain rfl:=cv7.ga hall;obtain rfl:=cv8.ga hall;obtain rfl:=cv9.ga hall;go_simp
  (with_reducible refine(Ar ra rn rc W1).mono ?_);rintro e W2 ⟨rfl,hW2⟩
  have hb2:Below W1.heap.size W1 W2:=by rw[hW2];exact(Below.refl _ _).alloc (Nat.le_refl _) _
  have hbx:W2.heap[W1.heap.size]? = some (.cells #[.slice ra rn rc] 39 (0,0)):=by rw[hW2];exact heap_alloc_new W1 _
  have B2:=Za hb2;have HBX:=Za hbx
  clear hW2 hb2 hbx;go_wp2_with fail;refine(wpIn_wide (n:=9)).1 ?_;have hz2:W1.heap.size < W2.heap.size:=(Array.getElem?_eq_some_iff.1 HBX.out).1;have l6:=(Array.getElem?_eq_some_iff.1 H6.out).1;have hm2:Ho w loc (.int .u8 0) W2:=⟨(B2.out.block w.heap.size l5).trans H5.out,(B2.out.block (w.heap.size+1) l6).trans H6.out,BB.out.trans (B2.out.mono BB.out.size)⟩
  have hrr1:ZC Zu W1 (.slice ra rn rc) (ZA row):=by have:=RR.out;rwa[List.length_map,← HRN.out]at this
  obtain⟨rb,hrbl,hrb⟩:∃ rb,rb < W2.heap.size∧∀ g o,ra=some ⟨g,o,none⟩→ZA row≠[]→g=rb:=by
   cases hne:ZA row with
   | nil=>exact⟨W1.heap.size,hz2,fun g o _ h=>absurd rfl h⟩
   | cons z zs =>
    rw[hne]at hrr1;obtain⟨a0,c0,hv0,_,_,hh⟩:=hrr1;simp only[Value.slice.injEq]at hv0;obtain⟨bb,oo,e0,h0⟩:=hh 0 z rfl;have h1:=h0 0 (Z1 z) rfl;refine⟨bb,Nat.lt_of_lt_of_le (Zb h1) B2.out.size,fun g o e _ => ?_⟩;rw[hv0.1,e0]at e;simp at e;exact e.1.symm
  have HST:=Dq (Pr:=fun g=>g∈ZA row) 8 Om W1.heap.size rb (.slice ra rn rc) (ZA row).attach (by rw[List.length_attach,List.length_map,← HRN.out];exact HLN.out) W2 hz2 (Zc HBX.out (k:=0) rfl) (by rw[List.attach_map_subtype_val];exact hrr1.below B2.out) (fun g o e hne=>by
   simp only[Value.slice.injEq]at e;exact hrb g o e.1 (fun h=>hne (by rw[List.attach_eq_nil_iff];exact h)))
  have HM2:=Za hm2;have BX2:=Za (hrr1.below B2.out);clear hm2 hrr1 hrb;refine wpIn_rangeFunc_ownH rfl Om (gf:=243) (lb:=#[.pointer (some ⟨W1.heap.size,0,none⟩)]) rfl trivial (enters_of Tryz.func243 Kr rfl)
   HST XN.trans (Me hz2 hrbl) (Below.refl _ _) (fun _=>rfl)
   (fun pre W=>(∀ x∈pre,¬ x.1.1 / 16=(loc:Int))∧Ho w loc (.int .u8 0) W)
   (fun c pre W=>c = .ret∧∃ pre' x,pre=pre'++[x]∧(∀ y∈pre',¬ y.1.1 / 16=(loc:Int))∧x.1.1 / 16=(loc:Int)∧Ho w loc (Z1 (x.1.1 % 16)) W)
   (fun pre W W' row h hg hr=>⟨h.1,h.2.grown (by have:=BB.out.size;omega) hg hr⟩)
   (fun c pre W W' row h hg hr=>by
    obtain⟨rfl,pre',x,h1,h2,h3,h4⟩:=h;exact⟨rfl,pre',x,h1,h2,h3,h4.grown (by have:=BB.out.size;omega) hg hr⟩)
   ⟨fun x h=>by simp at h,HM2.out⟩
   (fun x a' W=>a' = { tmps:=#[.pointer (some ⟨b,0,none⟩),.int .i64 (t:Int),.int .i64 (loc:Int),undef,undef,.pointer (some ⟨w.heap.size,0,none⟩),.pointer (some ⟨w.heap.size+1,0,none⟩),undef,Z1 x.1.1,.pointer (some ⟨b,0,none⟩),.pointer (some ⟨b,0,none⟩),.pointer (some ⟨b,17,none⟩),.slice (some ⟨wb,wo,none⟩) wn wk,.pointer (some ⟨b,0,none⟩),.int .i64 (t:Int),.int .i64 (loc:Int),.int .i64 (q:Int),.pointer (some ⟨wb,wo+q,none⟩),.slice ra rn rc,.func (.func 243) #[] #[.pointer (some ⟨W1.heap.size,0,none⟩)],.int .i64 (x.2:Int),Z1 x.1.1,undef,undef,undef,undef,undef,undef,undef,undef,undef,undef,undef,undef,undef,undef],defers:=[] })
   (fun x a' _ W W' row h _ _=>h)
   ?assign ?body ?done ?stop
  case assign =>
   rintro l pre ⟨⟨g,hgm⟩,ix⟩ W K hi hK;gi_wp2;exact hK _ _ (KeepsFrom.refl _ _) (XN.refl _ _ _) hi rfl
  case body =>
   rintro l pre ⟨⟨g,hgm⟩,ix⟩ a' W hl ⟨r0,hr0⟩ ⟨hno,hm⟩ rfl hlt;obtain⟨hg0,hg47⟩:=HGR.out g hgm;have HM:=Za hm;have HNO:=Za hno
   have c5:W.cell? ⟨w.heap.size,0,none⟩=some (.int .i64 (loc:Int)):=Zc hm.h5 (k:=0) rfl;have c6:W.cell? ⟨w.heap.size+1,0,none⟩=some (.int .u8 0):=Zc hm.h6 (k:=0) rfl;have f6:=Z7 hm.h6;have cl5:=Zb c5;have cl6:=Zb c6;clear hm hno hr0;dsimp only;by_cases hq:g / 16=(loc:Int)
   ·have hqb:(g / 16==(loc:Int))=true:=by rw[hq];simp
    gi_wp2;exact⟨(KeepsOthers.setCell _ _ _).from _,rfl,pre,(⟨g,hgm⟩,ix),rfl,HNO.out,hq,HM.out.put _⟩
   ·have hqb:(g / 16==(loc:Int))=false:=beq_false_of_ne hq
    gi_wp2;exact⟨KeepsFrom.refl _ _,XN.refl _ _ _,fun x hx=>(List.mem_append.1 hx).elim (HNO.out x) (fun h=>by simp at h;subst h;exact hq),HM.out⟩
  case done =>
   rintro D ys W hD rfl ⟨hno,hm⟩ hK;have HM:=Za hm;have HNO:=Za hno;have HK:=Za hK
   have c5:W.cell? ⟨w.heap.size,0,none⟩=some (.int .i64 (loc:Int)):=Zc hm.h5 (k:=0) rfl;have c6:W.cell? ⟨w.heap.size+1,0,none⟩=some (.int .u8 0):=Zc hm.h6 (k:=0) rfl;have f6:=Z7 hm.h6;have m13:=(ZD.Yp (HX.out.below hm.bl)).c3 loc Om;have cl5:=Zb c5;have cl6:=Zb c6;have clb:=Zb m13;have hll:(loc:Int) < 3:=Om;clear hm hno hK;go_wp2_with fail
   go_region
   go_wp2_with fail;have hD1:w.heap.size+1≠D:=Om;have hKD:=(heap_setCell_other W ⟨w.heap.size+1,0,none⟩ D (Z1 (s.q.mm[loc]?.getD 0)) (by show D≠w.heap.size+1;omega)).trans HK.out;have hme:=(HM.out.put (Z1 (s.q.mm[loc]?.getD 0))).drew;have q6:=hme.gone hD1 (.deferred none);refine⟨Sm,.inl ⟨_,_,rfl,run_takeDeferred hKD,?_⟩⟩;refine⟨Z1 (s.q.mm[loc]?.getD 0),by simp[results,Tryz.results235,go_sem,q6],?_⟩;refine⟨?_,hme.bl.trans (belowK_b (w:=W2) Om _ D _ _ hD hKD rfl rfl)⟩;rw[HSEE.out,NS HEN.out HNO.out]
  case stop =>
   rintro D c pre W hD ⟨k0,hk0⟩ ⟨rfl,pre',x,hpe,hno,hxl,hm⟩ hK;have HM:=Za hm;have HNO:=Za hno;have HK:=Za hK
   clear hm hno hK;gi_wp2;have hD1:w.heap.size+1≠D:=Om;have q6:=HM.out.gone hD1 (.deferred none);refine⟨Sm,.inl ⟨_,_,rfl,run_takeDeferred HK.out,?_⟩⟩;refine⟨Z1 (x.1.1 % 16),by simp[results,Tryz.results235,go_sem,q6],?_⟩;refine⟨?_,HM.out.bl.trans (belowK_b (w:=W2) Om _ D _ _ hD HK.out rfl rfl)⟩;rw[HSEE.out,NQ HEN.out (hpe.symm.trans hk0) HNO.out hxl]
 -- end read
end Go.Proofs.YtngekjpklkjnbaaGreat
namespace Go.Proofs.YtngekjpklkjnbaaGreat
open Go.RowKit
theorem Xn (pv:Value) (q:Sq) (more:Array Value) {t:Nat}(ht:t < 16) {u:Value}:(ZV pv q++more).setIfInBounds t u=(ZV pv q).setIfInBounds t u++more:=by
 rw[Array.setIfInBounds_append_left So]
theorem OL {x:Ins}(h:Zi x=true):x.op=1∨x.op=2∨x.op=3∨x.op=4∨x.op=5:=by
 unfold Zi at h
 repeat' split at h
 all_goals first | omega | (simp at h;done)
theorem Ik {s s':Bf}{split:Bool}{t:Nat}{k:Int}{ln rn:Nat}{val:Int}(h:Qa s split t k ⟨1,(ln:Int),(rn:Int),val⟩=some s'):s'=⟨⟨s.q.pc.set t (k+1),s.q.rg.set (t * 3+rn) (Y4 s t (ln:Int) split),s.q.mm⟩,s.bf⟩:=by
 unfold Qa at h;simp at h;exact h.symm
theorem Dt {s s':Bf}{split:Bool}{t:Nat}{k:Int}{ln rn:Nat}{op val:Int}(ho:op=2∨op=3) (h:Qa s split t k ⟨op,(ln:Int),(rn:Int),val⟩=some s'):s'=⟨⟨s.q.pc.set t (k+1),s.q.rg,s.q.mm⟩,s.bf.set (Zj t (ln:Int) split) (s.bf.getD (Zj t (ln:Int) split) []++[((ln:Int),Yb s.q t ⟨op,(ln:Int),(rn:Int),val⟩)])⟩:=by
 unfold Qa at h;rcases ho with rfl | rfl
 all_goals
  simp at h;rw[← h];simp
theorem Fp {s s':Bf}{split:Bool}{t:Nat}{k:Int}{ln rn:Nat}{val:Int}(h:Qa s split t k ⟨4,(ln:Int),(rn:Int),val⟩=some s'):s'=⟨⟨s.q.pc.set t (k+1),s.q.rg,s.q.mm⟩,s.bf⟩:=by
 unfold Qa ZN at h;simp[ZG,ZR]at h;exact h.2.symm
theorem Ha {s:Bf}{split:Bool}{t ln:Nat}(hl:ln < 3) (h:Yg s t split=true):Y4 s t (ln:Int) split=s.q.mm.getD ln 0:=by
 rw[Vh,List.all_eq_true]at h;have h1:=h ln (List.mem_range.2 hl);rw[List.isEmpty_iff]at h1;unfold Y4;rw[h1];simp
theorem Il {s s':Bf}{split:Bool}{t:Nat}{k:Int}{ln rn:Nat}{val:Int}(hl:ln < 3) (h:Qa s split t k ⟨5,(ln:Int),(rn:Int),val⟩=some s'):s'=⟨⟨s.q.pc.set t (k+1),s.q.rg.set (t * 3+rn) (Y4 s t (ln:Int) split),s.q.mm.set ln val⟩,s.bf⟩:=by
 unfold Qa at h;rw[if_pos (.inr rfl)]at h;split at h
 ·rename_i he
  rw[Ha hl he];simp[ZN,ZG,ZR,Yb]at h;rw[← h];simp
 ·cases h
def AG (w:World) (vp:Value) (split:Bool) (s s':Bf) (us:List Zs) (e:Ending) (w':World):Prop:=∃ (b':Nat) (wv':Zs),e = .returned (AZ 169 b')∧Yc w' b' vp split wv' s'∧w.heap.size≤b'∧Below w.heap.size w w' ∧
 ((s'.bf=s.bf∧Own Z2 39 w' w.heap.size wv'.v us)∨∃ (k:Nat) (r:List (Int × Int)) (u':Zs),s'.bf=s.bf.set k r∧Own Z2 39 w' w.heap.size wv'.v (us.set k u')∧Own Zu 5 w' w.heap.size u'.v (ZA r))
structure JA (W1:World) (xs:List Int) (x:Int) (c l a:Bool) (f g:Zs) (O:Nat) (W:World):Prop where
 bw:Below W1.heap.size W1 W
 cl:c=true→a=false→Own Zu 5 W W1.heap.size f.v xs
 lt:l=true→a=false→W.heap[O]? = some (.cells #[.int .u8 x] 5 (0,0))
 ap:a=true→Own Zu 5 W W1.heap.size g.v (xs++[x])
section
variable {W1 : World} {xs : List Int} {x : Int} {c l a : Bool} {f g : Zs} {O : Nat} {W W' : World}
theorem JA.start (W1:World) (xs:List Int) (x:Int) (f g:Zs) (O:Nat) {W:World}(h:Below W1.heap.size W1 W):JA W1 xs x false false false f g O W:=⟨h,fun h=>(by cases h),fun h=>(by cases h),fun h=>(by cases h)⟩
theorem JA.step (h:JA W1 xs x c l a f g O W) (hb:Below W.heap.size W W'):JA W1 xs x c l a f g O W':=
 ⟨h.bw.trans (hb.mono h.bw.size),fun p q=>(h.cl p q).below hb,fun p q=>(hb.block O (Array.getElem?_eq_some_iff.1 (h.lt p q)).1).trans (h.lt p q),fun p=>(h.ap p).below hb⟩
theorem JA.clone (h:JA W1 xs x false l a f g O W) {f':Zs}(ho:Own Zu 5 W' W.heap.size f'.v xs) (hb:Below W.heap.size W W'):JA W1 xs x true l a f' g O W':=
 have k:=h.step hb
 ⟨k.bw,fun _ _=>ho.mono h.bw.size,k.lt,k.ap⟩
theorem JA.lit (h:JA W1 xs x c false a f g O W):JA W1 xs x c true a f g W.heap.size (W.alloc (.cells #[.int .u8 x] 5)):=
 have k:=h.step ((Below.refl W.heap.size W).alloc (Nat.le_refl _) (.cells #[.int .u8 x] 5))
 ⟨k.bw,k.cl,fun _ _=>heap_alloc_new W _,k.ap⟩
theorem JA.app (h:JA W1 xs x true true false f g O W) {g':Zs}(ho:Own Zu 5 W' W1.heap.size g'.v (xs++[x])) (hg:W.grownBy W' f.v.ownBlock):JA W1 xs x true true true f g' O W':=
 ⟨h.bw.grown hg h.bw.size fun q hq=>(World.ownsRow.lt (h.cl rfl rfl) q hq).1,fun _ q=>(by cases q),fun _ q=>(by cases q),fun _=>ho⟩
end
end Go.Proofs.YtngekjpklkjnbaaGreat
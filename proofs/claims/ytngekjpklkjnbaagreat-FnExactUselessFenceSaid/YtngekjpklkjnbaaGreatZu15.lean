/-
  A state with store buffers after a buffer's oldest store has reached memory. Condition: a state as it can be.
-/
import Derived.Test.YtngekjpklkjnbaaGreatZu11
import Derived.Test.YtngekjpklkjnbaaGreatZu12
import Derived.Test.YtngekjpklkjnbaaGreatZu13
import Derived.Deep.WholeRow
set_option maxHeartbeats 6400000
set_option maxRecDepth 100000
namespace Go.Proofs.YtngekjpklkjnbaaGreat
open Go.RowKit
def YU (ls:List (List Int)):List Int:=ls.flatMap fun r=>(r.length:Int) :: r
def RT (s:Bf):List Int:=EX s.q++YU (s.bf.map Z1)
theorem Cb (ls:List (List Int)) (r:List Int):YU (ls++[r])=YU ls++[(r.length:Int)]++r:=by simp[YU]
theorem EU {ls:List (List Int)}{m:Nat}(h:∀ r∈ls,r.length≤m):(YU ls).length≤ls.length * (m+1):=by
 induction ls with
 | nil=>simp[YU]
 | cons r ls ih =>
  have h1:=ih fun x hx=>h x (by simp[hx]);have h2:=h r Sm;simp only[YU,List.flatMap_cons,List.length_append,List.length_cons,Nat.add_mul,Nat.one_mul]at h1 ⊢;omega
theorem Ra {w:World}{g:Nat}{x:Int}{T:TypeId}(h:w.heap[g]? = some (.cells #[.int .u8 x] T (0,0))):Z7 Zr w (.slice (some ⟨g,0,none⟩) 1 1) [x]:=by
 refine⟨some ⟨g,0,none⟩,1,rfl,Sm,by unfold maxLen;omega,fun i y hy=>⟨g,0,rfl,fun j u hu => ?_⟩⟩;have hi:i=0:=by have:=(List.getElem?_eq_some_iff.1 hy).1;simpa using this
 have hj:j=0:=by have:=(List.getElem?_eq_some_iff.1 hu).1;simpa[Zr] using this
 subst hi;subst hj;simp at hy;subst hy;simp[Zr]at hu;subst hu;exact Zc h (k:=0) rfl
theorem Bu (b:Nat) (vp:Value) (split:Bool) (wv:Zt) (p:List (List Ins)) (s:Bf) (w:World) (hx:ZO w b vp split wv s) (hw:Vr w wv s) (hok:ZE p split s) (hpl:p.length≤3) (hpr:∀ r∈p,r.length≤7) (hr:∀ r∈s.bf,r.length≤100) :
 Calls Tryz.prog 232 #[.pointer (some ⟨b,0,none⟩)] w fun e w'=>e = .returned (.string (strOfNums (RT s)))∧Below w.heap.size w w':=by
 obtain⟨wa,wn,wk⟩:=wv;have H1:=Za (Fk b vp s.q w (ZN.ZX hx));have HBY:=Za (Gi hok.q hpr);have bl:=hx.lt;have h17:=hx.waits;have HW:Hid (Yv Zr w (.slice wa wn wk) (s.bf.map Z1)):=Za hw;obtain⟨_,_,hv,-,hcn,-,-⟩:=hw.open;simp only[Zt.v,Value.slice.injEq]at hv;obtain⟨rfl,hwn,rfl⟩:=hv;have hwn9:wn≤9:=by
  rw[hwn,List.length_map,hok.lb];have:Yj split≤3:=by cases split <;> simp[Yj]
  have:=Nat.mul_le_mul hpl this;omega
 have HRL:=Za (fun (r:List Int) (h:r∈s.bf.map Z1)=>(by
  obtain⟨r',h1,rfl⟩:=List.mem_map.1 h;rw[List.length_map];exact hr r' h1:r.length≤100))
 have HWN:=Za hwn;have HK:Hid (RT s=EX s.q++YU (s.bf.map Z1)):=Za rfl;have hl15:(EX s.q).length=15:=rfl;clear hx hw hok hr hwn hcn;generalize RT s=KK at *;generalize hL:EX s.q=L at *;generalize s.bf.map Z1=RR at *;clear hL;have hcv:=fun (w':World)=>Lib.run_convert_string_bytes (P:=Tryz.prog) w' 9 39 5 (strOfNums L) Tryz.underlying9 Tryz.underlying39 Tryz.underlying5;go_enter Tryz.func232,Tryz.ntmps232;go_wp2_with fail
 (with_reducible refine H1.out.mono ?_);rintro e w1 ⟨rfl,hb1⟩
 have hE:=Za (CY w1 HBY.out Om);have hBB:=RX w1 5 (strOfNums L);have B2:=Za (hb1.trans (hBB.mono hb1.size));have g17:=(B2.out.cell (p:=⟨b,17,none⟩) bl).trans h17;have gl:=Zb g17;have hs1:=hb1.size;clear hBB hb1;go_wp2_with fail;obtain⟨V,hV⟩:∃ V,V=Lib.bytesWorld w1 5 (strOfNums L):=⟨_,rfl⟩
 rw[← hV]at hE B2 ⊢;have E0:Hid (Xs V w.heap.size _ (L++YU (RR.take 0))):=Za (by
  obtain⟨g,cap,cur,fz,h1,h2,h3⟩:=hE.out;rw[List.take_zero,show YU []=[] from rfl,List.append_nil];exact⟨g,cap,cur,fz,h1,Nat.le_trans hs1 h2,h3⟩)
 clear hV g17 gl hE hs1 hcv H1
 go_loopw [3,16] (fun v i wr => ∃ k:Nat,k≤wn∧i = .int .i64 k∧Xs wr w.heap.size v (L++YU (RR.take k))∧Below w.heap.size w wr) (fun _ i _=>wn - (intOf i).toNat)
 case atStart=>exact⟨0,Nat.zero_le _,rfl,E0.out,B2.out⟩
 case round =>
  obtain⟨k,hk,rfl,ho,hb⟩:=hrel;have HO:=Za ho;have HB:=Za hb
  have hbs:=hb.size;by_cases hlt:k < wn
  ·have hlt':=Zh hlt
   obtain⟨row,hrow⟩:=Zd (xs:=RR) (k:=k) (by rw[← HWN.out];exact hlt);obtain⟨b2,o2,ra,rc,rfl,hbl2,q0,q1⟩:=Yv.row HW.out hrow;have q2:=(hb.cell (p:=⟨b2,o2+k,none⟩) hbl2).trans q0;have ql:=Zb q2;clear q0;have hr100:=HRL.out row (List.mem_of_getElem? hrow);have TK:Hid (L++YU (RR.take (k+1))=(L++YU (RR.take k))++[(row.length:Int)]++row):=Za (by
    rw[List.take_add_one,hrow];show L++YU (RR.take k++[row])=_;rw[Cb];simp only[List.append_assoc])
   have hPL:(L++YU (RR.take k)).length≤2000:=by
    have h1:=EU (ls:=RR.take k) (m:=100) fun r hr=>HRL.out r (List.mem_of_mem_take hr);have h2:(RR.take k).length≤9:=by rw[List.length_take];omega
    have h3:=Nat.mul_le_mul_right (100+1) h2;rw[List.length_append,hl15];omega
   have Q1:=Za q1;have hwu:IntKind.u8.wrap (row.length:Int)=(row.length:Int):=by rw[IntKind.wrap_u8];omega
   clear ho hb hrow q1;generalize L++YU (RR.take k)=PP at *;go_wp2_with (first
    | (at_builtin;refine KY w.heap.size _ _ PP [(row.length:Int)] (HO.out.alloc _) (Ra (heap_alloc_new wr _)) So So rfl _ _ rfl rfl rfl ?_;intro v5 w5 hown5 hgr5;have O5:=Za hown5;have B5:=Za ((HB.out.alloc HB.out.size (.cells #[.int .u8 (row.length:Int)] 5)).grown hgr5 So (fun q hq=>(HO.out.lt q hq).1));have hs5:=B5.out.size;clear hown5 hgr5)
    | (at_builtin;refine KY w.heap.size _ _ (PP++[(row.length:Int)]) row O5.out (Q1.out.below B5.out) So hs5 rfl _ _ rfl rfl rfl ?_;intro v6 w6 hown6 hgr6;have O6:=Za hown6;have B6:=Za (B5.out.grown hgr6 hs5 (fun q hq=>(O5.out.lt q hq).1));clear hown6 hgr6))
   go_roundw
   case rel=>exact⟨k+1,Om,Gn,by rw[TK.out];exact O6.out,B6.out⟩
   case measure=>simp[intOf];omega
  ·obtain rfl:k=wn:=Om
   have E:Hid (KK=L++YU (RR.take k)):=Za (by rw[HK.out,List.take_of_length_le (by rw[← HWN.out];exact Nat.le_refl _)]);have kc:=Df ho;rw[← E.out]at kc;clear ho;go_wp2_with fail;go_ret;exact⟨rfl,HB.out⟩
theorem Q7 {p:List (List Ins)}{split:Bool}{s:Bf}{t:Nat}(ht:t < p.length):(Zu p split s t).isSome=Y7 p split s t:=by
 unfold Zu Y7 YV;rw[if_pos ht];cases hr:p[t]? with
 | none=>simp
 | some r =>
  cases hk:s.q.pc[t]? with
  | none=>simp
  | some k =>
   cases hx:r[k.toNat]? with
   | none=>simp[hx]
   | some x =>
    simp only[Option.bind_some,hx];unfold YR;by_cases h45:x.op=4∨x.op=5
    ·rw[if_pos h45,if_pos h45]
     cases he:ZZ s t split <;> simp
    ·rw[if_neg h45,if_neg h45]
     split <;> simp
theorem JB {p:List (List Ins)}{split:Bool}{s:Bf}{k:Nat}:(Zu p split s (p.length+k)).isSome=Xv s k:=by
 unfold Zu Xv;rw[if_neg Om,Nat.add_sub_cancel_left,List.getD_eq_getElem?_getD];cases hk:s.bf[k]? with
 | none=>simp
 | some row =>
  cases row with
  | nil=>simp
  | cons e r=>obtain⟨l,v⟩:=e;simp
theorem Uh {p:List (List Ins)}{split:Bool}{s:Bf}(m:Nat):m∈Ko p split s↔(Zu p split s m).isSome:=by
 unfold Ko;rw[List.mem_append,List.mem_filter,List.mem_map];constructor
 ·rintro (⟨h1,h2⟩ | ⟨k,h1,rfl⟩)
  ·rw[Q7 (List.mem_range.1 h1)];exact h2
  ·rw[JB];exact(List.mem_filter.1 h1).2
 ·intro h
  by_cases hm:m < p.length
  ·rw[Q7 hm]at h
   exact .inl ⟨List.mem_range.2 hm,h⟩
  ·obtain⟨k,rfl⟩:∃ k,m=p.length+k:=⟨m - p.length,Om⟩
   rw[JB]at h;refine .inr ⟨k,List.mem_filter.2 ⟨List.mem_range.2 ?_,h⟩,rfl⟩;unfold Xv at h;rw[List.getD_eq_getElem?_getD]at h;cases hk:s.bf[k]? with
   | none=>rw[hk]at h;simp at h
   | some row=>exact(List.getElem?_eq_some_iff.1 hk).1
def QR (p:List (List Ins)) (split:Bool) (s:Bf) (m:Nat):Bf:=(Zu p split s m).getD s
theorem Qu {p:List (List Ins)}{split:Bool}{s s':Bf}{m:Nat}(h:Zu p split s m=some s'):QR p split s m=s':=by unfold QR;rw[h];rfl
theorem ZE.XV {p:List (List Ins)}{split:Bool}(hp:∀ r∈p,∀ x∈r,Zg x=true) {s:Bf}(h:Zx (Zn p split) (Zu p split) s):ZE p split s∧Yr p s≤Yr p (Zn p split):=by
 induction h with
 | start=>exact⟨ZE.start p split,Nat.le_refl _⟩
 | step _ ht ih=>exact⟨ih.1.next hp ht,Nat.le_trans (Nat.le_of_lt (Qd ih.1 ht)) ih.2⟩
theorem Ue:∀ {l:List (List (Int × Int))}{r:List (Int × Int)},r∈l→r.length≤(l.map List.length).sum
 | [],_,h=>by simp at h
 | x :: l,r,h=>by
  rcases List.mem_cons.1 h with e | e
  ·subst e;simp
  ·have:=Ue e;simp;omega
theorem Q6 {p:List (List Ins)}{split:Bool}(hv:Zi p=true):Yr p (Zn p split)≤42:=by
 unfold Yr;have h1:=DF hv (Zn p split).q;have h2:(((Zn p split).bf).map List.length).sum=0:=by
  simp[Zn]
 omega
theorem JM {p:List (List Ins)}{split:Bool}(hv:Zi p=true) {s:Bf}(h:Zx (Zn p split) (Zu p split) s):∀ r∈s.bf,r.length≤42:=fun r hr=>by
 have h1:=(ZE.XV (Z9 hv) h).2;have h2:=Q6 (split:=split) hv;have h3:=Ue hr;unfold Yr at h1 h2;omega
theorem Gh:∀ {ls ls':List (List Int)},ls.length=ls'.length→YU ls=YU ls'→ls=ls'
 | [],[],_,_=>rfl
 | [],_ :: _,h,_=>by simp at h
 | _ :: _,[],h,_=>by simp at h
 | r :: ls,r' :: ls',h,e=>by
  simp only[YU,List.flatMap_cons,List.cons_append,List.cons.injEq]at e;have h1:r.length=r'.length:=Om;have h2:=List.append_inj e.2 h1;rw[h2.1,Gh (by simpa using h) h2.2]
theorem UX:∀ {r r':List (Int × Int)},(∀ e∈r,Y8 e)→(∀ e∈r',Y8 e)→Z1 r=Z1 r'→r=r'
 | [],[],_,_,_=>rfl
 | [],_ :: _,_,_,h=>by simp at h
 | _ :: _,[],_,_,h=>by simp at h
 | x :: r,y :: r',h1,h2,h=>by
  simp only[Z1,List.map_cons,List.cons.injEq]at h;have a:=h1 x Sm;have b:=h2 y Sm;unfold Y8 at a b;have e:x=y:=by
   obtain⟨x1,x2⟩:=x;obtain⟨y1,y2⟩:=y;simp only at a b h;simp only[Prod.mk.injEq];omega
  rw[e,UX (fun z hz=>h1 z (by simp[hz])) (fun z hz=>h2 z (by simp[hz])) h.2]
theorem RU {p:List (List Ins)}{split:Bool}{s s':Bf}(h:ZE p split s) (h':ZE p split s') (hp:p.length≤3) (e:RT s=RT s'):s=s':=by
 have h1:=List.append_inj e Rf;have h2:=Hg h.q h'.q hp h1.1;have h3:=Gh (by rw[List.length_map,List.length_map,h.lb,h'.lb]) h1.2;have h4:s.bf=s'.bf:=by
  apply List.ext_getElem (by rw[h.lb,h'.lb]);intro i hi hi';have h5:=congrArg (fun t:List (List Int)=>t[i]?) h3;simp only[List.getElem?_map,List.getElem?_eq_getElem hi,List.getElem?_eq_getElem hi',Option.map_some,Option.some.injEq]at h5;exact UX (h.en _ (List.getElem_mem hi)) (h'.en _ (List.getElem_mem hi')) h5
 cases s;cases s';simp only[Bf.mk.injEq];exact⟨h2,h4⟩
theorem V9 {p:List (List Ins)}{split:Bool}{s:Bf}(h:ZE p split s) (hpr:∀ r∈p,r.length≤7) (hr:∀ r∈s.bf,r.length≤42):∀ x∈RT s,0≤x∧x≤255:=by
 intro x hx;rcases List.mem_append.1 hx with hx | hx
 ·exact Gi h.q hpr x hx
 ·unfold YU at hx
  obtain⟨row,h1,h2⟩:=List.mem_flatMap.1 hx;obtain⟨r,h3,rfl⟩:=List.mem_map.1 h1;rcases List.mem_cons.1 h2 with e | e
  ·have:=hr r h3
   rw[e,List.length_map];omega
  ·obtain⟨en,h4,rfl⟩:=List.mem_map.1 e
   have:=h.en r h3 en h4;unfold Y8 at this;omega
theorem Vz {p:List (List Ins)}{split:Bool}{a b:Bf}(ha:ZE p split a) (hb:ZE p split b) (da:Yf p a=true) (db:Yf p b=true) (e:Yq a=Yq b):a=b:=by
 unfold Yf at da db;rw[Bool.and_eq_true]at da db;have h1:=Ci ha.q hb.q da.2 db.2 e;have h2:a.bf=b.bf:=by
  apply List.ext_getElem (by rw[ha.lb,hb.lb]);intro i hi hi';have h3:=List.all_eq_true.1 da.1 _ (List.getElem_mem hi);have h4:=List.all_eq_true.1 db.1 _ (List.getElem_mem hi');rw[List.isEmpty_iff]at h3 h4;rw[h3,h4]
 cases a;cases b;simp only[Bf.mk.injEq];exact⟨h1,h2⟩
theorem Tryz.Vn:(Tryz.prog.info? 39).map (fun i=>(i.zero,i.size,i.bytes))=some (some (.slice none 0 0),1,24):=Kr
theorem VG (v:Value) (xs:List Int) (w:World) (hx:Z7 Zr w v xs) (hn:xs.length≤1000000):Calls Tryz.prog 237 #[v] w (Xm Zr 5 w xs):=by
 obtain⟨a,c,rfl,hc1,hc2,hc3,hx⟩:=hx.open;have HX:=Za hx;have HBE:=Za ((Below.refl w.heap.size w).alloc (Nat.le_refl _) (.cells #[] 5));have HE:=Za (Own.empty (E:=Zr) 5 w (Nat.le_refl _));clear hx hc1 hc3;generalize hn1:xs.length=n1 at *;have HN1:=Za hn1;clear hn1;cases a with
 | none =>
  have hE:=fun w':World=>Lib.run_eql_slice_nil (P:=Tryz.prog) w' 39 5 none n1 c 0 0 Tryz.underlying39;have hxs:xs=[]:=by
   cases xs with
   | nil=>rfl
   | cons x xs=>obtain⟨_,_,hv,_,_,hk⟩:=HX.out;obtain⟨b,o,h,_⟩:=hk 0 x rfl;subst h;simp at hv
  subst hxs;go_enter Tryz.func237,Tryz.ntmps237;go_wp2_with fail;go_ret;exact⟨_,rfl,Own.nil _ _ _,Below.refl _ _⟩
 | some ad =>
  have hE:=fun w':World=>Lib.run_eql_slice_nil (P:=Tryz.prog) w' 39 5 (some ad) n1 c 0 0 Tryz.underlying39;go_enter Tryz.func237,Tryz.ntmps237;go_wp2_with (at_builtin;refine ZC Zr 5 Tryz.XG rfl Tryz.underlying39 w.heap.size _ [] xs _ HE.out (HX.out.below HBE.out) Dc (by rw[HN1.out];simp;omega) Sm rfl _ _ rfl rfl rfl ?_;intro v1 w1 hown1 hgr1;have O1:=Za hown1;have B1:=Za (HBE.out.grown hgr1 Sm (fun q hq=>by simp[Value.ownBlock]at hq;omega));clear hown1 hgr1);go_ret;exact⟨_,rfl,by simpa using O1.out,B1.out⟩
theorem YY (v:Value) (us:List Zt) (w:World) (hx:Z7 Zw w v us) (hn:us.length≤1000000):Calls Tryz.prog 234 #[v] w (Xm Zw 39 w us):=by
 obtain⟨a,c,rfl,hc1,hc2,hc3,hx⟩:=hx.open;have HX:=Za hx;have HBE:=Za ((Below.refl w.heap.size w).alloc (Nat.le_refl _) (.cells #[] 39));have HE:=Za (Own.empty (E:=Zw) 39 w (Nat.le_refl _));clear hx hc1 hc3;generalize hn1:us.length=n1 at *;have HN1:=Za hn1;clear hn1;cases a with
 | none =>
  have hE:=fun w':World=>Lib.run_eql_slice_nil (P:=Tryz.prog) w' 170 39 none n1 c 0 0 Tryz.underlying170;have hxs:us=[]:=by
   cases us with
   | nil=>rfl
   | cons x xs=>obtain⟨b,o,h,_⟩:=HX.out.Hf (k:=0) rfl;cases h
  subst hxs;go_enter Tryz.func234,Tryz.ntmps234;go_wp2_with fail;go_ret;exact⟨_,rfl,Own.nil _ _ _,Below.refl _ _⟩
 | some ad =>
  have hE:=fun w':World=>Lib.run_eql_slice_nil (P:=Tryz.prog) w' 170 39 (some ad) n1 c 0 0 Tryz.underlying170;go_enter Tryz.func234,Tryz.ntmps234;go_wp2_with (at_builtin;refine ZC Zw 39 Tryz.Vn rfl Tryz.underlying170 w.heap.size _ [] us _ HE.out (HX.out.below HBE.out) Dc (by rw[HN1.out];simp;omega) Sm rfl _ _ rfl rfl rfl ?_;intro v1 w1 hown1 hgr1;have O1:=Za hown1;have B1:=Za (HBE.out.grown hgr1 Sm (fun q hq=>by simp[Value.ownBlock]at hq;omega));clear hown1 hgr1);go_ret;exact⟨_,rfl,by simpa using O1.out,B1.out⟩
theorem Ui (va:Option Addr) (vc:Nat) (split:Bool) (p:List (List Ins)) (w:World) (hpl:p.length≤3) :
 Calls Tryz.prog 104 #[.slice va p.length vc,.bool split] w fun e w' => ∃ b wv,e = .returned (AE 169 b)∧ZO w' b (.slice va p.length vc) split wv (Zn p split)∧Own Zw 39 w' w.heap.size wv.v (List.replicate (p.length * Yj split) ⟨none,0,0⟩)∧Below w.heap.size w w':=by
 have HC:=Za (UK (.slice va p.length vc) (p:=p));generalize hn:p.length=n at *;have HN:=Za hn;clear hn;cases split
 ·go_enter Tryz.func104,Tryz.ntmps104
  go_wp2_with (at_make;refine Y4 Zw 39 ⟨none,0,0⟩ Tryz.Vn rfl Tryz.underlying170 n Dc Om rfl _ _ rfl rfl rfl ?_;intro w1 hown1 hgr1);have O1:=Za (hown1.alloc (.cells #[.slice va n vc,.int .u8 0,.int .u8 0,.int .u8 0,.int .u8 0,.int .u8 0,.int .u8 0,.int .u8 0,.int .u8 0,.int .u8 0,.int .u8 0,.int .u8 0,.int .u8 0,.int .u8 0,.int .u8 0,.int .u8 0,.bool false,.slice (some ⟨w.heap.size,0,none⟩) n n] 172));have B1:=Za (((Below.refl w.heap.size w).grown hgr1 (Nat.le_refl _) (fun q hq=>nomatch hq)).alloc (by have:=hgr1.size;omega) (.cells #[.slice va n vc,.int .u8 0,.int .u8 0,.int .u8 0,.int .u8 0,.int .u8 0,.int .u8 0,.int .u8 0,.int .u8 0,.int .u8 0,.int .u8 0,.int .u8 0,.int .u8 0,.int .u8 0,.int .u8 0,.int .u8 0,.bool false,.slice (some ⟨w.heap.size,0,none⟩) n n] 172));clear hown1 hgr1;go_ret;refine⟨_,⟨some ⟨w.heap.size,0,none⟩,n,n⟩,rfl,?_,?_,B1.out⟩
  ·show _=some (Obj.cells (ZY _ (Yo p)++_) _ _)
   rw[HC.out];exact heap_alloc_new w1 _
  ·rw[show n * Yj false=n by simp[Yj]];exact O1.out
 ·go_enter Tryz.func104,Tryz.ntmps104
  go_wp2_with (first
   | (at_make;refine Y4 Zw 39 ⟨none,0,0⟩ Tryz.Vn rfl Tryz.underlying170 n Dc Om rfl _ _ rfl rfl rfl ?_;intro w1 hown1 hgr1;have B1:=Za (((Below.refl w.heap.size w).grown hgr1 (Nat.le_refl _) (fun q hq=>nomatch hq)).alloc (by have:=hgr1.size;omega) (.cells #[.slice va n vc,.int .u8 0,.int .u8 0,.int .u8 0,.int .u8 0,.int .u8 0,.int .u8 0,.int .u8 0,.int .u8 0,.int .u8 0,.int .u8 0,.int .u8 0,.int .u8 0,.int .u8 0,.int .u8 0,.int .u8 0,.bool true,.slice (some ⟨w.heap.size,0,none⟩) n n] 172));have C1:=Za (heap_alloc_new w1 (.cells #[.slice va n vc,.int .u8 0,.int .u8 0,.int .u8 0,.int .u8 0,.int .u8 0,.int .u8 0,.int .u8 0,.int .u8 0,.int .u8 0,.int .u8 0,.int .u8 0,.int .u8 0,.int .u8 0,.int .u8 0,.int .u8 0,.bool true,.slice (some ⟨w.heap.size,0,none⟩) n n] 172));have bw1:=hgr1.size;have c17:(w1.alloc (.cells #[.slice va n vc,.int .u8 0,.int .u8 0,.int .u8 0,.int .u8 0,.int .u8 0,.int .u8 0,.int .u8 0,.int .u8 0,.int .u8 0,.int .u8 0,.int .u8 0,.int .u8 0,.int .u8 0,.int .u8 0,.int .u8 0,.bool true,.slice (some ⟨w.heap.size,0,none⟩) n n] 172)).cell? ⟨w1.heap.size,17,none⟩=some (.slice (some ⟨w.heap.size,0,none⟩) n n):=Zc (heap_alloc_new w1 _) (k:=17) rfl;clear hown1 hgr1)
   | (at_make;refine Y4 Zw 39 ⟨none,0,0⟩ Tryz.Vn rfl Tryz.underlying170 (n * 3) Dc Om rfl _ _ rfl (by show Value.int .i64 (3 * (n:Int))=_;congr 1;omega) (by show Value.int .i64 (3 * (n:Int))=_;congr 1;omega) ?_;intro w2 hown2 hgr2;have C2:=Za ((hgr2.block w1.heap.size Sm Sm).trans C1.out);have f17:w2.cell? ⟨w1.heap.size,17,none⟩=some (.slice (some ⟨w.heap.size,0,none⟩) n n):=Zc C2.out (k:=17) rfl;have ffz:=Z6 C2.out;have fl:=Zb f17;have O2:=Za hown2;have B2:=Za (B1.out.grown hgr2 B1.out.size (fun q hq=>nomatch hq));clear hown2 hgr2))
  have h3:=heap_setCell_same w2 w1.heap.size 17 _ _ (.slice (some ⟨w1.heap.size+1,0,none⟩) (n * 3) (n * 3)) C2.out;have H3:=Za h3;have O3:=Za (((O2.out.mono (show w.heap.size≤_ by simp;omega)).Zy (T:=172) (j:=17) (u:=.slice (some ⟨w1.heap.size+1,0,none⟩) (n * 3) (n * 3)) Dc C2.out));have B3:=Za (B2.out.setCell (p:=⟨w1.heap.size,17,none⟩) bw1 (.slice (some ⟨w1.heap.size+1,0,none⟩) (n * 3) (n * 3)));clear h3;go_ret;refine⟨_,⟨some ⟨w1.heap.size+1,0,none⟩,n * 3,n * 3⟩,rfl,?_,?_,B3.out⟩
  ·show _=some (Obj.cells (ZY _ (Yo p)++_) _ _)
   rw[HC.out];exact H3.out
  ·rw[show n * Yj true=n * 3 by simp[Yj]]
   have:=O3.out;simpa using this
end Go.Proofs.YtngekjpklkjnbaaGreat
namespace Go.Proofs.YtngekjpklkjnbaaGreat
open Go.RowKit Go.Shelf
attribute [local go_sem] Oper.semAt_some
structure Xb (x y:Nat) (W W':World):Prop where
 one:W'.heap[x]? = W.heap[x]?
 two:W'.heap[y]? = W.heap[y]?
 size:W.heap.size≤W'.heap.size
theorem Xb.refl (x y:Nat) (W:World):Xb x y W W:=⟨rfl,rfl,Nat.le_refl _⟩
theorem Xb.trans {x y:Nat}{A B C:World}(h:Xb x y A B) (k:Xb x y B C):Xb x y A C:=⟨k.one.trans h.one,k.two.trans h.two,Nat.le_trans h.size k.size⟩
theorem Ey {x y:Nat}{w:World}(hx:x < w.heap.size) (hy:y < w.heap.size) (W:World) (l:Nat) (o o':Obj) (hl:w.heap.size≤l) (h:W.heap[l]? = some o) (_:o.isCells=false) (_:o.isWalk=false):Xb x y W (W.putObj l o'):=by
 have hg:=grownBy_putObj' W l o';have hlt:=(Array.getElem?_eq_some_iff.1 h).1;exact⟨hg.block x Om So,hg.block y Om So,hg.size⟩
theorem JN {w w':World}{b:Nat}(h:w'.heap[b]? = w.heap[b]?) {o:Nat}{v:Value}(hc:w.cell? ⟨b,o,none⟩=some v):w'.cell? ⟨b,o,none⟩=some v:=by
 rw[← hc];unfold World.cell?;rw[h]
theorem Bm {α:Type}(zs:List α) {k m:Nat}{z:α}(hz:zs[m]? = some z) (hk:k+(m+1)=zs.length):zs.zipIdx.reverse.take (k+1)=zs.zipIdx.reverse.take k++[(z,m)]:=by
 rw[List.take_add_one]
 congr 1
 have hml:=(List.getElem?_eq_some_iff.1 hz).1;rw[List.getElem?_reverse (by rw[List.length_zipIdx];omega),List.length_zipIdx,show zs.length - 1 - k=m by omega,List.getElem?_zipIdx,hz];simp
theorem DW {Pr : Int → Prop} (n : Nat) (hn : 1 ≤ n) (l Bs b off cap : Nat) (zs : List {g : Int // Pr g}) (J Jx : List ({g : Int // Pr g} × Nat) → World → Prop)
    (hY : ∀ pre x W, J pre W → pre.length < zs.length → YieldAt Fence.wide (n - 1) Tryz.prog l #[.int .i64 (x.2 : Int), Z2 x.1.1] W fun e W' =>
      (e = .returned (.bool true) ∧ J (pre ++ [x]) W' ∧ Xb Bs b W W') ∨ (e = .returned (.bool false) ∧ Jx (pre ++ [x]) W'))
    (W : World) (hBs : W.cell? ⟨Bs, 0, none⟩ = some (.slice (some ⟨b, off, none⟩) zs.length cap))
    (hc : ∀ (j : Nat) z, zs[j]? = some z → W.cell? ⟨b, off + j, none⟩ = some (.int .u8 z.1)) (h0 : J [] W) (hl : zs.length ≤ 1048576) :
    CallsIn Fence.wide n Tryz.prog 243 #[.func (.yield l) #[] #[], .pointer (some ⟨Bs, 0, none⟩)] W fun e W' => (∃ v, e = .returned v) ∧
      ((∃ ys, ys = zs.zipIdx.reverse ∧ J ys W') ∨ (∃ k, Jx (zs.zipIdx.reverse.take k) W')) := by
  refine callsIn_of_wp Tryz.func243 rfl trivial ?_ rfl
  simp only [Tryz.ntmps243, List.size_toArray, List.length_cons, List.length_nil, Nat.reduceAdd, Nat.reduceSub, Array.replicate_succ, Array.replicate_zero, List.push_toArray, List.append_toArray, List.nil_append, List.cons_append]
  have BT := Za (fun (k m : Nat) z h1 h2 => Bm zs (k := k) (m := m) (z := z) h1 h2)
  have BA : Hid (zs.zipIdx.reverse.take zs.length = zs.zipIdx.reverse) := Za (List.take_of_length_le (by simp))
  have BL : Hid (∀ k, k ≤ zs.length → (zs.zipIdx.reverse.take k).length = k) := Za (fun k hk => by simp; omega)
  generalize hlen : zs.length = len at *
  have HLEN := Za hlen
  clear hlen
  have hBlt := Zb hBs
  gi_wp2
  gi_loopw [3] (fun i wr => ∃ k m : Nat, k + m = len ∧ i = .int .i64 ((m : Int) - 1) ∧ J (zs.zipIdx.reverse.take k) wr ∧ Xb Bs b W wr) (fun i _ => (intOf i + 1).toNat)
  case atStart => exact ⟨0, len, by omega, rfl, by simpa using h0, Xb.refl _ _ _⟩
  case round =>
    obtain ⟨k, m, hkm, rfl, hJs, hkp⟩ := hrel
    have hB2 := JN hkp.one hBs
    have hBlt2 := Zb hB2
    cases m with
    | zero =>
      have e0 : decide ((((0 : Nat) : Int) - 1) ≥ 0) = false := by decide
      gi_wp2
      go_end0
      exact ⟨⟨_, rfl⟩, .inl ⟨_, rfl, by rw [← BA.out]; have : k = len := by omega
                                        rw [← this]; exact hJs⟩⟩
    | succ m =>
      have em : (((m + 1 : Nat) : Int) - 1) = (m : Int) := by omega
      rw [em]
      obtain ⟨z, hz⟩ := Zd (xs := zs) (k := m) (by have := HLEN.out; omega)
      have c0 := hc m z hz
      have d0 := JN hkp.two c0
      have hblt2 := Zb d0
      have hml : (m : Int) < len := by omega
      obtain ⟨fn, tmps, assign, body, hy, hR⟩ := hY _ (z, m) wr hJs (by rw [BL.out k (by omega)]; omega)
      have BT2 := Za (BT.out k m z hz (by have := HLEN.out; omega))
      have HR := Za hR
      clear hR c0 hz
      dsimp only at hy
      gi_wp2
      refine HR.out.mono ?_
      rintro e W3 (⟨rfl, hJ3, hk3⟩ | ⟨rfl, hJx3⟩)
      · gi_wp2
        go_roundw
        case rel => exact ⟨k + 1, m, by omega, by go_num, by rw [BT2.out]; exact hJ3, hkp.trans hk3⟩
        case measure => simp [intOf]
      · gi_wp2
        refine bodyPost_ret (results_none rfl _ _ _) rfl ?_
        exact ⟨⟨_, rfl⟩, .inr ⟨k + 1, by rw [BT2.out]; exact hJx3⟩⟩
theorem Gy {Pr:Int→Prop}(n:Nat) (l Bs:Nat) (a:Option Addr) (c:Nat) (J:List ({g:Int // Pr g} × Nat)→World→Prop)
 (W:World) (hBs:W.cell? ⟨Bs,0,none⟩=some (.slice a 0 c)) (h0:J [] W) :
 CallsIn Fence.wide n Tryz.prog 243 #[.func (.yield l) #[] #[],.pointer (some ⟨Bs,0,none⟩)] W fun e W'=>(∃ v,e = .returned v)∧J [] W':=by
 refine callsIn_of_wp Tryz.func243 rfl trivial ?_ rfl;simp only[Tryz.ntmps243,List.size_toArray,List.length_cons,List.length_nil,Nat.reduceAdd,Nat.reduceSub,Array.replicate_succ,Array.replicate_zero,List.push_toArray,List.append_toArray,List.nil_append,List.cons_append];have hBlt:=Zb hBs;gi_wp2
 gi_loopw [3] (fun i wr=>i = .int .i64 (-1)∧J [] wr) (fun _ _=>0)
 case atStart=>exact⟨rfl,h0⟩
 case round =>
  obtain⟨rfl,hJs⟩:=hrel;gi_wp2;go_end0;exact⟨⟨_,rfl⟩,hJs⟩
theorem Uz (a:Option Addr) (len cap:Nat) (w:World) :
 Calls Tryz.prog 241 #[.slice a len cap] w fun e w'=>e = .returned (.func (.func 243) #[] #[.pointer (some ⟨w.heap.size,0,none⟩)])∧w'=w.alloc (.cells #[.slice a len cap] 39):=by
 go_enter Tryz.func241,Tryz.ntmps241;go_wp2;go_ret;exact⟨rfl,rfl⟩
theorem RH {Pr:Int→Prop}(n:Nat) (hn:1≤n) (Bs b:Nat) (v:Value) (zs:List {g:Int // Pr g}) (hl:zs.length≤1048576) (w:World) (hBs:Bs < w.heap.size) (hc:w.cell? ⟨Bs,0,none⟩=some v)
 (hr:Z7 Zr w v (zs.map (·.1))) (hb:∀ g o,v = .slice (some ⟨g,o,none⟩) zs.length (match v with | .slice _ _ c=>c | _=>0)→zs≠[]→g=b) :
 SeqStopsK Fence.wide n Tryz.prog 243 #[.pointer (some ⟨Bs,0,none⟩)] (fun x:{g:Int // Pr g} × Nat => #[Value.int .i64 (x.2:Int),Z2 x.1.1]) (Xb Bs b) (fun ys=>ys=zs.zipIdx.reverse)
  (fun pre => ∃ k,pre=zs.zipIdx.reverse.take k) zs.length w:=fun l J Jx W hW _ _ hY h0=>by
 have hc':=(hW.cell (p:=⟨Bs,0,none⟩) hBs).trans hc;have hr':=hr.below hW;obtain⟨a,c,rfl,h1,h2,hx⟩:=hr';rw[List.length_map]at hc' h1;by_cases hz:zs=[]
 ·subst hz
  exact(Gy n l Bs _ _ J W hc' h0).mono fun e W' ⟨he,hj⟩=>⟨he,.inl ⟨_,rfl,hj⟩⟩
 ·obtain⟨z0,hz0⟩:=Zd (xs:=zs) (k:=0) (List.length_pos_iff.2 hz)
  obtain⟨b',o,rfl,-⟩:=hx 0 z0.1 (by rw[List.getElem?_map,hz0];rfl);obtain rfl:b'=b:=hb b' o (by rw[List.length_map]) hz;refine(DW n hn l Bs b' o c zs J Jx hY W hc' (fun j z hj => ?_) h0 hl).mono fun e W' ⟨he,h⟩=>⟨he,h.imp (fun ⟨ys,e,hj⟩=>⟨ys,e,hj⟩) (fun ⟨k,hj⟩=>⟨_,⟨k,rfl⟩,hj⟩)⟩
  obtain⟨b2,o2,e2,h2⟩:=hx j z.1 (by rw[List.getElem?_map,hj];rfl);simp only[Option.some.injEq,Addr.mk.injEq,and_true]at e2;obtain⟨rfl,rfl⟩:=e2;simpa[Zr] using h2 0 _ rfl
end Go.Proofs.YtngekjpklkjnbaaGreat
namespace Go.Proofs.YtngekjpklkjnbaaGreat
def Kw:List (Nat × Nat)→Nat
 | []=>0
 | x :: l=>x.1+x.2 * Kw l
def XH:List (Nat × Nat)→Nat
 | []=>1
 | x :: l=>x.2 * XH l
theorem Um (l l':List (Nat × Nat)):XH (l++l')=XH l * XH l':=by
 induction l with
 | nil=>simp[XH]
 | cons x l ih=>simp only[List.cons_append,XH,ih,Nat.mul_assoc]
theorem FL {l:List (Nat × Nat)}(h:∀ x∈l,x.1 < x.2):Kw l < XH l:=by
 induction l with
 | nil=>simp[Kw,XH]
 | cons x l ih =>
  have h1:=h x Sm;have h2:=ih fun y hy=>h y (by simp[hy]);have h3:x.2 * (Kw l+1)≤x.2 * XH l:=Nat.mul_le_mul_left _ h2;rw[Nat.mul_add,Nat.mul_one]at h3;simp only[Kw,XH];omega
theorem AG:∀ {l l':List (Nat × Nat)},l.map Prod.snd=l'.map Prod.snd→(∀ x∈l,x.1 < x.2)→(∀ x∈l',x.1 < x.2)→Kw l=Kw l'→l=l'
 | [],[],_,_,_,_=>rfl
 | [],_ :: _,h,_,_,_=>by simp at h
 | _ :: _,[],h,_,_,_=>by simp at h
 | x :: l,y :: l',h,h1,h2,e=>by
  simp only[List.map_cons,List.cons.injEq]at h;have a:=h1 x Sm;have b:=h2 y Sm;simp only[Kw]at e;rw[h.1]at e a;have e1:x.1=y.1:=by
   have:=congrArg (· % y.2) e;simp only[Nat.add_mul_mod_self_left]at this;rwa[Nat.mod_eq_of_lt a,Nat.mod_eq_of_lt b]at this
  have e2:Kw l=Kw l':=by
   rw[e1]at e;exact Nat.eq_of_mul_eq_mul_left Om (Nat.add_left_cancel e)
  rw[AG h.2 (fun z hz=>h1 z (by simp[hz])) (fun z hz=>h2 z (by simp[hz])) e2,Prod.ext e1 h.1]
def Qc:List Int→Nat
 | []=>0
 | v :: l=>1+v.toNat+4 * Qc l
theorem DX {l:List Int}(h:∀ x∈l,0≤x∧x≤3):3 * Qc l+4≤4 ^ (l.length+1):=by
 induction l with
 | nil=>simp[Qc]
 | cons v l ih =>
  have h1:=h v Sm;have h2:=ih fun y hy=>h y (by simp[hy]);simp only[Qc,List.length_cons];rw[Nat.pow_succ 4 (l.length+1)];omega
theorem UP:∀ {l l':List Int},(∀ x∈l,0≤x∧x≤3)→(∀ x∈l',0≤x∧x≤3)→Qc l=Qc l'→l=l'
 | [],[],_,_,_=>rfl
 | [],_ :: _,_,_,h=>by simp only[Qc]at h;omega
 | _ :: _,[],_,_,h=>by simp only[Qc]at h;omega
 | v :: l,u :: l',h1,h2,h=>by
  have a:=h1 v Sm;have b:=h2 u Sm;simp only[Qc]at h;rw[UP (l:=l) (l':=l') (fun z hz=>h1 z (by simp[hz])) (fun z hz=>h2 z (by simp[hz])) Om,show v=u by omega]
def KC (k:Nat):Nat:=(4 ^ (k+1) - 1) / 3
theorem DZ {l:List Int}{k:Nat}(h:∀ x∈l,0≤x∧x≤3) (hk:l.length≤k):Qc l < KC k:=by
 have h1:=DX h;have h2:4 ^ (l.length+1)≤4 ^ (k+1):=Nat.pow_le_pow_right Dc Om;unfold KC;have:=(Nat.le_div_iff_mul_le (k:=3) (x:=Qc l+1) (y:=4 ^ (k+1) - 1) Dc).2 Om;omega
theorem DY (k:Nat):3 * KC k≤4 ^ (k+1):=by
 have h0:0 < 4 ^ (k+1):=Nat.pow_pos Dc;unfold KC;generalize 4 ^ (k+1)=X at *;omega
def Qa (x:Ins):Bool:=x.op==2||x.op==3
def QI (split:Bool) (b t:Nat) (r:List Ins):List Int:=(r.filter fun x=>Qa x&&decide (Zj t x.loc split=b)).map fun x=>x.loc
theorem K6 (split:Bool) (b t:Nat) {r:List Ins}{k:Nat}{x:Ins}(h:r[k]? = some x):QI split b t (r.take (k+1))=QI split b t (r.take k)++(if Qa x=true∧Zj t x.loc split=b then [x.loc] else []):=by
 unfold QI;rw[List.take_add_one,h,Option.toList_some,List.filter_append,List.map_append]
 congr 1
 by_cases h1:Qa x=true∧Zj t x.loc split=b
 ·rw[if_pos h1];simp[h1]
 ·rw[if_neg h1]
  have:(Qa x&&decide (Zj t x.loc split=b))=false:=by
   cases hs:Qa x with
   | false=>simp
   | true=>simp only[hs,true_and]at h1;simp[h1]
  simp[this]
def BI (p:List (List Ins)) (split:Bool) (s:Bf):Prop:=∀ (b:Nat) (row:List (Int × Int)),s.bf[b]? = some row→∃ pre,QI split b (b / Yj split) ((p.getD (b / Yj split) []).take (s.q.pc.getD (b / Yj split) 0).toNat)=pre++row.map Prod.fst
theorem BI.step {p:List (List Ins)}{split:Bool}{s s':Bf}{m:Nat}(hok:ZE p split s) (hp:∀ r∈p,∀ x∈r,Zg x=true) (h:BI p split s) (hn:Zu p split s m=some s'):BI p split s':=by
 by_cases hm:m < p.length
 ·obtain⟨r,k,x,hr,hk,hx,hd⟩:=Yw hn hm
  have hv:=hp r (List.mem_of_getElem? hr) x (List.mem_of_getElem? hx);have hk0:=(hok.q.pc m k r hk hr).1;have hpr:p.getD m []=r:=by rw[List.getD_eq_getElem?_getD,hr];rfl
  have hkd:s.q.pc.getD m 0=k:=by rw[List.getD_eq_getElem?_getD,hk];rfl
  have hml:=(List.getElem?_eq_some_iff.1 hk).1;have e1:∀ t,(s.q.pc.set m (k+1)).getD t 0=if t=m then k+1 else s.q.pc.getD t 0:=fun t=>by
   rw[List.getD_eq_getElem?_getD,List.getElem?_set];by_cases e:m=t
   ·subst e;simp[hml]
   ·rw[if_neg e,if_neg (fun q=>e q.symm),List.getD_eq_getElem?_getD]
  have keep:∀ (q':Sq),q'.pc=s.q.pc.set m (k+1)→Qa x=false→BI p split ⟨q',s.bf⟩:=fun q' hq hst b row hb=>by
   obtain⟨pre,hpre⟩:=h b row hb;simp only[hq,e1];by_cases e:b / Yj split=m
   ·rw[if_pos e,e,hpr,show (k+1).toNat=k.toNat+1 by omega,K6 split b m hx,if_neg (by simp[hst]),List.append_nil]
    rw[e,hpr,hkd]at hpre;exact⟨pre,hpre⟩
   ·rw[if_neg e];exact⟨pre,hpre⟩
  unfold YR at hd;split at hd
  ·rename_i h45
   split at hd
   ·simp only[Option.some.injEq]at hd
    subst hd;exact keep _ rfl (by unfold Qa;rcases h45 with e | e <;> simp[e])
   ·cases hd
  ·split at hd
   ·rename_i h1
    simp only[Option.some.injEq]at hd;subst hd;exact keep _ rfl (by unfold Qa;simp[h1])
   ·rename_i h45 h1
    simp only[Option.some.injEq]at hd;subst hd;have h23:x.op=2∨x.op=3:=by
     unfold Zg at hv
     repeat' split at hv
     all_goals first | omega | (simp at hv;done)
    have hst:Qa x=true:=by unfold Qa;rcases h23 with e | e <;> simp[e]
    have hloc:0≤x.loc∧x.loc≤2:=by
     unfold Zg Kj at hv;rcases h23 with e2 | e2 <;> (simp[e2]at hv;omega)
    intro b row hb;simp only at hb;simp only[e1];rw[List.getElem?_set]at hb;by_cases e:Zj m x.loc split=b
    ·rw[if_pos e]at hb
     split at hb
     ·rename_i hlt
      simp only[Option.some.injEq]at hb;subst hb;subst e;obtain⟨IH,ho⟩:=Zd (xs:=s.bf) (k:=Zj m x.loc split) (by simpa using hlt);obtain⟨pre,hpre⟩:=h _ IH ho;rw[Gf hloc.1 hloc.2,hpr,hkd]at hpre;rw[Gf hloc.1 hloc.2,if_pos rfl,hpr,show (k+1).toNat=k.toNat+1 by omega,K6 split _ m hx,if_pos ⟨hst,rfl⟩,hpre];exact⟨pre,by rw[List.getD_eq_getElem?_getD,ho];simp⟩
     ·cases hb
    ·rw[if_neg e]at hb
     obtain⟨pre,hpre⟩:=h b row hb;by_cases e2:b / Yj split=m
     ·rw[if_pos e2,e2,hpr,show (k+1).toNat=k.toNat+1 by omega,K6 split b m hx,if_neg (by simp[e]),List.append_nil]
      rw[e2,hpr,hkd]at hpre;exact⟨pre,hpre⟩
     ·rw[if_neg e2];exact⟨pre,hpre⟩
 ·obtain⟨l,v,rest,hb0,rfl⟩:=Yu hn hm
  intro b row hb;simp only at hb;rw[List.getElem?_set]at hb;by_cases e:m - p.length=b
  ·rw[if_pos e]at hb
   split at hb
   ·simp only[Option.some.injEq]at hb
    subst hb;obtain⟨pre,hpre⟩:=h _ _ hb0;rw[← e];exact⟨pre++[l],by simp only;rw[hpre];simp⟩
   ·cases hb
  ·rw[if_neg e]at hb
   exact h b row hb
theorem BI.reach {p:List (List Ins)}{split:Bool}(hp:∀ r∈p,∀ x∈r,Zg x=true) {s:Bf}(h:Zx (Zn p split) (Zu p split) s):BI p split s:=by
 induction h with
 | start =>
  intro b row hb;unfold Zn at hb;simp only[List.getElem?_replicate]at hb;split at hb
  ·simp only[Option.some.injEq]at hb
   subst hb;exact⟨QI split b (b / Yj split) ((p.getD (b / Yj split) []).take ((Zn p split).q.pc.getD (b / Yj split) 0).toNat),by simp[Zn]⟩
  ·cases hb
 | step h1 ht ih=>exact ih.step (ZE.XV hp h1).1 hp ht
def kB (p:List (List Ins)) (split:Bool) (b:Nat):Nat:=(QI split b (b / Yj split) (p.getD (b / Yj split) [])).length
theorem BI.len {p:List (List Ins)}{split:Bool}{s:Bf}(h:BI p split s) {b:Nat}{row:List (Int × Int)}(hb:s.bf[b]? = some row):row.length≤kB p split b:=by
 obtain⟨pre,hpre⟩:=h b row hb;have h1:=congrArg List.length hpre;rw[List.length_append,List.length_map]at h1;have h2:(QI split b (b / Yj split) ((p.getD (b / Yj split) []).take (s.q.pc.getD (b / Yj split) 0).toNat)).length≤kB p split b:=by
  unfold kB QI;rw[List.length_map,List.length_map];exact((List.take_sublist _ _).filter _).length_le
 omega
theorem BI.same {p:List (List Ins)}{split:Bool}{s s':Bf}(h:BI p split s) (h':BI p split s') {b:Nat}{row row':List (Int × Int)}(hb:s.bf[b]? = some row) (hb':s'.bf[b]? = some row') (hpc:s.q.pc.getD (b / Yj split) 0=s'.q.pc.getD (b / Yj split) 0) (hv:row.map Prod.snd=row'.map Prod.snd):row=row':=by
 obtain⟨pre,hpre⟩:=h b row hb;obtain⟨pre',hpre'⟩:=h' b row' hb';rw[hpc,hpre']at hpre;have hl:row.length=row'.length:=by have:=congrArg List.length hv;simpa using this
 have h1:=(List.append_inj' hpre (by simp[hl])).2;clear hb hb' hpre hpre' hpc pre pre' h h'
 induction row generalizing row' with
 | nil=>cases row' with
  | nil=>rfl
  | cons y r=>simp at hl
 | cons x row ih=>cases row' with
  | nil=>simp at hl
  | cons y row' =>
   simp only[List.map_cons,List.cons.injEq]at hv h1;rw[ih hv.2 (by simpa using hl) h1.2,Prod.ext h1.1.symm hv.1]
def Lf (s:Bf):List (Nat × Nat):=(List.range 3).map fun t=>((s.q.pc.getD t 0).toNat,8)
def Lc (s:Bf):List (Nat × Nat):=(List.range 3).map fun l=>((s.q.mm.getD l 0).toNat,4)
def Lm (p:List (List Ins)) (s:Bf):List (Nat × Nat):=(List.range 9).map fun j=>((s.q.rg.getD j 0).toNat,if Yg (p.getD (j / 3) []) ((j % 3:Nat):Int)=true then 4 else 1)
def Lj (p:List (List Ins)) (split:Bool) (s:Bf):List (Nat × Nat):=(List.range (p.length * Yj split)).map fun b=>(Qc ((s.bf.getD b []).map Prod.snd),KC (kB p split b))
def Jz (p:List (List Ins)) (split:Bool) (s:Bf):List (Nat × Nat):=Lf s++(Lc s++(Lm p s++Lj p split s))
theorem Xq {α:Type}{f g:Nat→α}{n:Nat}(h:(List.range n).map f=(List.range n).map g):∀ k,k < n→f k=g k:=fun k hk=>by
 have:=congrArg (fun l:List α=>l[k]?) h;simpa[hk] using this
theorem Kp {l:List (Int × Int)}(h:∀ e∈l,Y8 e):∀ x∈l.map Prod.snd,0≤x∧x≤3:=fun x hx=>by
 obtain⟨e,he,rfl⟩:=List.mem_map.1 hx;exact(h e he).2
theorem VJ {p:List (List Ins)}{split:Bool}{s:Bf}(hv:Zi p=true) (h:Zx (Zn p split) (Zu p split) s):∀ x∈Jz p split s,x.1 < x.2:=by
 have hok:=(ZE.XV (Z9 hv) h).1;have hun:=Bk.reach (Z9 hv) h;have hbi:=BI.reach (Z9 hv) h;have hl:=Z4 hv;intro x hx;rcases List.mem_append.1 hx with hx | hx
 ·obtain⟨t,-,rfl⟩:=List.mem_map.1 hx
  show (s.q.pc.getD t 0).toNat < 8;rw[List.getD_eq_getElem?_getD];cases hk:s.q.pc[t]? with
  | none=>simp
  | some k =>
   obtain⟨r,hr⟩:=Zd (xs:=p) (k:=t) (by rw[← hok.q.lp];exact(List.getElem?_eq_some_iff.1 hk).1);have h1:=hok.q.pc t k r hk hr;have h2:=(hl.2.2.1 r (List.mem_of_getElem? hr)).1;simp only[Option.getD_some];omega
 rcases List.mem_append.1 hx with hx | hx
 ·obtain⟨l,-,rfl⟩:=List.mem_map.1 hx
  show (s.q.mm.getD l 0).toNat < 4;have:=ZP hok.q.mm l;omega
 rcases List.mem_append.1 hx with hx | hx
 ·obtain⟨j,hj,rfl⟩:=List.mem_map.1 hx
  have hj9:=List.mem_range.1 hj;show (s.q.rg.getD j 0).toNat < if Yg (p.getD (j / 3) []) ((j % 3:Nat):Int)=true then 4 else 1
  have h1:=ZP hok.q.rg j;split
  ·omega
  ·rename_i hr
   cases hp:p[j / 3]? with
   | none =>
    have:p.length≤j / 3:=by simpa using hp
    have h2:s.q.rg.getD j 0=0:=by
     rw[List.getD_eq_getElem?_getD,List.getElem?_eq_none (by rw[hok.q.lr];omega)];rfl
    omega
   | some r =>
    have h2:=hun.rg (j / 3) (j % 3) r hp (Nat.mod_lt _ Dc) (by
     have e:p.getD (j / 3) []=r:=by rw[List.getD_eq_getElem?_getD,hp];rfl
     rw[e]at hr;simpa using hr)
    rw[show j / 3 * 3+j % 3=j by omega]at h2;omega
 ·obtain⟨b,hb,rfl⟩:=List.mem_map.1 hx
  have hb2:=List.mem_range.1 hb;obtain⟨row,hrow⟩:=Zd (xs:=s.bf) (k:=b) (by rw[hok.lb];exact hb2);have e:s.bf.getD b []=row:=by rw[List.getD_eq_getElem?_getD,hrow];rfl
  show Qc ((s.bf.getD b []).map Prod.snd) < KC (kB p split b);rw[e];exact DZ (Kp (hok.en row (List.mem_of_getElem? hrow))) (by rw[List.length_map];exact hbi.len hrow)
theorem De (p:List (List Ins)) (split:Bool) (s s':Bf):(Jz p split s).map Prod.snd=(Jz p split s').map Prod.snd:=by
 unfold Jz Lf Lc Lm Lj;simp only[List.map_append,List.map_map];rfl
theorem Db {p:List (List Ins)}{split:Bool}{s s':Bf}(hv:Zi p=true) (h:Zx (Zn p split) (Zu p split) s) (h':Zx (Zn p split) (Zu p split) s') (e:Kw (Jz p split s)=Kw (Jz p split s')):s=s':=by
 have hok:=(ZE.XV (Z9 hv) h).1;have hok':=(ZE.XV (Z9 hv) h').1;have hbi:=BI.reach (Z9 hv) h;have hbi':=BI.reach (Z9 hv) h';have hl:=Z4 hv;have e1:=AG (De p split s s') (VJ hv h) (VJ hv h') e;unfold Jz at e1;obtain⟨a1,e1⟩:=List.append_inj e1 (by simp[Lf]);obtain⟨a2,e1⟩:=List.append_inj e1 (by simp[Lc]);obtain⟨a3,a4⟩:=List.append_inj e1 (by simp[Lm]);have r1:∀ k,0≤s.q.pc.getD k 0:=fun k=>by
  rw[List.getD_eq_getElem?_getD];cases hk:s.q.pc[k]? with
  | none=>simp
  | some c =>
   obtain⟨r,hr⟩:=Zd (xs:=p) (k:=k) (by rw[← hok.q.lp];exact(List.getElem?_eq_some_iff.1 hk).1);simpa using (hok.q.pc k c r hk hr).1
 have r1':∀ k,0≤s'.q.pc.getD k 0:=fun k=>by
  rw[List.getD_eq_getElem?_getD];cases hk:s'.q.pc[k]? with
  | none=>simp
  | some c =>
   obtain⟨r,hr⟩:=Zd (xs:=p) (k:=k) (by rw[← hok'.q.lp];exact(List.getElem?_eq_some_iff.1 hk).1);simpa using (hok'.q.pc k c r hk hr).1
 have b1:∀ k,k < 3→s.q.pc.getD k 0=s'.q.pc.getD k 0:=fun k hk=>by
  have h1:=congrArg Prod.fst (Xq a1 k hk);have h2:=r1 k;have h3:=r1' k
  simp only at h1;omega
 have b2:∀ k,k < 3→s.q.mm.getD k 0=s'.q.mm.getD k 0:=fun k hk=>by
  have h1:=congrArg Prod.fst (Xq a2 k hk);have h2:=ZP hok.q.mm k;have h3:=ZP hok'.q.mm k
  simp only at h1;omega
 have b3:∀ k,k < 9→s.q.rg.getD k 0=s'.q.rg.getD k 0:=fun k hk=>by
  have h1:=congrArg Prod.fst (Xq a3 k hk);have h2:=ZP hok.q.rg k;have h3:=ZP hok'.q.rg k
  simp only at h1;omega
 have hn:0 < Yj split:=by cases split <;> simp[Yj]
 have b4:s.bf=s'.bf:=by
  apply List.ext_getElem (by rw[hok.lb,hok'.lb]);intro b hb hb';have hbn:b < p.length * Yj split:=by rw[← hok.lb];exact hb
  have g:=List.getElem?_eq_getElem hb;have g':=List.getElem?_eq_getElem hb';have h1:=congrArg Prod.fst (Xq a4 b hbn);simp only[List.getD_eq_getElem?_getD,g,g',Option.getD_some]at h1;have h2:=UP (Kp (hok.en _ (List.mem_of_getElem? g))) (Kp (hok'.en _ (List.mem_of_getElem? g'))) h1;have hdv:b / Yj split < 3:=Nat.lt_of_lt_of_le ((Nat.div_lt_iff_lt_mul hn).2 hbn) hl.1;exact BI.same hbi hbi' g g' (b1 _ hdv) h2
 refine RU hok hok' hl.1 ?_;unfold RT EX;rw[b4,b1 0 Dc,b1 1 Dc,b1 2 Dc,b2 0 Dc,b2 1 Dc,b2 2 Dc,b3 0 Dc,b3 1 Dc,b3 2 Dc,b3 3 Dc,b3 4 Dc,b3 5 Dc,b3 6 Dc,b3 7 Dc,b3 8 Dc]
def ind (b:Bool):Nat:=if b=true then 1 else 0
theorem Ii (b:Bool):ind b≤1:=by cases b <;> simp[ind]
theorem AT (r:List Ins):ind (Yg r 0)+ind (Yg r 1)+ind (Yg r 2)≤r.countP fun x=>Z8 x.op:=by
 induction r with
 | nil=>simp[Yg,ind]
 | cons x r ih =>
  have h:∀ g:Int,ind (Yg (x :: r) g)≤(if Z8 x.op=true∧x.ZQ=g then 1 else 0)+ind (Yg r g):=fun g=>by
   unfold Yg;rw[List.any_cons];by_cases h1:Z8 x.op=true∧x.ZQ=g
   ·rw[if_pos h1];have:=Ii ((Z8 x.op&&x.ZQ==g)||r.any fun x=>Z8 x.op&&x.ZQ==g);omega
   ·rw[if_neg h1]
    have:(Z8 x.op&&x.ZQ==g)=false:=by
     cases hr:Z8 x.op with
     | false=>simp
     | true=>simp only[hr,true_and]at h1;simp[h1]
    rw[this,Bool.false_or];omega
  have h0:=h 0;have h1:=h 1;have h2:=h 2
  rw[List.countP_cons];by_cases hx:Z8 x.op=true
  ·simp only[hx,true_and,if_true]at h0 h1 h2 ⊢
   by_cases e0:x.ZQ=0
   ·simp[e0]at h0 h1 h2;omega
   ·by_cases e1:x.ZQ=1
    ·simp[e1]at h0 h1 h2;omega
    ·simp only[e0,e1,if_false]at h0 h1
     split at h2 <;> omega
  ·have hx':Z8 x.op=false:=by simpa using hx
   simp only[hx',Bool.false_eq_true,false_and,if_false]at h0 h1 h2 ⊢;omega
theorem Fa (t:Nat) (r:List Ins) (h:∀ x∈r,Zg x=true):(QI true (t * 3) t r).length+(QI true (t * 3+1) t r).length+(QI true (t * 3+2) t r).length≤r.countP Qa:=by
 induction r with
 | nil=>simp[QI]
 | cons x r ih =>
  have ih:=ih fun y hy=>h y (by simp[hy]);unfold QI at ih ⊢;simp only[List.length_map]at ih ⊢;rw[List.countP_cons];have hc:∀ b,((x :: r).filter fun x=>Qa x&&decide (Zj t x.loc true=b)).length=(r.filter fun x=>Qa x&&decide (Zj t x.loc true=b)).length+if Qa x=true∧Zj t x.loc true=b then 1 else 0:=fun b=>by
   rw[List.filter_cons];by_cases h1:Qa x=true∧Zj t x.loc true=b
   ·rw[if_pos h1,if_pos (by simp[h1])];simp
   ·rw[if_neg h1,if_neg (by simpa using h1)];simp
  rw[hc,hc,hc];by_cases hx:Qa x=true
  ·simp only[hx,true_and,if_true]
   generalize Zj t x.loc true=q at *;by_cases e0:q=t * 3
   ·simp only[e0,if_true];rw[if_neg Om,if_neg Om];omega
   ·by_cases e1:q=t * 3+1
    ·simp only[e1,if_true];rw[if_neg Om,if_neg Om];omega
    ·rw[if_neg e0,if_neg e1];split <;> omega
  ·simp only[hx,false_and,Bool.false_eq_true,if_false]
   omega
theorem I5 (t:Nat) (r:List Ins):(QI false t t r).length≤r.countP Qa:=by
 unfold QI;rw[List.length_map,List.countP_eq_length_filter];have:(fun x:Ins=>Qa x&&decide (Zj t x.loc false=t))=Qa:=by funext x;simp[Zj]
 rw[this];exact Nat.le_refl _
theorem FA (r:List Ins) (h:∀ x∈r,Zg x=true):(r.countP fun x=>Z8 x.op)+r.countP Qa≤r.countP Zq:=by
 induction r with
 | nil=>simp
 | cons x r ih =>
  have ih:=ih fun y hy=>h y (by simp[hy]);have hv:=(Ku (h x Sm)).1;simp only[List.countP_cons];generalize (r.countP fun x=>Z8 x.op)=A at *;generalize r.countP Qa=B at *;generalize r.countP Zq=C at *;rcases hv with e | e | e | e | e <;> simp[Z8,Qa,Zq,e] <;> omega
theorem Ei {p:List (List Ins)}{split:Bool}(hv:Zi p=true) (s:Bf):∃ R K,XH (Lm p s)=4 ^ R∧3 ^ (p.length * Yj split) * XH (Lj p split s)≤4 ^ (K+p.length * Yj split)∧R+K≤12:=by
 have hl:=Z4 hv;have hi:=Z9 hv;refine⟨((List.range 9).map fun j=>ind (Yg (p.getD (j / 3) []) ((j % 3:Nat):Int))).sum,((List.range (p.length * Yj split)).map fun b=>kB p split b).sum,?_,?_,?_⟩
 ·have:∀ l:List Nat,XH (l.map fun j=>((s.q.rg.getD j 0).toNat,if Yg (p.getD (j / 3) []) ((j % 3:Nat):Int)=true then 4 else 1))=4 ^ (l.map fun j=>ind (Yg (p.getD (j / 3) []) ((j % 3:Nat):Int))).sum:=by
   intro l
   induction l with
   | nil=>rfl
   | cons j l ih =>
    simp only[List.map_cons,XH,List.sum_cons,Nat.pow_add,ih]
    congr 1
    unfold ind;split <;> rfl
  exact this _
 ·have:∀ l:List Nat,3 ^ l.length * XH (l.map fun b=>(Qc ((s.bf.getD b []).map Prod.snd),KC (kB p split b)))≤4 ^ ((l.map fun b=>kB p split b).sum+l.length):=by
   intro l
   induction l with
   | nil=>simp[XH]
   | cons b l ih =>
    simp only[List.map_cons,XH,List.sum_cons,List.length_cons];have h1:=DY (kB p split b);have h2:=Nat.mul_le_mul h1 ih;rw[← Nat.pow_add]at h2;rw[Nat.pow_succ,show kB p split b+(l.map fun b=>kB p split b).sum+(l.length+1)=kB p split b+1+((l.map fun b=>kB p split b).sum+l.length) by omega];refine Nat.le_trans (Nat.le_of_eq ?_) h2;generalize 3 ^ l.length=X;generalize KC (kB p split b)=Y;generalize XH _=Z;rw[Nat.mul_assoc,Nat.mul_assoc,Nat.mul_left_comm X 3,Nat.mul_left_comm X Y]
  have h:=this (List.range (p.length * Yj split));rw[List.length_range]at h;exact h
 ·have row:∀ t r,p[t]? = some r→(ind (Yg r 0)+ind (Yg r 1)+ind (Yg r 2))+(if split=true then (QI true (t * 3) t r).length+(QI true (t * 3+1) t r).length+(QI true (t * 3+2) t r).length else (QI false t t r).length)≤r.countP Zq:=fun t r hr=>by
   have h0:=hi r (List.mem_of_getElem? hr);have h1:=AT r;have h2:=Fa t r h0;have h3:=I5 t r;have h4:=FA r h0;split <;> omega
  have hc:=hl.2.2.2.1;have hp:=hl.1;clear hl hi hv;unfold kB
  match p,hp,row,hc with
  | [],_,_,_=>cases split <;> simp[List.range_succ,Yg,ind]
  | [a],_,row,hc =>
   have ra:=row 0 a rfl;simp only[Y1,List.flatten_cons,List.flatten_nil,List.append_nil]at hc;cases split <;> simp[List.range_succ,Yj,Yg,ind]at ra ⊢ <;> (try simp[Yg,ind]at ra) <;> omega
  | [a,b],_,row,hc =>
   have ra:=row 0 a rfl;have rb:=row 1 b rfl;simp only[Y1,List.flatten_cons,List.flatten_nil,List.append_nil,List.countP_append]at hc;cases split <;> simp[List.range_succ,Yj,Yg,ind]at ra rb ⊢ <;> omega
  | [a,b,c],_,row,hc =>
   have ra:=row 0 a rfl;have rb:=row 1 b rfl;have rc:=row 2 c rfl;simp only[Y1,List.flatten_cons,List.flatten_nil,List.append_nil,List.countP_append]at hc;cases split <;> simp[List.range_succ,Yj,Yg,ind]at ra rb rc ⊢ <;> omega
  | _ :: _ :: _ :: _ :: _,hp,_,_=>simp at hp
theorem Eh {p:List (List Ins)}{split:Bool}(hv:Zi p=true) (s:Bf):XH (Jz p split s)≤7321811000000:=by
 obtain⟨R,K,h1,h2,h3⟩:=Ei (split:=split) hv s;have hnb:p.length * Yj split≤9:=by
  have h4:Yj split≤3:=by cases split <;> simp[Yj]
  have:=Nat.mul_le_mul (Z4 hv).1 h4;omega
 unfold Jz;rw[Um,Um,Um,h1];have e1:XH (Lf s)=512:=by simp[Lf,List.range_succ,XH]
 have e2:XH (Lc s)=64:=by simp[Lc,List.range_succ,XH]
 rw[e1,e2];generalize XH (Lj p split s)=X at *;generalize p.length * Yj split=nb at *;have h5:3 ^ (9 - nb) * (3 ^ nb * X)≤4 ^ (9 - nb) * 4 ^ (K+nb):=Nat.mul_le_mul (Nat.pow_le_pow_left Dc _) h2;rw[← Nat.mul_assoc,← Nat.pow_add,← Nat.pow_add,show 9 - nb+nb=9 by omega,show 9 - nb+(K+nb)=K+9 by omega]at h5;have h6:4 ^ R * (3 ^ 9 * X)≤4 ^ R * 4 ^ (K+9):=Nat.mul_le_mul_left _ h5;rw[← Nat.pow_add]at h6;have h7:4 ^ (R+(K+9))≤4 ^ 21:=Nat.pow_le_pow_right Dc Om;have h8:4 ^ R * (3 ^ 9 * X)=19683 * (4 ^ R * X):=by rw[Nat.mul_left_comm]
 have h9:(4:Nat) ^ 21=4398046511104:=Dc;rw[h8]at h6;generalize 4 ^ R * X=Y at *;omega
theorem Br {p:List (List Ins)}{split:Bool}(hv:Zi p=true) {l:List Bf}(hn:l.Nodup) (h:∀ s∈l,Zx (Zn p split) (Zu p split) s):l.length≤7321811000000:=by
 have h1:(l.map fun s=>Kw (Jz p split s)).Nodup:=by
  unfold List.Nodup;rw[List.pairwise_map];refine List.Pairwise.imp_of_mem ?_ hn;intro a b ha hb hab e;exact hab (Db hv (h a ha) (h b hb) e)
 have h2:=Gd 7321811000000 _ h1 fun x hx=>by
  obtain⟨s,hs,rfl⟩:=List.mem_map.1 hx;exact Nat.lt_of_lt_of_le (FL (VJ hv (h s hs))) (Eh hv s)
 simpa using h2
end Go.Proofs.YtngekjpklkjnbaaGreat
namespace Go.Proofs.YtngekjpklkjnbaaGreat
open Go.RowKit
theorem Own.K5 {α:Type}{E:El α}{T:TypeId}{w w':World}{base:Nat}{v:Value}{xs:List α}(h:Own E T w base v xs) (hB:∀ k,v.ownBlock=some k→w'.heap[k]? = w.heap[k]?):Own E T w' base v xs:=by
 refine⟨h.1,?_⟩;rcases h.2 with h0 | ⟨g,cap,cur,hv,hb1,hgg,rest⟩
 ·exact .inl h0
 ·exact .inr ⟨g,cap,cur,hv,hb1,(hB g (by rw[hv];rfl)).trans hgg,rest⟩
def IL (w:World) (vp:Value) (split:Bool) (s':Bf) (us:List Zt) (k:Nat) (u:Zt) (r r':List Int) (e:Ending) (w':World):Prop:=∃ (b':Nat) (wv' u':Zt),e = .returned (AE 169 b')∧ZO w' b' vp split wv' s' ∧
 Own Zw 39 w' w.heap.size wv'.v (us.set k u')∧(∀ W,Z7 Zr W u.v r→Z7 Zr W u'.v r')∧w.heap.size≤b'∧Below w.heap.size w w'
theorem Uv (pv:Value) (q:Sq) (more:Array Value) {t:Nat}(ht:t < 3) {u:Value}:(ZY pv q++more).setIfInBounds (13+t) u=(ZY pv q).setIfInBounds (13+t) u++more:=by
 rw[Array.setIfInBounds_append_left So]
theorem EO {W:World}{rb ro un uk:Nat}{l v:Int}{rest:List (Int × Int)}(h:Z7 Zr W (Zt.v ⟨some ⟨rb,ro,none⟩,un,uk⟩) (Z1 ((l,v) :: rest))):Z7 Zr W (Zt.v ⟨if uk=1 then some ⟨rb,ro,none⟩ else some ⟨rb,ro+1,none⟩,un - 1,uk - 1⟩) (Z1 rest):=by
 obtain⟨a,c,hv,h1,h2,h3⟩:=h;simp only[Zt.v,Value.slice.injEq,List.map_cons,List.length_cons,List.length_map]at hv h1;obtain⟨rfl,rfl,rfl⟩:=hv;refine⟨if uk=1 then some ⟨rb,ro,none⟩ else some ⟨rb,ro+1,none⟩,uk - 1,by rw[List.length_map];rfl,by rw[List.length_map];omega,Om,fun i x hx => ?_⟩;obtain⟨b,o,hb,hc⟩:=h3 (i+1) x (by simpa using hx);simp only[Option.some.injEq,Addr.mk.injEq,and_true]at hb;obtain⟨rfl,rfl⟩:=hb;have hlt:=(List.getElem?_eq_some_iff.1 hx).1;simp only[List.length_map]at hlt;rw[if_neg Om];refine⟨rb,ro+1,rfl,fun j u hu => ?_⟩;have:=hc j u hu;rw[← this]
 congr 2
 simp only[Zr];omega
theorem Jq:∃ d,Tryz.prog.underlying 172=some d∧d.isRow=true:=by
 have h:((Tryz.prog.underlying 172).elim false TypeDesc.isRow)=true:=Kr;revert h;cases Tryz.prog.underlying 172 with
 | none=>intro h;cases h
 | some d=>exact fun h=>⟨d,rfl,h⟩
theorem YO {P:Program}{op:Oper}{a:Act}{w:World}{K:Act→World→Prop}{Q:Exit→Act→World→Prop}(ty:TypeId) (x y:Operand) (ho:op.op = .store ty x y) (c c':Array Value)
 (hx:a.eval x = .pointer (some ⟨w.heap.size,0,none⟩)) (hy:a.eval y = .agg c') (hi:(P.info? ty).map (·.size)=some c'.size) (hs:c.size=c'.size) (h1:c'.all (·.oneCell')=true)
 (h:K (a.put op.dst undef) (w.alloc (.cells c' ty))):op.wp P a (w.alloc (.cells c ty)) K Q:=by
 unfold Oper.wp execOp;simp only[ho,hx,hy,Instr.storeAt,Instr.sureAddr,Sem.run_bind,Sem.run_pure,Result.andThen_ok,run_storeVar_new w ty c c' hi hs h1];exact h
theorem Fu {op:Oper}{a:Act}{w:World}{K:Act→World→Prop}{Q:Exit→Act→World→Prop}(x y:Operand) (ho:op.op = .binOp .sub 3 x y 3) (p q r:Int)
 (hx:a.eval x = .int .i64 p) (hy:a.eval y = .int .i64 q) (hr:wrap64 (p - q)=r) (h:K (a.put op.dst (.int .i64 r)) w):op.wp Tryz.prog a w K Q:=by
 subst hr;unfold Oper.wp execOp;have e:IntKind.wrap .i64 (p - q)=wrap64 (p - q):=IntWalk.i64_left _;rw[← e]at h;simp only[ho,hx,hy];simpa[go_sem] using h
theorem DK {k:Nat}(h:k≤9):wrap64 (k:Int)=(k:Int):=IntWalk.wrap64_in _ ⟨Om,Om⟩
set_option linter.unusedSimpArgs false in
theorem G6 (b k:Nat) (vp:Value) (split:Bool) (wv u:Zt) (us:List Zt) (p:List (List Ins)) (s:Bf) (l v:Int) (rest:List (Int × Int)) (w:World) (hp:Z5 w vp p) (hx:ZO w b vp split wv s) (hus:Z7 Zw w wv.v us) (hul:us.length=s.bf.length) (hu:us[k]? = some u)
 (hrow:Z7 Zr w u.v (Z1 ((l,v) :: rest))) (hok:ZE p split s) (hpl:p.length≤3) (hk:s.bf[k]? = some ((l,v) :: rest)) (hlen:rest.length≤42) :
 Calls Tryz.prog 230 #[.pointer (some ⟨b,0,none⟩),.int .i64 ((p.length+k:Nat):Int)] w (IL w vp split ⟨⟨s.q.pc,s.q.rg,s.q.mm.set l.toNat v⟩,s.bf.set k rest⟩ us k u (Z1 ((l,v) :: rest)) (Z1 rest)):=by
 obtain⟨va,vc,rfl,hc1,hc2,hc3,hp⟩:=hp.open;obtain⟨wa,wn,wk⟩:=wv;have hen:=hok.en _ (List.mem_of_getElem? hk) (l,v) Sm;unfold Y8 at hen;simp only at hen;obtain⟨ln,rfl⟩:∃ ln:Nat,l=ln:=⟨l.toNat,Om⟩
 have hl3:ln < 3:=Om;have hv3:0≤v∧v≤3:=hen.2;have hklt:=(List.getElem?_eq_some_iff.1 hk).1;have hlb9:s.bf.length≤9:=by
  rw[hok.lb];have:Yj split≤3:=by cases split <;> simp[Yj]
  have:=Nat.mul_le_mul hpl this;omega
 have HUS:=Za hus;obtain⟨wb,wo,hwa,hwl,q0⟩:=Z7.Hf (show Z7 Zw w (.slice wa wn wk) us from hus) hu;obtain⟨ua,un,uk⟩:=u;have HWN:Hid (wn=us.length):=Za (by obtain⟨_,_,hv1,-⟩:=hus.open;simp only[Zt.v,Value.slice.injEq]at hv1;exact hv1.2.1);subst hwa;obtain⟨rb,ro,rfl,hrl,r0⟩:∃ rb ro,ua=some ⟨rb,ro,none⟩∧rb < w.heap.size∧w.cell? ⟨rb,ro,none⟩=some (Z2 ((ln:Int) * 16+v)):=by
  obtain⟨a0,c0,hv0,_,_,hh⟩:=hrow;simp only[Zt.v,Value.slice.injEq]at hv0;obtain⟨bb,oo,e0,h0⟩:=hh 0 ((ln:Int) * 16+v) rfl;have h1:=h0 0 (Z2 ((ln:Int) * 16+v)) rfl;simp only[Zr,Nat.zero_mul,Nat.add_zero]at h1;exact⟨bb,oo,hv0.1.trans e0,Zb h1,h1⟩
 have hun:un=rest.length+1:=by obtain⟨_,_,hv1,-⟩:=hrow.open;simp only[Zt.v,Value.slice.injEq]at hv1;rw[hv1.2.1];simp
 have HV:=Za (ZN.ZX hx);have HX:=Za hx;have HROW:=Za hrow
 have c0:=HV.out.c0;have bl:=HV.out.lt;have d16:=hx.split;have d17:=hx.waits;obtain⟨d1,d2,d3,d4,d5,d6,d7,d8,d9,d10,d11,d12,d13,d14,d15⟩:=HV.out.BZ;have hsa:=@ZJ;have HUL:=Za hul;have HLB:=Za hlb9
 have hul9:us.length≤9:=Om;clear hp hx hus hrow hul hlb9;generalize hn:p.length=n at *;have HN:=Za hn;clear hn;obtain⟨x1,hx1⟩:∃ x,x=s.q.pc.getD 0 0:=⟨_,rfl⟩
 obtain⟨x2,hx2⟩:∃ x,x=s.q.pc.getD 1 0:=⟨_,rfl⟩
 obtain⟨x3,hx3⟩:∃ x,x=s.q.pc.getD 2 0:=⟨_,rfl⟩
 obtain⟨x4,hx4⟩:∃ x,x=s.q.rg.getD 0 0:=⟨_,rfl⟩
 obtain⟨x5,hx5⟩:∃ x,x=s.q.rg.getD 1 0:=⟨_,rfl⟩
 obtain⟨x6,hx6⟩:∃ x,x=s.q.rg.getD 2 0:=⟨_,rfl⟩
 obtain⟨x7,hx7⟩:∃ x,x=s.q.rg.getD 3 0:=⟨_,rfl⟩
 obtain⟨x8,hx8⟩:∃ x,x=s.q.rg.getD 4 0:=⟨_,rfl⟩
 obtain⟨x9,hx9⟩:∃ x,x=s.q.rg.getD 5 0:=⟨_,rfl⟩
 obtain⟨x10,hx10⟩:∃ x,x=s.q.rg.getD 6 0:=⟨_,rfl⟩
 obtain⟨x11,hx11⟩:∃ x,x=s.q.rg.getD 7 0:=⟨_,rfl⟩
 obtain⟨x12,hx12⟩:∃ x,x=s.q.rg.getD 8 0:=⟨_,rfl⟩
 obtain⟨x13,hx13⟩:∃ x,x=s.q.mm.getD 0 0:=⟨_,rfl⟩
 obtain⟨x14,hx14⟩:∃ x,x=s.q.mm.getD 1 0:=⟨_,rfl⟩
 obtain⟨x15,hx15⟩:∃ x,x=s.q.mm.getD 2 0:=⟨_,rfl⟩
 have HA:Hid (ZY (.slice va n vc) s.q ++ #[.bool split,.slice (some ⟨wb,wo,none⟩) wn wk] = #[.slice va n vc,.int .u8 x1,.int .u8 x2,.int .u8 x3,.int .u8 x4,.int .u8 x5,.int .u8 x6,.int .u8 x7,.int .u8 x8,.int .u8 x9,.int .u8 x10,.int .u8 x11,.int .u8 x12,.int .u8 x13,.int .u8 x14,.int .u8 x15,.bool split,.slice (some ⟨wb,wo,none⟩) wn wk]):=Za (by rw[hx1,hx2,hx3,hx4,hx5,hx6,hx7,hx8,hx9,hx10,hx11,hx12,hx13,hx14,hx15];rfl);rw[← hx1]at d1;rw[← hx2]at d2;rw[← hx3]at d3;rw[← hx4]at d4;rw[← hx5]at d5;rw[← hx6]at d6;rw[← hx7]at d7;rw[← hx8]at d8;rw[← hx9]at d9;rw[← hx10]at d10;rw[← hx11]at d11;rw[← hx12]at d12;rw[← hx13]at d13;rw[← hx14]at d14;rw[← hx15]at d15;clear hx1 hx2 hx3 hx4 hx5 hx6 hx7 hx8 hx9 hx10 hx11 hx12 hx13 hx14 hx15;have HLD:Hid (w.rangeAt b 0 [.slice va n vc,.int .u8 x1,.int .u8 x2,.int .u8 x3,.int .u8 x4,.int .u8 x5,.int .u8 x6,.int .u8 x7,.int .u8 x8,.int .u8 x9,.int .u8 x10,.int .u8 x11,.int .u8 x12,.int .u8 x13,.int .u8 x14,.int .u8 x15,.bool split,.slice (some ⟨wb,wo,none⟩) wn wk]):=Za (by
  intro j v hj;have h:w.heap[b]? = some (.cells #[.slice va n vc,.int .u8 x1,.int .u8 x2,.int .u8 x3,.int .u8 x4,.int .u8 x5,.int .u8 x6,.int .u8 x7,.int .u8 x8,.int .u8 x9,.int .u8 x10,.int .u8 x11,.int .u8 x12,.int .u8 x13,.int .u8 x14,.int .u8 x15,.bool split,.slice (some ⟨wb,wo,none⟩) wn wk] 172 (0,0)):=by rw[← HA.out];exact HX.out
  rw[Nat.zero_add];exact Zc h (by simpa using hj))
 have HON:Hid ((#[.slice va n vc,.int .u8 x1,.int .u8 x2,.int .u8 x3,.int .u8 x4,.int .u8 x5,.int .u8 x6,.int .u8 x7,.int .u8 x8,.int .u8 x9,.int .u8 x10,.int .u8 x11,.int .u8 x12,.int .u8 x13,.int .u8 x14,.int .u8 x15,.bool split,.slice (some ⟨wb,wo,none⟩) wn wk]:Array Value).all (fun v=>v.oneCell')=true):=Za (by simp[Value.oneCell']);obtain⟨dB,hUB,hRB⟩:=Jq;have HUB:=Za hUB;have HRB:=Za hRB
 clear hUB hRB;go_enter Tryz.func230,Tryz.ntmps230
 iterate 23 (first | (refine wp_load_mid 172 (.tmp 12) rfl b 0 rfl [.slice va n vc,.int .u8 x1,.int .u8 x2,.int .u8 x3,.int .u8 x4,.int .u8 x5,.int .u8 x6,.int .u8 x7,.int .u8 x8,.int .u8 x9,.int .u8 x10,.int .u8 x11,.int .u8 x12,.int .u8 x13,.int .u8 x14,.int .u8 x15,.bool split,.slice (some ⟨wb,wo,none⟩) wn wk] dB HLD.out HUB.out HRB.out Kr ?_;go_simp) | go_values | go_skip | go_guarded | go_step | go_upon)
 refine YO 172 (.tmp 5) (.tmp 13) rfl _ #[.slice va n vc,.int .u8 x1,.int .u8 x2,.int .u8 x3,.int .u8 x4,.int .u8 x5,.int .u8 x6,.int .u8 x7,.int .u8 x8,.int .u8 x9,.int .u8 x10,.int .u8 x11,.int .u8 x12,.int .u8 x13,.int .u8 x14,.int .u8 x15,.bool split,.slice (some ⟨wb,wo,none⟩) wn wk] rfl rfl Kr rfl HON.out ?_;go_simp;go_wp2_with fail;obtain⟨V1,hV1⟩:∃ V1,V1=w.alloc (.cells #[.slice va n vc,.int .u8 x1,.int .u8 x2,.int .u8 x3,.int .u8 x4,.int .u8 x5,.int .u8 x6,.int .u8 x7,.int .u8 x8,.int .u8 x9,.int .u8 x10,.int .u8 x11,.int .u8 x12,.int .u8 x13,.int .u8 x14,.int .u8 x15,.bool split,.slice (some ⟨wb,wo,none⟩) wn wk] 172):=⟨_,rfl⟩
 have X1:Hid (ZO V1 w.heap.size (.slice va n vc) split ⟨some ⟨wb,wo,none⟩,wn,wk⟩ s):=Za (by rw[hV1];show _=some (Obj.cells (ZY (.slice va n vc) s.q++_) _ _);rw[HA.out];exact heap_alloc_new _ _);have B1:Hid (Below w.heap.size w V1):=Za (by rw[hV1];exact(Below.refl _ _).alloc (Nat.le_refl _) _);simp only[← hV1];clear hV1 d1 d2 d3 d4 d5 d6 d7 d8 d9 d10 d11 d12 d13 d14 d15 HA;have HCL:=Za (YY (.slice (some ⟨wb,wo,none⟩) wn wk) us V1 (HUS.out.below B1.out) Om)
 (with_reducible refine HCL.out.mono ?_);rintro e w2 ⟨vw,rfl,how,hb2⟩
 have hune:us≠[]:=fun e=>by rw[e]at hu;simp at hu
 obtain⟨cg,cc,rfl⟩:=XU how hune;have HOW:=Za how;have hcg:=World.ownsRow.lt how cg rfl;have hlN:w.heap.size < V1.heap.size:=X1.out.lt;have B2:=Za (B1.out.trans (hb2.mono B1.out.size));have X2:=Za (X1.out.below hb2);have hX2:=X2.out;have e17:=hX2.waits;have efz:=Z6 hX2;have el:=hX2.lt;clear hb2 HCL how hX2;have X3:Hid (ZO (w2.setCell ⟨w.heap.size,17,none⟩ (.slice (some ⟨cg,0,none⟩) us.length cc)) w.heap.size (.slice va n vc) split ⟨some ⟨cg,0,none⟩,us.length,cc⟩ s):=Za (heap_setCell_same w2 w.heap.size 17 _ _ (.slice (some ⟨cg,0,none⟩) us.length cc) X2.out);have B3:Hid (Below w.heap.size w (w2.setCell ⟨w.heap.size,17,none⟩ (.slice (some ⟨cg,0,none⟩) us.length cc))):=Za (B2.out.setCell (p:=⟨w.heap.size,17,none⟩) (Nat.le_refl _) _);have g0:=(B3.out.cell (p:=⟨b,0,none⟩) bl).trans c0;have g17:=(B3.out.cell (p:=⟨b,17,none⟩) bl).trans d17;have gq:=(B3.out.cell (p:=⟨wb,wo+k,none⟩) hwl).trans q0;have gr:=(B3.out.cell (p:=⟨rb,ro,none⟩) hrl).trans r0;have bl2:b < w2.heap.size:=Nat.lt_of_lt_of_le bl B2.out.size;have wl2:wb < w2.heap.size:=Nat.lt_of_lt_of_le hwl B2.out.size;have rl2:rb < w2.heap.size:=Nat.lt_of_lt_of_le hrl B2.out.size
 have hkn:k < wn:=by have:=HWN.out;have:=HUL.out;omega
 have hkn2:(k:Int) < (wn:Int):=Om;have hk9:k≤9:=by have:=HWN.out;omega
 have hge:((n:Int)≤(n:Int)+(k:Int)):=Om;have hsub:(n:Int)+(k:Int) - (n:Int)=(k:Int):=Om;have hun0:(0:Int) < (un:Int):=Om;have HUN:=Za hun;have HEN:=Za hen;have HKL:=Za hklt;have HCG:=Za hcg;have HLN:=Za hlN
 clear hun hen hklt hune d16 d17 c0 q0 r0 hul9 hlN hcg hsa hwl hrl;have hw64:=Za (DK hk9)
 iterate 66 (first | go_values | go_skip | go_guarded | go_step | go_upon | go_back | (simp only[Int.not_lt,Int.not_le] at *;go_simp))
 refine Fu (.tmp 28) (.tmp 34) rfl ((n:Int)+(k:Int)) (n:Int) (k:Int) rfl rfl (by rw[hsub];exact hw64.out) ?_;go_simp;go_wp2_with fail;clear hw64 e17 efz el g0;obtain⟨W3,hW3⟩:∃ W,W=w2.setCell ⟨w.heap.size,17,none⟩ (.slice (some ⟨cg,0,none⟩) us.length cc):=⟨_,rfl⟩
 have hcgne:cg≠w.heap.size:=by have h1:=HCG.out.1;have h2:=HLN.out;omega
 have OW3:Hid (Own Zw 39 W3 V1.heap.size (.slice (some ⟨cg,0,none⟩) us.length cc) us):=Za (by
  rw[hW3];exact HOW.out.K5 fun q hq=>heap_setCell_other w2 ⟨w.heap.size,17,none⟩ q _ (show q≠w.heap.size by simp[Value.ownBlock]at hq;rw[← hq];exact hcgne))
 simp only[← hW3]at X3 B3 g17 gq gr ⊢;have hs3:w2.heap.size≤W3.heap.size:=by rw[hW3];simp
 clear hW3;have ck:W3.cell? ⟨cg,k,none⟩=some (.slice (some ⟨rb,ro,none⟩) un uk):=by have:=OW3.out.cell hu (j:=0) rfl;simpa[Zw] using this
 have cgl:=Zb ck;have fk:=OW3.out.frozen;have e17:W3.cell? ⟨w.heap.size,17,none⟩=some (.slice (some ⟨cg,0,none⟩) us.length cc):=X3.out.waits;have el:=Zb e17;have bl3:=Zb g17;have wl3:=Zb gq;have hku:(k:Int) < (us.length:Int):=by have:=HWN.out;omega
 clear bl2 wl2 rl2
 go_region
 obtain⟨ua',hua'⟩:∃ a:Option Addr,a=if uk=1 then some ⟨rb,ro,none⟩ else some ⟨rb,ro+1,none⟩:=⟨_,rfl⟩
 simp only[← hua'];have HUA:=Za hua';clear hua';obtain⟨u',hu'⟩:∃ u':Zt,u'=⟨ua',un - 1,uk - 1⟩:=⟨_,rfl⟩
 obtain⟨W6,hW6⟩:∃ W,W=(W3.setCell ⟨cg,k,none⟩ (.slice u'.a u'.n u'.cap)).drew:=⟨_,rfl⟩
 have OW6:Hid (Own Zw 39 W6 V1.heap.size (.slice (some ⟨cg,0,none⟩) us.length cc) (us.set k u')):=Za (by
  rw[hW6];have:=OW3.out.set (i:=k) (j:=0) u' (u:=.slice u'.a u'.n u'.cap) Dc hu rfl;simp only[Zw,Nat.mul_one,Nat.add_zero]at this;exact this.below (Below.refl _ _).drew)
 have X6:Hid (ZO W6 w.heap.size (.slice va n vc) split ⟨some ⟨cg,0,none⟩,us.length,cc⟩ s):=Za (by
  rw[hW6];exact(heap_setCell_other W3 ⟨cg,k,none⟩ w.heap.size _ (fun e=>hcgne e.symm)).trans X3.out)
 have B6:Hid (Below w.heap.size w W6):=Za (by
  rw[hW6];exact(B3.out.setCell (p:=⟨cg,k,none⟩) (by have h1:=HCG.out.1;have h2:=HLN.out;show w.heap.size≤cg;omega) _).drew)
 have HU':=Za hu';rw[hu']at hW6;rw[← hW6];clear hW6 hu' ck cgl fk e17 el g17 gq gr bl3 wl3 X3 B3 OW3 hku hkn hkn2;have m6:=(ZN.ZX X6.out).c3 ln hl3;have l6:=Zb m6;have f6:=Z6 X6.out;have hln3:(ln:Int) < 3:=Om;have hdq:((ln:Int) * 16+v) / 16=(ln:Int):=Om;have hmq:v % 16=v:=Om;go_wp2_with fail;have h8:=heap_setCell_same W6 w.heap.size (13+ln) _ _ (Z2 v) X6.out;rw[Uv _ s.q _ hl3,KW _ _ hl3 (by rw[hok.q.lm];exact hl3)]at h8;have FB:Hid (ZO (W6.setCell ⟨w.heap.size,13+ln,none⟩ (Z2 v)) w.heap.size (.slice va n vc) split ⟨some ⟨cg,0,none⟩,us.length,cc⟩ ⟨⟨s.q.pc,s.q.rg,s.q.mm.set ((ln:Int).toNat) v⟩,s.bf.set k rest⟩):=Za (by rw[Int.toNat_natCast];exact h8);have FO:=Za ((OW6.out.Zy (T:=172) (j:=13+ln) (u:=Z2 v) Dc X6.out).mono (Nat.le_of_lt HLN.out));have FW:=Za (B6.out.setCell (p:=⟨w.heap.size,13+ln,none⟩) (Nat.le_refl _) (Z2 v));clear h8 m6 l6 f6;go_ret;exact⟨w.heap.size,⟨some ⟨cg,0,none⟩,us.length,cc⟩,u',rfl,FB.out,FO.out,fun W h=>by rw[HU'.out,HUA.out];exact EO h,Nat.le_refl _,FW.out⟩
end Go.Proofs.YtngekjpklkjnbaaGreat
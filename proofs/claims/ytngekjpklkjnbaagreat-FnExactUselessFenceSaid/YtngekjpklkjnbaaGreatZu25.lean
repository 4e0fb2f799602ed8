/-
  RobustProgram at a machine with store buffers. Condition: a bound on the number of instructions.
-/
import Derived.Test.YtngekjpklkjnbaaGreatZu21
import Derived.Test.YtngekjpklkjnbaaGreatZu22
import Derived.Test.YtngekjpklkjnbaaGreatZu23
set_option maxHeartbeats 6400000
set_option maxRecDepth 100000
namespace Go.Proofs.YtngekjpklkjnbaaGreat
open Go.RowKit
theorem U7 (b t:Nat) (vp:Value) (split:Bool) (wv:Zt) (us:List Zt) (p:List (List Ins)) (s s':Bf) (i:Ins) (w:World) (hp:Z5 w vp p) (hx:ZO w b vp split wv s) (hus:Z7 Zw w wv.v us) (hul:us.length=s.bf.length)
 (hrows:∀ (k:Nat) (u:Zt) (r:List (Int × Int)),us[k]? = some u→s.bf[k]? = some r→Z7 Zr w u.v (Z1 r)) (hok:ZE p split s) (hlen:∀ r∈s.bf,r.length≤42) (hpl:p.length≤3) (hpr:∀ r∈p,r.length≤7) (ht:t < p.length) (hi:YV p s.q t=some i) (hv:Zg i=true) (hd:YR s split t (s.q.pc.getD t 0) i=some s') :
 Calls Tryz.prog 230 #[.pointer (some ⟨b,0,none⟩),.int .i64 (t:Int)] w (UO w vp split s s' us):=by
 rcases Ij hv with h | h | h | h | h
 ·exact VA b t vp split wv us p s s' i w hp hx hus hul hrows hok hlen hpl hpr ht hi hv h hd
 ·exact VB b t vp split wv us p s s' i w hp hx hus hul hrows hok hlen hpl hpr ht hi hv h hd
 ·exact VC b t vp split wv us p s s' i w hp hx hus hul hrows hok hlen hpl hpr ht hi hv h hd
 ·exact VD b t vp split wv us p s s' i w hp hx hus hul hrows hok hlen hpl hpr ht hi hv h hd
 ·exact VE b t vp split wv us p s s' i w hp hx hus hul hrows hok hlen hpl hpr ht hi hv h hd
def YA (vp:Value) (p:List (List Ins)) (split:Bool) (B:Nat) (W:World) (b:Nat) (s:Bf):Prop:=
 ∃ (wv:Zt) (us:List Zt),ZO W b vp split wv s∧us.length=s.bf.length∧Xd LM B W (fun V=>Z7 Zw V wv.v us) ∧
  (∀ (i:Nat) (u:Zt) (r:List (Int × Int)),us[i]? = some u→s.bf[i]? = some r→Xd LM B W (fun V=>Z7 Zr V u.v (Z1 r))) ∧
  (∀ W',Below B W W'→Z5 W' vp p)∧B≤W.heap.size∧Zx (Zn p split) (Zu p split) s
theorem YA.loc {vp:Value}{p:List (List Ins)}{split:Bool}{B:Nat}{w:World}{b:Nat}{s:Bf}(h:YA vp p split B w b s):Xd LM B w (fun W=>YA vp p split B W b s):=by
 refine⟨h,fun w' k => ?_⟩;obtain⟨wv,us,h1,h2,h3,h4,h5,h6,h7⟩:=h;exact⟨wv,us,k.block b _ _ _ h1 Dc,h2,h3.step k,fun i u r hu hr=>(h4 i u r hu hr).step k,fun W' hW=>h5 W' ((k.below h6).trans hW),Nat.le_trans h6 k.size,h7⟩
theorem YA.Uo {w:World}{wv:Zt}{us:List Zt}{s:Bf}(h2:us.length=s.bf.length) (h3:Z7 Zw w wv.v us) (h4:∀ (i:Nat) (u:Zt) (r:List (Int × Int)),us[i]? = some u→s.bf[i]? = some r→Z7 Zr w u.v (Z1 r)):Vr w wv s:=
 ⟨us,by rw[List.length_map];exact h2,h3,fun i u r hu hr=>by
  rw[List.getElem?_map]at hr;obtain⟨r0,h,rfl⟩:=Option.map_eq_some_iff.1 hr;exact h4 i u r0 hu h⟩
theorem AU {w:World}{B k:Nat}{us:List Zt}{rs:List (List (Int × Int))}{u':Zt}{r':List (Int × Int)}(h4:∀ (i:Nat) (u:Zt) (r:List (Int × Int)),us[i]? = some u→rs[i]? = some r→Xd LM B w (fun V=>Z7 Zr V u.v (Z1 r)))
 (hn:Xd LM B w (fun V=>Z7 Zr V u'.v (Z1 r'))):∀ (i:Nat) (u:Zt) (r:List (Int × Int)),(us.set k u')[i]? = some u→(rs.set k r')[i]? = some r→Xd LM B w (fun V=>Z7 Zr V u.v (Z1 r)):=by
 intro i u r hu hr;rw[List.getElem?_set]at hu hr;by_cases e:k=i
 ·subst e
  rw[if_pos rfl]at hu hr;split at hu
  ·split at hr
   ·simp only[Option.some.injEq]at hu hr
    subst hu;subst hr;exact hn
   ·cases hr
  ·cases hu
 ·rw[if_neg e]at hu hr
  exact h4 i u r hu hr
theorem EY {p:List (List Ins)}{s:Sq}{t:Nat}{r:List Ins}{k:Int}{x:Ins}(hr:p[t]? = some r) (hk:s.pc[t]? = some k) (hx:r[k.toNat]? = some x):YV p s t=some x:=by
 unfold YV;rw[hr,hk];simp only[Option.bind_some];exact hx
theorem G0 {vp:Value}{p:List (List Ins)}{split:Bool}{B:Nat}(hv:Zi p=true) (w:World) (b:Nat) (s:Bf) (m:Nat) (hB:B≤w.heap.size) (h:YA vp p split B w b s) (hm:m∈Ko p split s) :
 Calls Tryz.prog 230 #[.pointer (some ⟨b,0,none⟩),.int .i64 (m:Int)] w fun e w' => ∃ b',e = .returned (AE 169 b')∧Xd LM B w' (fun W=>YA vp p split B W b' (QR p split s m))∧Below w.heap.size w w':=by
 obtain⟨wv,us,h1,h2,h3,h4,h5,h6,h7⟩:=h;have hok:=(ZE.XV (Z9 hv) h7).1;have hlen:=JM hv h7;have hpl:=(Z4 hv).1;have hpr:=fun r hr=>((Z4 hv).2.2.1 r hr).1;obtain⟨s',hs'⟩:=Option.isSome_iff_exists.1 ((Uh m).1 hm);rw[Qu hs'];have hre:Zx (Zn p split) (Zu p split) s':=.step h7 hs';by_cases hmt:m < p.length
 ·obtain⟨r,k,x,hr,hk,hx,hd⟩:=Yw hs' hmt
  have hv2:=Z9 hv r (List.mem_of_getElem? hr) x (List.mem_of_getElem? hx);have hkd:s.q.pc.getD m 0=k:=by rw[List.getD_eq_getElem?_getD,hk];rfl
  refine(U7 b m vp split wv us p s s' x w (h5 w (Below.refl _ _)) h1 h3.now h2 (fun i u r hu hr=>(h4 i u r hu hr).now) hok hlen hpl hpr hmt (EY hr hk hx) hv2 (by rw[hkd];exact hd)).mono ?_;rintro e w' ⟨b',wv',rfl,hb,hbb,hbl,hcase⟩;refine⟨b',rfl,YA.loc ?_,hbl⟩;have K:Xl LM B w w':=.Zf hbl;rcases hcase with⟨hbf,hown⟩ | ⟨k2,r2,u2,hbf,hown,hown2⟩
  ·exact⟨wv',us,hb,by rw[hbf];exact h2,(Xd.own hown Dc).map fun V h=>h.rep,fun i u r hu hr=>((h4 i u r hu (by rw[← hbf];exact hr)).step K),fun W' hW=>h5 W' ((hbl.mono hB).trans hW),Nat.le_trans h6 hbl.size,hre⟩
  ·refine⟨wv',us.set k2 u2,hb,by rw[hbf,List.length_set,List.length_set];exact h2,(Xd.own hown Dc).map fun V h=>h.rep,?_,fun W' hW=>h5 W' ((hbl.mono hB).trans hW),Nat.le_trans h6 hbl.size,hre⟩
   rw[hbf];exact AU (fun i u r hu hr=>(h4 i u r hu hr).step K) ((Xd.own hown2 Dc).map fun V h=>h.rep)
 ·obtain⟨l,v,rest,hb,rfl⟩:=Yu hs' hmt
  obtain⟨k,rfl⟩:∃ k,m=p.length+k:=⟨m - p.length,Om⟩
  rw[Nat.add_sub_cancel_left]at hb hre ⊢;obtain⟨u,hu⟩:=Zd (xs:=us) (k:=k) (by rw[h2];exact(List.getElem?_eq_some_iff.1 hb).1);have hl:=hlen _ (List.mem_of_getElem? hb);refine(G6 b k vp split wv u us p s l v rest w (h5 w (Below.refl _ _)) h1 h3.now h2 hu (h4 k u _ hu hb).now hok hpl hb (by simp at hl;omega)).mono ?_;rintro e w' ⟨b',wv',u',rfl,hb',hown,hrow,hbb,hbl⟩;refine⟨b',rfl,YA.loc ?_,hbl⟩;have K:Xl LM B w w':=.Zf hbl;exact⟨wv',us.set k u',hb',by rw[List.length_set,List.length_set];exact h2,(Xd.own hown Dc).map fun V h=>h.rep,AU (fun i u r hu hr=>(h4 i u r hu hr).step K) (((h4 k u _ hu hb).step K).map fun V h=>hrow V h),fun W' hW=>h5 W' ((hbl.mono hB).trans hW),Nat.le_trans h6 hbl.size,hre⟩
def Lv (vp:Value) (p:List (List Ins)) (split:Bool) (B:Nat) (hv:Zi p=true):MK LM B Bf where
 T:=169
 raw:=YA vp p split B
 done:=Yf p
 out:=Yq
 mv:=Ko p split
 af:=QR p split
 key:=fun s=>strOfNums (RT s)
 fD:=231
 fO:=196
 fM:=233
 fA:=230
 fK:=232
 mD:=fun _ _=>by kernel_rfl
 mO:=fun _ _=>by kernel_rfl
 mM:=fun _ _=>by kernel_rfl
 mA:=fun _ _=>by kernel_rfl
 mK:=fun _ _=>by kernel_rfl
 cD:=fun _ _=>by kernel_rfl
 cO:=fun _ _=>by kernel_rfl
 cM:=fun _ _=>by kernel_rfl
 cA:=fun _ _=>by kernel_rfl
 cK:=fun _ _=>by kernel_rfl
 hD:=fun w b s h=>by
  obtain⟨wv,us,h1,h2,h3,h4,h5,h6,h7⟩:=h;exact RV b vp split wv p s w (h5 w (Below.refl _ _)) h1 (YA.Uo h2 h3.now fun i u r hu hr=>(h4 i u r hu hr).now) (ZE.XV (Z9 hv) h7).1 (Z4 hv).1 (fun r hr=>((Z4 hv).2.2.1 r hr).1)
 hO:=fun w b s h=>by
  obtain⟨wv,us,h1,h2,h3,h4,h5,h6,h7⟩:=h;exact AM b vp p s.q w (h5 w (Below.refl _ _)) (ZN.ZX h1) (ZE.XV (Z9 hv) h7).1.q (Z4 hv).1
 hM:=fun w b s h=>by
  obtain⟨wv,us,h1,h2,h3,h4,h5,h6,h7⟩:=h;exact G7 b vp split wv p s w (h5 w (Below.refl _ _)) h1 (YA.Uo h2 h3.now fun i u r hu hr=>(h4 i u r hu hr).now) (ZE.XV (Z9 hv) h7).1 (Z4 hv).1 (fun r hr=>((Z4 hv).2.2.1 r hr).1)
 hK:=fun w b s h=>by
  obtain⟨wv,us,h1,h2,h3,h4,h5,h6,h7⟩:=h;exact Bu b vp split wv p s w h1 (YA.Uo h2 h3.now fun i u r hu hr=>(h4 i u r hu hr).now) (ZE.XV (Z9 hv) h7).1 (Z4 hv).1 (fun r hr=>((Z4 hv).2.2.1 r hr).1) (fun r hr=>Nat.le_trans (JM hv h7 r hr) Dc)
 hA:=fun w b s m hB hl hm=>G0 hv w b s m hB hl.now hm
def G8 (split:Bool) (p:List (List Ins)) (o:List Int):Prop:=Zi p=true∧∃ s,Zx (Zn p split) (Zu p split) s∧Yf p s=true∧Yq s=o
theorem RQ {p:List (List Ins)}{split:Bool}(hv:Zi p=true) (s:Bf):Zx (Zn p split) (QU (Ko p split) (QR p split)) s↔Zx (Zn p split) (Zu p split) s:=
 AS (ok:=ZE p split) (ZE.start p split) (fun _ _ _ h hn=>h.next (Z9 hv) hn) (fun _ _ i=>Uh i) (fun _ _ _ _ h=>Qu h) s
theorem Ea {p:List (List Ins)}{split:Bool}{s:Bf}(h:ZE p split s) (hp:p.length≤3):(Ko p split s).length≤12:=by
 unfold Ko;rw[List.length_append,List.length_map];have h1:=XP (fun t=>Y7 p split s t) p.length;have h2:=XP (fun k=>Xv s k) s.bf.length;have h3:=h.lb;have h4:Yj split≤3:=by cases split <;> simp[Yj]
 have h5:=Nat.mul_le_mul hp h4;omega
theorem RN {p:List (List Ins)}{split:Bool}{s:Bf}(h:ZE p split s):(Yq s).length=p.length * 3+3∧∀ x∈Yq s,0≤x∧x≤3:=by
 refine⟨Ke h.q,fun x hx => ?_⟩;rcases List.mem_append.1 hx with g | g
 ·exact h.q.rg x g
 ·exact h.q.mm x g
theorem G9 (vp:Value) (p:List (List Ins)) (split:Bool) (hv:Zi p=true) (b0 B:Nat) (w:World) (hB:B≤w.heap.size) (hraw:YA vp p split B w b0 (Zn p split)) (hsort : @Jo (p.length * 3+3) 16777216) :
 Calls Tryz.prog 80 #[AE 169 b0] w (Km (p.length * 3+3) (Zn p split) (Ko p split) (QR p split) (Yf p) Yq w):=by
 have hpr:=fun r hr=>((Z4 hv).2.2.1 r hr).1;have hpl:=(Z4 hv).1;have hre:∀ s,Zx (Zn p split) (QU (Ko p split) (QR p split)) s→Zx (Zn p split) (Zu p split) s:=fun s h=>(RQ hv s).1 h;have hok:∀ s,Zx (Zn p split) (QU (Ko p split) (QR p split)) s→ZE p split s:=fun s h=>(ZE.XV (Z9 hv) (hre s h)).1;refine Dz (Lv vp p split B hv) 12 (p.length * 3+3) 16777216 (Yr p) (Zn p split) b0 w hB (YA.loc hraw) (fun s hs => ?_) Dc ?_ (fun s hs m hm => ?_) (fun a b ha hb e => ?_) (fun l hn hl => ?_) Dc (fun s hs => ?_) hsort
 ·exact Ea (hok s hs) hpl
 ·have:=Q6 (split:=split) hv
  omega
 ·show Yr p (QR p split s m) < Yr p s
  obtain⟨s',hs'⟩:=Option.isSome_iff_exists.1 ((Uh m).1 hm);rw[Qu hs'];exact Qd (hok s hs) hs'
 ·exact RU (hok a ha) (hok b hb) hpl (AW (V9 (hok a ha) hpr (JM hv (hre a ha))) (V9 (hok b hb) hpr (JM hv (hre b hb))) e)
 ·have h1:=Ac (out:=Yq) (n:=p.length * 3+3) hn (fun s hs=>RN (hok s (hl s hs).1)) fun a ha b hb e=>Vz (hok a (hl a ha).1) (hok b (hl b hb).1) (hl a ha).2 (hl b hb).2 e
  refine Nat.le_trans h1 ?_;have:4 ^ (p.length * 3+3)≤4 ^ 12:=Nat.pow_le_pow_right Dc Om;exact Nat.le_trans this Dc
 ·exact(RN (hok s hs)).1
theorem YA.start {va:Option Addr}{n vc:Nat}{p:List (List Ins)}{split:Bool}{B:Nat}{w w':World}{b:Nat}{wv:Zt}(hp:Z5 w (.slice va n vc) p) (hB:w.heap.size=B) (hx:ZO w' b (.slice va n vc) split wv (Zn p split)) {base:Nat}(ho:Own Zw 39 w' base wv.v (List.replicate (p.length * Yj split) ⟨none,0,0⟩)) (hb:Below w.heap.size w w'):YA (.slice va n vc) p split B w' b (Zn p split):=by
 subst hB;refine⟨wv,_,hx,by simp[Zn],(Xd.own ho Dc).map fun V h=>h.rep,fun i u r hu hr => ?_,fun W' hW=>hp.below (hb.trans hW),hb.size,.start⟩;unfold Zn at hr;simp only[List.getElem?_replicate]at hu hr;split at hu
 ·rename_i hi
  rw[if_pos hi]at hr;simp at hu hr;subst hu;subst hr;exact⟨Z7.nil _,fun W' _=>Z7.nil _⟩
 ·cases hu
theorem Jj (vp:Value) (p:List (List Ins)) (split:Bool) (w:World) (hp:Z5 w vp p) (hl:p.flatten.length≤1048576) (hsort : @Jo (p.length * 3+3) 16777216) :
 Calls Tryz.prog 82 #[vp,.bool split] w fun e w' => ∃ (cn:Int) (v:Value),e = .returned (.tuple #[v,.int .i64 cn])∧YE (p.length * 3+3) (G8 split p) w (.returned v) w':=by
 obtain⟨va,vc,rfl,hc1,hc2,hc3,hp⟩:=hp.open;have HP:=Za hp;have HV:=Za (fun w' h=>Qq (.slice va p.length vc) p w' h hl);have HS:=Za hsort;clear hp hsort;cases hv:Zi p
 ·have B:=Za hv
  have F:Hid (∀ w1,Below w.heap.size w w1→YE (p.length * 3+3) (G8 split p) w (.returned (.slice none 0 0)) w1):=Za fun w1 hb=>⟨_,[],rfl,.nil _ _,⟨fun o h=>by simp at h,.nil⟩,fun o=>by simp[G8,B.out],hb⟩
  clear hv;generalize p.length=n at *;go_enter Tryz.func82,Tryz.ntmps82;go_wp2_with (go_at_call 34;(with_reducible refine(HV.out _ HP.out).mono ?_);rintro e w1 ⟨rfl,hb1⟩;have B1:=Za hb1;rw[B.out];clear hb1);go_ret2;exact⟨_,_,rfl,F.out _ B1.out⟩
 ·have B:=Za hv
  have hpl:=(Z4 hv).1;have HR:=Za (fun b0 B0 W hB0 hr=>G9 (.slice va p.length vc) p split B.out b0 B0 W hB0 hr HS.out);have HRE:=Za (fun s=>RQ (split:=split) B.out s);have HN:=Za (fun W=>Ui va vc split p W hpl);have HRW:Hid (∀ (b0:Nat) (wv:Zt) (W0 W:World),w.heap.size≤W0.heap.size→ZO W b0 (.slice va p.length vc) split wv (Zn p split)→Own Zw 39 W W0.heap.size wv.v (List.replicate (p.length * Yj split) ⟨none,0,0⟩)→Below w.heap.size w W→YA (.slice va p.length vc) p split w.heap.size W b0 (Zn p split)):=Za fun b0 wv W0 W h0 h h2 hb=>YA.start HP.out rfl h h2 hb;clear hv hpl;generalize hn:p.length=n at *;clear hn;go_enter Tryz.func82,Tryz.ntmps82;go_wp2_with (first
   | (go_at_call 34;(with_reducible refine(HV.out _ HP.out).mono ?_);rintro e w1 ⟨rfl,hb1⟩;have B1:=Za hb1;rw[B.out];clear hb1)
   | (go_at_call 104;(with_reducible refine(HN.out w1).mono ?_);rintro e w2 ⟨b0,wv0,rfl,hx2,ho2,hb2⟩;have X2:=Za hx2;have O2:=Za ho2;have B2:=Za (B1.out.trans (hb2.mono B1.out.size));clear hx2 ho2 hb2)
   | (go_at_call 80;(with_reducible refine(HR.out b0 w.heap.size w2 B2.out.size (HRW.out b0 wv0 w1 w2 B1.out.size X2.out O2.out B2.out)).mono ?_);rintro e w3 ⟨cn,v,l,rfl,ho,hk,hm,hb3⟩;have F:Hid (YE (n * 3+3) (G8 split p) w (.returned v) w3):=Za ⟨v,l,rfl,ho.mono B2.out.size,hk,fun o=>(hm o).trans ⟨fun ⟨s,h1,h2,h3⟩=>⟨B.out,s,(HRE.out s).1 h1,h2,h3⟩,fun ⟨_,s,h1,h2,h3⟩=>⟨s,(HRE.out s).2 h1,h2,h3⟩⟩,B2.out.trans (hb3.mono B2.out.size)⟩;clear ho hk hm hb3))
  go_ret2;exact⟨_,_,rfl,F.out⟩
theorem Bj (vp:Value) (p:List (List Ins)) (w:World) (hp:Z5 w vp p) (hl:p.flatten.length≤1048576) (hsort : @Jo (p.length * 3+3) 16777216) :
 Calls Tryz.prog 50 #[vp] w (YE (p.length * 3+3) (G8 false p) w):=by
 have H:=Za (Jj vp p false w hp hl hsort);clear hp hsort;generalize p.length=n at *;go_enter Tryz.func50,Tryz.ntmps50;go_wp2_with (go_at_call 82;(with_reducible refine H.out.mono ?_);rintro e w1 ⟨cn,v,rfl,h1⟩;have F:=Za h1;clear h1);go_ret;exact F.out
theorem Bi (vp:Value) (p:List (List Ins)) (w:World) (hp:Z5 w vp p) (hl:p.flatten.length≤1048576) (hsort : @Jo (p.length * 3+3) 16777216) :
 Calls Tryz.prog 51 #[vp] w (YE (p.length * 3+3) (G8 true p) w):=by
 have H:=Za (Jj vp p true w hp hl hsort);clear hp hsort;generalize p.length=n at *;go_enter Tryz.func51,Tryz.ntmps51;go_wp2_with (go_at_call 82;(with_reducible refine H.out.mono ?_);rintro e w1 ⟨cn,v,rfl,h1⟩;have F:=Za h1;clear h1);go_ret;exact F.out
theorem Yz.rep {w:World}{base:Nat}{v:Value}{l:List (List Int)}(h:Yz w base v l):KA w v l:=by
 obtain⟨us,h1,h2,h3⟩:=h;exact⟨us,h1,h2.rep,fun i u r hu hr=>(h3 i u r hu hr).rep⟩
theorem Fg {a b:List (List Int)}:Ut a b=true↔∀ o∈a,o∈b:=by
 simp[Ut,JD]
def Ld (split:Bool):ByteArray:=if split then ⟨#[112,115,111]⟩ else ⟨#[116,115,111]⟩
theorem YQ (split:Bool) (vp:Value) (p:List (List Ins)) (w:World) (hp:Z5 w vp p) (hl:p.flatten.length≤1048576) :
 Calls Tryz.prog 22 #[vp,.string (Ld split)] w (YE (p.length * 3+3) (G8 split p) w):=by
 have HT:=Za (Bj vp p w hp hl (XX _ _ Dc));have HP:=Za (Bi vp p w hp hl (XX _ _ Dc));clear hp hl;generalize p.length * 3+3=n at *;cases split
 ·show Calls Tryz.prog 22 #[vp,.string ⟨#[116,115,111]⟩] w _
  have n0:((⟨#[116,115,111]⟩:ByteArray).toList==[115,101,113])=false:=Kr;have n1:((⟨#[116,115,111]⟩:ByteArray).toList==[116,115,111])=true:=Kr;go_enter Tryz.func22,Tryz.ntmps22;go_wp2_with (go_at_call 50;(with_reducible refine HT.out.mono ?_);rintro e w1 ⟨v,l,rfl,h1,h2,h3,h4⟩;have F:Hid (YE n (G8 false p) w (.returned v) w1):=Za ⟨v,l,rfl,h1,h2,h3,h4⟩;clear h1 h2 h3 h4);go_ret;exact F.out
 ·show Calls Tryz.prog 22 #[vp,.string ⟨#[112,115,111]⟩] w _
  have n0:((⟨#[112,115,111]⟩:ByteArray).toList==[115,101,113])=false:=Kr;have n1:((⟨#[112,115,111]⟩:ByteArray).toList==[116,115,111])=false:=Kr;have n2:((⟨#[112,115,111]⟩:ByteArray).toList==[112,115,111])=true:=Kr;go_enter Tryz.func22,Tryz.ntmps22;go_wp2_with (go_at_call 51;(with_reducible refine HP.out.mono ?_);rintro e w1 ⟨v,l,rfl,h1,h2,h3,h4⟩;have F:Hid (YE n (G8 true p) w (.returned v) w1):=Za ⟨v,l,rfl,h1,h2,h3,h4⟩;clear h1 h2 h3 h4);go_ret;exact F.out
end Go.Proofs.YtngekjpklkjnbaaGreat
/-
  RobustProgram at a machine with store buffers. Condition: a bound on the number of instructions.
-/
import Derived.Test.YtngekjpklkjnbaaGreatZp18
import Derived.Test.YtngekjpklkjnbaaGreatZp20
import Derived.Test.YtngekjpklkjnbaaGreatZp21
import Derived.Test.YtngekjpklkjnbaaGreatZp19
import Derived.Test.YtngekjpklkjnbaaGreatZp13
set_option maxHeartbeats 6400000
set_option maxRecDepth 100000
namespace Go.Proofs.YtngekjpklkjnbaaGreat
open Go.RowKit
theorem Au (b t:Nat) (vp:Value) (split:Bool) (wv:Zs) (us:List Zs) (p:List (List Ins)) (s s':Bf) (i:Ins) (w:World) (hp:Z9 w vp p) (hx:Yc w b vp split wv s) (hus:ZC Z2 w wv.v us) (hul:us.length=s.bf.length)
 (hrows:∀ (k:Nat) (u:Zs) (r:List (Int × Int)),us[k]? = some u→s.bf[k]? = some r→ZC Zu w u.v (ZA r)) (hok:ZT p split s) (hlen:∀ r∈s.bf,r.length≤42) (hpl:p.length≤3) (hpr:∀ r∈p,r.length≤7) (ht:t < p.length) (hi:ZW p s.q t=some i) (hv:Zi i=true) (hd:Qa s split t (s.q.pc.getD t 0) i=some s') :
 Calls Tryz.prog 230 #[.pointer (some ⟨b,0,none⟩),.int .i64 (t:Int)] w (AG w vp split s s' us):=by
 rcases OL hv with h | h | h | h | h
 ·exact GQ b t vp split wv us p s s' i w hp hx hus hul hrows hok hlen hpl hpr ht hi hv h hd
 ·exact GR b t vp split wv us p s s' i w hp hx hus hul hrows hok hlen hpl hpr ht hi hv h hd
 ·exact GU b t vp split wv us p s s' i w hp hx hus hul hrows hok hlen hpl hpr ht hi hv h hd
 ·exact GV b t vp split wv us p s s' i w hp hx hus hul hrows hok hlen hpl hpr ht hi hv h hd
 ·exact GW b t vp split wv us p s s' i w hp hx hus hul hrows hok hlen hpl hpr ht hi hv h hd
def Xb (vp:Value) (p:List (List Ins)) (split:Bool) (B:Nat) (W:World) (b:Nat) (s:Bf):Prop:=
 ∃ (wv:Zs) (us:List Zs),Yc W b vp split wv s∧us.length=s.bf.length∧XM LM B W (fun V=>ZC Z2 V wv.v us) ∧
  (∀ (i:Nat) (u:Zs) (r:List (Int × Int)),us[i]? = some u→s.bf[i]? = some r→XM LM B W (fun V=>ZC Zu V u.v (ZA r))) ∧
  (∀ W',Below B W W'→Z9 W' vp p)∧B≤W.heap.size∧Zt (Zr p split) (Zy p split) s
theorem Xb.loc {vp:Value}{p:List (List Ins)}{split:Bool}{B:Nat}{w:World}{b:Nat}{s:Bf}(h:Xb vp p split B w b s):XM LM B w (fun W=>Xb vp p split B W b s):=by
 refine⟨h,fun w' k => ?_⟩;obtain⟨wv,us,h1,h2,h3,h4,h5,h6,h7⟩:=h;exact⟨wv,us,k.block b _ _ _ h1 Dc,h2,h3.step k,fun i u r hu hr=>(h4 i u r hu hr).step k,fun W' hW=>h5 W' ((k.below h6).trans hW),Nat.le_trans h6 k.size,h7⟩
theorem Xb.Ug {w:World}{wv:Zs}{us:List Zs}{s:Bf}(h2:us.length=s.bf.length) (h3:ZC Z2 w wv.v us) (h4:∀ (i:Nat) (u:Zs) (r:List (Int × Int)),us[i]? = some u→s.bf[i]? = some r→ZC Zu w u.v (ZA r)):GC w wv s:=
 ⟨us,by rw[List.length_map];exact h2,h3,fun i u r hu hr=>by
  rw[List.getElem?_map]at hr;obtain⟨r0,h,rfl⟩:=Option.map_eq_some_iff.1 hr;exact h4 i u r0 hu h⟩
theorem EH {w:World}{B k:Nat}{us:List Zs}{rs:List (List (Int × Int))}{u':Zs}{r':List (Int × Int)}(h4:∀ (i:Nat) (u:Zs) (r:List (Int × Int)),us[i]? = some u→rs[i]? = some r→XM LM B w (fun V=>ZC Zu V u.v (ZA r)))
 (hn:XM LM B w (fun V=>ZC Zu V u'.v (ZA r'))):∀ (i:Nat) (u:Zs) (r:List (Int × Int)),(us.set k u')[i]? = some u→(rs.set k r')[i]? = some r→XM LM B w (fun V=>ZC Zu V u.v (ZA r)):=by
 intro i u r hu hr;rw[List.getElem?_set]at hu hr;by_cases e:k=i
 ·subst e
  rw[if_pos rfl]at hu hr;split at hu
  ·split at hr
   ·simp only[Option.some.injEq]at hu hr
    subst hu;subst hr;exact hn
   ·cases hr
  ·cases hu
 ·rw[if_neg e]at hu hr
  exact h4 i u r hu hr
theorem MG {p:List (List Ins)}{s:Sq}{t:Nat}{r:List Ins}{k:Int}{x:Ins}(hr:p[t]? = some r) (hk:s.pc[t]? = some k) (hx:r[k.toNat]? = some x):ZW p s t=some x:=by
 unfold ZW;rw[hr,hk];simp only[Option.bind_some];exact hx
theorem BR {vp:Value}{p:List (List Ins)}{split:Bool}{B:Nat}(hv:Zg p=true) (w:World) (b:Nat) (s:Bf) (m:Nat) (hB:B≤w.heap.size) (h:Xb vp p split B w b s) (hm:m∈Uo p split s) :
 Calls Tryz.prog 230 #[.pointer (some ⟨b,0,none⟩),.int .i64 (m:Int)] w fun e w' => ∃ b',e = .returned (AZ 169 b')∧XM LM B w' (fun W=>Xb vp p split B W b' (Ki p split s m))∧Below w.heap.size w w':=by
 obtain⟨wv,us,h1,h2,h3,h4,h5,h6,h7⟩:=h;have hok:=(ZT.QV (ZB hv) h7).1;have hlen:=VQ hv h7;have hpl:=(Zv hv).1;have hpr:=fun r hr=>((Zv hv).2.2.1 r hr).1;obtain⟨s',hs'⟩:=Option.isSome_iff_exists.1 ((RQ m).1 hm);rw[JD hs'];have hre:Zt (Zr p split) (Zy p split) s':=.step h7 hs';by_cases hmt:m < p.length
 ·obtain⟨r,k,x,hr,hk,hx,hd⟩:=YD hs' hmt
  have hv2:=ZB hv r (List.mem_of_getElem? hr) x (List.mem_of_getElem? hx);have hkd:s.q.pc.getD m 0=k:=by rw[List.getD_eq_getElem?_getD,hk];rfl
  refine(Au b m vp split wv us p s s' x w (h5 w (Below.refl _ _)) h1 h3.now h2 (fun i u r hu hr=>(h4 i u r hu hr).now) hok hlen hpl hpr hmt (MG hr hk hx) hv2 (by rw[hkd];exact hd)).mono ?_;rintro e w' ⟨b',wv',rfl,hb,hbb,hbl,hcase⟩;refine⟨b',rfl,Xb.loc ?_,hbl⟩;have K:Qc LM B w w':=.Zf hbl;rcases hcase with⟨hbf,hown⟩ | ⟨k2,r2,u2,hbf,hown,hown2⟩
  ·exact⟨wv',us,hb,by rw[hbf];exact h2,(XM.own hown Dc).map fun V h=>h.rep,fun i u r hu hr=>((h4 i u r hu (by rw[← hbf];exact hr)).step K),fun W' hW=>h5 W' ((hbl.mono hB).trans hW),Nat.le_trans h6 hbl.size,hre⟩
  ·refine⟨wv',us.set k2 u2,hb,by rw[hbf,List.length_set,List.length_set];exact h2,(XM.own hown Dc).map fun V h=>h.rep,?_,fun W' hW=>h5 W' ((hbl.mono hB).trans hW),Nat.le_trans h6 hbl.size,hre⟩
   rw[hbf];exact EH (fun i u r hu hr=>(h4 i u r hu hr).step K) ((XM.own hown2 Dc).map fun V h=>h.rep)
 ·obtain⟨l,v,rest,hb,rfl⟩:=Y9 hs' hmt
  obtain⟨k,rfl⟩:∃ k,m=p.length+k:=⟨m - p.length,Om⟩
  rw[Nat.add_sub_cancel_left]at hb hre ⊢;obtain⟨u,hu⟩:=Zd (xs:=us) (k:=k) (by rw[h2];exact(List.getElem?_eq_some_iff.1 hb).1);have hl:=hlen _ (List.mem_of_getElem? hb);refine(BS b k vp split wv u us p s l v rest w (h5 w (Below.refl _ _)) h1 h3.now h2 hu (h4 k u _ hu hb).now hok hpl hb (by simp at hl;omega)).mono ?_;rintro e w' ⟨b',wv',u',rfl,hb',hown,hrow,hbb,hbl⟩;refine⟨b',rfl,Xb.loc ?_,hbl⟩;have K:Qc LM B w w':=.Zf hbl;exact⟨wv',us.set k u',hb',by rw[List.length_set,List.length_set];exact h2,(XM.own hown Dc).map fun V h=>h.rep,EH (fun i u r hu hr=>(h4 i u r hu hr).step K) (((h4 k u _ hu hb).step K).map fun V h=>hrow V h),fun W' hW=>h5 W' ((hbl.mono hB).trans hW),Nat.le_trans h6 hbl.size,hre⟩
def Sl (vp:Value) (p:List (List Ins)) (split:Bool) (B:Nat) (hv:Zg p=true):MK LM B Bf where
 T:=169
 raw:=Xb vp p split B
 done:=Y3 p
 out:=YA
 mv:=Uo p split
 af:=Ki p split
 key:=fun s=>strOfNums (Dz s)
 fD:=231
 fO:=196
 fM:=233
 fA:=230
 fK:=232
 mD:=fun _ _=>by kernel_rfl
 mO:=fun _ _=>by kernel_rfl
 mM:=fun _ _=>by kernel_rfl
 mA:=fun _ _=>by kernel_rfl
 mK:=fun _ _=>by kernel_rfl
 cD:=fun _ _=>by kernel_rfl
 cO:=fun _ _=>by kernel_rfl
 cM:=fun _ _=>by kernel_rfl
 cA:=fun _ _=>by kernel_rfl
 cK:=fun _ _=>by kernel_rfl
 hD:=fun w b s h=>by
  obtain⟨wv,us,h1,h2,h3,h4,h5,h6,h7⟩:=h;exact DB b vp split wv p s w (h5 w (Below.refl _ _)) h1 (Xb.Ug h2 h3.now fun i u r hu hr=>(h4 i u r hu hr).now) (ZT.QV (ZB hv) h7).1 (Zv hv).1 (fun r hr=>((Zv hv).2.2.1 r hr).1)
 hO:=fun w b s h=>by
  obtain⟨wv,us,h1,h2,h3,h4,h5,h6,h7⟩:=h;exact UZ b vp p s.q w (h5 w (Below.refl _ _)) (ZD.Yp h1) (ZT.QV (ZB hv) h7).1.q (Zv hv).1
 hM:=fun w b s h=>by
  obtain⟨wv,us,h1,h2,h3,h4,h5,h6,h7⟩:=h;exact BU b vp split wv p s w (h5 w (Below.refl _ _)) h1 (Xb.Ug h2 h3.now fun i u r hu hr=>(h4 i u r hu hr).now) (ZT.QV (ZB hv) h7).1 (Zv hv).1 (fun r hr=>((Zv hv).2.2.1 r hr).1)
 hK:=fun w b s h=>by
  obtain⟨wv,us,h1,h2,h3,h4,h5,h6,h7⟩:=h;exact Fu b vp split wv p s w h1 (Xb.Ug h2 h3.now fun i u r hu hr=>(h4 i u r hu hr).now) (ZT.QV (ZB hv) h7).1 (Zv hv).1 (fun r hr=>((Zv hv).2.2.1 r hr).1) (fun r hr=>Nat.le_trans (VQ hv h7 r hr) Dc)
 hA:=fun w b s m hB hl hm=>BR hv w b s m hB hl.now hm
def GP (split:Bool) (p:List (List Ins)) (o:List Int):Prop:=Zg p=true∧∃ s,Zt (Zr p split) (Zy p split) s∧Y3 p s=true∧YA s=o
theorem Dy {p:List (List Ins)}{split:Bool}(hv:Zg p=true) (s:Bf):Zt (Zr p split) (Kf (Uo p split) (Ki p split)) s↔Zt (Zr p split) (Zy p split) s:=
 Ae (ok:=ZT p split) (ZT.start p split) (fun _ _ _ h hn=>h.next (ZB hv) hn) (fun _ _ i=>RQ i) (fun _ _ _ _ h=>JD h) s
theorem L6 {p:List (List Ins)}{split:Bool}{s:Bf}(h:ZT p split s) (hp:p.length≤3):(Uo p split s).length≤12:=by
 unfold Uo;rw[List.length_append,List.length_map];have h1:=QO (fun t=>YW p split s t) p.length;have h2:=QO (fun k=>Qq s k) s.bf.length;have h3:=h.lb;have h4:Yw split≤3:=by cases split <;> simp[Yw]
 have h5:=Nat.mul_le_mul hp h4;omega
theorem Dw {p:List (List Ins)}{split:Bool}{s:Bf}(h:ZT p split s):(YA s).length=p.length * 3+3∧∀ x∈YA s,0≤x∧x≤3:=by
 refine⟨XX h.q,fun x hx => ?_⟩;rcases List.mem_append.1 hx with g | g
 ·exact h.q.rg x g
 ·exact h.q.mm x g
theorem BX (vp:Value) (p:List (List Ins)) (split:Bool) (hv:Zg p=true) (b0 B:Nat) (w:World) (hB:B≤w.heap.size) (hraw:Xb vp p split B w b0 (Zr p split)) (hsort : @Ji (p.length * 3+3) 16777216) :
 Calls Tryz.prog 80 #[AZ 169 b0] w (KF (p.length * 3+3) (Zr p split) (Uo p split) (Ki p split) (Y3 p) YA w):=by
 have hpr:=fun r hr=>((Zv hv).2.2.1 r hr).1;have hpl:=(Zv hv).1;have hre:∀ s,Zt (Zr p split) (Kf (Uo p split) (Ki p split)) s→Zt (Zr p split) (Zy p split) s:=fun s h=>(Dy hv s).1 h;have hok:∀ s,Zt (Zr p split) (Kf (Uo p split) (Ki p split)) s→ZT p split s:=fun s h=>(ZT.QV (ZB hv) (hre s h)).1;refine Bi (Sl vp p split B hv) 12 (p.length * 3+3) 16777216 (Y8 p) (Zr p split) b0 w hB (Xb.loc hraw) (fun s hs => ?_) Dc ?_ (fun s hs m hm => ?_) (fun a b ha hb e => ?_) (fun l hn hl => ?_) Dc (fun s hs => ?_) hsort
 ·exact L6 (hok s hs) hpl
 ·have:=JP (split:=split) hv
  omega
 ·show Y8 p (Ki p split s m) < Y8 p s
  obtain⟨s',hs'⟩:=Option.isSome_iff_exists.1 ((RQ m).1 hm);rw[JD hs'];exact Jk (hok s hs) hs'
 ·exact DA (hok a ha) (hok b hb) hpl (Gd (GO (hok a ha) hpr (VQ hv (hre a ha))) (GO (hok b hb) hpr (VQ hv (hre b hb))) e)
 ·have h1:=Re (out:=YA) (n:=p.length * 3+3) hn (fun s hs=>Dw (hok s (hl s hs).1)) fun a ha b hb e=>GN (hok a (hl a ha).1) (hok b (hl b hb).1) (hl a ha).2 (hl b hb).2 e
  refine Nat.le_trans h1 ?_;have:4 ^ (p.length * 3+3)≤4 ^ 12:=Nat.pow_le_pow_right Dc Om;exact Nat.le_trans this Dc
 ·exact(Dw (hok s hs)).1
theorem Xb.start {va:Option Addr}{n vc:Nat}{p:List (List Ins)}{split:Bool}{B:Nat}{w w':World}{b:Nat}{wv:Zs}(hp:Z9 w (.slice va n vc) p) (hB:w.heap.size=B) (hx:Yc w' b (.slice va n vc) split wv (Zr p split)) {base:Nat}(ho:Own Z2 39 w' base wv.v (List.replicate (p.length * Yw split) ⟨none,0,0⟩)) (hb:Below w.heap.size w w'):Xb (.slice va n vc) p split B w' b (Zr p split):=by
 subst hB;refine⟨wv,_,hx,by simp[Zr],(XM.own ho Dc).map fun V h=>h.rep,fun i u r hu hr => ?_,fun W' hW=>hp.below (hb.trans hW),hb.size,.start⟩;unfold Zr at hr;simp only[List.getElem?_replicate]at hu hr;split at hu
 ·rename_i hi
  rw[if_pos hi]at hr;simp at hu hr;subst hu;subst hr;exact⟨ZC.nil _,fun W' _=>ZC.nil _⟩
 ·cases hu
theorem K7 (vp:Value) (p:List (List Ins)) (split:Bool) (w:World) (hp:Z9 w vp p) (hl:p.flatten.length≤1048576) (hsort : @Ji (p.length * 3+3) 16777216) :
 Calls Tryz.prog 82 #[vp,.bool split] w fun e w' => ∃ (cn:Int) (v:Value),e = .returned (.tuple #[v,.int .i64 cn])∧Xg (p.length * 3+3) (GP split p) w (.returned v) w':=by
 obtain⟨va,vc,rfl,hc1,hc2,hc3,hp⟩:=hp.open;have HP:=Za hp;have HV:=Za (fun w' h=>Yz (.slice va p.length vc) p w' h hl);have HS:=Za hsort;clear hp hsort;cases hv:Zg p
 ·have B:=Za hv
  have F:Hid (∀ w1,Below w.heap.size w w1→Xg (p.length * 3+3) (GP split p) w (.returned (.slice none 0 0)) w1):=Za fun w1 hb=>⟨_,[],rfl,.nil _ _,⟨fun o h=>by simp at h,.nil⟩,fun o=>by simp[GP,B.out],hb⟩
  clear hv;generalize p.length=n at *;go_enter Tryz.func82,Tryz.ntmps82;go_wp2_with (go_at_call 34;(with_reducible refine(HV.out _ HP.out).mono ?_);rintro e w1 ⟨rfl,hb1⟩;have B1:=Za hb1;rw[B.out];clear hb1);go_ret2;exact⟨_,_,rfl,F.out _ B1.out⟩
 ·have B:=Za hv
  have hpl:=(Zv hv).1;have HR:=Za (fun b0 B0 W hB0 hr=>BX (.slice va p.length vc) p split B.out b0 B0 W hB0 hr HS.out);have HRE:=Za (fun s=>Dy (split:=split) B.out s);have HN:=Za (fun W=>RT va vc split p W hpl);have HRW:Hid (∀ (b0:Nat) (wv:Zs) (W0 W:World),w.heap.size≤W0.heap.size→Yc W b0 (.slice va p.length vc) split wv (Zr p split)→Own Z2 39 W W0.heap.size wv.v (List.replicate (p.length * Yw split) ⟨none,0,0⟩)→Below w.heap.size w W→Xb (.slice va p.length vc) p split w.heap.size W b0 (Zr p split)):=Za fun b0 wv W0 W h0 h h2 hb=>Xb.start HP.out rfl h h2 hb;clear hv hpl;generalize hn:p.length=n at *;clear hn;go_enter Tryz.func82,Tryz.ntmps82;go_wp2_with (first
   | (go_at_call 34;(with_reducible refine(HV.out _ HP.out).mono ?_);rintro e w1 ⟨rfl,hb1⟩;have B1:=Za hb1;rw[B.out];clear hb1)
   | (go_at_call 104;(with_reducible refine(HN.out w1).mono ?_);rintro e w2 ⟨b0,wv0,rfl,hx2,ho2,hb2⟩;have X2:=Za hx2;have O2:=Za ho2;have B2:=Za (B1.out.trans (hb2.mono B1.out.size));clear hx2 ho2 hb2)
   | (go_at_call 80;(with_reducible refine(HR.out b0 w.heap.size w2 B2.out.size (HRW.out b0 wv0 w1 w2 B1.out.size X2.out O2.out B2.out)).mono ?_);rintro e w3 ⟨cn,v,l,rfl,ho,hk,hm,hb3⟩;have F:Hid (Xg (n * 3+3) (GP split p) w (.returned v) w3):=Za ⟨v,l,rfl,ho.mono B2.out.size,hk,fun o=>(hm o).trans ⟨fun ⟨s,h1,h2,h3⟩=>⟨B.out,s,(HRE.out s).1 h1,h2,h3⟩,fun ⟨_,s,h1,h2,h3⟩=>⟨s,(HRE.out s).2 h1,h2,h3⟩⟩,B2.out.trans (hb3.mono B2.out.size)⟩;clear ho hk hm hb3))
  go_ret2;exact⟨_,_,rfl,F.out⟩
theorem Fi (vp:Value) (p:List (List Ins)) (w:World) (hp:Z9 w vp p) (hl:p.flatten.length≤1048576) (hsort : @Ji (p.length * 3+3) 16777216) :
 Calls Tryz.prog 50 #[vp] w (Xg (p.length * 3+3) (GP false p) w):=by
 have H:=Za (K7 vp p false w hp hl hsort);clear hp hsort;generalize p.length=n at *;go_enter Tryz.func50,Tryz.ntmps50;go_wp2_with (go_at_call 82;(with_reducible refine H.out.mono ?_);rintro e w1 ⟨cn,v,rfl,h1⟩;have F:=Za h1;clear h1);go_ret;exact F.out
theorem Fg (vp:Value) (p:List (List Ins)) (w:World) (hp:Z9 w vp p) (hl:p.flatten.length≤1048576) (hsort : @Ji (p.length * 3+3) 16777216) :
 Calls Tryz.prog 51 #[vp] w (Xg (p.length * 3+3) (GP true p) w):=by
 have H:=Za (K7 vp p true w hp hl hsort);clear hp hsort;generalize p.length=n at *;go_enter Tryz.func51,Tryz.ntmps51;go_wp2_with (go_at_call 82;(with_reducible refine H.out.mono ?_);rintro e w1 ⟨cn,v,rfl,h1⟩;have F:=Za h1;clear h1);go_ret;exact F.out
theorem YH.rep {w:World}{base:Nat}{v:Value}{l:List (List Int)}(h:YH w base v l):UE w v l:=by
 obtain⟨us,h1,h2,h3⟩:=h;exact⟨us,h1,h2.rep,fun i u r hu hr=>(h3 i u r hu hr).rep⟩
theorem MQ {a b:List (List Int)}:Gs a b=true↔∀ o∈a,o∈b:=by
 simp[Gs,KY]
def Hw (split:Bool):ByteArray:=if split then ⟨#[112,115,111]⟩ else ⟨#[116,115,111]⟩
theorem A6 (split:Bool) (w:World):Calls Tryz.prog 58 #[.string (Hw split)] w fun e w'=>e = .returned (.bool true)∧w=w':=by
 cases split
 ·show Calls Tryz.prog 58 #[.string ⟨#[116,115,111]⟩] w _
  have n0:((⟨#[116,115,111]⟩:ByteArray).toList==[115,101,113])=false:=Kr;have n1:((⟨#[116,115,111]⟩:ByteArray).toList==[116,115,111])=true:=Kr;go_enter Tryz.func58,Tryz.ntmps58;go_wp2_with fail;go_ret;exact⟨rfl,rfl⟩
 ·show Calls Tryz.prog 58 #[.string ⟨#[112,115,111]⟩] w _
  have n0:((⟨#[112,115,111]⟩:ByteArray).toList==[115,101,113])=false:=Kr;have n1:((⟨#[112,115,111]⟩:ByteArray).toList==[116,115,111])=false:=Kr;have n2:((⟨#[112,115,111]⟩:ByteArray).toList==[112,115,111])=true:=Kr;go_enter Tryz.func58,Tryz.ntmps58;go_wp2_with fail;go_ret;exact⟨rfl,rfl⟩
theorem KT (split:Bool) (vp:Value) (p:List (List Ins)) (w:World) (hp:Z9 w vp p) (hl:p.flatten.length≤1048576) :
 Calls Tryz.prog 22 #[vp,.string (Hw split)] w (Xg (p.length * 3+3) (GP split p) w):=by
 have HT:=Za (Fi vp p w hp hl (XE _ _ Dc));have HP:=Za (Fg vp p w hp hl (XE _ _ Dc));clear hp hl;generalize p.length * 3+3=n at *;cases split
 ·show Calls Tryz.prog 22 #[vp,.string ⟨#[116,115,111]⟩] w _
  have n0:((⟨#[116,115,111]⟩:ByteArray).toList==[115,101,113])=false:=Kr;have n1:((⟨#[116,115,111]⟩:ByteArray).toList==[116,115,111])=true:=Kr;go_enter Tryz.func22,Tryz.ntmps22;go_wp2_with (go_at_call 50;(with_reducible refine HT.out.mono ?_);rintro e w1 ⟨v,l,rfl,h1,h2,h3,h4⟩;have F:Hid (Xg n (GP false p) w (.returned v) w1):=Za ⟨v,l,rfl,h1,h2,h3,h4⟩;clear h1 h2 h3 h4);go_ret;exact F.out
 ·show Calls Tryz.prog 22 #[vp,.string ⟨#[112,115,111]⟩] w _
  have n0:((⟨#[112,115,111]⟩:ByteArray).toList==[115,101,113])=false:=Kr;have n1:((⟨#[112,115,111]⟩:ByteArray).toList==[116,115,111])=false:=Kr;have n2:((⟨#[112,115,111]⟩:ByteArray).toList==[112,115,111])=true:=Kr;go_enter Tryz.func22,Tryz.ntmps22;go_wp2_with (go_at_call 51;(with_reducible refine HP.out.mono ?_);rintro e w1 ⟨v,l,rfl,h1,h2,h3,h4⟩;have F:Hid (Xg n (GP true p) w (.returned v) w1):=Za ⟨v,l,rfl,h1,h2,h3,h4⟩;clear h1 h2 h3 h4);go_ret;exact F.out
def VO (split:Bool) (p:List (List Ins)) (w:World) (e:Ending) (w':World):Prop:=∃ b:Bool,e = .returned (.bool b)∧(b=true↔Zg p=true∧∀ o,GP split p o→IX p o)∧Below w.heap.size w w'
theorem Jh (split:Bool) (vp:Value) (p:List (List Ins)) (w:World) (hp:Z9 w vp p) (hl:p.flatten.length≤1048576) :
 Calls Tryz.prog 26 #[vp,.string (Hw split)] w (VO split p w):=by
 have HPV:=Za (Yz vp p w hp hl);have HIM:=Za (fun W=>A6 split W);have HMO:=Za (fun W hW=>KT split vp p W hW hl);have HSQ:=Za (fun W hW=>Fh vp p W hW hl (XE _ _ Dc));have HP:=Za hp;clear hp hl;generalize Hw split=nm at *;generalize p.length * 3+3=n at *;cases hv:Zg p
 ·have F:Hid (∀ w1,Below w.heap.size w w1→VO split p w (.returned (.bool false)) w1):=Za fun w1 hb=>⟨_,rfl,by simp[hv],hb⟩
  go_enter Tryz.func26,Tryz.ntmps26;go_wp2_with (go_at_call 34;(with_reducible refine HPV.out.mono ?_);rintro e w1 ⟨rfl,hb1⟩;have B1:=Za hb1;rw[hv];clear hb1);go_ret;exact F.out _ B1.out
 ·have F:Hid (∀ w1 (la lb:List (List Int)),(∀ o,o∈la↔GP split p o)→(∀ o,o∈lb↔IX p o)→Below w.heap.size w w1→VO split p w (.returned (.bool (Gs la lb))) w1):=Za fun w1 la lb ha hb h=>⟨_,rfl,by
   rw[MQ,hv];simp only[ha,hb,true_and],h⟩
  go_enter Tryz.func26,Tryz.ntmps26;go_wp2_with (first
   | (go_at_call 34;(with_reducible refine HPV.out.mono ?_);rintro e w1 ⟨rfl,hb1⟩;have B1:=Za hb1;rw[hv];clear hb1)
   | (go_at_call 58;(with_reducible refine(HIM.out _).mono ?_);rintro e w2 ⟨rfl,rfl⟩)
   | (go_at_call 22;(with_reducible refine(HMO.out w1 (HP.out.below B1.out)).mono ?_);rintro e w3 ⟨va,la,rfl,ha,hka,hma,hb3⟩;have A3:=Za ha;have M3:=Za hma;have B3:=Za (B1.out.trans (hb3.mono B1.out.size));clear ha hka hma hb3)
   | (go_at_call 49;(with_reducible refine(HSQ.out w3 (HP.out.below B3.out)).mono ?_);rintro e w4 ⟨vb,lb,rfl,hb,hkb,hmb,hb4⟩;have A4:=Za hb;have A5:=Za (A3.out.below hb4);have M4:=Za hmb;have B4:=Za (B3.out.trans (hb4.mono B3.out.size));clear hb hkb hmb hb4)
   | (go_at_call 38;(with_reducible refine(Ce va vb la lb w4 A5.out.rep A4.out.rep).mono ?_);rintro e w5 ⟨rfl,hb5⟩;have G:=Za (F.out w5 la lb M3.out M4.out (B4.out.trans (hb5.mono B4.out.size)));clear hb5))
  go_ret;exact G.out
end Go.Proofs.YtngekjpklkjnbaaGreat
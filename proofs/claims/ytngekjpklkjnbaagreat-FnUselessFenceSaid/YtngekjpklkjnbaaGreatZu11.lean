/-
  Bytes made out of a text, which grow: the row's end is marked, none of its cells is. No condition but bounds.
-/
import Derived.Test.YtngekjpklkjnbaaGreatZu09
import Derived.Lib.ConvBytes
set_option maxHeartbeats 6400000
set_option maxRecDepth 100000
namespace Go.Proofs.YtngekjpklkjnbaaGreat
open Go.RowKit
abbrev Z1 (r:List (Int × Int)):List Int:=r.map fun e=>e.1 * 16+e.2
abbrev ZO (w:World) (b:Nat) (vp:Value) (split:Bool) (wv:Zt) (s:Bf):Prop:=w.heap[b]? = some (.cells (ZY vp s.q ++ #[.bool split,.slice wv.a wv.n wv.cap]) 172 (0,0))
abbrev Vr (w:World) (wv:Zt) (s:Bf):Prop:=Yv Zr w wv.v (s.bf.map Z1)
theorem ZO.split {w:World}{b:Nat}{vp:Value}{split:Bool}{wv:Zt}{s:Bf}(h:ZO w b vp split wv s):w.cell? ⟨b,16,none⟩=some (.bool split):=Zc h (k:=16) rfl
theorem ZO.waits {w:World}{b:Nat}{vp:Value}{split:Bool}{wv:Zt}{s:Bf}(h:ZO w b vp split wv s):w.cell? ⟨b,17,none⟩=some (.slice wv.a wv.n wv.cap):=Zc h (k:=17) rfl
theorem ZO.lt {w:World}{b:Nat}{vp:Value}{split:Bool}{wv:Zt}{s:Bf}(h:ZO w b vp split wv s):b < w.heap.size:=(Array.getElem?_eq_some_iff.1 h).1
theorem ZO.below {w w':World}{b:Nat}{vp:Value}{split:Bool}{wv:Zt}{s:Bf}(h:ZO w b vp split wv s) (hb:Below w.heap.size w w'):ZO w' b vp split wv s:=(hb.block b h.lt).trans h
theorem Q8 (b t loc:Nat) (split:Bool) (w:World) (h16:w.cell? ⟨b,16,none⟩=some (.bool split)) (ht:t≤2) (hl:loc≤2) :
 Calls Tryz.prog 236 #[.pointer (some ⟨b,0,none⟩),.int .i64 (t:Int),.int .i64 (loc:Int)] w fun e w'=>e = .returned (.int .i64 ((Zj t loc split:Nat):Int))∧w=w':=by
 have bl:=Zb h16;cases split
 ·go_enter Tryz.func236,Tryz.ntmps236
  go_wp2_with fail;go_ret;exact⟨rfl,rfl⟩
 ·have E:Zj t loc true=t * 3+loc:=by simp[Zj]
  have HE:=Za E;clear E;go_enter Tryz.func236,Tryz.ntmps236;go_wp2_with fail;go_ret;rw[HE.out];exact⟨congrArg Ending.returned (congrArg (Value.int .i64) Om),rfl⟩
theorem Jy (s:Bf) (t:Nat) (split:Bool):ZZ s t split=(List.range 3).all fun i=>(s.bf.getD (Zj t i split) []).isEmpty:=by
 cases split
 ·simp[ZZ,Yj,Zj,List.range_succ]
 ·simp[ZZ,Yj,Zj,List.range_succ]
theorem Xi {p:List (List Ins)}{split:Bool}{t i:Nat}(ht:t < p.length) (hi:i < 3):Zj t i split < p.length * Yj split:=by
 have:=EE (p:=p) (split:=split) (loc:=(i:Int)) ht Om Om;exact this
theorem As (b t:Nat) (vp:Value) (split:Bool) (wv:Zt) (p:List (List Ins)) (s:Bf) (w:World) (hx:ZO w b vp split wv s) (hw:Vr w wv s) (hok:ZE p split s) (ht:t < p.length) (hpl:p.length≤3) :
 Calls Tryz.prog 240 #[.pointer (some ⟨b,0,none⟩),.int .i64 (t:Int)] w fun e w'=>e = .returned (.bool (ZZ s t split))∧Below w.heap.size w w':=by
 obtain⟨wa,wn,wk⟩:=wv;have HX:=Za hx;have HW:=Za hw;have HLB:=Za hok.lb
 have h16:=hx.split;have h17:=hx.waits;have bl:=hx.lt;have ht2:t≤2:=Om;obtain⟨_,_,hv,-,hcn,-,-⟩:=hw.open;simp only[Zt.v,Value.slice.injEq]at hv;obtain⟨rfl,hwn,rfl⟩:=hv;rw[List.length_map]at hwn;have HWN:=Za hwn;have HE:=Za (Jy s t split);have HP:=Za (fun i (hi:i < 3)=>Xi (p:=p) (split:=split) (i:=i) ht hi);obtain⟨R,hR⟩:∃ R,R=ZZ s t split:=⟨_,rfl⟩
 have HR:=Za hR;rw[← hR];clear hx hw hok hR hwn hcn;go_enter Tryz.func240,Tryz.ntmps240;go_wp2_with fail
 go_loopw [6] (fun i wr => ∃ k:Nat,k≤3∧i = .int .i64 k∧Hid (∀ j < k,(s.bf.getD (Zj t j split) []).isEmpty=true)∧Below w.heap.size w wr) (fun i _=>3 - (intOf i).toNat)
 case atStart=>exact⟨0,Nat.zero_le _,rfl,Za (fun t h=>absurd h (Nat.not_lt_zero t)),Below.refl _ _⟩
 case round =>
  obtain⟨k,hk,rfl,hno,hb⟩:=hrel;have HB:=Za hb;by_cases hlt:k < 3
  ·have hlt':(k:Int) < 3:=Om
   have hk2:k≤2:=Om;have e16:=(hb.cell (p:=⟨b,16,none⟩) bl).trans h16;have e17:=(hb.cell (p:=⟨b,17,none⟩) bl).trans h17;have bl2:=Zb e16;obtain⟨q,hq⟩:∃ q,q=Zj t k split:=⟨_,rfl⟩
   have hqs:q < s.bf.length:=by rw[hq,HLB.out];exact HP.out k hlt
   have hqn:(q:Int) < (wn:Int):=by rw[HWN.out];omega
   obtain⟨row,hrow⟩:=Zd (xs:=s.bf) (k:=q) hqs;have hrow2:(s.bf.map Z1)[q]? = some (Z1 row):=by rw[List.getElem?_map,hrow];rfl
   obtain⟨b2,o2,ra,rc,rfl,hbl2,q0,-⟩:=Yv.row (HW.out.below hb) hrow2;rw[List.length_map]at q0;have HBU:=Za (fun X:BW wr=>Q8 b t k split X.val ((X.prop.cell (p:=⟨b,16,none⟩) bl2).trans e16) ht2 hk2);simp only[← hq]at HBU;have HROW:=Za hrow;have HQ:=Za hq
   clear hb hrow hrow2 hq;by_cases hne:row.length > 0
   ·have hne':(row.length:Int) > 0:=Om
    have E:Hid (R=false):=Za (by
     rw[HR.out,HE.out,List.all_eq_false];refine⟨k,List.mem_range.2 hlt,?_⟩;rw[← HQ.out,List.getD_eq_getElem?_getD,HROW.out];cases row with
     | nil=>simp at hne
     | cons x r=>simp)
    go_wp2_with fail;refine Zs Kr Kr ?_
    repeat (go_big_quiet_step ((go_at_call 236;(with_reducible exact Calls.Vk (HBU.out _)))))
    refine wpQuiet_nil ?_;intro w1 hw1;go_wp2_with fail;go_ret;rw[E.out];exact⟨rfl,HB.out.trans (hw1.mono HB.out.size)⟩
   ·have hne':¬ (row.length:Int) > 0:=Om
    have NO:Hid (∀ j < k+1,(s.bf.getD (Zj t j split) []).isEmpty=true):=Za fun j hj=>by
     by_cases e:j=k
     ·subst e
      rw[← HQ.out,List.getD_eq_getElem?_getD,HROW.out];cases row with
      | nil=>rfl
      | cons x r=>simp at hne
     ·exact hno.out j Om
    go_wp2_with fail;refine Zs Kr Kr ?_
    repeat (go_big_quiet_step ((go_at_call 236;(with_reducible exact Calls.Vk (HBU.out _)))))
    refine wpQuiet_nil ?_;intro w1 hw1;have B1:=Za (HB.out.trans (hw1.mono HB.out.size));clear hw1;go_wp2_with fail;go_roundw
    case rel=>exact⟨k+1,Om,Gn,NO,B1.out⟩
    case measure=>simp[intOf];omega
  ·obtain rfl:k=3:=Om
   have E:Hid (R=true):=Za (by
    rw[HR.out,HE.out,List.all_eq_true];exact fun j hj=>hno.out j (List.mem_range.1 hj))
   go_wp2_with fail;go_ret;rw[E.out];exact⟨rfl,HB.out⟩
def Y7 (p:List (List Ins)) (split:Bool) (s:Bf) (t:Nat):Bool:=match YV p s.q t with
 | none=>false
 | some i=>if i.op=4∨i.op=5 then ZZ s t split else true
def Xv (s:Bf) (k:Nat):Bool:=decide (0 < (s.bf.getD k []).length)
def Ko (p:List (List Ins)) (split:Bool) (s:Bf):List Nat:=((List.range p.length).filter fun t=>Y7 p split s t)++((List.range s.bf.length).filter fun k=>Xv s k).map fun k=>p.length+k
theorem KJ (f:Nat→Bool) (k:Nat):(List.range (k+1)).filter f=(List.range k).filter f++(if f k=true then [k] else []):=by
 rw[List.range_succ,List.filter_append]
 congr 1
 cases h:f k <;> simp[h]
theorem XP (f:Nat→Bool) (k:Nat):((List.range k).filter f).length≤k:=Nat.le_trans (List.length_filter_le _ _) Sm
theorem Dv (A L:List Nat) (k j:Nat):((A++(L++[j]).map fun x=>k+x).map fun (m:Nat)=>(m:Int))=((A++L.map fun x=>k+x).map fun (m:Nat)=>(m:Int))++[(k:Int)+(j:Int)]:=by simp
theorem G7 (b:Nat) (vp:Value) (split:Bool) (wv:Zt) (p:List (List Ins)) (s:Bf) (w:World) (hp:Z5 w vp p) (hx:ZO w b vp split wv s) (hw:Vr w wv s) (hok:ZE p split s) (hpl:p.length≤3) (hpr:∀ r∈p,r.length≤7) :
 Calls Tryz.prog 233 #[.pointer (some ⟨b,0,none⟩)] w (Xm Zo 3 w ((Ko p split s).map fun (m:Nat)=>(m:Int))):=by
 obtain⟨va,vc,rfl,hc1,hc2,hc3,hp⟩:=hp.open;obtain⟨wa,wn,wk⟩:=wv;have HP:=Za hp;have HX:=Za hx;have HW:=Za hw;have HOK:=Za hok;have HPR:=Za hpr
 have HV:=Za (ZN.ZX hx);have c0:=HV.out.c0;have bl:=HV.out.lt;obtain⟨_,_,hv,-,hcn,-,-⟩:=hw.open;simp only[Zt.v,Value.slice.injEq]at hv;obtain⟨rfl,hwn,rfl⟩:=hv;rw[List.length_map]at hwn;have hwn9:wn≤9:=by
  rw[hwn,hok.lb];have:Yj split≤3:=by cases split <;> simp[Yj]
  have:=Nat.mul_le_mul hpl this;omega
 have HWN:=Za hwn;have HMV:Hid (Ko p split s=((List.range p.length).filter fun t=>Y7 p split s t)++((List.range s.bf.length).filter fun k=>Xv s k).map fun k=>p.length+k):=Za rfl;clear hp hx hw hok hpr hwn hcn;generalize hn:p.length=n at *;have HN:=Za hn;clear hn;have hsa:=@ZJ;go_enter Tryz.func233,Tryz.ntmps233;go_wp2_with fail
 go_loopw [3,15] (fun v i wr => ∃ k:Nat,k≤n∧i = .int .i64 k∧Own Zo 3 wr w.heap.size v (((List.range k).filter fun t=>Y7 p split s t).map fun (m:Nat)=>(m:Int))∧Below w.heap.size w wr) (fun _ i _=>n - (intOf i).toNat)
 case atStart=>exact⟨0,Nat.zero_le _,rfl,Own.nil _ _ _,Below.refl _ _⟩
 case round =>
  obtain⟨k,hk,rfl,hown,hb⟩:=hrel;have HB:=Za hb;have HO:=Za hown
  have hbs:=hb.size;have hlen:((((List.range k).filter fun t=>Y7 p split s t).map fun (m:Nat)=>(m:Int))).length≤68719476736:=by
   rw[List.length_map];have:=XP (fun t=>Y7 p split s t) k;omega
  by_cases hlt:k < n
  ·have hlt':=Zh hlt
   have HNX:=Za (XT b k va n vc p s.q wr (HP.out.below hb) (HV.out.below hb) HOK.out.q (by rw[HN.out];exact hpl) HPR.out (by rw[HN.out];exact hlt));have HEM:=Za (fun (W:World) (hW:Below w.heap.size w W)=>As b k (.slice va n vc) split ⟨wa,wn,wk⟩ p s W (HX.out.below hW) (HW.out.below hW) HOK.out (by rw[HN.out];exact hlt) (by rw[HN.out];exact hpl));have SN:=Za (KJ (fun t=>Y7 p split s t) k);clear hb hown;go_wp2_with fail
   (with_reducible refine HNX.out.mono ?_);rintro e w1 ⟨rfl,hb1⟩
   have HB1:=Za (HB.out.trans (hb1.mono HB.out.size));have HO1:=Za (HO.out.below hb1);have hs1:w.heap.size≤w1.heap.size:=Nat.le_trans hbs hb1.size;clear hb1 HNX;cases hi:YV p s.q k with
   | none =>
    have hc:Y7 p split s k=false:=by unfold Y7;rw[hi]
    rw[hc,if_neg Sm,List.append_nil]at SN;clear hi hc;simp only[Fx];go_wp2_with fail;go_roundw
    case rel=>exact⟨k+1,Om,Gn,by rw[SN.out];exact HO1.out.alloc _,HB1.out.alloc HB1.out.size _⟩
    case measure=>simp[intOf];omega
   | some i =>
    obtain⟨op,loc,ZQ,val⟩:=i;have HBA:=Za (HB1.out.alloc HB1.out.size (.cells #[.int .i64 op,.int .i64 loc,.int .i64 ZQ,.int .i64 val] 44));have HOA:=Za (HO1.out.alloc (.cells #[.int .i64 op,.int .i64 loc,.int .i64 ZQ,.int .i64 val] 44));simp only[Fx];by_cases h45:op=4∨op=5
    ·have hc:Y7 p split s k=ZZ s k split:=by unfold Y7;rw[hi];simp only[h45,if_true]
     rw[hc]at SN;clear hi hc;rcases h45 with rfl | rfl
     all_goals
      cases hE:ZZ s k split
      ·rw[hE,if_neg Sm,List.append_nil]at SN
       have HE0:=Za hE;clear hE;go_wp2_with (go_at_call 240;(with_reducible refine(HEM.out _ HBA.out).mono ?_);rintro e w3 ⟨rfl,hb3⟩;rw[HE0.out];have HB3:=Za (HBA.out.trans (hb3.mono HBA.out.size));have HO3:=Za (HOA.out.below hb3);clear hb3);go_roundw
       case rel=>exact⟨k+1,Om,Gn,by rw[SN.out];exact HO3.out,HB3.out⟩
       case measure=>simp[intOf];omega
      ·rw[hE,if_pos rfl]at SN
       have HE0:=Za hE;clear hE;go_wp2_with (first
        | (go_at_call 240;(with_reducible refine(HEM.out _ HBA.out).mono ?_);rintro e w3 ⟨rfl,hb3⟩;rw[HE0.out];have HB3:=Za (HBA.out.trans (hb3.mono HBA.out.size));have HO3:=Za (HOA.out.below hb3);have hs3:=HB3.out.size;clear hb3)
        | (at_builtin;refine ZA Zo 3 Tryz.Yb rfl Tryz.underlying66 w.heap.size _ _ (k:Int) (HO3.out.alloc _) Dc hlen So rfl _ _ rfl rfl _ 0 1 rfl Zp ?_;intro v5 w5 hown5 hgr5 hat5))
       have HF:=Za (show Own Zo 3 w5 w.heap.size v5 (((List.range (k+1)).filter fun t=>Y7 p split s t).map fun (m:Nat)=>(m:Int)) by rw[SN.out,List.map_append];exact hown5);have HW5:=Za ((HB3.out.alloc HB3.out.size (.cells #[.int .i64 (k:Int)] 3)).grown hgr5 So (fun q hq=>(World.ownsRow.lt HO.out q hq).1));clear hown5 hgr5 hat5;go_wp2_with fail;go_roundw
       case rel=>exact⟨k+1,Om,Gn,HF.out,HW5.out⟩
       case measure=>simp[intOf];omega
    ·have hc:Y7 p split s k=true:=by unfold Y7;rw[hi];simp only[h45,if_false]
     rw[hc,if_pos rfl]at SN;have h4:(op==4)=false:=So;have h5:(op==5)=false:=So;have h4':¬ op=4:=Om;have h5':¬ op=5:=Om;clear hi hc h45;go_wp2_with (first
      | (at_builtin;refine ZA Zo 3 Tryz.Yb rfl Tryz.underlying66 w.heap.size _ _ (k:Int) (HOA.out.alloc _) Dc hlen So rfl _ _ rfl rfl _ 0 1 rfl (AK Sm) ?_;intro v5 w5 hown5 hgr5 hat5))
     have HF:=Za (show Own Zo 3 w5 w.heap.size v5 (((List.range (k+1)).filter fun t=>Y7 p split s t).map fun (m:Nat)=>(m:Int)) by rw[SN.out,List.map_append];exact hown5);have HW5:=Za ((HBA.out.alloc HBA.out.size (.cells #[.int .i64 (k:Int)] 3)).grown hgr5 So (fun q hq=>(World.ownsRow.lt HO.out q hq).1));clear hown5 hgr5 hat5;go_wp2_with fail;go_roundw
     case rel=>exact⟨k+1,Om,Gn,HF.out,HW5.out⟩
     case measure=>simp[intOf];omega
  ·obtain rfl:k=n:=Om
   have hbb:=HX.out.below hb;have h17:=hbb.waits;have c1:=(hb.cell (p:=⟨b,0,none⟩) bl).trans c0;have bl1:=Zb c1;clear hb hown hbb;have HO0:=Za (show Own Zo 3 wr w.heap.size _ ((((List.range k).filter fun t=>Y7 p split s t)++((List.range 0).filter fun j=>Xv s j).map fun j=>k+j).map fun (m:Nat)=>(m:Int)) by rw[List.range_zero,List.filter_nil,List.map_nil,List.append_nil];exact HO.out);go_wp2_with fail;clear h17 c1 bl1 hbs hlen hlt
   go_loopw [3,52] (fun v i wr => ∃ j:Nat,j≤wn∧i = .int .i64 j∧Own Zo 3 wr w.heap.size v ((((List.range k).filter fun t=>Y7 p split s t)++((List.range j).filter fun j=>Xv s j).map fun j=>k+j).map fun (m:Nat)=>(m:Int))∧Below w.heap.size w wr) (fun _ i _=>wn - (intOf i).toNat)
   case atStart=>exact⟨0,Nat.zero_le _,rfl,HO0.out,HB.out⟩
   case round =>
    obtain⟨j,hj,rfl,hown,hb⟩:=hrel;have HB1:=Za hb;have HO1:=Za hown
    have hbs:=hb.size;by_cases hlt:j < wn
    ·have hlt':=Zh hlt
     have hlen:(((((List.range k).filter fun t=>Y7 p split s t)++((List.range j).filter fun j=>Xv s j).map fun j=>k+j).map fun (m:Nat)=>(m:Int))).length≤68719476736:=by
      have h1:=XP (fun t=>Y7 p split s t) k;have h2:=XP (fun t=>Xv s t) j;simp only[List.length_map,List.length_append];omega
     obtain⟨row,hrow⟩:=Zd (xs:=s.bf) (k:=j) (by rw[← HWN.out];exact hlt);have hrow2:(s.bf.map Z1)[j]? = some (Z1 row):=by rw[List.getElem?_map,hrow];rfl
     obtain⟨b2,o2,ra,rc,rfl,hbl2,q0,-⟩:=Yv.row (HW.out.below hb) hrow2;rw[List.length_map]at q0;have c1:=(hb.cell (p:=⟨b,0,none⟩) bl).trans c0;have bl1:=Zb c1;have SN:=Za (KJ (fun j=>Xv s j) j);have hwa:IntKind.i64.wrap ((k:Int)+(j:Int))=(k:Int)+(j:Int):=XY Om Om;by_cases hne:row.length > 0
     ·have hne':(row.length:Int) > 0:=Om
      have hc:Xv s j=true:=by unfold Xv;rw[List.getD_eq_getElem?_getD,hrow];simpa using hne
      rw[hc,if_pos rfl]at SN;clear hb hown hrow hrow2 hc;go_wp2_with (first
       | (at_builtin;refine ZA Zo 3 Tryz.Yb rfl Tryz.underlying66 w.heap.size _ _ ((k:Int)+(j:Int)) (HO1.out.alloc _) Dc hlen So rfl _ _ rfl rfl _ 0 1 rfl Zp ?_;intro v5 w5 hown5 hgr5 hat5))
      have HF:=Za (show Own Zo 3 w5 w.heap.size v5 ((((List.range k).filter fun t=>Y7 p split s t)++((List.range (j+1)).filter fun j=>Xv s j).map fun j=>k+j).map fun (m:Nat)=>(m:Int)) by
       rw[SN.out,Dv];exact hown5)
      have HW5:=Za ((HB1.out.alloc HB1.out.size (.cells #[.int .i64 ((k:Int)+(j:Int))] 3)).grown hgr5 So (fun q hq=>(World.ownsRow.lt HO1.out q hq).1));clear hown5 hgr5 hat5;go_wp2_with fail;go_roundw
      case rel=>exact⟨j+1,Om,Gn,HF.out,HW5.out⟩
      case measure=>simp[intOf];omega
     ·have hne':¬ (row.length:Int) > 0:=Om
      have hc:Xv s j=false:=by unfold Xv;rw[List.getD_eq_getElem?_getD,hrow];simpa using hne
      rw[hc,if_neg Sm,List.append_nil]at SN;clear hb hown hrow hrow2 hc;go_wp2_with fail;go_roundw
      case rel=>exact⟨j+1,Om,Gn,by rw[SN.out];exact HO1.out,HB1.out⟩
      case measure=>simp[intOf];omega
    ·obtain rfl:j=wn:=Om
     have E:Hid (Ko p split s=((List.range k).filter fun t=>Y7 p split s t)++((List.range j).filter fun j=>Xv s j).map fun j=>k+j):=Za (by rw[HMV.out,← HWN.out]);go_wp2_with fail;go_ret;exact⟨_,rfl,by rw[E.out];exact HO1.out,HB1.out⟩
theorem Bz (a:Option Addr) (n c:Nat) (w:World):Calls Tryz.prog 239 #[.slice a n c] w fun e w'=>e = .returned (.bool (decide (0 < n)))∧w=w':=by
 go_enter Tryz.func239,Tryz.ntmps239;go_wp2_with fail;go_ret;exact⟨Sm,rfl⟩
theorem BC (v:Value) (rows:List (List Int)) (w:World) (hw:Yv Zr w v rows) (hn:rows.length≤1000) :
 Calls Tryz.prog 242 #[v,.func (.func 239) #[] #[]] w fun e w' => ∃ r:Int,e = .returned (.int .i64 r)∧((0≤r)↔(rows.any fun x => !x.isEmpty)=true)∧w=w':=by
 obtain⟨va,vc,rfl,hc1,hc2,hc3,hw⟩:=hw.open;have HW:=Za hw;clear hw hc1 hc3;generalize hm:rows.length=m at *;have HM:=Za hm;clear hm;go_enter Tryz.func242,Tryz.ntmps242;go_wp2_with fail
 go_loopw [8] (fun i wr => ∃ k:Nat,k≤m∧i = .int .i64 k∧Hid (∀ x∈rows.take k,x=[])∧w=wr) (fun i _=>m - (intOf i).toNat)
 case atStart=>exact⟨0,Nat.zero_le _,rfl,Za (fun x h=>by simp at h),rfl⟩
 case round =>
  obtain⟨k,hk,rfl,hno,rfl⟩:=hrel;by_cases hlt:k < m
  ·have hlt':=Zh hlt
   obtain⟨row,hrow⟩:=Zd (xs:=rows) (k:=k) (by rw[HM.out];exact hlt);obtain⟨b2,o2,ra,rc,rfl,hbl2,q0,-⟩:=Yv.row HW.out hrow;have HROW:=Za hrow;clear hrow;have HC:=Za (Bz ra row.length rc w);by_cases hne:0 < row.length
   ·have E:Hid ((0≤(k:Int))↔(rows.any fun x => !x.isEmpty)=true):=Za (by
     refine⟨fun _ => ?_,fun _=>by omega⟩;rw[List.any_eq_true];refine⟨row,List.mem_of_getElem? HROW.out,?_⟩;cases row with
     | nil=>simp at hne
     | cons x r=>rfl)
    have hd:decide (0 < row.length)=true:=by simpa using hne
    rw[hd]at HC;clear hno;go_wp2_with (go_at_call 239;(with_reducible refine HC.out.mono ?_);rintro e w1 ⟨rfl,rfl⟩);go_ret;exact⟨_,rfl,E.out,rfl⟩
   ·have hd:decide (0 < row.length)=false:=by simpa using hne
    rw[hd]at HC;have NO:Hid (∀ x∈rows.take (k+1),x=[]):=Za fun x hx=>by
     rw[List.take_add_one,HROW.out]at hx;rcases List.mem_append.1 hx with h | h
     ·exact hno.out x h
     ·simp at h;subst h
      exact List.eq_nil_of_length_eq_zero Om
    go_wp2_with (go_at_call 239;(with_reducible refine HC.out.mono ?_);rintro e w1 ⟨rfl,rfl⟩);go_roundw
    case rel=>exact⟨k+1,Om,Gn,NO,trivial⟩
    case measure=>simp[intOf];omega
  ·obtain rfl:k=m:=Om
   have E:Hid ((0≤(-1:Int))↔(rows.any fun x => !x.isEmpty)=true):=Za (by
    refine⟨fun h=>by omega,fun h => ?_⟩;rw[List.any_eq_true]at h;obtain⟨x,hx,hxe⟩:=h;have:=hno.out x (by rw[List.take_of_length_le (by rw[HM.out];exact Nat.le_refl _)];exact hx);rw[this]at hxe;simp at hxe)
   go_wp2_with fail;go_ret;exact⟨_,rfl,E.out,rfl⟩
theorem By (v:Value) (rows:List (List Int)) (w:World) (hw:Yv Zr w v rows) (hn:rows.length≤1000) :
 Calls Tryz.prog 238 #[v,.func (.func 239) #[] #[]] w fun e w'=>e = .returned (.bool (rows.any fun x => !x.isEmpty))∧w=w':=by
 have H:=Za (BC v rows w hw hn);clear hw;generalize (rows.any fun x => !x.isEmpty)=D at *;go_enter Tryz.func238,Tryz.ntmps238;go_wp2_with fail
 (with_reducible refine H.out.mono ?_);rintro e w1 ⟨r,rfl,hr,rfl⟩
 have HR:=Za hr;clear hr;go_wp2_with fail;go_ret;refine⟨congrArg Ending.returned (congrArg Value.bool ?_),rfl⟩;have:=HR.out;cases D <;> simp_all
theorem RV (b:Nat) (vp:Value) (split:Bool) (wv:Zt) (p:List (List Ins)) (s:Bf) (w:World) (hp:Z5 w vp p) (hx:ZO w b vp split wv s) (hw:Vr w wv s) (hok:ZE p split s) (hpl:p.length≤3) (hpr:∀ r∈p,r.length≤7) :
 Calls Tryz.prog 231 #[.pointer (some ⟨b,0,none⟩)] w fun e w'=>e = .returned (.bool (Yf p s))∧Below w.heap.size w w':=by
 obtain⟨wa,wn,wk⟩:=wv;have H1:=Za (RF b vp p s.q w hp (ZN.ZX hx) hok.q hpl hpr);have hl9:(s.bf.map Z1).length≤1000:=by
  rw[List.length_map,hok.lb];have:Yj split≤3:=by cases split <;> simp[Yj]
  have:=Nat.mul_le_mul hpl this;omega
 have H2:=Za (fun (W:World) (hW:Below w.heap.size w W)=>By (.slice wa wn wk) (s.bf.map Z1) W (hw.below hW) hl9);have h17:=hx.waits;have bl:=hx.lt;have HE:Hid (Yf p s=(!((s.bf.map Z1).any fun x => !x.isEmpty)&&Yi p s.q)):=Za (by
  unfold Yf
  congr 1
  rw[List.any_map,Bool.eq_iff_iff,List.all_eq_true,Bool.not_eq_true',List.any_eq_false];simp[Z1])
 have HX:=Za hx;clear hp hx hw hok hpr hl9;generalize ((s.bf.map Z1).any fun x => !x.isEmpty)=D at *;cases hd:Yi p s.q
 ·rw[hd]at H1 HE
  clear hd;go_enter Tryz.func231,Tryz.ntmps231;go_wp2_with (go_at_call 192;(with_reducible refine H1.out.mono ?_);rintro e w1 ⟨rfl,hb1⟩);go_ret;rw[HE.out];exact⟨Sm,hb1⟩
 ·rw[hd]at H1 HE
  clear hd;go_enter Tryz.func231,Tryz.ntmps231;go_wp2_with (first
   | (go_at_call 192;(with_reducible refine H1.out.mono ?_);rintro e w1 ⟨rfl,hb1⟩;have B1:=Za hb1;have g17:=(hb1.cell (p:=⟨b,17,none⟩) bl).trans h17;have gl:=Zb g17;clear hb1)
   | (go_at_call 238;(with_reducible refine(H2.out _ B1.out).mono ?_);rintro e w2 ⟨rfl,rfl⟩))
  go_ret;rw[HE.out];exact⟨Sm,B1.out⟩
def Xs (w:World) (base:Nat) (v:Value) (xs:List Int):Prop:=
 ∃ (g cap:Nat) (cur:Array Value) (fz:Nat × Nat),v = .slice (some ⟨g,0,none⟩) xs.length cap∧base≤g∧w.heap[g]? = some (.cells cur 5 fz)∧(fz.2=0∨cur.size≤fz.1)∧xs.length≤cap∧cap≤maxLen∧cur.size=cap∧cur.toList.take xs.length=xs.map Z2
theorem Q4 (P:Program) (g o:Nat) (t:TypeId) (fz:Nat × Nat):∀ (vs:List Value) (i:Nat) (cur:Array Value) (w:World),w.heap[g]? = some (.cells cur t fz)→(fz.2=0∨cur.size≤fz.1)→o+i+vs.length≤cur.size→(∀ v∈vs,v.oneCell'=true) →
 (storeCells ⟨g,o,none⟩ vs i).run P w = .ok () (w.setRow g (cur.toList.take (o+i)++vs++cur.toList.drop (o+i+vs.length)).toArray)
 | [],i,cur,w,hg,_,_,_=>by
  simp only[storeCells,List.append_nil,List.length_nil,Nat.add_zero,List.take_append_drop,Array.toArray_toList];rw[setRow_self w g cur t fz hg];rfl
 | v :: rest,i,cur,w,hg,hfz,hl,h1=>by
  have hi:o+i < cur.size:=by simp at hl;omega
  have hadd:(⟨g,o,none⟩:Addr).add i=⟨g,o+i,none⟩:=by unfold Addr.add;split <;> simp_all
  have hcell:w.cell? ⟨g,o+i,none⟩=some cur[o+i]:=by simp[World.cell?,hg,hi]
  have hfro:w.frozen? ⟨g,o+i,none⟩=false:=by
   obtain⟨lo,hi'⟩:=fz;simp only[World.frozen?,hg,Bool.and_eq_false_iff,decide_eq_false_iff_not];simp only at hfz;rcases hfz with hfz | hfz
   ·right;omega
   ·left;omega
  have hst:(store ((⟨g,o,none⟩:Addr).add i) v).run P w = .ok () (w.setRow g (cur.setIfInBounds (o+i) v)):=by
   rw[hadd,run_store P w _ v _ (h1 v Sm),hcell];simp[hfro,setCell_eq_setRow w g (o+i) cur t fz v hg]
  have ih:=Q4 P g o t fz rest (i+1) (cur.setIfInBounds (o+i) v) (w.setRow g (cur.setIfInBounds (o+i) v)) (setRow_heap w g cur _ t _ hg) (by simpa using hfz) (by simp at hl ⊢;omega) (fun x hx=>h1 x (by simp[hx]));simp only[storeCells,Sem.run_bind,hst,Result.andThen_ok,ih,setRow_setRow]
  congr 3
  have e:=list_seg_step cur.toList (o+i) v rest (by simp at hl ⊢;omega);simpa[Array.toList_setIfInBounds,Nat.add_assoc] using e
theorem Xs.lt {w:World}{base:Nat}{v:Value}{xs:List Int}(h:Xs w base v xs):∀ q,v.ownBlock=some q→base≤q∧q < w.heap.size:=by
 obtain⟨g,cap,cur,fz,rfl,h1,h2,-⟩:=h;intro q hq;simp[Value.ownBlock]at hq;subst hq;exact⟨h1,(Array.getElem?_eq_some_iff.1 h2).1⟩
theorem Xs.below {w w':World}{base:Nat}{v:Value}{xs:List Int}(h:Xs w base v xs) (hb:Below w.heap.size w w'):Xs w' base v xs:=by
 obtain⟨g,cap,cur,fz,rfl,h1,h2,h3⟩:=h;exact⟨g,cap,cur,fz,rfl,h1,(hb.block g (Array.getElem?_eq_some_iff.1 h2).1).trans h2,h3⟩
theorem Xs.alloc {w:World}{base:Nat}{v:Value}{xs:List Int}(h:Xs w base v xs) (o:Obj):Xs (w.alloc o) base v xs:=h.below ((Below.refl _ _).alloc (Nat.le_refl _) o)
theorem IA (l:List Int):∀ u∈l.map Z2,u.oneCell'=true:=fun u hu=>by
 obtain⟨x,-,rfl⟩:=List.mem_map.1 hu;rfl
theorem Xs.app {w:World}{base:Nat}{v u:Value}{xs ys:List Int}(h:Xs w base v xs) (hr:Z7 Zr w u ys) (hn:xs.length+ys.length≤68719476736) (hb:base≤w.heap.size) (ty:TypeId) :
 ∃ v' w',(Builtin.append_ #[39,39] ty #[v,u]).run Tryz.prog w = .ok v' w'∧Xs w' base v' (xs++ys)∧w.grownBy w' v.ownBlock:=by
 obtain⟨it,hi,hz0,hz1,hz2⟩:=info_parts Tryz.XG;have ht:Tryz.prog.underlying 39=some (.slice 5):=Tryz.underlying39;obtain⟨g,cap,cur,fz,rfl,h1,h2,h3,h4,h5,h6,h7⟩:=h;obtain⟨ad,c,rfl,hc1,hc2,hcell⟩:=hr;cases ad with
 | none =>
  have hys:ys=[]:=by
   cases ys with
   | nil=>rfl
   | cons y ys=>obtain⟨b,o,hb,_⟩:=hcell 0 y rfl;cases hb
  subst hys;refine⟨.slice (some ⟨g,0,none⟩) xs.length cap,w,?_,⟨g,cap,cur,fz,?_,h1,h2,h3,?_,h5,h6,?_⟩,World.grownBy.refl _ _⟩
  ·simp[Builtin.append_,run_underlying ht,sizeOf,typeInfo,hi,Builtin.lenOf,Builtin.firstCells,h4,storeCells]
  ·simp
  ·simpa using h4
  ·simpa using h7
 | some a =>
  have hnews:∀ j u,(ys.map Z2)[j]? = some u→w.cell? (a.add j)=some u:=fun j u hu=>by
   rw[List.getElem?_map]at hu;cases hy:ys[j]? with
   | none=>rw[hy]at hu;cases hu
   | some y =>
    rw[hy]at hu;obtain⟨b,o,hb,hk⟩:=hcell j y hy;simp only[Option.some.injEq]at hb;subst hb;have:=hk 0 (Z2 y) rfl;simp only[Zr,Nat.mul_one,Nat.add_zero]at this;rw[Addr.add_lit];simp only[Option.map_some,Option.some.injEq]at hu;rw[← hu];exact this
  have hl:(ys.map Z2).length=ys.length * it.size:=by rw[hz1];simp
  by_cases hroom:xs.length+ys.length≤cap
  ·have hf:=run_firstCells_some (P:=Tryz.prog) w it.size ys.length a ys.length c (ys.map Z2) hl hnews
   have hst:=Q4 Tryz.prog g xs.length 5 fz (ys.map Z2) 0 cur w h2 h3 So (IA ys);simp only[Nat.add_zero]at hst;obtain⟨X,hX⟩:∃ X:Array Value,X=(cur.toList.take xs.length++ys.map Z2++cur.toList.drop (xs.length+(ys.map Z2).length)).toArray:=⟨_,rfl⟩
   rw[← hX]at hst;have hXs:X.size=cur.size:=by
    rw[hX];simp only[List.size_toArray,List.length_append,List.length_take,List.length_drop,Array.length_toList,List.length_map];omega
   refine⟨.slice (some ⟨g,0,none⟩) (xs.length+ys.length) cap,w.setRow g X,?_,⟨g,cap,X,fz,Sm,h1,setRow_heap w g cur _ _ _ h2,?_,by simpa using hroom,h5,by rw[hXs];exact h6,?_⟩,⟨rfl,rfl,rfl,Sm,fun k _ hk=>setRow_other w g k _ (fun e=>hk (by simp[Value.ownBlock,e]))⟩⟩
   ·rw[hz1]at hf
    simp[Builtin.append_,run_underlying ht,sizeOf,typeInfo,hi,hz1,Builtin.lenOf,hroom,hf,Addr.add_lit,hst]
   ·rw[hXs];exact h3
   ·rw[hX,h7,List.length_append,List.map_append]
    exact List.take_left' Sm
  ·have holds:∀ j u,(xs.map Z2)[j]? = some u→w.cell? ((⟨g,0,none⟩:Addr).add j)=some u:=fun j u hu=>by
    rw[← h7,List.getElem?_take]at hu;split at hu
    ·rw[Addr.add_lit]
     simp only[Nat.zero_add];exact Zc h2 (by simpa using hu)
    ·cases hu
   have hr:=run_append_grow (P:=Tryz.prog) w 39 ty 5 it _ ht hi hz0 ⟨g,0,none⟩ xs.length cap (xs.map Z2) (by rw[hz1];simp) holds a ys.length c (ys.map Z2) hl hnews Om Om (growslice_fits Om (by rw[hz2];omega));refine⟨_,_,hr,⟨w.heap.size,grownCap w (xs.length+ys.length) cap 5,_,(0,0),Sm,hb,heap_alloc_new w.drew _,.inl rfl,?_,?_,?_,?_⟩,⟨rfl,rfl,rfl,Sm,fun k hk _=>heap_alloc_old w.drew _ hk⟩⟩
   ·rw[List.length_append];exact grownCap_ge _ _ _ _
   ·exact grownCap_le_maxLen _ _ _ _ (by unfold maxLen;omega)
   ·have:=grownCap_ge w (xs.length+ys.length) cap 5
    have hz:(Value.int IntKind.u8 0).cells.size=1:=rfl;simp only[Array.size_append,List.size_toArray,List.length_map,size_zeroCells,hz];omega
   ·rw[Array.toList_append,Array.toList_append,List.length_append]
    simp only[List.map_append];exact List.take_left' Sm
theorem KY {w:World}{ops:Array Oper}{rest:List Oper}{o:Oper}{a:Act}{Q:Exit→Act→World→Prop}(base:Nat) (v u:Value) (xs ys:List Int) (hown:Xs w base v xs) (hr:Z7 Zr w u ys) (hn:xs.length+ys.length≤68719476736) (hb:base≤w.heap.size)
 (hg:o.guard=none) (s y:Operand) (hop:o.op = .call { callee:=.builtin .append,args:=#[s,y],argTypes:=#[39,39] }) (hs:a.eval s=v) (hy:a.eval y=u)
 (hK:∀ v' w',Xs w' base v' (xs++ys)→w.grownBy w' v.ownBlock→wpList Tryz.prog ops Q rest (a.put o.dst v') w') :
 wpList Tryz.prog ops Q (o :: rest) a w:=by
 refine wpList_plain hg fun K hK' => ?_;obtain⟨v',w',hrun,h1,h2⟩:=hown.app hr hn hb o.type;unfold Oper.wp;simp[execOp,hop,resolve,invoke,builtin,hs,hy,hrun,Result.andThen];exact hK' _ _ (hK v' w' h1 h2)
theorem RX (w:World) (e:TypeId) (s:ByteArray):Below w.heap.size w (Lib.bytesWorld w e s):=
 ⟨rfl,rfl,rfl,by rw[Lib.bytesWorld_size];omega,fun k hk=>Lib.bytesWorld_at_old w e s k hk⟩
theorem CY (w:World) {l:List Int}(hl:∀ x∈l,0≤x∧x≤255) (hn:l.length≤1000):Xs (Lib.bytesWorld w 5 (strOfNums l)) w.heap.size (.slice (some ⟨w.heap.size,0,none⟩) (strOfNums l).size (grownCap w (strOfNums l).size 0 5)) l:=by
 have hz:(strOfNums l).size=l.length:=strOfNums_size l;have hge:=grownCap_ge w l.length 0 5;refine⟨w.heap.size,grownCap w l.length 0 5,_,_,by rw[hz],Nat.le_refl _,Lib.bytesWorld_at_new w _ _,.inr (Nat.le_refl _),hge,grownCap_le_maxLen _ _ _ _ (by unfold maxLen;omega),?_,?_⟩
 ·have h2:(strOfNums l).data.size=l.length:=hz
  simp only[Lib.bytesCells,Array.size_append,Array.size_map,Array.size_replicate,hz,h2];omega
 ·have e:(strOfNums l).data.toList=l.map fun n=>UInt8.ofNat n.toNat:=strOfNums_data l
  simp only[Lib.bytesCells,Array.toList_append,Array.toList_map,e,List.map_map];rw[List.take_left' Sm];apply List.map_congr_left;intro x hx;have:=hl x hx;simp only[Function.comp_apply,UInt8.toNat_ofNat'];rw[Nat.mod_eq_of_lt Om,show ((x.toNat:Nat):Int)=x by omega]
theorem Df {w:World}{base:Nat}{v:Value}{xs:List Int}(h:Xs w base v xs):(convert 39 9 v).run Tryz.prog w = .ok (.string (strOfNums xs)) w:=by
 obtain⟨g,cap,cur,fz,rfl,h1,h2,h3,h4,h5,h6,h7⟩:=h;exact run_convert_bytes_arg (P:=Tryz.prog) w 39 5 Tryz.underlying39 Tryz.underlying5 g 0 xs.length cap xs rfl (fun i hi=>by
  obtain⟨y,hy⟩:=Zd (xs:=xs) (k:=i) hi;have hc:cur[i]? = some (Z2 y):=by
   have:=congrArg (fun t:List Value=>t[i]?) h7;simp only[List.getElem?_take,hi,if_true,List.getElem?_map,hy,Option.map_some]at this;simpa using this
  rw[Nat.zero_add,Zc h2 hc,List.getD_eq_getElem?_getD,hy];rfl) 9 Tryz.underlying9
end Go.Proofs.YtngekjpklkjnbaaGreat
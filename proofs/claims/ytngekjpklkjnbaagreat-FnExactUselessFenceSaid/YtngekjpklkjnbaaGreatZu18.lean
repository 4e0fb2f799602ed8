/-
  The reference's key of a state. Condition: its numbers are bytes, bounds on lengths.
-/
import Derived.Test.YtngekjpklkjnbaaGreatZu14
set_option maxHeartbeats 6400000
set_option maxRecDepth 100000
namespace Go.Proofs.YtngekjpklkjnbaaGreat
open Go.RowKit
def Gz (ls:List (List Int)):List Int:=ls.flatMap fun l=>255 :: l
def Gk (s:St):List Int:=s.pc++s.rg++s.mm++Gz s.bf
theorem Ed (ls:List (List Int)) (l:List Int):Gz (ls++[l])=Gz ls++255 :: l:=by simp[Gz]
theorem Ec {ls:List (List Int)}{m n:Nat}(h:∀ o∈ls,o.length≤m) (hn:ls.length≤n):(Gz ls).length≤n * (m+1):=by
 have key:∀ (ls:List (List Int)),(∀ o∈ls,o.length≤m)→(Gz ls).length≤ls.length * (m+1):=by
  intro ls
  induction ls with
  | nil=>intro _;simp[Gz]
  | cons l ls ih =>
   intro hl;have h1:=ih fun o ho=>hl o (by simp[ho]);have h2:=hl l Sm;simp only[Gz,List.flatMap_cons,List.length_append,List.length_cons,Nat.add_mul,Nat.one_mul]at h1 ⊢;omega
 exact Nat.le_trans (key ls h) (Nat.mul_le_mul_right _ hn)
def QY (l:List Int):Prop:=∀ x∈l,0≤x∧x≤255
theorem QY.at {l:List Int}(h:QY l) {k:Nat}{x:Int}(hx:l[k]? = some x):0≤x∧x≤255:=h x (List.mem_of_getElem? hx)
theorem Tryz.JS:(Tryz.prog.info? 5).map (fun i=>(i.zero,i.size,i.bytes))=some (some (.int .u8 0),1,1):=Kr
theorem Dq (x:SV) (s:St) (w:World) (hx:ZB w x s) (h1:s.pc.length≤1000) (h2:s.rg.length≤1000) (h3:s.mm.length≤1000) (h4:s.bf.length≤100) (h5:∀ o∈s.bf,o.length≤1000)
 (b1:QY s.pc) (b2:QY s.rg) (b3:QY s.mm) (b4:∀ o∈s.bf,QY o) :
 Calls Tryz.prog 111 #[.agg #[.slice x.p.a x.p.n x.p.cap,.slice x.r.a x.r.n x.r.cap,.slice x.m.a x.m.n x.m.cap,.slice x.b.a x.b.n x.b.cap]] w fun e w'=>e = .returned (.string (strOfNums (Gk s)))∧Below w.heap.size w w':=by
 obtain⟨⟨pa,pn,pk⟩,⟨ra,rn,rk⟩,⟨ma,mn,mk⟩,⟨ba,bn,bk⟩⟩:=x;have HX:=Za hx;obtain⟨_,_,hv1,-,-,-,-⟩:=hx.pc.open;obtain⟨_,_,hv2,-,-,-,-⟩:=hx.rg.open;obtain⟨_,_,hv3,-,-,-,-⟩:=hx.mm.open;obtain⟨_,_,hv4,-,-,-,-⟩:=hx.bf.open;simp only[Zt.v,Value.slice.injEq]at hv1 hv2 hv3 hv4;obtain⟨rfl,hn1,rfl⟩:=hv1;obtain⟨rfl,hn2,rfl⟩:=hv2;obtain⟨rfl,hn3,rfl⟩:=hv3;obtain⟨rfl,hn4,rfl⟩:=hv4;have N1:=Za hn1;have N2:=Za hn2;have N3:=Za hn3;have N4:=Za hn4
 have k1:pn≤1000:=Om;have k2:rn≤1000:=Om;have k3:mn≤1000:=Om;have k4:bn≤100:=Om;have HK:Hid (Gk s=s.pc++s.rg++s.mm++Gz s.bf):=Za rfl;clear hx hn1 hn2 hn3 hn4 h1 h2 h3 h4;obtain⟨A0,hA0⟩:∃ A0,A0=w.alloc (.cells #[.slice pa pn pk,.slice ra rn rk,.slice ma mn mk,.slice ba bn bk] 141):=⟨_,rfl⟩
 have HB:Hid (Below w.heap.size w A0):=Za (by rw[hA0];exact Ze _ _);have hz:A0.heap.size=w.heap.size+1:=by rw[hA0];simp
 have HX2:Hid (A0.heap[w.heap.size]? = some (.cells #[.slice pa pn pk,.slice ra rn rk,.slice ma mn mk,.slice ba bn bk] 141 (0,0))):=Za (by rw[hA0];exact heap_alloc_new w _);have HA0:=Za hA0;clear hA0;have HE:=Za (Own.empty (E:=Zr) 5 A0 (Nat.le_refl _));have HBE:=Za (Ze A0 (.cells #[] 5));go_enter Tryz.func111,Tryz.ntmps111;go_wp2_with fail;rw[← HA0.out]
 go_loopw [3,4] (fun v i wr => ∃ k:Nat,k≤pn∧i = .int .i64 k∧Own Zr 5 wr A0.heap.size v (s.pc.take k)∧Below A0.heap.size A0 wr) (fun _ i _=>pn - (intOf i).toNat)
 case atStart=>exact⟨0,Nat.zero_le _,rfl,by rw[List.take_zero,← hz];exact HE.out,HBE.out⟩
 case round =>
  obtain⟨k,hk,rfl,ho,hb⟩:=hrel;have d0:wr.cell? ⟨w.heap.size,0,none⟩=some (.slice pa pn pk):=Zc ((hb.block w.heap.size Om).trans HX2.out) (k:=0) rfl;have dl:=Zb d0;have hbs:=hb.size;by_cases hlt:k < pn
  ·have hlt':=Zh hlt
   obtain⟨y,hy⟩:=Zd (xs:=s.pc) (k:=k) (by rw[← N1.out];exact hlt);obtain⟨b',o',rfl,hbl',j0⟩:=((show Z7 Zo w (.slice pa pn pk) s.pc from HX.out.pc).below (HB.out.trans (hb.mono HB.out.size))).int hy;have hyb:=b1.at hy;have hlen:(s.pc.take k).length≤68719476736:=by have:=N1.out;have:=N2.out;have:=N3.out;simp only[List.length_take];omega
   have RS:Hid (s.pc.take (k+1)=(s.pc.take k)++[y]):=Za (by rw[List.take_add_one,hy];simp);have HBR:=Za hb;have HOW:=Za ho
   clear hy hb;generalize s.pc.take k=PP at *;clear ho;go_wp2_with (at_builtin;refine Z3 Zr 5 Tryz.JS rfl Tryz.underlying39 A0.heap.size _ PP y (HOW.out.alloc _) Dc hlen So rfl _ _ rfl rfl _ 0 1 rfl Zp ?_;intro v6 w6 hown6 hgr6;have O6:=Za hown6;have B6:=Za (ZM HBR.out HOW.out hgr6);clear hown6 hgr6);go_roundw
   case rel=>exact⟨k+1,Om,Gn,by rw[RS.out];exact O6.out,B6.out⟩
   case measure=>simp[intOf];omega
  ·obtain rfl:k=pn:=Om
   rw[List.take_of_length_le (by rw[N1.out];exact Nat.le_refl _)]at ho;have HO0:=Za ho;have HBW0:=Za hb
   clear ho hb;go_wp2_with fail;clear d0 dl hbs hlt hk
   go_loopw [3,5] (fun v i wr => ∃ k:Nat,k≤rn∧i = .int .i64 k∧Own Zr 5 wr A0.heap.size v (s.pc++s.rg.take k)∧Below A0.heap.size A0 wr) (fun _ i _=>rn - (intOf i).toNat)
   case atStart=>exact⟨0,Nat.zero_le _,rfl,by rw[List.take_zero,List.append_nil];exact HO0.out,HBW0.out⟩
   case round =>
    obtain⟨k,hk,rfl,ho,hb⟩:=hrel;have d0:wr.cell? ⟨w.heap.size,1,none⟩=some (.slice ra rn rk):=Zc ((hb.block w.heap.size Om).trans HX2.out) (k:=1) rfl;have dl:=Zb d0;have hbs:=hb.size;by_cases hlt:k < rn
    ·have hlt':=Zh hlt
     obtain⟨y,hy⟩:=Zd (xs:=s.rg) (k:=k) (by rw[← N2.out];exact hlt);obtain⟨b',o',rfl,hbl',j0⟩:=((show Z7 Zo w (.slice ra rn rk) s.rg from HX.out.rg).below (HB.out.trans (hb.mono HB.out.size))).int hy;have hyb:=b2.at hy;have hlen:(s.pc++s.rg.take k).length≤68719476736:=by have:=N1.out;have:=N2.out;have:=N3.out;simp only[List.length_append,List.length_take];omega
     have RS:Hid (s.pc++s.rg.take (k+1)=(s.pc++s.rg.take k)++[y]):=Za (by rw[List.take_add_one,hy];simp);have HBR:=Za hb;have HOW:=Za ho
     clear hy hb;generalize s.pc++s.rg.take k=PP at *;clear ho;go_wp2_with (at_builtin;refine Z3 Zr 5 Tryz.JS rfl Tryz.underlying39 A0.heap.size _ PP y (HOW.out.alloc _) Dc hlen So rfl _ _ rfl rfl _ 0 1 rfl Zp ?_;intro v6 w6 hown6 hgr6;have O6:=Za hown6;have B6:=Za (ZM HBR.out HOW.out hgr6);clear hown6 hgr6);go_roundw
     case rel=>exact⟨k+1,Om,Gn,by rw[RS.out];exact O6.out,B6.out⟩
     case measure=>simp[intOf];omega
    ·obtain rfl:k=rn:=Om
     rw[List.take_of_length_le (by rw[N2.out];exact Nat.le_refl _)]at ho;have HO1:=Za ho;have HBW1:=Za hb
     clear ho hb;go_wp2_with fail;clear d0 dl hbs hlt hk
     go_loopw [3,6] (fun v i wr => ∃ k:Nat,k≤mn∧i = .int .i64 k∧Own Zr 5 wr A0.heap.size v (s.pc++s.rg++s.mm.take k)∧Below A0.heap.size A0 wr) (fun _ i _=>mn - (intOf i).toNat)
     case atStart=>exact⟨0,Nat.zero_le _,rfl,by rw[List.take_zero,List.append_nil];exact HO1.out,HBW1.out⟩
     case round =>
      obtain⟨k,hk,rfl,ho,hb⟩:=hrel;have d0:wr.cell? ⟨w.heap.size,2,none⟩=some (.slice ma mn mk):=Zc ((hb.block w.heap.size Om).trans HX2.out) (k:=2) rfl;have dl:=Zb d0;have hbs:=hb.size;by_cases hlt:k < mn
      ·have hlt':=Zh hlt
       obtain⟨y,hy⟩:=Zd (xs:=s.mm) (k:=k) (by rw[← N3.out];exact hlt);obtain⟨b',o',rfl,hbl',j0⟩:=((show Z7 Zo w (.slice ma mn mk) s.mm from HX.out.mm).below (HB.out.trans (hb.mono HB.out.size))).int hy;have hyb:=b3.at hy;have hlen:(s.pc++s.rg++s.mm.take k).length≤68719476736:=by have:=N1.out;have:=N2.out;have:=N3.out;simp only[List.length_append,List.length_take];omega
       have RS:Hid (s.pc++s.rg++s.mm.take (k+1)=(s.pc++s.rg++s.mm.take k)++[y]):=Za (by rw[List.take_add_one,hy];simp);have HBR:=Za hb;have HOW:=Za ho
       clear hy hb;generalize s.pc++s.rg++s.mm.take k=PP at *;clear ho;go_wp2_with (at_builtin;refine Z3 Zr 5 Tryz.JS rfl Tryz.underlying39 A0.heap.size _ PP y (HOW.out.alloc _) Dc hlen So rfl _ _ rfl rfl _ 0 1 rfl Zp ?_;intro v6 w6 hown6 hgr6;have O6:=Za hown6;have B6:=Za (ZM HBR.out HOW.out hgr6);clear hown6 hgr6);go_roundw
       case rel=>exact⟨k+1,Om,Gn,by rw[RS.out];exact O6.out,B6.out⟩
       case measure=>simp[intOf];omega
      ·obtain rfl:k=mn:=Om
       rw[List.take_of_length_le (by rw[N3.out];exact Nat.le_refl _)]at ho;have HO2:=Za ho;have HBW2:=Za hb
       clear ho hb;go_wp2_with fail;clear d0 dl hbs hlt hk
       go_loopw [3,7] (fun v i wr => ∃ k:Nat,k≤bn∧i = .int .i64 k∧Own Zr 5 wr A0.heap.size v (s.pc++s.rg++s.mm++Gz (s.bf.take k))∧Below A0.heap.size A0 wr) (fun _ i _=>bn - (intOf i).toNat)
       case atStart=>exact⟨0,Nat.zero_le _,rfl,by rw[List.take_zero];simpa[Gz] using HO2.out,HBW2.out⟩
       case round =>
        obtain⟨k,hk,rfl,ho,hb⟩:=hrel;have d0:wr.cell? ⟨w.heap.size,3,none⟩=some (.slice ba bn bk):=Zc ((hb.block w.heap.size Om).trans HX2.out) (k:=3) rfl;have dl:=Zb d0;have hbs:=hb.size;have hbT:(Gz (s.bf.take k)).length≤100 * 1001:=Ec (fun o hq=>h5 o (List.mem_of_mem_take hq)) (by rw[List.length_take];omega);by_cases hlt:k < bn
        ·have hlt':=Zh hlt
         obtain⟨r,hrk⟩:=Zd (xs:=s.bf) (k:=k) (by rw[← N4.out];exact hlt);obtain⟨b2,o2,qa,qc,rfl,hbl2,q0,q1⟩:=((show Yv Zo w (.slice ba bn bk) s.bf from HX.out.bf).below (HB.out.trans (hb.mono HB.out.size))).row hrk;have hrl:=h5 r (List.mem_of_getElem? hrk);have b5:=b4 r (List.mem_of_getElem? hrk);have hlen:(s.pc++s.rg++s.mm++Gz (s.bf.take k)).length≤1000000:=by have:=N1.out;have:=N2.out;have:=N3.out;simp only[List.length_append];omega
         have RS:Hid (s.pc++s.rg++s.mm++Gz (s.bf.take (k+1))=((s.pc++s.rg++s.mm++Gz (s.bf.take k))++[255])++r):=Za (by rw[List.take_add_one,hrk];simp[Ed]);have HBR:=Za hb;have HOW:=Za ho;have HRK:=Za hrk;have B5:=Za b5
         clear hrk hb hbT q1 b5;generalize s.pc++s.rg++s.mm++Gz (s.bf.take k)=PP at *;clear ho;go_wp2_with (at_builtin;refine Z3 Zr 5 Tryz.JS rfl Tryz.underlying39 A0.heap.size _ PP 255 (HOW.out.alloc _) Dc Om So rfl _ _ rfl rfl _ 0 1 rfl Zp ?_;intro v6 w6 hown6 hgr6;have O6:=Za hown6;have B6:=Za (ZM HBR.out HOW.out hgr6);clear hown6 hgr6)
         go_loopw [3,8] (fun v i wr => ∃ j:Nat,j≤r.length∧i = .int .i64 j∧Own Zr 5 wr A0.heap.size v (PP++[255]++r.take j)∧Below A0.heap.size A0 wr) (fun _ i _=>r.length - (intOf i).toNat)
         case atStart=>exact⟨0,Nat.zero_le _,rfl,by rw[List.take_zero,List.append_nil];exact O6.out,B6.out⟩
         case round =>
          obtain⟨j,hj,rfl,ho,hb⟩:=hrel;have d0:wr.cell? ⟨w.heap.size,3,none⟩=some (.slice (some ⟨b2,o2,none⟩) bn bk):=Zc ((hb.block w.heap.size Om).trans HX2.out) (k:=3) rfl;have dl:=Zb d0;have hbs:=hb.size;obtain⟨b2',o2',qa',qc',hq2,hbl3,q0,q1⟩:=((show Yv Zo w (.slice (some ⟨b2,o2,none⟩) bn bk) s.bf from HX.out.bf).below (HB.out.trans (hb.mono HB.out.size))).row HRK.out;simp only[Option.some.injEq,Addr.mk.injEq,and_true]at hq2;obtain⟨rfl,rfl⟩:=hq2;by_cases hlt2:j < r.length
          ·have hlt3:=Zh hlt2
           obtain⟨y,hy⟩:=Zd (xs:=r) (k:=j) hlt2;obtain⟨b',o',rfl,hbl',j0⟩:=q1.int hy;have hyb:=B5.out.at hy;have hlen2:(PP++[255]++r.take j).length≤68719476736:=by simp only[List.length_append,List.length_take,List.length_singleton];omega
           have RS2:Hid (PP++[255]++r.take (j+1)=(PP++[255]++r.take j)++[y]):=Za (by rw[List.take_add_one,hy];simp);have HBR2:=Za hb;have HOW2:=Za ho
           clear hy hb q1;generalize PP++[255]++r.take j=PQ at *;clear ho;go_wp2_with (at_builtin;refine Z3 Zr 5 Tryz.JS rfl Tryz.underlying39 A0.heap.size _ PQ y (HOW2.out.alloc _) Dc hlen2 So rfl _ _ rfl rfl _ 0 1 rfl Zp ?_;intro v7 w7 hown7 hgr7;have O7:=Za hown7;have B7:=Za (ZM HBR2.out HOW2.out hgr7);clear hown7 hgr7);go_roundw
           case rel=>exact⟨j+1,Om,Gn,by rw[RS2.out];exact O7.out,B7.out⟩
           case measure=>simp[intOf];omega
          ·obtain rfl:j=r.length:=Om
           rw[List.take_length]at ho;have HO3:=Za ho;have HB3:=Za hb
           clear ho hb q1;go_wp2_with fail;go_roundw
           case rel=>exact⟨k+1,Om,Gn,by rw[RS.out];exact HO3.out,HB3.out⟩
           case measure=>simp[intOf];omega
        ·obtain rfl:k=bn:=Om
         rw[List.take_of_length_le (by rw[N4.out];exact Nat.le_refl _),← HK.out]at ho;have HB3:=Za (HB.out.trans (hb.mono HB.out.size));generalize hK:Gk s=K at *;have HKK:=Za hK;clear hK HK;rcases ho.shape with⟨rfl,rfl⟩ | ⟨g,cap,rfl,hg1,hg2,hg3,hg4⟩
         ·have kc:(convert 39 9 (.slice none 0 0)).run Tryz.prog wr = .ok (.string (strOfNums [])) wr:=Rf
          go_wp2_with fail;go_ret;exact⟨by rw[HKK.out];rfl,HB3.out⟩
         ·have kc:=run_convert_bytes_arg (P:=Tryz.prog) wr 39 5 Tryz.underlying39 Tryz.underlying5 g 0 K.length cap K rfl (fun i hi=>by
           obtain⟨y,hy⟩:=Zd hi;have h:=ho.cell hy (j:=0) rfl;simp only[Zr,Nat.mul_one,Nat.add_zero]at h;rw[Nat.zero_add,h,List.getD_eq_getElem?_getD,hy];rfl) 9 Tryz.underlying9
          clear ho;generalize K.length=n at *;go_wp2_with fail;go_ret;exact⟨by rw[HKK.out];rfl,HB3.out⟩
end Go.Proofs.YtngekjpklkjnbaaGreat
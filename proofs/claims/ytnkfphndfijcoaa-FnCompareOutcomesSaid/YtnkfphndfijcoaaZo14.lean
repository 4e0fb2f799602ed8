/-
  The reference's key of a state. Condition: its numbers are bytes, bounds on lengths.
-/
import Derived.Test.YtnkfphndfijcoaaZo09
import Derived.Laws.BytesArg
set_option maxHeartbeats 6400000
set_option maxRecDepth 100000
namespace Go.Proofs.Ytnkfphndfijcoaa
open Go.RowKit
def bfT (ls:List (List Int)):List Int:=ls.flatMap fun l=>255 :: l
def stKey (s:St):List Int:=s.pc++s.rg++s.mm++bfT s.bf
theorem bfT_snoc (ls:List (List Int)) (l:List Int):bfT (ls++[l])=bfT ls++255 :: l:=by simp[bfT]
theorem bfT_le {ls:List (List Int)}{m n:Nat}(h:∀ o∈ls,o.length≤m) (hn:ls.length≤n):(bfT ls).length≤n * (m+1):=by
 have key:∀ (ls:List (List Int)),(∀ o∈ls,o.length≤m)→(bfT ls).length≤ls.length * (m+1):=by
  intro ls
  induction ls with
  | nil=>intro _;simp[bfT]
  | cons l ls ih =>
   intro hl;have h1:=ih fun o ho=>hl o (by simp[ho]);have h2:=hl l (by simp);simp only[bfT,List.flatMap_cons,List.length_append,List.length_cons,Nat.add_mul,Nat.one_mul]at h1 ⊢;omega
 exact Nat.le_trans (key ls h) (Nat.mul_le_mul_right _ hn)
def byteR (l:List Int):Prop:=∀ x∈l,0≤x∧x≤255
theorem byteR.at {l:List Int}(h:byteR l) {k:Nat}{x:Int}(hx:l[k]? = some x):0≤x∧x≤255:=h x (List.mem_of_getElem? hx)
theorem Try.infoU8M:(Try.prog.info? 5).map (fun i=>(i.zero,i.size,i.bytes))=some (some (.int .u8 0),1,1):=by kernel_rfl
theorem l3Key_any (x:SV) (s:St) (w:World) (hx:RepSt w x s) (h1:s.pc.length≤1000) (h2:s.rg.length≤1000) (h3:s.mm.length≤1000) (h4:s.bf.length≤100) (h5:∀ o∈s.bf,o.length≤1000)
 (b1:byteR s.pc) (b2:byteR s.rg) (b3:byteR s.mm) (b4:∀ o∈s.bf,byteR o) :
 Calls Try.prog 39 #[.agg #[.slice x.p.a x.p.n x.p.cap,.slice x.r.a x.r.n x.r.cap,.slice x.m.a x.m.n x.m.cap,.slice x.b.a x.b.n x.b.cap]] w fun e w'=>e = .returned (.string (strOfNums (stKey s)))∧Below w.heap.size w w':=by
 obtain⟨⟨pa,pn,pk⟩,⟨ra,rn,rk⟩,⟨ma,mn,mk⟩,⟨ba,bn,bk⟩⟩:=x;have HX:=hide hx;obtain⟨_,_,hv1,-,-,-,-⟩:=hx.pc.open;obtain⟨_,_,hv2,-,-,-,-⟩:=hx.rg.open;obtain⟨_,_,hv3,-,-,-,-⟩:=hx.mm.open;obtain⟨_,_,hv4,-,-,-,-⟩:=hx.bf.open;simp only[Slc.v,Value.slice.injEq]at hv1 hv2 hv3 hv4;obtain⟨rfl,hn1,rfl⟩:=hv1;obtain⟨rfl,hn2,rfl⟩:=hv2;obtain⟨rfl,hn3,rfl⟩:=hv3;obtain⟨rfl,hn4,rfl⟩:=hv4;have N1:=hide hn1;have N2:=hide hn2;have N3:=hide hn3;have N4:=hide hn4
 have k1:pn≤1000:=by omega
 have k2:rn≤1000:=by omega
 have k3:mn≤1000:=by omega
 have k4:bn≤100:=by omega
 have HK:Hid (stKey s=s.pc++s.rg++s.mm++bfT s.bf):=hide rfl;clear hx hn1 hn2 hn3 hn4 h1 h2 h3 h4;obtain⟨A0,hA0⟩:∃ A0,A0=w.alloc (.cells #[.slice pa pn pk,.slice ra rn rk,.slice ma mn mk,.slice ba bn bk] 64):=⟨_,rfl⟩
 have HB:Hid (Below w.heap.size w A0):=hide (by rw[hA0];exact belowAlloc _ _);have hz:A0.heap.size=w.heap.size+1:=by rw[hA0];simp
 have HX2:Hid (A0.heap[w.heap.size]? = some (.cells #[.slice pa pn pk,.slice ra rn rk,.slice ma mn mk,.slice ba bn bk] 64 (0,0))):=hide (by rw[hA0];exact heap_alloc_new w _);have HA0:=hide hA0;clear hA0;have HE:=hide (Own.empty (E:=ByteE) 5 A0 (Nat.le_refl _));have HBE:=hide (belowAlloc A0 (.cells #[] 5));go_enter Try.func39,Try.ntmps39;go_wp2_with fail;rw[← HA0.out]
 go_loopw [3,4] (fun v i wr => ∃ k:Nat,k≤pn∧i = .int .i64 k∧Own ByteE 5 wr A0.heap.size v (s.pc.take k)∧Below A0.heap.size A0 wr) (fun _ i _=>pn - (intOf i).toNat)
 case atStart=>exact⟨0,Nat.zero_le _,rfl,by rw[List.take_zero,← hz];exact HE.out,HBE.out⟩
 case round =>
  obtain⟨k,hk,rfl,ho,hb⟩:=hrel;have d0:wr.cell? ⟨w.heap.size,0,none⟩=some (.slice pa pn pk):=cellH ((hb.block w.heap.size (by omega)).trans HX2.out) (k:=0) rfl;have dl:=lt_of_cell d0;have hbs:=hb.size;by_cases hlt:k < pn
  ·have hlt':=nat_of_lt hlt
   obtain⟨y,hy⟩:=get_of_lt (xs:=s.pc) (k:=k) (by rw[← N1.out];exact hlt);obtain⟨b',o',rfl,hbl',j0⟩:=((show Rep IntE w (.slice pa pn pk) s.pc from HX.out.pc).below (HB.out.trans (hb.mono HB.out.size))).int hy;have hyb:=b1.at hy;have hlen:(s.pc.take k).length≤68719476736:=by have:=N1.out;have:=N2.out;have:=N3.out;simp only[List.length_take];omega
   have RS:Hid (s.pc.take (k+1)=(s.pc.take k)++[y]):=hide (by rw[List.take_add_one,hy];simp);have HBR:=hide hb;have HOW:=hide ho
   clear hy hb;generalize s.pc.take k=PP at *;clear ho;go_wp2_with (at_builtin;refine wpList_app ByteE 5 Try.infoU8M rfl Try.underlying22 A0.heap.size _ PP y (HOW.out.alloc _) (by decide) hlen (by simp;omega) rfl _ _ rfl rfl _ 0 1 rfl news_alloc ?_;intro v6 w6 hown6 hgr6;have O6:=hide hown6;have B6:=hide (below_app HBR.out HOW.out hgr6);clear hown6 hgr6);go_roundw
   case rel=>exact⟨k+1,by omega,by go_num,by rw[RS.out];exact O6.out,B6.out⟩
   case measure=>simp[intOf];omega
  ·obtain rfl:k=pn:=by omega
   rw[List.take_of_length_le (by rw[N1.out];exact Nat.le_refl _)]at ho;have HO0:=hide ho;have HBW0:=hide hb
   clear ho hb;go_wp2_with fail;clear d0 dl hbs hlt hk
   go_loopw [3,5] (fun v i wr => ∃ k:Nat,k≤rn∧i = .int .i64 k∧Own ByteE 5 wr A0.heap.size v (s.pc++s.rg.take k)∧Below A0.heap.size A0 wr) (fun _ i _=>rn - (intOf i).toNat)
   case atStart=>exact⟨0,Nat.zero_le _,rfl,by rw[List.take_zero,List.append_nil];exact HO0.out,HBW0.out⟩
   case round =>
    obtain⟨k,hk,rfl,ho,hb⟩:=hrel;have d0:wr.cell? ⟨w.heap.size,1,none⟩=some (.slice ra rn rk):=cellH ((hb.block w.heap.size (by omega)).trans HX2.out) (k:=1) rfl;have dl:=lt_of_cell d0;have hbs:=hb.size;by_cases hlt:k < rn
    ·have hlt':=nat_of_lt hlt
     obtain⟨y,hy⟩:=get_of_lt (xs:=s.rg) (k:=k) (by rw[← N2.out];exact hlt);obtain⟨b',o',rfl,hbl',j0⟩:=((show Rep IntE w (.slice ra rn rk) s.rg from HX.out.rg).below (HB.out.trans (hb.mono HB.out.size))).int hy;have hyb:=b2.at hy;have hlen:(s.pc++s.rg.take k).length≤68719476736:=by have:=N1.out;have:=N2.out;have:=N3.out;simp only[List.length_append,List.length_take];omega
     have RS:Hid (s.pc++s.rg.take (k+1)=(s.pc++s.rg.take k)++[y]):=hide (by rw[List.take_add_one,hy];simp);have HBR:=hide hb;have HOW:=hide ho
     clear hy hb;generalize s.pc++s.rg.take k=PP at *;clear ho;go_wp2_with (at_builtin;refine wpList_app ByteE 5 Try.infoU8M rfl Try.underlying22 A0.heap.size _ PP y (HOW.out.alloc _) (by decide) hlen (by simp;omega) rfl _ _ rfl rfl _ 0 1 rfl news_alloc ?_;intro v6 w6 hown6 hgr6;have O6:=hide hown6;have B6:=hide (below_app HBR.out HOW.out hgr6);clear hown6 hgr6);go_roundw
     case rel=>exact⟨k+1,by omega,by go_num,by rw[RS.out];exact O6.out,B6.out⟩
     case measure=>simp[intOf];omega
    ·obtain rfl:k=rn:=by omega
     rw[List.take_of_length_le (by rw[N2.out];exact Nat.le_refl _)]at ho;have HO1:=hide ho;have HBW1:=hide hb
     clear ho hb;go_wp2_with fail;clear d0 dl hbs hlt hk
     go_loopw [3,6] (fun v i wr => ∃ k:Nat,k≤mn∧i = .int .i64 k∧Own ByteE 5 wr A0.heap.size v (s.pc++s.rg++s.mm.take k)∧Below A0.heap.size A0 wr) (fun _ i _=>mn - (intOf i).toNat)
     case atStart=>exact⟨0,Nat.zero_le _,rfl,by rw[List.take_zero,List.append_nil];exact HO1.out,HBW1.out⟩
     case round =>
      obtain⟨k,hk,rfl,ho,hb⟩:=hrel;have d0:wr.cell? ⟨w.heap.size,2,none⟩=some (.slice ma mn mk):=cellH ((hb.block w.heap.size (by omega)).trans HX2.out) (k:=2) rfl;have dl:=lt_of_cell d0;have hbs:=hb.size;by_cases hlt:k < mn
      ·have hlt':=nat_of_lt hlt
       obtain⟨y,hy⟩:=get_of_lt (xs:=s.mm) (k:=k) (by rw[← N3.out];exact hlt);obtain⟨b',o',rfl,hbl',j0⟩:=((show Rep IntE w (.slice ma mn mk) s.mm from HX.out.mm).below (HB.out.trans (hb.mono HB.out.size))).int hy;have hyb:=b3.at hy;have hlen:(s.pc++s.rg++s.mm.take k).length≤68719476736:=by have:=N1.out;have:=N2.out;have:=N3.out;simp only[List.length_append,List.length_take];omega
       have RS:Hid (s.pc++s.rg++s.mm.take (k+1)=(s.pc++s.rg++s.mm.take k)++[y]):=hide (by rw[List.take_add_one,hy];simp);have HBR:=hide hb;have HOW:=hide ho
       clear hy hb;generalize s.pc++s.rg++s.mm.take k=PP at *;clear ho;go_wp2_with (at_builtin;refine wpList_app ByteE 5 Try.infoU8M rfl Try.underlying22 A0.heap.size _ PP y (HOW.out.alloc _) (by decide) hlen (by simp;omega) rfl _ _ rfl rfl _ 0 1 rfl news_alloc ?_;intro v6 w6 hown6 hgr6;have O6:=hide hown6;have B6:=hide (below_app HBR.out HOW.out hgr6);clear hown6 hgr6);go_roundw
       case rel=>exact⟨k+1,by omega,by go_num,by rw[RS.out];exact O6.out,B6.out⟩
       case measure=>simp[intOf];omega
      ·obtain rfl:k=mn:=by omega
       rw[List.take_of_length_le (by rw[N3.out];exact Nat.le_refl _)]at ho;have HO2:=hide ho;have HBW2:=hide hb
       clear ho hb;go_wp2_with fail;clear d0 dl hbs hlt hk
       go_loopw [3,7] (fun v i wr => ∃ k:Nat,k≤bn∧i = .int .i64 k∧Own ByteE 5 wr A0.heap.size v (s.pc++s.rg++s.mm++bfT (s.bf.take k))∧Below A0.heap.size A0 wr) (fun _ i _=>bn - (intOf i).toNat)
       case atStart=>exact⟨0,Nat.zero_le _,rfl,by rw[List.take_zero];simpa[bfT] using HO2.out,HBW2.out⟩
       case round =>
        obtain⟨k,hk,rfl,ho,hb⟩:=hrel;have d0:wr.cell? ⟨w.heap.size,3,none⟩=some (.slice ba bn bk):=cellH ((hb.block w.heap.size (by omega)).trans HX2.out) (k:=3) rfl;have dl:=lt_of_cell d0;have hbs:=hb.size;have hbT:(bfT (s.bf.take k)).length≤100 * 1001:=bfT_le (fun o hq=>h5 o (List.mem_of_mem_take hq)) (by rw[List.length_take];omega);by_cases hlt:k < bn
        ·have hlt':=nat_of_lt hlt
         obtain⟨r,hrk⟩:=get_of_lt (xs:=s.bf) (k:=k) (by rw[← N4.out];exact hlt);obtain⟨b2,o2,qa,qc,rfl,hbl2,q0,q1⟩:=((show Rep2 IntE w (.slice ba bn bk) s.bf from HX.out.bf).below (HB.out.trans (hb.mono HB.out.size))).row hrk;have hrl:=h5 r (List.mem_of_getElem? hrk);have b5:=b4 r (List.mem_of_getElem? hrk);have hlen:(s.pc++s.rg++s.mm++bfT (s.bf.take k)).length≤1000000:=by have:=N1.out;have:=N2.out;have:=N3.out;simp only[List.length_append];omega
         have RS:Hid (s.pc++s.rg++s.mm++bfT (s.bf.take (k+1))=((s.pc++s.rg++s.mm++bfT (s.bf.take k))++[255])++r):=hide (by rw[List.take_add_one,hrk];simp[bfT_snoc]);have HBR:=hide hb;have HOW:=hide ho;have HRK:=hide hrk;have B5:=hide b5
         clear hrk hb hbT q1 b5;generalize s.pc++s.rg++s.mm++bfT (s.bf.take k)=PP at *;clear ho;go_wp2_with (at_builtin;refine wpList_app ByteE 5 Try.infoU8M rfl Try.underlying22 A0.heap.size _ PP 255 (HOW.out.alloc _) (by decide) (by omega) (by simp;omega) rfl _ _ rfl rfl _ 0 1 rfl news_alloc ?_;intro v6 w6 hown6 hgr6;have O6:=hide hown6;have B6:=hide (below_app HBR.out HOW.out hgr6);clear hown6 hgr6)
         go_loopw [3,8] (fun v i wr => ∃ j:Nat,j≤r.length∧i = .int .i64 j∧Own ByteE 5 wr A0.heap.size v (PP++[255]++r.take j)∧Below A0.heap.size A0 wr) (fun _ i _=>r.length - (intOf i).toNat)
         case atStart=>exact⟨0,Nat.zero_le _,rfl,by rw[List.take_zero,List.append_nil];exact O6.out,B6.out⟩
         case round =>
          obtain⟨j,hj,rfl,ho,hb⟩:=hrel;have d0:wr.cell? ⟨w.heap.size,3,none⟩=some (.slice (some ⟨b2,o2,none⟩) bn bk):=cellH ((hb.block w.heap.size (by omega)).trans HX2.out) (k:=3) rfl;have dl:=lt_of_cell d0;have hbs:=hb.size;obtain⟨b2',o2',qa',qc',hq2,hbl3,q0,q1⟩:=((show Rep2 IntE w (.slice (some ⟨b2,o2,none⟩) bn bk) s.bf from HX.out.bf).below (HB.out.trans (hb.mono HB.out.size))).row HRK.out;simp only[Option.some.injEq,Addr.mk.injEq,and_true]at hq2;obtain⟨rfl,rfl⟩:=hq2;by_cases hlt2:j < r.length
          ·have hlt3:=nat_of_lt hlt2
           obtain⟨y,hy⟩:=get_of_lt (xs:=r) (k:=j) hlt2;obtain⟨b',o',rfl,hbl',j0⟩:=q1.int hy;have hyb:=B5.out.at hy;have hlen2:(PP++[255]++r.take j).length≤68719476736:=by simp only[List.length_append,List.length_take,List.length_singleton];omega
           have RS2:Hid (PP++[255]++r.take (j+1)=(PP++[255]++r.take j)++[y]):=hide (by rw[List.take_add_one,hy];simp);have HBR2:=hide hb;have HOW2:=hide ho
           clear hy hb q1;generalize PP++[255]++r.take j=PQ at *;clear ho;go_wp2_with (at_builtin;refine wpList_app ByteE 5 Try.infoU8M rfl Try.underlying22 A0.heap.size _ PQ y (HOW2.out.alloc _) (by decide) hlen2 (by simp;omega) rfl _ _ rfl rfl _ 0 1 rfl news_alloc ?_;intro v7 w7 hown7 hgr7;have O7:=hide hown7;have B7:=hide (below_app HBR2.out HOW2.out hgr7);clear hown7 hgr7);go_roundw
           case rel=>exact⟨j+1,by omega,by go_num,by rw[RS2.out];exact O7.out,B7.out⟩
           case measure=>simp[intOf];omega
          ·obtain rfl:j=r.length:=by omega
           rw[List.take_length]at ho;have HO3:=hide ho;have HB3:=hide hb
           clear ho hb q1;go_wp2_with fail;go_roundw
           case rel=>exact⟨k+1,by omega,by go_num,by rw[RS.out];exact HO3.out,HB3.out⟩
           case measure=>simp[intOf];omega
        ·obtain rfl:k=bn:=by omega
         rw[List.take_of_length_le (by rw[N4.out];exact Nat.le_refl _),← HK.out]at ho;have HB3:=hide (HB.out.trans (hb.mono HB.out.size));generalize hK:stKey s=K at *;have HKK:=hide hK;clear hK HK;rcases ho.shape with⟨rfl,rfl⟩ | ⟨g,cap,rfl,hg1,hg2,hg3,hg4⟩
         ·have kc:(convert 22 9 (.slice none 0 0)).run Try.prog wr = .ok (.string (strOfNums [])) wr:=by rfl
          go_wp2_with fail;go_ret;exact⟨by rw[HKK.out];rfl,HB3.out⟩
         ·have kc:=run_convert_bytes_arg (P:=Try.prog) wr 22 5 Try.underlying22 Try.underlying5 g 0 K.length cap K rfl (fun i hi=>by
           obtain⟨y,hy⟩:=get_of_lt hi;have h:=ho.cell hy (j:=0) rfl;simp only[ByteE,Nat.mul_one,Nat.add_zero]at h;rw[Nat.zero_add,h,List.getD_eq_getElem?_getD,hy];rfl) 9 Try.underlying9
          clear ho;generalize K.length=n at *;go_wp2_with fail;go_ret;exact⟨by rw[HKK.out];rfl,HB3.out⟩
end Go.Proofs.Ytnkfphndfijcoaa
/-
  The programs that are drawn for ProgramValid and GapsOf. Condition: bytes.
-/
import Derived.Test.YtlddmagfbcomgaaZr17
import Derived.Test.YtlddmagfbcomgaaZr07
set_option maxHeartbeats 6400000
set_option maxRecDepth 100000
namespace Go.Proofs.Ytlddmagfbcomgaa
open Go.RowKit
def RetProg (w:World) (e:Ending) (w':World):Prop:=∃ (v:Value) (P:List (List Ins)),e = .returned v∧RepP w' v P∧P.length≤5∧(∀ r∈P,r.length≤9)∧Below w.heap.size w w'
theorem flatten_bound9 {P:List (List Ins)} (hl:P.length≤5) (h:∀ r∈P,r.length≤9):P.flatten.length≤45:=by
 have:=flatten_bound P 9 h
 have:P.length * 9≤5 * 9:=Nat.mul_le_mul_right _ hl
 omega
end Go.Proofs.Ytlddmagfbcomgaa
namespace Go.Proofs.Ytlddmagfbcomgaa
open Go.RowKit
theorem three_empty (w:World) (TI TS:TypeId):Own2U InsE TS TI [⟨some ⟨w.heap.size,0,none⟩,0,0⟩,⟨some ⟨w.heap.size+1,0,none⟩,0,0⟩,⟨some ⟨w.heap.size+2,0,none⟩,0,0⟩]
 ((((w.alloc (.cells #[] TI)).alloc (.cells #[] TI)).alloc (.cells #[] TI)).alloc (.cells #[.slice (some ⟨w.heap.size,0,none⟩) 0 0, .slice (some ⟨w.heap.size+1,0,none⟩) 0 0, .slice (some ⟨w.heap.size+2,0,none⟩) 0 0] TS))
 w.heap.size (.slice (some ⟨w.heap.size+3,0,none⟩) 3 3) [[],[],[]]:=by
 have e1:=((Own.empty (E:=InsE) TI w (base:=w.heap.size) (Nat.le_refl _)).alloc (.cells #[] TI)).alloc (.cells #[] TI) |>.alloc (.cells #[.slice (some ⟨w.heap.size,0,none⟩) 0 0, .slice (some ⟨w.heap.size+1,0,none⟩) 0 0, .slice (some ⟨w.heap.size+2,0,none⟩) 0 0] TS)
 have e2:=((Own.empty (E:=InsE) TI (w.alloc (.cells #[] TI)) (base:=w.heap.size) (by simp)).alloc (.cells #[] TI)).alloc (.cells #[.slice (some ⟨w.heap.size,0,none⟩) 0 0, .slice (some ⟨w.heap.size+1,0,none⟩) 0 0, .slice (some ⟨w.heap.size+2,0,none⟩) 0 0] TS)
 have e3:=(Own.empty (E:=InsE) TI ((w.alloc (.cells #[] TI)).alloc (.cells #[] TI)) (base:=w.heap.size) (by simp;omega)).alloc (.cells #[.slice (some ⟨w.heap.size,0,none⟩) 0 0, .slice (some ⟨w.heap.size+1,0,none⟩) 0 0, .slice (some ⟨w.heap.size+2,0,none⟩) 0 0] TS)
 have e4:=Own.lit (E:=SlcE) (T:=TS) (w:=((w.alloc (.cells #[] TI)).alloc (.cells #[] TI)).alloc (.cells #[] TI)) (base:=w.heap.size) (by simp;omega)
  [⟨some ⟨w.heap.size,0,none⟩,0,0⟩,⟨some ⟨w.heap.size+1,0,none⟩,0,0⟩,⟨some ⟨w.heap.size+2,0,none⟩,0,0⟩] #[.slice (some ⟨w.heap.size,0,none⟩) 0 0, .slice (some ⟨w.heap.size+1,0,none⟩) 0 0, .slice (some ⟨w.heap.size+2,0,none⟩) 0 0] 3 rfl rfl (by omega)
 simp only [World.size_alloc] at e1 e2 e3 e4
 refine ⟨rfl,e4, ?_, ?_, ?_⟩
 ·intro i u r hu hr
  match i,hu,hr with
  | 0,hu,hr=>simp at hu hr;subst hu;subst hr;exact e1
  | 1,hu,hr=>simp at hu hr;subst hu;subst hr;exact e2
  | 2,hu,hr=>simp at hu hr;subst hu;subst hr;exact e3
 ·intro i j u u' hi hj hij q hq hq'
  match i,j,hi,hj with
  | 0,0,_,_=>exact hij rfl
  | 1,1,_,_=>exact hij rfl
  | 2,2,_,_=>exact hij rfl
  | 0,1,hi,hj=>simp at hi hj;subst hi;subst hj;simp [Value.ownBlock] at hq hq';omega
  | 0,2,hi,hj=>simp at hi hj;subst hi;subst hj;simp [Value.ownBlock] at hq hq';omega
  | 1,0,hi,hj=>simp at hi hj;subst hi;subst hj;simp [Value.ownBlock] at hq hq';omega
  | 1,2,hi,hj=>simp at hi hj;subst hi;subst hj;simp [Value.ownBlock] at hq hq';omega
  | 2,0,hi,hj=>simp at hi hj;subst hi;subst hj;simp [Value.ownBlock] at hq hq';omega
  | 2,1,hi,hj=>simp at hi hj;subst hi;subst hj;simp [Value.ownBlock] at hq hq';omega
 ·intro i u hu q hq hq'
  match i,hu with
  | 0,hu=>simp at hu;subst hu;simp [Value.ownBlock] at hq hq';omega
  | 1,hu=>simp at hu;subst hu;simp [Value.ownBlock] at hq hq';omega
  | 2,hu=>simp at hu;subst hu;simp [Value.ownBlock] at hq hq';omega
theorem DrawProgramValid_any (v:Value) (xs0:List Int) (w:World) (hx:Rep ByteE w v xs0) (hb:∀ x∈xs0,0≤x∧x≤255) :
 Calls Try.prog 11 #[v] w (RetProg w):=by
 have HO:=hide (l17Open_any v xs0 w hx hb)
 clear hx hb
 go_enter Try.func11,Try.ntmps11
 go_wp2_with fail
 (with_reducible refine HO.out.mono ?_);rintro e w1 ⟨b,a,c,xs,rfl,hr1,hbs,hb1⟩
 have R1:=hide hr1;have HB1:=hide hb1
 have hlt:=hr1.lt
 clear hr1 hb1 HO
 go_wp2_with fail
 (with_reducible refine (pick_any b a c xs 0 20 _ R1.out (by omega) (by omega) (by omega)).mono ?_);rintro e w2 ⟨v2,p2,rfl,⟨q2,rfl, -, -⟩,hp2,hr2,ho2⟩
 have R2:=hide hr2;have HB2:=hide (HB1.out.trans (below_of_outside ho2 hbs HB1.out.size))
 have hlt2:=hr2.lt
 clear hr2 ho2 R1 HB1
 by_cases hq:q2=0
 ·subst hq
  have U0:Own2U InsE 35 38 [⟨some ⟨w2.heap.size,0,none⟩,0,0⟩,⟨some ⟨w2.heap.size+1,0,none⟩,0,0⟩,⟨some ⟨w2.heap.size+1+1,0,none⟩,0,0⟩] ((((w2.alloc (.cells #[] 38)).alloc (.cells #[] 38)).alloc (.cells #[] 38)).alloc (.cells #[.slice (some ⟨w2.heap.size,0,none⟩) 0 0, .slice (some ⟨w2.heap.size+1,0,none⟩) 0 0, .slice (some ⟨w2.heap.size+1+1,0,none⟩) 0 0] 35)) w2.heap.size (.slice (some ⟨w2.heap.size+1+1+1,0,none⟩) 3 3) [[],[],[]]:=three_empty w2 38 35
  have HB3:=(((HB2.out.alloc HB2.out.size (.cells #[] 38)).alloc (by have:=HB2.out.size;simp;omega) (.cells #[] 38)).alloc (by have:=HB2.out.size;simp;omega) (.cells #[] 38)).alloc (by have:=HB2.out.size;simp;omega) (.cells #[.slice (some ⟨w2.heap.size,0,none⟩) 0 0, .slice (some ⟨w2.heap.size+1,0,none⟩) 0 0, .slice (some ⟨w2.heap.size+1+1,0,none⟩) 0 0] 35)
  have U:=hide U0;have HB:=hide HB3
  have hsz:=HB2.out.size
  clear U0 HB3
  go_wp2_with fail
  go_loopw [5] (fun i wr => ∃ k:Nat,k≤9∧i = .int .i64 k∧Hid (∃ (us:List Slc) (P:List (List Ins)),Own2U InsE 35 38 us wr w2.heap.size (.slice (some ⟨w2.heap.size+1+1+1,0,none⟩) 3 3) P∧P.length=3∧∀ r∈P,r.length≤k)∧Hid (Below w.heap.size w wr)∧Hid (w2.heap.size+1+1+1 < wr.heap.size)) (fun i _=>9 - (intOf i).toNat)
  case atStart=>exact ⟨0,by omega,rfl,hide ⟨_,_,U.out,rfl,fun r hr=>by simp at hr;rcases hr with rfl | rfl | rfl <;> simp⟩,HB,hide (by simp)⟩
  case round =>
   obtain ⟨k,hk,rfl,hU,hb,hz⟩:=hrel
   by_cases hlt3:k < 9
   ·obtain ⟨us,P,hU2,hPl,hPr⟩:=hU.out
    have hkm:k % 3 < 3:=Nat.mod_lt _ (by decide)
    obtain ⟨r,hr⟩:=get_of_lt (xs:=P) (k:=k % 3) (by omega)
    obtain ⟨⟨sa,sn,sc⟩,hs,hgl,hcell,hrow, -⟩:=hU2.row hr
    have hfz:=hU2.2.1.frozen (k % 3)
    have hrl:=hPr r (List.mem_of_getElem? hr)
    have hlo:w2.heap.size≤wr.heap.size:=by have:=hz.out;omega
    have HU2:=hide hU2;have HS:=hide hs;have HROW:=hide hrow;have HPL:=hide hPl;have HPR:=hide hPr
    have hrg:∀ q,(Value.slice sa sn sc).ownBlock=some q→q≠w2.heap.size+1+1+1:=fun q hq e=>hU2.2.2.2.2 _ _ hs q hq (by rw [e];rfl)
    have hm:((k:Int) % 3)=((k % 3:Nat):Int):=by omega
    have hm2:Int.tmod (k:Int) 3=((k % 3:Nat):Int):=by rw [Int.tmod_eq_emod_of_nonneg (by omega)];omega
    have hlt9:(k:Int) < 9:=by omega
    have hk3:((k % 3:Nat):Int) < 3:=by omega
    have hrl2:r.length≤68719476736:=by omega
    clear hU2 hs hrow hr hPl hPr hU
    generalize hkm':k % 3=km at *
    clear hkm'
    go_wp2_with (at_builtin;(refine wpList_appAt InsE 38 Try.infoIns rfl Try.underlying35 w2.heap.size (.slice sa sn sc) r ⟨5,0,0,1⟩ (HROW.out.alloc _) (by decide) hrl2 (Nat.le_trans hlo (belowAlloc _ _).size) rfl _ _ rfl rfl wr.heap.size 0 1 rfl news_alloc ?_;intro v' w3 hown3 hgr3 hat3;obtain ⟨⟨va,vn,vc⟩,rfl, -⟩:=hown3.toSlc;obtain ⟨hg7,hg8⟩:=row_far hgr3 (g:=w2.heap.size+1+1+1) hz.out (fun q hq e=>hrg q hq e);have hc3:=(hg7 km).trans hcell;have hf3:=(hg8 km).trans hfz;have hl3:=lt_of_cell hc3;have HO3:=hide hown3;have HG3:=hide hgr3;have HA3:=hide hat3;clear hown3 hgr3 hat3 hg7 hg8))
    have U3:=(HU2.out.below (belowAlloc wr (.cells #[.int .i64 5, .int .i64 0, .int .i64 0, .int .i64 1] 38))).rowput2 (s':=⟨va,vn,vc⟩) HS.out HO3.out HG3.out HA3.out
    have B3:=(((hb.out.alloc (hb.out.size) (.cells #[.int .i64 5, .int .i64 0, .int .i64 0, .int .i64 1] 38))).grown HG3.out (Nat.le_trans hb.out.size (belowAlloc _ _).size) (fun q hq=>by have:=HROW.out.rowGe q hq;omega)).setCell (p:=⟨w2.heap.size+1+1+1,km,none⟩) (show _≤w2.heap.size+1+1+1 by omega) (.slice va vn vc)
    have HB3:=hide B3
    have HU3:=hide (show ∃ (us:List Slc) (P:List (List Ins)),Own2U InsE 35 38 us (w3.setCell ⟨w2.heap.size+1+1+1,km,none⟩ (.slice va vn vc)) w2.heap.size (.slice (some ⟨w2.heap.size+1+1+1,0,none⟩) 3 3) P∧P.length=3∧∀ r∈P,r.length≤k+1 from ⟨_,_,U3,by rw [List.length_set];exact HPL.out,mem_set_le (fun r hr=>Nat.le_trans (HPR.out r hr) (by omega)) (by simp;omega)⟩)
    clear U3 B3
    go_roundw
    case rel=>exact ⟨k+1,by omega,by go_num,HU3,HB3,hide (by simpa using hl3)⟩
    case measure=>simp [intOf];omega
   ·have hkg:decide ((k:Int) < 9)=false:=decide_eq_false (by omega)
    obtain ⟨us,P,hU2,hPl,hPr⟩:=hU.out
    have HU2:=hide hU2;have HPR:=hide hPr;have HPL:=hide hPl
    clear hU hU2 hPr hPl
    go_wp2_with fail
    go_ret
    exact ⟨_,P,rfl,HU2.out.own.rep,by have:=HPL.out;omega,fun r hr=>Nat.le_trans (HPR.out r hr) hk,hb.out⟩
 ·have hq':(q2==0)=false:=by simp [hq]
  clear hq
  go_wp2_with fail
  (with_reducible refine (l1Draw_any b a c xs p2 _ R2.out (by omega)).mono ?_);rintro e w3 ⟨v3,p3,rfl,⟨P,hP,hl,hl2⟩,hp3,hr3,ho3⟩
  have R3:=hide hr3;have O3:=hide ho3;have HP:=hide hP;have HL2:=hide hl2
  clear hr3 ho3 hP hl2 R2
  go_wp2_with fail
  (with_reducible refine (l1Mutate_any b a c xs p3 v3 P _ R3.out (by omega) HP.out.rep hl HL2.out).mono ?_);rintro e w4 ⟨v4,p4,rfl,hQ4,hp4,hr4,ho4⟩
  obtain ⟨P4,hP4,hl4,hl5⟩:=hQ4.open
  have HL5:=hide hl5
  have HB4:=hide (HB2.out.trans (below_of_outside (O3.out.trans ho4) hbs HB2.out.size))
  clear hr4 ho4 hQ4 hl5
  go_wp2_with fail
  go_ret
  exact ⟨_,P4,rfl,hP4,hl4,HL5.out,HB4.out⟩
end Go.Proofs.Ytlddmagfbcomgaa
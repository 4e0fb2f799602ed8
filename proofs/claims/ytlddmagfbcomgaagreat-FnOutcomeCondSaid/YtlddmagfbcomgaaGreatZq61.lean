/-
  FnOutcomeCond: for every input the law returns true and the input reads afterwards as it read before. No condition.
-/
import Derived.Test.YtlddmagfbcomgaaGreatZq60
import Derived.Test.YtlddmagfbcomgaaGreatZq05
import Derived.Test.YtlddmagfbcomgaaGreatZq12
import Derived.Test.YtlddmagfbcomgaaGreatZq00
import Derived.Test.YtlddmagfbcomgaaGreatZq15
import Derived.Test.YtlddmagfbcomgaaGreatZq21
import Derived.Test.YtlddmagfbcomgaaGreatZq22
import Derived.Test.YtlddmagfbcomgaaGreatZq46
import Derived.Test.YtlddmagfbcomgaaGreatZq14
import Derived.Test.YtlddmagfbcomgaaGreatZq59
import Derived.Test.YtlddmagfbcomgaaGreatZq53
import Derived.Test.YtlddmagfbcomgaaGreatZq54
import Derived.Test.YtlddmagfbcomgaaGreatZq56
import Derived.Test.YtlddmagfbcomgaaGreatZq04
set_option maxHeartbeats 6400000
set_option maxRecDepth 100000
namespace Go.Proofs.YtlddmagfbcomgaaGreat
open Go.RowKit
def QPO (lo:Nat) (v:Value) (w:World):Prop:=∃ (vp:Value) (so:Slc) (P:List (List Ins)) (o:List Int),v = .tuple #[vp, .slice so.a so.n so.cap]∧OwnP w lo vp P∧P.length≤4∧(∀ r∈P,r.length≤8)∧progValid P=true∧Own IntE 3 w lo so.v o∧o.length≤20
theorem l3Draw_any (b:Nat) (a:Option Addr) (c:Nat) (xs:List Int) (p:Int) (w:World) (hr:Rd w b a c xs p) (hp:p≤700000000) :
 Calls Tryz.prog 122 #[.pointer (some ⟨b,0,none⟩)] w (RetRd w b a c xs p 70 (QPO w.heap.size)):=by
 have HL1:=hide (l1Draw_anyV b a c xs p w hr (by omega))
 have HPK:=hide (fun (p:Int) n w' h hp hn hn0=>pick_any b a c xs p n w' h hp hn hn0)
 have HNU:=hide (fun (p:Int) y0 y1 y2 y3 y4 w' G hG hb h hp=>numLit5 b a c xs p y0 y1 y2 y3 y4 w' G hG hb h hp)
 have hlt:=hr.lt
 have kf:∀ (x y:Value) (w:World),(Instr.field 173 (.agg #[x,y]) 1).run Tryz.prog w = .ok y w:=fun x y w=>by kernel_rfl
 clear hr
 go_enter Tryz.func122,Tryz.ntmps122
 go_wp2_with fail
 (with_reducible refine HL1.out.mono ?_);rintro e w1 ⟨v1,p1,rfl,⟨P,hP,hPl,hPr,hPv⟩,hp1,hr1,ho1⟩
 have HSEQ:=hide (l3Seq_any v1 P w1 hP.rep hPv)
 have R1:=hide hr1;have O1:=hide ho1;have HP1:=hide hP
 have hs1:=ho1.size
 have hlt1:=hr1.lt
 have HPV:=hide hPv;have HPR:=hide hPr
 clear hr1 ho1 hP HL1 hPv hPr
 go_wp2_with fail
 (with_reducible refine HSEQ.out.mono ?_);rintro e w2 ⟨seen,taken,outs,hall,cn,vo,hcn,rfl,hol,hb2⟩
 obtain ⟨hne,hfew,hout⟩:=sq_outs (valid_ins HPV.out) (valid_le HPV.out).1 hall
 have R2:=hide (R1.out.keep hb2 hlt1);have O2:=hide (O1.out.trans (Outside.of_below hb2));have HP2:=hide (HP1.out.below hb2)
 have hs2:=hb2.size
 have HOL:=hide hol
 obtain ⟨-,us,hul,hown,hrows⟩:=hol
 obtain ⟨⟨voa,von,voc⟩,hvo,hvn⟩:=hown.toSlc
 obtain ⟨vo1,vo2,vo3⟩:=vo
 simp only [Slc.v,Value.slice.injEq] at hvo
 obtain ⟨rfl,rfl,rfl⟩:=hvo
 have hvn2:vo2=outs.length:=by rw [← hul];exact hvn
 have HOUT:=hide hout;have HOWN:=hide hown;have HROWS:=hide hrows;have HUL:=hide hul
 have hpos:0 < outs.length:=List.length_pos_iff.2 hne
 clear hall hown hrows hvn hb2 HSEQ hout hul R1 O1 HP1 hne HOL
 subst hvn2
 generalize hon:outs.length=n at *
 have HON:=hide hon
 clear hon
 have EL:=hide (Own.empty (E:=IntE) 3 w2 (Nat.le_refl _))
 have R2a:=hide (R2.out.allocNew (.cells #[] 3))
 go_wp2_with fail
 (with_reducible refine (HPK.out p1 (n:Int) _ R2a.out (by omega) (by omega) (by omega)).mono ?_);rintro e w3 ⟨v3,p3,rfl,⟨q,rfl,hq0,hqn⟩,hp3,hr3,ho3⟩
 obtain ⟨qn,rfl⟩:∃ qn:Nat,q=qn:=⟨q.toNat,by omega⟩
 have hqn:=hqn (by omega)
 obtain ⟨r,hrk⟩:=get_of_lt (xs:=outs) (k:=qn) (by have:=HON.out;omega)
 obtain ⟨⟨ua,un,uc⟩,huk⟩:=get_of_lt (xs:=us) (k:=qn) (by have:=HON.out;have:=HUL.out;omega)
 have hA:=belowAlloc w2 (.cells #[] 3)
 have hown3:=ho3.ownHi (HOWN.out.below hA) (show b < w1.heap.size by omega)
 have hrow3:=ho3.ownHi ((HROWS.out qn _ r huk hrk).now.below hA) (show b < w1.heap.size by omega)
 obtain ⟨g,go,hge,hgl,i0⟩:=hown3.rep.slc huk
 obtain ⟨hrl,hrr⟩:=HOUT.out r (List.mem_of_getElem? hrk)
 have hPl3:=(valid_le HPV.out).1
 have hPl1:=(valid_le HPV.out).2.1
 have EL3:=hide (ho3.ownHi EL.out (show b < w2.heap.size by omega))
 have RW3:=hide hrow3
 have R3:=hide hr3;have O3:=hide ((O2.out.allocNew (.cells #[] 3)).trans ho3);have HP3:=hide ((HP2.out.below hA).outHi ho3 (show b+1≤w.heap.size by omega))
 have hs3:=ho3.size
 simp only [World.size_alloc] at hs3
 have hrl2:r.length≤12:=by omega
 have hrl3:3≤r.length:=by omega
 have hn3:([]:List Int).length+r.length≤68719476736:=by simp;omega
 clear hr3 ho3 hown3 hrow3 R2a EL hA hrk huk hrr HROWS HOWN HUL HON HOUT hrl R2 O2 HP2
 subst hge
 go_wp2_with (at_builtin;refine wpList_appS IntE 3 Tryz.infoInt rfl Tryz.underlying40 w2.heap.size _ [] r _ EL3.out RW3.out.rep (by decide) hn3 (by omega) rfl _ _ rfl rfl rfl ?_;intro v4 w4 hown4 hgr4;rw [List.nil_append] at hown4;have O4:=hide hown4;have R4:=hide (R3.out.grownNew hgr4 (fun q hq=>by simp [Value.ownBlock] at hq;omega));have OU4:=hide (O3.out.grownNew hgr4 (fun q hq=>by simp [Value.ownBlock] at hq;omega));have hs4:=hgr4.size;have HP4:=hide ((LocT.own2 HP3.out (L:=[3]) (B:=0) (by decide) (by decide)).keep w4 (KpT.grown EL3.out (by decide) (Nat.zero_le _) hgr4));clear hown4 hgr4)
 have hb4:b < w4.heap.size:=by omega
 clear RW3 R3 EL3 HP3 O3 i0 hgl hqn hq0
 rcases O4.out.shape with ⟨_,e⟩ | ⟨g4,c4,rfl,hg4,hg4',hc4, -⟩
 ·rw [e] at hrl3;simp at hrl3
 (with_reducible refine (HPK.out p3 6 w4 R4.out (by omega) (by omega) (by omega)).mono ?_);rintro e w5 ⟨v5,p5,rfl,⟨q5,rfl,hq50,hq5n⟩,hp5,hr5,ho5⟩
 have R5:=hide hr5;have OU5:=hide (OU4.out.trans ho5);have O5:=hide (ho5.ownHi O4.out (show b < w2.heap.size by omega));have HP5:=hide (HP4.out.outHi ho5 (show b+1≤w.heap.size by omega))
 have hs5:=ho5.size
 have hb5:b < w5.heap.size:=by omega
 clear hr5 ho5 R4 OU4 O4 HP4
 generalize hrn:r.length=rn at *
 have HRN:=hide hrn
 clear hrn
 by_cases h0:q5=0
 ·subst h0
  go_wp2_with fail
  (with_reducible refine (HPK.out p5 (rn:Int) w5 R5.out (by omega) (by omega) (by omega)).mono ?_);rintro e w6 ⟨v6,p6,rfl,⟨q6,rfl,hq60,hq6n⟩,hp6,hr6,ho6⟩
  obtain ⟨qn6,rfl⟩:∃ qn:Nat,q6=qn:=⟨q6.toNat,by omega⟩
  have hq6n:=hq6n (by omega)
  have R6:=hide hr6;have OU6:=hide (OU5.out.trans ho6);have O6:=hide (ho6.ownHi O5.out (show b < w2.heap.size by omega));have HP6:=hide (HP5.out.outHi ho6 (show b+1≤w.heap.size by omega))
  have hs6:=ho6.size
  have hb6:b < w6.heap.size:=by omega
  clear hr6 ho6 R5 OU5 O5 HP5
  go_wp2_with fail
  (with_reducible refine (HNU.out p6 1 0 3 4 (-1) w6 _ rfl hb6 (R6.out.allocNew _) (by omega)).mono ?_);rintro e w7 ⟨v7,p7,rfl,⟨y7, -,rfl⟩,hp7,hr7,ho7⟩
  have R7:=hide hr7;have OU7:=hide ((OU6.out.allocNew _).trans ho7);have O7:=hide (ho7.ownHi (O6.out.alloc _) (show b < w2.heap.size by omega));have HP7:=hide ((HP6.out.below (belowAlloc _ _)).outHi ho7 (show b+1≤w.heap.size by omega))
  have hs7:=ho7.size
  clear hr7 ho7 R6 OU6 O6 HP6
  obtain ⟨z,hz⟩:=get_of_lt (xs:=r) (k:=qn6) (by have:=HRN.out;omega)
  obtain ⟨k1,k2,k3,k4,k5⟩:=O7.out.int1 hz y7
  have K4:=hide k4;have K5:=hide k5
  have k3:=k3 qn6
  clear k4 k5 hz
  go_wp2_with fail
  have hkp:KpT [3] 0 w7 (w7.setCell ⟨g4,qn6,none⟩ (.int .i64 y7)):=KpT.grown O7.out (by decide) (Nat.zero_le _) K5.out
  refine bodyPost_ret (v:=.tuple #[v1, .slice (some ⟨g4,0,none⟩) rn c4]) (by simp [results,Tryz.results122,go_sem, *]) rfl ⟨_,p7,rfl,⟨v1,⟨some ⟨g4,0,none⟩,rn,c4⟩,P,_,rfl,(LocT.own2 HP7.out (L:=[3]) (B:=0) (by decide) (by decide)).keep _ hkp,hPl,HPR.out,HPV.out,K4.out.mono (by omega),by rw [List.length_set];have:=HRN.out;omega⟩,by omega,R7.out.setNew (by omega) _ _,OU7.out.setNew (by omega) _ _⟩
 ·have h0':(q5==0)=false:=by simpa using h0
  clear h0
  by_cases h1:q5=1
  ·subst h1
   go_wp2_with fail
   (with_reducible refine (HPK.out p5 4 w5 R5.out (by omega) (by omega) (by omega)).mono ?_);rintro e w6 ⟨v6,p6,rfl,⟨q6,rfl,hq60,hq6n⟩,hp6,hr6,ho6⟩
   have R6:=hide hr6;have OU6:=hide (OU5.out.trans ho6);have O6:=hide (ho6.ownHi O5.out (show b < w2.heap.size by omega));have HP6:=hide (HP5.out.outHi ho6 (show b+1≤w.heap.size by omega))
   have hs6:=ho6.size
   have hb6:b < w6.heap.size:=by omega
   clear hr6 ho6 R5 OU5 O5 HP5
   by_cases h2:q6=0
   ·subst h2
    have hrl9:r.length≤68719476736:=by have:=HRN.out;omega
    go_wp2_with (at_builtin;refine wpList_app IntE 3 Tryz.infoInt rfl Tryz.underlying40 w2.heap.size _ r 0 (O6.out.alloc _) (by decide) hrl9 (by simp;omega) rfl _ _ rfl rfl _ 0 1 rfl news_alloc ?_;intro v7 w7 hown7 hgr7;obtain ⟨⟨a7,n7,c7⟩,rfl, -⟩:=hown7.toSlc;have O7:=hide hown7;have G7:=hide hgr7;clear hown7 hgr7)
    have hkp:KpT [3] 0 (w6.alloc (.cells #[.int .i64 0] 3)) w7:=KpT.grown (O6.out.alloc _) (by decide) (Nat.zero_le _) G7.out
    refine bodyPost_ret (v:=.tuple #[v1, .slice a7 n7 c7]) (by simp [results,Tryz.results122,go_sem, *]) rfl ⟨_,p6,rfl,⟨v1,⟨a7,n7,c7⟩,P,_,rfl,(LocT.own2 (HP6.out.below (belowAlloc _ _)) (L:=[3]) (B:=0) (by decide) (by decide)).keep _ hkp,hPl,HPR.out,HPV.out,O7.out.mono (by omega),by have:=HRN.out;simp;omega⟩,by omega,(R6.out.allocNew _).grownNew G7.out (fun q hq=>by simp [Value.ownBlock] at hq;omega),(OU6.out.allocNew _).grownNew G7.out (fun q hq=>by simp [Value.ownBlock] at hq;omega)⟩
   ·have h2':(q6==0)=false:=by simpa using h2
    clear h2
    go_wp2_with fail
    exact bodyPost_ret (v:=.tuple #[v1, .slice (some ⟨g4,0,none⟩) rn c4]) (by simp [results,Tryz.results122,go_sem, *]) rfl ⟨_,p6,rfl,⟨v1,⟨some ⟨g4,0,none⟩,rn,c4⟩,P,r,rfl,HP6.out,hPl,HPR.out,HPV.out,O6.out.mono (by omega),by have:=HRN.out;omega⟩,by omega,R6.out,OU6.out⟩
  ·have h1':(q5==1)=false:=by simpa using h1
   clear h1
   go_wp2_with fail
   exact bodyPost_ret (v:=.tuple #[v1, .slice (some ⟨g4,0,none⟩) rn c4]) (by simp [results,Tryz.results122,go_sem, *]) rfl ⟨_,p5,rfl,⟨v1,⟨some ⟨g4,0,none⟩,rn,c4⟩,P,r,rfl,HP5.out,hPl,HPR.out,HPV.out,O5.out.mono (by omega),by have:=HRN.out;omega⟩,by omega,R5.out,OU5.out⟩
end Go.Proofs.YtlddmagfbcomgaaGreat
namespace Go.Proofs.YtlddmagfbcomgaaGreat
open Go.RowKit
def RetPO (w:World) (e:Ending) (w':World):Prop:=∃ (v:Value) (P:List (List Ins)) (so:Slc) (os:List Int),e = .returned (.tuple #[v, .slice so.a so.n so.cap])∧RepP w' v P∧P.length≤5∧(∀ r∈P,r.length≤9)∧Rep IntE w' so.v os∧os.length≤20∧Below w.heap.size w w'
theorem DrawOutcomeValid_any (v:Value) (xs0:List Int) (w:World) (hx:Rep ByteE w v xs0) (hb:∀ x∈xs0,0≤x∧x≤255) :
 Calls Tryz.prog 70 #[v] w (RetPO w):=by
 have HO:=hide (l17Open_any v xs0 w hx hb)
 clear hx hb
 go_enter Tryz.func70,Tryz.ntmps70
 go_wp2_with fail
 (with_reducible refine HO.out.mono ?_);rintro e w1 ⟨b,a,c,xs,rfl,hr1,hbs,hb1⟩
 have R1:=hide hr1;have HB1:=hide hb1
 have hlt:=hr1.lt
 clear hr1 hb1 HO
 go_wp2_with fail
 (with_reducible refine (l3Draw_any b a c xs 0 _ R1.out (by omega)).mono ?_);rintro e w2 ⟨v2,p2,rfl,⟨vp,⟨soa,son,soc⟩,P,os,rfl,hP,hl,hl2,hPv,hos,hol⟩,hp2,hr2,ho2⟩
 have R2:=hide hr2;have O2:=hide ho2;have HP:=hide hP;have HL2:=hide hl2;have HOS:=hide hos
 have hs2:=ho2.size
 clear hr2 ho2 hP hl2 R1 hPv hos
 go_wp2_with fail
 (with_reducible refine (l1Mutate_any b a c xs p2 vp P _ R2.out (by omega) HP.out.rep hl HL2.out).mono ?_);rintro e w4 ⟨v4,p4,rfl,hQ4,hp4,hr4,ho4⟩
 obtain ⟨P4,hP4,hl4,hl5⟩:=hQ4.open
 have HL4:=hide hl5
 have HB4:=hide (HB1.out.trans (below_of_outside (O2.out.trans ho4) hbs HB1.out.size))
 have HLO4:=hide (ho4.ownHi HOS.out (by omega))
 clear hr4 ho4 hQ4 hl5
 go_wp2_with fail
 go_ret2
 exact ⟨_,P4,⟨soa,son,soc⟩,os,rfl,hP4,hl4,HL4.out,HLO4.out.rep,hol,HB4.out⟩
theorem DrawOutcomeCond_any (v:Value) (xs0:List Int) (w:World) (hx:Rep ByteE w v xs0) (hb:∀ x∈xs0,0≤x∧x≤255) :
 Calls Tryz.prog 24 #[v] w (RetPO w):=by
 have HO:=hide (DrawOutcomeValid_any v xs0 w hx hb)
 clear hx hb
 go_enter Tryz.func24,Tryz.ntmps24
 go_wp2_with fail
 (with_reducible refine HO.out.mono ?_);rintro e w1 ⟨v1,P,so,os,rfl,hP,hl,hl2,ho,hol,hb1⟩
 have HL2:=hide hl2;have HP:=hide hP;have HO1:=hide ho
 clear hl2 hP ho
 go_wp2_with fail
 go_ret2
 exact ⟨_,P,so,os,rfl,HP.out,hl,HL2.out,HO1.out,hol,hb1⟩
end Go.Proofs.YtlddmagfbcomgaaGreat
namespace Go.Proofs.YtlddmagfbcomgaaGreat
open Go.RowKit
theorem OutsU.repO {w:World} {base:Nat} {v:Value} {l:List (List Int)} (h:OutsU w base v l):RepNN w v l:=by
 obtain ⟨us,h1,h2,h3⟩:=h
 exact ⟨us,h1,h2.rep,fun i u r hu hr=>(h3 i u r hu hr).rep⟩
theorem bufO_valid {P:List (List Ins)} {split:Bool} {o:List Int} (h:bufO split P o):outValid P o=true:=by
 obtain ⟨hv,s,h1,h2,rfl⟩:=h
 have hk:=bfOut_ok (BfOk.reach' (valid_ins hv) h1).1
 unfold outValid
 rw [hv]
 simp only [Bool.true_and,Bool.and_eq_true,decide_eq_true_eq,List.all_eq_true]
 exact ⟨by rw [hk.1];omega,fun x hx=>by have:=hk.2 x hx;unfold inB;simp;omega⟩
theorem oc_facts {P:List (List Ins)} {os:List Int} (h:(outC P os).2=true):(∀ o',bufO false P o'→bufO false P os→(condHolds P o' (outC P os).1=true↔o'=os))∧condHolds P os (outC P os).1=true∧validC (outC P os).1=true:=by
 refine ⟨fun o' h1 h2 => ?_,outC_self h⟩
 rw [outC_iff h (bufO_valid h1)]
 constructor
 ·intro he
  obtain ⟨hv,s,k1,k2,rfl⟩:=h2
  obtain ⟨_,s',k3,k4,rfl⟩:=h1
  exact said_same (valid_ins hv) k1 k3 he
 ·rintro rfl
  exact ⟨fun _ _ _ _ _ _=>rfl,fun _ _ _=>rfl⟩
theorem lawFnOutcomeCond (v:Value) (xs:List Int) (w:World) (h:Rep ByteE w v xs∧∀ x∈xs,0≤x∧x≤255) :
 Calls Tryz.prog 6 #[v] w fun e w'=>e = .returned (.bool true)∧Below w.heap.size w w':=by
 obtain ⟨hx,hb⟩:=h
 obtain ⟨a0,c0,rfl, -,hm, -,hx⟩:=hx.open
 have HD:=hide (DrawOutcomeCond_any (.slice a0 xs.length c0) xs w hx hb)
 clear hx hb
 generalize xs.length=n at *
 by_cases hl:(n:Int) > 1048576
 ·go_enter Tryz.func6,Tryz.ntmps6
  go_wp2_with fail
  go_ret
  exact ⟨rfl,Below.refl _ _⟩
 ·have hl':decide ((n:Int) > 1048576)=false:=decide_eq_false hl
  go_enter Tryz.func6,Tryz.ntmps6
  go_wp2_with fail
  (with_reducible refine HD.out.mono ?_);rintro e w1 ⟨v1,P,⟨sa,sn,sc⟩,os,rfl,hP,hPl,hPr,ho,hol,hb1⟩
  have hfl:=flatten_bound9 hPl hPr
  have HP:=hide hP;have HB1:=hide hb1;have HOS:=hide ho
  have HI:=hide (OutcomeCond_any v1 (.slice sa sn sc) P os w1 hP ho (by omega) (by omega))
  have HS:=hide (fun w' h h2=>sOutcomeCond_any v1 (.slice sa sn sc) P os w' h h2 (by omega) (by omega))
  have HT:=hide (fun h=>oc_facts (P:=P) (os:=os) h)
  have HTP:=hide (fun w' h=>RunTso_any v1 P w' h (by omega) (sortedOutcomes_any _ _ (by decide)))
  have HCH:=hide (fun (u:Value) o' w' (o t q x:Int) ks (s:Slc) h h2 h3=>CondHolds_any v1 u P o' o t q x ks s.a s.n s.cap w' h h2 h3 (by omega) (by omega))
  clear hP hb1 HD hPr hfl hPl ho
  generalize outC P os=R at *
  obtain ⟨C,B⟩:=R
  go_wp2_with fail
  (with_reducible refine HI.out.mono ?_);rintro e w2 ⟨o,t,q,x,ks,⟨ka,kn,kc⟩,hR,rfl,hO,hb2⟩
  simp only at hR
  subst hR
  have K2:=hide (hO.rep.low (Nat.zero_le _));have HB2:=hide (HB1.out.trans (hb2.mono HB1.out.size));have HP2:=hide (HP.out.below hb2);have HO2:=hide (HOS.out.below hb2)
  obtain ⟨W2,hW2⟩:∃ W,W=w2.alloc (.cells #[.int .i64 o, .int .i64 t, .int .i64 q, .int .i64 x, .slice ka kn kc] 45):=⟨_,rfl⟩
  have BA:Hid (Below w2.heap.size w2 W2):=hide (by rw [hW2];exact (Below.refl _ _).alloc (Nat.le_refl _) _)
  have A2:Hid (W2.heap[w2.heap.size]? = some (.cells #[.int .i64 o, .int .i64 t, .int .i64 q, .int .i64 x, .slice ka kn kc] 45 (0,0))):=hide (by rw [hW2];exact heap_alloc_new w2 _)
  have HB3:=hide (HB2.out.trans (BA.out.mono HB2.out.size));have HP3:=hide (HP2.out.below BA.out);have HO3:=hide (HO2.out.below BA.out);have K3:=hide (K2.out.below BA.out)
  clear hO hb2 HB1 HP HOS HI K2 HB2 HP2 HO2
  go_wp2_with fail
  simp only [← hW2]
  clear hW2 BA
  (with_reducible refine (HS.out _ HP3.out HO3.out).mono ?_);rintro e w4 ⟨o',t',q',x',ks',⟨ja,jn,jc⟩,hR,rfl,hO,hb4⟩
  simp only [Cd.mk.injEq] at hR
  obtain ⟨rfl,rfl,rfl,rfl,rfl⟩:=hR
  obtain ⟨W4,hW4⟩:∃ W,W=w4.alloc (.cells #[.int .i64 o, .int .i64 t, .int .i64 q, .int .i64 x, .slice ja jn jc] 45):=⟨_,rfl⟩
  have BA:Hid (Below w4.heap.size w4 W4):=hide (by rw [hW4];exact (Below.refl _ _).alloc (Nat.le_refl _) _)
  have A4':Hid (W4.heap[w4.heap.size]? = some (.cells #[.int .i64 o, .int .i64 t, .int .i64 q, .int .i64 x, .slice ja jn jc] 45 (0,0))):=hide (by rw [hW4];exact heap_alloc_new w4 _)
  have hlt2:=(Array.getElem?_eq_some_iff.1 A2.out).1
  have b24:Below W2.heap.size W2 W4:=hb4.trans (BA.out.mono hb4.size)
  have A4:=hide ((b24.block w2.heap.size hlt2).trans A2.out)
  have HB4:=hide (HB3.out.trans (b24.mono HB3.out.size));have HP4:=hide (HP3.out.below b24);have HO4:=hide (HO3.out.below b24);have K4:=hide (K3.out.below b24);have K4':=hide ((hO.rep.low (Nat.zero_le _)).below BA.out)
  clear hO hb4 HB3 HP3 HO3 K3 HS A2 hlt2 b24
  have hBB:(B != B)=false:=by simp
  have c0:=cellH A4.out (k:=0) rfl;have c1:=cellH A4.out (k:=1) rfl;have c2:=cellH A4.out (k:=2) rfl;have c3:=cellH A4.out (k:=3) rfl;have c4:=cellH A4.out (k:=4) rfl
  have cl:=lt_of_cell c0
  have d0:=cellH A4'.out (k:=0) rfl;have d1:=cellH A4'.out (k:=1) rfl;have d2:=cellH A4'.out (k:=2) rfl;have d3:=cellH A4'.out (k:=3) rfl;have d4:=cellH A4'.out (k:=4) rfl
  have dl:=lt_of_cell d0
  have HCS:=hide (fun w' h h'=>CondSame_any o t q x o t q x ks ks ka ja kn kc jn jc true w' h h' (by simp))
  subst hW4
  clear BA
  go_wp2_with fail
  (with_reducible refine (HCS.out _ K4.out K4'.out).mono ?_);rintro e w5 ⟨rfl,hb5⟩
  have HB5:=hide (HB4.out.trans (hb5.mono HB4.out.size));have HP5:=hide (HP4.out.below hb5);have HO5:=hide (HO4.out.below hb5);have K5:=hide (K4.out.below hb5);have K5':=hide (K4'.out.below hb5)
  have e0:=(hb5.cell (p:=⟨w2.heap.size,0,none⟩) cl).trans c0;have e1:=(hb5.cell (p:=⟨w2.heap.size,1,none⟩) cl).trans c1;have e2:=(hb5.cell (p:=⟨w2.heap.size,2,none⟩) cl).trans c2;have e3:=(hb5.cell (p:=⟨w2.heap.size,3,none⟩) cl).trans c3;have e4:=(hb5.cell (p:=⟨w2.heap.size,4,none⟩) cl).trans c4;have el:=lt_of_cell e0
  have f0:=(hb5.cell (p:=⟨w4.heap.size,0,none⟩) dl).trans d0;have f1:=(hb5.cell (p:=⟨w4.heap.size,1,none⟩) dl).trans d1;have f2:=(hb5.cell (p:=⟨w4.heap.size,2,none⟩) dl).trans d2;have f3:=(hb5.cell (p:=⟨w4.heap.size,3,none⟩) dl).trans d3;have f4:=(hb5.cell (p:=⟨w4.heap.size,4,none⟩) dl).trans d4;have fl:=lt_of_cell f0
  clear hb5 HB4 HP4 HO4 K4 K4' A4 A4' c0 c1 c2 c3 c4 cl d0 d1 d2 d3 d4 dl
  cases B
  ·clear HT HTP HCH
   go_wp2_with fail
   (with_reducible refine (HCS.out _ K5.out K5'.out).mono ?_);rintro e w6 ⟨rfl,hb6⟩
   go_wp2_with fail
   go_ret
   exact ⟨rfl,HB5.out.trans (hb6.mono HB5.out.size)⟩
  ·obtain ⟨hiff,hself,hval⟩:=HT.out rfl
   try simp only at hiff hself hval
   have HIFF:=hide hiff;have HSELF:=hide hself;have HVAL:=hide hval
   clear HT HCS hiff hself hval f0 f1 f2 f3 f4 fl K5' hBB
   generalize P.length * 3+3=kp at *
   go_wp2_with fail
   (with_reducible refine (HTP.out _ HP5.out).mono ?_);rintro e w6 ⟨va,la1,rfl,ha, -,hma,hb6⟩
   have HB6:=hide (HB5.out.trans (hb6.mono HB5.out.size));have HP6:=hide (HP5.out.below hb6);have HO6:=hide (HO5.out.below hb6);have K6:=hide (K5.out.below hb6)
   have g0:=(hb6.cell (p:=⟨w2.heap.size,0,none⟩) el).trans e0;have g1:=(hb6.cell (p:=⟨w2.heap.size,1,none⟩) el).trans e1;have g2:=(hb6.cell (p:=⟨w2.heap.size,2,none⟩) el).trans e2;have g3:=(hb6.cell (p:=⟨w2.heap.size,3,none⟩) el).trans e3;have g4:=(hb6.cell (p:=⟨w2.heap.size,4,none⟩) el).trans e4;have gl:=lt_of_cell g0
   have MA:=hide hma
   obtain ⟨ra,rc,rfl, -,hcm, -,hla⟩:=ha.repO.open
   have HLA:=hide hla
   clear hb6 HB5 HP5 HO5 K5 e0 e1 e2 e3 e4 el ha hma hla HTP
   generalize hm1:la1.length=m at *
   have HM:=hide hm1
   clear hm1
   go_wp2_with fail
   go_loopw [10] (fun i wr => ∃ k:Nat,k≤m∧i = .int .i64 k∧Below w6.heap.size w6 wr) (fun i _=>m - (intOf i).toNat)
   case atStart=>exact ⟨0,Nat.zero_le _,rfl,Below.refl _ _⟩
   case round =>
    obtain ⟨k,hk,rfl,hb⟩:=hrel
    have HB:=hide hb
    have h0:=(hb.cell (p:=⟨w2.heap.size,0,none⟩) gl).trans g0;have h1:=(hb.cell (p:=⟨w2.heap.size,1,none⟩) gl).trans g1;have h2:=(hb.cell (p:=⟨w2.heap.size,2,none⟩) gl).trans g2;have h3:=(hb.cell (p:=⟨w2.heap.size,3,none⟩) gl).trans g3;have h4:=(hb.cell (p:=⟨w2.heap.size,4,none⟩) gl).trans g4;have hl2:=lt_of_cell h0
    by_cases hlt:k < m
    ·have hlt1:=nat_of_lt hlt
     obtain ⟨li,hli⟩:=get_of_lt (xs:=la1) (k:=k) (by rw [HM.out];exact hlt)
     obtain ⟨lb,lo,lra,lrc,rfl,hbl,i0,i1⟩:=(HLA.out.below hb).row hli
     have HC12:=hide (fun X:BW wr=>HCH.out (.slice lra li.length lrc) li X.val o t q x ks ⟨ka,kn,kc⟩ (HP6.out.below (hb.trans (X.prop.mono hb.size))) (i1.below X.prop) (K6.out.below (hb.trans (X.prop.mono hb.size))))
     have HI12:=hide (fun X:BW wr=>wmIntsG_any (.slice lra li.length lrc) (.slice sa sn sc) li os X.val (i1.below X.prop) (HO6.out.below (hb.trans (X.prop.mono hb.size))))
     have HO12:=hide (fun X:BW wr=>wmOutcome_any (.slice (some ⟨lb,lo,none⟩) m rc) (.slice sa sn sc) la1 os X.val (HLA.out.below (hb.trans (X.prop.mono hb.size))) (HO6.out.below (hb.trans (X.prop.mono hb.size))))
     have HEQ:Hid ((condHolds P li (.mk o t q x ks) != decide (li=os))=true→hasN la1 os=false):=hide fun hne=>by
      cases hh:hasN la1 os with
      | false=>rfl
      | true =>
       exfalso
       have h1:os∈la1:=by simpa [hasN] using hh
       have h2:=HIFF.out li ((MA.out li).1 (List.mem_of_getElem? hli)) ((MA.out os).1 h1)
       cases hc:condHolds P li (.mk o t q x ks) <;> cases hd:decide (li=os) <;> rw [hc,hd] at hne <;> simp_all
     generalize condHolds P li (.mk o t q x ks)=b1 at *
     generalize decide (li=os)=b2 at *
     generalize hasN la1 os=b3 at *
     generalize li.length=ln at *
     clear hli hb i1
     have HNX:Hid (∀ w1,Below wr.heap.size wr w1→Below w6.heap.size w6 w1):=hide fun w1 hw1=>HB.out.trans (hw1.mono HB.out.size)
     cases b1 <;> cases b2
     all_goals (try (obtain rfl:b3=false:=HEQ.out rfl))
     all_goals
      clear HEQ
      go_wp2_with fail
      refine wp_region_bw (by kernel_rfl) (by kernel_rfl) ?_
      repeat (go_big_quiet_step (first | (go_at_call 28;(with_reducible exact Calls.bw (HC12.out _))) | (go_at_call 29;(with_reducible exact Calls.bw (HI12.out _))) | (go_at_call 30;(with_reducible exact Calls.bw (HO12.out _)))))
      refine wpQuiet_nil ?_
      intro w7 hw7
      have B7:=hide (HNX.out w7 hw7)
      clear hw7
      go_wp2_with fail
      go_roundw
      case rel=>exact ⟨k+1,by omega,by go_num,B7.out⟩
      case measure=>simp [intOf];omega
    ·have HCE:=hide (HCH.out (.slice sa sn sc) os wr o t q x ks ⟨ka,kn,kc⟩ (HP6.out.below hb) (HO6.out.below hb) (K6.out.below hb))
     rw [HSELF.out] at HCE
     have KR:=hide (K6.out.below hb)
     clear hb
     go_wp2_with fail
     (with_reducible refine HCE.out.mono ?_);rintro e w7 ⟨rfl,hb7⟩
     have j0:=(hb7.cell (p:=⟨w2.heap.size,0,none⟩) hl2).trans h0;have j1:=(hb7.cell (p:=⟨w2.heap.size,1,none⟩) hl2).trans h1;have j2:=(hb7.cell (p:=⟨w2.heap.size,2,none⟩) hl2).trans h2;have j3:=(hb7.cell (p:=⟨w2.heap.size,3,none⟩) hl2).trans h3;have j4:=(hb7.cell (p:=⟨w2.heap.size,4,none⟩) hl2).trans h4;have jl:=lt_of_cell j0
     have K7:=hide (KR.out.below hb7);have B7:=hide (HB6.out.trans ((HB.out.trans (hb7.mono HB.out.size)).mono HB6.out.size))
     have HCV:=hide (CondValid_raw o t q x ks ka kn kc w7 K7.out)
     rw [HVAL.out] at HCV
     clear hb7
     go_wp2_with fail
     (with_reducible refine HCV.out.mono ?_);rintro e w8 ⟨rfl,hb8⟩
     go_wp2_with fail
     go_ret
     exact ⟨rfl,B7.out.trans (hb8.mono B7.out.size)⟩
end Go.Proofs.YtlddmagfbcomgaaGreat
namespace Go.Proofs.YtlddmagfbcomgaaGreat
open Go.RowKit Go.ChangeShapes Go.WideShapes Go.ChangeAt
open Go.ChangeMaps (open_string)
theorem fnOutcomeCond_reads:∀ t∈Tryz.f6.params.toList,Tryz.prog.readableRec t=true∧t < Tryz.prog.types.size:=by
 intro t ht
 have:t=22:=by simpa [Tryz.params6] using ht
 subst this
 exact ⟨by kernel_rfl,of_decide_eq_true (by kernel_rfl)⟩
theorem fnOutcomeCond_lifted (os:Os) (started:os.Started) (H:Type) (enc:TypeId × Value→H) :
 ReturnsInHanded {} Tryz.checked os 6 .any (Rows.fnOutcomeCondSpec.pre6 enc Tryz.prog Tryz.f6 Rows.fnOutcomeCondRow.domain false) (Rows.fnOutcomeCondSpec.post enc Tryz.prog Tryz.f6 false true false false):=by
 refine returnsInHanded_of_change (C:=Tryz.checked) Tryz.own started (by kernel_rfl) Tryz.func6
  (ChangeSpec.witness6 (enc:=enc) (C:=Tryz.checked) false ⟨#[],#[.slice none 0 0],[]⟩ 8 (by kernel_rfl) (by kernel_rfl) (by kernel_rfl) (by kernel_rfl)) ?_
 intro W base args ds gs before hval0 hW hcnd _
 have hval:∀ (j:Nat) t v,Tryz.f6.params[j]? = some t→args[j]? = some v→Value.okWide Tryz.prog W .any base t v:=hval0
 have hW':=hW
 obtain ⟨p,q,hA0,hV,rfl,hfz,hnd⟩:=hW
 have hA:DataW.TrodAll enc Tryz.prog W 0 (fun _=>true) true Tryz.f6.params.toList args.toList ds p:=hA0
 rw [Tryz.params6] at hA hval
 obtain ⟨v0,d0,rfl,rfl,h0⟩:=trodAll_one hA
 obtain ⟨rfl,rfl⟩:=trodVars_none hV
 obtain ⟨B0,hB0⟩:=bytes_of_trod (okWide_slice Tryz.underlying22 (hval 0 22 v0 rfl rfl)) h0
 refine (lawFnOutcomeCond v0 B0 W hB0).mono fun e W' ⟨he,hb⟩ => ?_
 exact ⟨_,he,post_law Tryz.laidOut fnOutcomeCond_reads rfl rfl (by kernel_rfl) Tryz.underlying4 hW' hb⟩
theorem fnOutcomeCond_holds:Rows.FnOutcomeCondSaid:=
 OpenClaim.holds_of_wide 6 Tryz.f6 rfl rfl rfl rfl rfl rfl rfl ⟨rfl,rfl,rfl,rfl,rfl⟩ rfl rfl rfl rfl rfl (by kernel_rfl) Tryz.func6 (by kernel_rfl)
  (of_decide_eq_true (by kernel_rfl)) (by unfold Func.isWrapper;first | (rw [if_pos (by decide +kernel)];kernel_rfl) | (rw [if_neg (by decide +kernel)];exact ⟨rfl,rfl⟩))
  (fun os started H enc _=>fnOutcomeCond_lifted os started H enc)
end Go.Proofs.YtlddmagfbcomgaaGreat
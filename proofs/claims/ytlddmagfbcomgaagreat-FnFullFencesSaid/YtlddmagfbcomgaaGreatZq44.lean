/-
  The arguments that are drawn for PutFences. Condition: bytes.
-/
import Derived.Test.YtlddmagfbcomgaaGreatZq21
import Derived.Test.YtlddmagfbcomgaaGreatZq03
set_option maxHeartbeats 6400000
set_option maxRecDepth 100000
namespace Go.Proofs.YtlddmagfbcomgaaGreat
open Go.RowKit
def QG (lo:Nat) (v:Value) (w:World):Prop:=∃ L:List Gp,OwnG w lo v L∧L.length≤40
theorem l9List_any (b:Nat) (a:Option Addr) (c:Nat) (xs:List Int) (p:Int) (v:Value) (P:List (List Ins)) (w:World) (hr:Rd w b a c xs p) (hp:p≤800000000) (hP:RepP w v P) (hl:P.length≤4) (hl2:∀ r∈P,r.length≤8) :
 Calls Tryz.prog 44 #[.pointer (some ⟨b,0,none⟩),v] w (RetRd w b a c xs p 40 (QG w.heap.size)):=by
 have hfl:P.flatten.length≤32:=by
  have:=flatten_bound P 8 hl2
  have:P.length * 8≤4 * 8:=Nat.mul_le_mul_right _ (by omega)
  omega
 have hA:=belowAlloc w (.cells #[] 64)
 have HG:=hide (l9Gaps_any v P _ (hP.below hA) (by omega))
 have hgl:(gapsP P).length≤32:=Nat.le_trans (by have h:=gapsTo_length P P.length (Nat.le_refl _);rw [List.take_length] at h;exact h) hfl
 have HP:=hide (fun (p:Int) n w' h hp (hn:n≤100) (hn0:0≤n)=>pick_any b a c xs p n w' h hp (by omega) (by omega))
 have HN:=hide (fun (p:Int) y0 y1 y2 w' G hG hb h hp=>numLit3 b a c xs p y0 y1 y2 w' G hG hb h hp)
 have R0:=hide (hr.allocNew (.cells #[] 64))
 have hlt:=hr.lt
 have E0:=hide (Own.empty (E:=GapE) 64 w (Nat.le_refl _))
 have HA:=hide hA
 clear hr hP hl2 hfl hA
 generalize gapsP P=gs at *
 go_enter Tryz.func44,Tryz.ntmps44
 go_wp2_with fail
 (with_reducible refine HG.out.mono ?_);rintro e w1 ⟨vg,rfl,hvg,hb1⟩
 obtain ⟨ga,gn,gc,rfl,hgn⟩:=hvg.toSl
 have hsz0:=hb1.size
 simp at hsz0
 have HVG:=hide hvg
 have R1:=hide (R0.out.keep hb1 R0.out.lt);have E1:=hide (E0.out.below hb1);have O1:=hide ((Outside.of_below (lo:=b) (hi:=b+1) (HA.out)).trans (Outside.of_below (lo:=b) (hi:=b+1) hb1))
 have HGN:=hide hgn
 have hgn':gn≤32:=by omega
 clear hvg hb1 R0 E0 HA hgn
 have hbg:b < (w.alloc (.cells #[] 64)).heap.size:=by simp;omega
 go_wp2_with fail
 go_loopw [5,7] (fun o i wr => ∃ (k:Nat) (L:List Gp) (pk:Int),k≤gn∧i = .int .i64 k∧Hid (OwnG wr w.heap.size o L)∧L.length≤k∧Hid (Rd wr b a c xs pk)∧pk≤p+k∧Hid (Outside b (b+1) w wr)∧Hid (Own GapE 64 wr (w.alloc (.cells #[] 64)).heap.size (.slice ga gn gc) gs)∧Hid (∀ q,o.ownBlock=some q→q < (w.alloc (.cells #[] 64)).heap.size∨w1.heap.size≤q)∧Hid (w1.heap.size≤wr.heap.size)) (fun _ i _=>gn - (intOf i).toNat)
 case atStart=>exact ⟨0,[],p,by omega,rfl,E1,Nat.le_refl _,R1,by omega,O1,HVG,hide (fun q hq=>by simp [Value.ownBlock] at hq;left;simp;omega),hide (Nat.le_refl _)⟩
 case round =>
  obtain ⟨k,L,pk,hk,rfl,ho,hLk,hR,hpk,hO,hVG,hAP,hW1⟩:=hrel
  obtain ⟨wm,rfl⟩:∃ wm:World,wm=wr:=⟨_,rfl⟩
  have hsm:=hO.out.size
  obtain ⟨⟨oa,on,oc⟩,rfl, -⟩:=ho.out.toSlc
  have ho:Hid (OwnG wm w.heap.size (.slice oa on oc) L):=ho
  by_cases hlt3:k < gn
  ·have hlt3':=nat_of_lt hlt3
   obtain ⟨y,hyk⟩:=get_of_lt (xs:=gs) (k:=k) (by have:=HGN.out;omega)
   have Y:=hide hyk
   clear hyk
   go_wp2_with fail
   (with_reducible refine (HP.out pk _ _ hR.out (by omega) (by omega) (by omega)).mono ?_);rintro e w2 ⟨v2,p2,rfl,⟨q2,rfl, -, -⟩,hp2,hr2,ho2⟩
   have R2:=hide hr2;have O2:=hide (hO.out.trans ho2);have VG2:=hide (ho2.ownHi hVG.out hbg);have OW2:=hide (ho2.ownHi ho.out hlt)
   have hs2:=O2.out.size
   have HW2:=hide (Nat.le_trans hW1.out ho2.size)
   clear hr2 ho2
   by_cases hq:q2=0
   ·subst hq
    obtain ⟨b',o',rfl,hbl,i0,i1⟩:=VG2.out.rep.gap Y.out
    have hll:L.length≤68719476736:=by omega
    go_wp2_with (at_builtin;refine wpList_appAt GapE 64 Tryz.infoGap rfl Tryz.underlying24 w.heap.size _ L y (OW2.out.alloc _) (by decide) hll (by simp;omega) rfl _ _ rfl rfl w2.heap.size 0 1 rfl news_alloc ?_;intro v' w3 hown3 hgr3 hat3)
    have R3:=hide ((R2.out.allocNew _).grownNew hgr3 (fun q hq=>by have:=OW2.out.rowGe q hq;omega))
    have O3:=hide ((O2.out.allocNew _).grownNew hgr3 (fun q hq=>OW2.out.rowGe q hq))
    have VG3:Hid (Own GapE 64 w3 (w.alloc (.cells #[] 64)).heap.size (.slice (some ⟨b',o',none⟩) gn gc) gs):=hide (by
     refine (VG2.out.alloc _).grown hgr3 ?_
     rcases hq:(Value.slice (some ⟨b',o',none⟩) gn gc).ownBlock with _ | q
     ·exact .inl rfl
     ·refine .inr (fun e => ?_)
      have h1:=(World.ownsRow.lt HVG.out q hq).1
      have h2:=(World.ownsRow.lt HVG.out q hq).2
      rcases hAP.out q e.symm with h3 | h3 <;> omega)
    have AP3:Hid (∀ q,v'.ownBlock=some q→q < (w.alloc (.cells #[] 64)).heap.size∨w1.heap.size≤q):=hide (fun q hq=>by
     rcases hat3 with h | ⟨q',h,h'⟩
     ·exact hAP.out q (by rw [← h];exact hq)
     ·rw [h] at hq;simp at hq;subst hq;right;have:=HW2.out;simp at h';omega)
    have HW3:=hide (Nat.le_trans HW2.out (Nat.le_trans (belowAlloc w2 (.cells #[.int .i64 y.t, .int .i64 y.i] 64)).size hgr3.size))
    have HO3:=hide hown3
    clear hown3 hgr3 hat3 i0 i1 hbl
    go_roundw
    case rel=>exact ⟨k+1,L++[y],p2,by omega,by go_num,HO3,by rw [List.length_append];simp;omega,R3,by omega,O3,VG3,AP3,HW3⟩
    case measure=>simp [intOf];omega
   ·have hq':(q2==0)=false:=by simp [hq]
    clear hq
    go_wp2_with fail
    go_roundw
    case rel=>exact ⟨k+1,L,p2,by omega,by go_num,OW2,by omega,R2,by omega,O2,VG2,hAP,HW2⟩
    case measure=>simp [intOf];omega
  ·have hkg:decide ((k:Int) < gn)=false:=decide_eq_false (by omega)
   have hLl:L.length≤32:=by omega
   have hpk2:pk≤p+32:=by omega
   have hkg2:decide (k < gn)=false:=decide_eq_false hlt3
   clear hlt3
   go_wp2_with fail
   (with_reducible refine (HP.out pk _ _ hR.out (by omega) (by omega) (by omega)).mono ?_);rintro e w2 ⟨v2,p2,rfl,⟨q2,rfl, -, -⟩,hp2,hr2,ho2⟩
   have R2:=hide hr2;have O2:=hide (hO.out.trans ho2);have OW2:=hide (ho2.ownHi ho.out hlt)
   have hs2:=O2.out.size
   have hb2:b < w2.heap.size:=by omega
   clear hr2 ho2
   by_cases hq:q2=0
   ·subst hq
    go_wp2_with fail
    (with_reducible refine (HN.out p2 0 (-1) 3 w2 _ rfl hb2 (R2.out.allocNew _) (by omega)).mono ?_);rintro e w3 ⟨v3,p3,rfl,⟨y3, -,rfl⟩,hp3,hr3,ho3⟩
    have R3:=hide hr3;have O3:=hide ((O2.out.allocNew _).trans ho3);have OW3:=hide (ho3.ownHi (OW2.out.alloc _) hlt)
    have hs3:=O3.out.size
    have hb3:b < w3.heap.size:=by omega
    clear hr3 ho3
    go_wp2_with fail
    (with_reducible refine (HN.out p3 0 9 1 w3 _ rfl hb3 (R3.out.allocNew _) (by omega)).mono ?_);rintro e w4 ⟨v4,p4,rfl,⟨y4, -,rfl⟩,hp4,hr4,ho4⟩
    have R4:=hide hr4;have O4:=hide ((O3.out.allocNew _).trans ho4);have OW4:=hide (ho4.ownHi (OW3.out.alloc _) hlt)
    have hs4:=O4.out.size
    clear hr4 ho4
    have hll:L.length≤68719476736:=by omega
    go_wp2_with (at_builtin;refine wpList_app GapE 64 Tryz.infoGap rfl Tryz.underlying24 w.heap.size _ L ⟨y3,y4⟩ (OW4.out.alloc _) (by decide) hll (by simp;omega) rfl _ _ rfl rfl w4.heap.size 0 1 rfl news_alloc ?_;intro v' w5 hown5 hgr5)
    have R5:=hide ((R4.out.allocNew _).grownNew hgr5 (fun q hq=>by have:=OW4.out.rowGe q hq;omega))
    have O5:=hide ((O4.out.allocNew _).grownNew hgr5 (fun q hq=>OW4.out.rowGe q hq))
    go_ret
    exact ⟨v',p4,rfl,⟨L++[⟨y3,y4⟩],hown5,by rw [List.length_append];simp;omega⟩,by omega,R5.out,O5.out⟩
   ·have hq':(q2==0)=false:=by simp [hq]
    clear hq
    go_wp2_with fail
    go_ret
    exact ⟨_,p2,rfl,⟨L,OW2.out,by omega⟩,by omega,R2.out,O2.out⟩
def RetProgG (w:World) (e:Ending) (w':World):Prop:=∃ (v:Value) (P:List (List Ins)) (l:Value) (L:List Gp),e = .returned (.tuple #[v,l])∧RepP w' v P∧P.length≤5∧(∀ r∈P,r.length≤9)∧Rep GapE w' l L∧L.length≤40∧Below w.heap.size w w'
theorem hP3 {b:Nat} {w w':World} {lo:Nat} {v:Value} {P:List (List Ins)} (h:OwnP w lo v P) (ho:Outside b (b+1) w w') (hlo:b < lo):OwnP w' lo v P:=h.outHi ho (by omega)
theorem DrawPutFences_any (v:Value) (xs0:List Int) (w:World) (hx:Rep ByteE w v xs0) (hb:∀ x∈xs0,0≤x∧x≤255) :
 Calls Tryz.prog 9 #[v] w (RetProgG w):=by
 have HO:=hide (l17Open_any v xs0 w hx hb)
 clear hx hb
 go_enter Tryz.func9,Tryz.ntmps9
 go_wp2_with fail
 (with_reducible refine HO.out.mono ?_);rintro e w1 ⟨b,a,c,xs,rfl,hr1,hbs,hb1⟩
 have R1:=hide hr1;have HB1:=hide hb1
 have hlt:=hr1.lt
 clear hr1 hb1 HO
 go_wp2_with fail
 (with_reducible refine (l9Draw_any b a c xs 0 _ R1.out (by omega)).mono ?_);rintro e w2 ⟨v2,p2,rfl,hQ,hp2,hr2,ho2⟩
 obtain ⟨P,hP,hl,hl2⟩:=hQ
 have R2:=hide hr2;have O2:=hide ho2;have HP:=hide hP;have HL2:=hide hl2
 have hs2:=ho2.size
 clear hr2 ho2 hP hl2 R1
 go_wp2_with fail
 (with_reducible refine (l9List_any b a c xs p2 v2 P _ R2.out (by omega) HP.out.rep hl HL2.out).mono ?_);rintro e w3 ⟨v3,p3,rfl,hQ3,hp3,hr3,ho3⟩
 obtain ⟨L,hL,hLl⟩:=hQ3
 have R3:=hide hr3;have O3:=hide (O2.out.trans ho3);have HP3:=hide (hP3 HP.out ho3 hlt)
 have HLO:=hide hL
 have hs3:=ho3.size
 clear hr3 ho3 hL R2
 go_wp2_with fail
 (with_reducible refine (l1Mutate_any b a c xs p3 v2 P _ R3.out (by omega) HP3.out.rep hl HL2.out).mono ?_);rintro e w4 ⟨v4,p4,rfl,hQ4,hp4,hr4,ho4⟩
 obtain ⟨P4,hP4,hl4,hl5⟩:=hQ4.open
 have HL4:=hide hl5
 have HB4:=hide (HB1.out.trans (below_of_outside (O3.out.trans ho4) hbs HB1.out.size))
 have HLO4:=hide (ho4.ownHi HLO.out (by omega))
 clear hr4 ho4 hQ4 hl5
 go_wp2_with fail
 go_ret2
 exact ⟨_,P4,_,L,rfl,hP4,hl4,HL4.out,HLO4.out.rep,hLl,HB4.out⟩
end Go.Proofs.YtlddmagfbcomgaaGreat
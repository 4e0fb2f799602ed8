/-
  The laws' finding of marks on lists of candidates, and equality of such lists. Condition: bounds on lengths.
-/
import Derived.Test.YtfbgppkdnfljhaaGreatDoorZq34
set_option maxHeartbeats 6400000
set_option maxRecDepth 100000
namespace Go.Proofs.YtfbgppkdnfljhaaGreatDoor
open Go.RowKit
theorem heldExecS_any (L:List Xc) (a:Option Addr) (n c:Nat) (m:Int) (w:World) (h:RepXs w ⟨a,n,c⟩ (mkXs L m)) (hm0:0≤m) (hm1:m+(wXs L:Nat)≤268435456) :
 Calls Tryz.prog 19 #[.slice a n c, .int .i64 m] w fun e w'=>e = .returned (.int .i64 (m+(wXs L:Nat)))∧w=w':=by
 obtain ⟨e1,hc1,hc2,hx⟩:=h
 simp only [mkXs_length] at e1 hc1 hc2
 have hnb:n≤9223372036854775807:=by unfold maxLen at hc2;omega
 have HX:=hide hx
 have HNL:=hide e1.symm
 have HK:=hide (fun k x hx=>wXs_kid (L:=L) (k:=k) (x:=x) hx)
 have HTS:=hide (fun k x hx=>wXs_take_succ (L:=L) (k:=k) (x:=x) hx)
 have HE:Hid (wXs (L.take n)=wXs L):=hide (by rw [e1,List.take_length])
 have HG:=hide (fun k x hx=>mkXs_get L m (k:=k) (x:=x) hx)
 have Z0:wXs (L.take 0)=0:=rfl
 clear hx hc2 e1
 go_enter Tryz.func19,Tryz.ntmps19
 go_wp2_with fail
 go_loop [1,5] (fun q i => ∃ (k:Nat),k≤n∧i = .int .i64 k∧q = .int .i64 (m+(wXs (L.take k):Nat))) (fun _ i=>n - (intOf i).toNat)
 case atStart=>exact ⟨0,Nat.zero_le _,rfl,by rw [Z0];simp⟩
 case round =>
  obtain ⟨k,hk,rfl,rfl⟩:=hrel
  by_cases hlt:k < n
  ·obtain ⟨x,hx⟩:=get_of_lt (xs:=L) (k:=k) (by rw [HNL.out];exact hlt)
   have hlt':=nat_of_lt hlt
   have hwk:=HK.out k x hx
   have hwx:=wX_le (x:=x)
   have HTK:=hide (HTS.out k x hx)
   obtain ⟨b,o,⟨fa,fn,fc⟩,⟨qa,qn,qc⟩,rfl,hbl,c0,c1,hr⟩:=HX.out k _ (HG.out k x hx)
   have HWX:Hid (wX x=x.fr.length+sumN (x.od.map List.length)):=hide rfl
   have HC1:=hide (heldIntS_any (Slc.v ⟨fa,fn,fc⟩) x.fr.length (m+(wXs (L.take k):Nat)) w hr.fr (by omega) (by omega) (by omega))
   have HC2:=hide (heldIntSS_any (Slc.v ⟨qa,qn,qc⟩) (x.od.map List.length) (m+(wXs (L.take k):Nat)+x.fr.length) w hr.od (by omega) (by omega) (by omega))
   clear hx hr hwx
   generalize x.fr.length=fl at *
   generalize sumN (x.od.map List.length)=ol at *
   generalize hW0:wXs (L.take k)=W0 at *
   clear hW0
   have hn1:¬ (m+(W0:Int)+fl < 0):=by omega
   have hn2:¬ (m+(W0:Int)+fl+ol < 0):=by omega
   go_wp2_with fail
   (with_reducible refine HC1.out.mono ?_);rintro e w1 ⟨rfl,rfl⟩
   go_wp2_with fail
   (with_reducible refine HC2.out.mono ?_);rintro e w2 ⟨rfl,rfl⟩
   go_wp2_with fail
   go_round
   case rel=>exact ⟨k+1,by omega,by go_num,by rw [HTK.out,HWX.out];go_num⟩
   case measure=>simp [intOf];omega
  ·have e:k=n:=by omega
   subst e
   rw [HE.out]
   go_wp2_with fail
   go_ret
   exact ⟨rfl,rfl⟩
theorem eqExecS_same (L:List Xc) (a a':Option Addr) (n c n' c':Nat) (w:World) (h:RepXs w ⟨a,n,c⟩ L) (h':RepXs w ⟨a',n',c'⟩ L) :
 Calls Tryz.prog 13 #[.slice a n c, .slice a' n' c'] w fun e w'=>e = .returned (.bool true)∧Below w.heap.size w w':=by
 have HX:=hide h;have HY:=hide h'
 obtain ⟨e1,hc1,hc2, -⟩:=h
 obtain ⟨e1',hc1',hc2', -⟩:=h'
 simp only at e1 hc1 hc2 e1' hc1' hc2'
 obtain rfl:n=n':=by omega
 have hnb:n≤9223372036854775807:=by unfold maxLen at hc2;omega
 have HNL:=hide e1.symm
 clear e1 e1' hc2 hc2'
 go_enter Tryz.func13,Tryz.ntmps13
 go_wp2_with fail
 go_loopw [5] (fun i wr => ∃ (k:Nat),k≤n∧i = .int .i64 k∧Hid (Below w.heap.size w wr)) (fun i _=>n - (intOf i).toNat)
 case atStart=>exact ⟨0,Nat.zero_le _,rfl,hide (Below.refl _ _)⟩
 case round =>
  obtain ⟨k,hk,rfl,HB⟩:=hrel
  by_cases hlt:k < n
  ·obtain ⟨x,hx⟩:=get_of_lt (xs:=L) (k:=k) (by rw [HNL.out];exact hlt)
   have hlt':=nat_of_lt hlt
   obtain ⟨b,o,⟨fa,fn,fc⟩,⟨qa,qn,qc⟩,rfl,hbl,c0,c1,hr⟩:=(HX.out.below HB.out).2.2.2 k x hx
   obtain ⟨b',o',⟨fa',fn',fc'⟩,⟨qa',qn',qc'⟩,rfl,hbl',d0,d1,hr'⟩:=(HY.out.below HB.out).2.2.2 k x hx
   have C0:=hide c0;have C1:=hide c1;have D0:=hide d0;have D1:=hide d1
   have HE:=hide (fun W (hb:Below wr.heap.size wr W)=>eqX_same (.slice fa fn fc) (.slice qa qn qc) (.slice fa' fn' fc') (.slice qa' qn' qc') x W (hr.below hb) (hr'.below hb))
   clear hx hr hr' c0 c1 d0 d1
   go_wp2_with fail
   -- reg eq
   refine wp_region_inv3 (n:=9) (by kernel_rfl) rfl (by kernel_rfl) (by kernel_rfl) (fun A ls a' W => ∃ (x17 x18 x19 x20 x21 x22 x23 x24 x25:Value),a'=putAll A [(17,x17),(18,x18),(19,x19),(20,x20),(21,x21),(22,x22),(23,x23),(24,x24),(25,x25)]∧Vd ls 0 [] x17 (.slice (some ⟨b,o,none⟩) n c)∧Vd ls 1 [] x18 (.int .i64 k)∧Vd ls 2 [] x19 (.pointer (some ⟨b,o+k * 2,none⟩))∧Vd ls 3 [] x20 (.agg #[.slice fa fn fc, .slice qa qn qc])∧Vd ls 4 [] x21 (.slice (some ⟨b',o',none⟩) n c')∧Vd ls 5 [] x22 (.int .i64 k)∧Vd ls 6 [] x23 (.pointer (some ⟨b',o'+k * 2,none⟩))∧Vd ls 7 [] x24 (.agg #[.slice fa' fn' fc', .slice qa' qn' qc'])∧Vd ls 8 [] x25 (.bool true)∧Below wr.heap.size wr W) ?r0 ?rs ?re
   case r0 =>
    exact ⟨u17,u18,u19,u20,u21,u22,u23,u24,u25,by simp only [putAll,Act.put,List.setIfInBounds_toArray,List.set_cons_succ,List.set_cons_zero],Vd.start,Vd.start,Vd.start,Vd.start,Vd.start,Vd.start,Vd.start,Vd.start,Vd.start,by exact (Below.refl _ _).drew⟩
   case rs =>
    rintro ls a' W hs hnl ⟨x17,x18,x19,x20,x21,x22,x23,x24,x25,ha,cv0,cv1,cv2,cv3,cv4,cv5,cv6,cv7,cv8,hJ⟩ k o hkn mc K hK
    simp only [putAll,Act.put,List.setIfInBounds_toArray,List.set_cons_succ,List.set_cons_zero] at ha
    subst ha
    have hkc:k=0∨k=1∨k=2∨k=3∨k=4∨k=5∨k=6∨k=7∨k=8:=by omega
    have hop:=mc.op
    have haf:=mc.after
    rcases hkc with rfl | rfl | rfl | rfl | rfl | rfl | rfl | rfl | rfl
    ·simp at hop;subst hop;simp [Region.binds] at haf
     go_simp
     exact hK _ _ ⟨_,_,_,_,_,_,_,_,_,by simp only [putAll,Act.put,List.setIfInBounds_toArray,List.set_cons_succ,List.set_cons_zero],Vd.same (by simp),cv1.set (by decide),cv2.set (by decide),cv3.set (by decide),cv4.set (by decide),cv5.set (by decide),cv6.set (by decide),cv7.set (by decide),cv8.set (by decide),by exact hJ⟩
    ·simp at hop;subst hop;simp [Region.binds] at haf
     go_simp
     exact hK _ _ ⟨_,_,_,_,_,_,_,_,_,by simp only [putAll,Act.put,List.setIfInBounds_toArray,List.set_cons_succ,List.set_cons_zero],cv0.set (by decide),Vd.same (by simp),cv2.set (by decide),cv3.set (by decide),cv4.set (by decide),cv5.set (by decide),cv6.set (by decide),cv7.set (by decide),cv8.set (by decide),by exact hJ⟩
    ·simp at hop;subst hop;simp [Region.binds] at haf
     obtain rfl:=(cv0.get (by simp [haf])).symm
     obtain rfl:=(cv1.get (by simp [haf])).symm
     go_simp
     exact hK _ _ ⟨_,_,_,_,_,_,_,_,_,by simp only [putAll,Act.put,List.setIfInBounds_toArray,List.set_cons_succ,List.set_cons_zero],cv0.set (by decide),cv1.set (by decide),Vd.same (by simp),cv3.set (by decide),cv4.set (by decide),cv5.set (by decide),cv6.set (by decide),cv7.set (by decide),cv8.set (by decide),by exact hJ⟩
    ·simp at hop;subst hop;simp [Region.binds] at haf
     obtain rfl:=(cv2.get (by simp [haf])).symm
     have cw:=(hJ.cell (p:=⟨b,o+k * 2,none⟩) hbl).trans C0.out
     have cx:=(hJ.cell (p:=⟨b,o+k * 2+1,none⟩) hbl).trans C1.out
     have cwl:=lt_of_cell cw
     go_simp
     exact hK _ _ ⟨_,_,_,_,_,_,_,_,_,by simp only [putAll,Act.put,List.setIfInBounds_toArray,List.set_cons_succ,List.set_cons_zero],cv0.set (by decide),cv1.set (by decide),cv2.set (by decide),Vd.same (by simp),cv4.set (by decide),cv5.set (by decide),cv6.set (by decide),cv7.set (by decide),cv8.set (by decide),by exact hJ⟩
    ·simp at hop;subst hop;simp [Region.binds] at haf
     go_simp
     exact hK _ _ ⟨_,_,_,_,_,_,_,_,_,by simp only [putAll,Act.put,List.setIfInBounds_toArray,List.set_cons_succ,List.set_cons_zero],cv0.set (by decide),cv1.set (by decide),cv2.set (by decide),cv3.set (by decide),Vd.same (by simp),cv5.set (by decide),cv6.set (by decide),cv7.set (by decide),cv8.set (by decide),by exact hJ⟩
    ·simp at hop;subst hop;simp [Region.binds] at haf
     go_simp
     exact hK _ _ ⟨_,_,_,_,_,_,_,_,_,by simp only [putAll,Act.put,List.setIfInBounds_toArray,List.set_cons_succ,List.set_cons_zero],cv0.set (by decide),cv1.set (by decide),cv2.set (by decide),cv3.set (by decide),cv4.set (by decide),Vd.same (by simp),cv6.set (by decide),cv7.set (by decide),cv8.set (by decide),by exact hJ⟩
    ·simp at hop;subst hop;simp [Region.binds] at haf
     obtain rfl:=(cv4.get (by simp [haf])).symm
     obtain rfl:=(cv5.get (by simp [haf])).symm
     go_simp
     exact hK _ _ ⟨_,_,_,_,_,_,_,_,_,by simp only [putAll,Act.put,List.setIfInBounds_toArray,List.set_cons_succ,List.set_cons_zero],cv0.set (by decide),cv1.set (by decide),cv2.set (by decide),cv3.set (by decide),cv4.set (by decide),cv5.set (by decide),Vd.same (by simp),cv7.set (by decide),cv8.set (by decide),by exact hJ⟩
    ·simp at hop;subst hop;simp [Region.binds] at haf
     obtain rfl:=(cv6.get (by simp [haf])).symm
     have cw:=(hJ.cell (p:=⟨b',o'+k * 2,none⟩) hbl').trans D0.out
     have cx:=(hJ.cell (p:=⟨b',o'+k * 2+1,none⟩) hbl').trans D1.out
     have cwl:=lt_of_cell cw
     go_simp
     exact hK _ _ ⟨_,_,_,_,_,_,_,_,_,by simp only [putAll,Act.put,List.setIfInBounds_toArray,List.set_cons_succ,List.set_cons_zero],cv0.set (by decide),cv1.set (by decide),cv2.set (by decide),cv3.set (by decide),cv4.set (by decide),cv5.set (by decide),cv6.set (by decide),Vd.same (by simp),cv8.set (by decide),by exact hJ⟩
    ·simp at hop;subst hop;simp [Region.binds] at haf
     obtain rfl:=(cv3.get (by simp [haf])).symm
     obtain rfl:=(cv7.get (by simp [haf])).symm
     go_simp
     go_at_call 41
     (with_reducible refine (HE.out W hJ).mono ?_);rintro e u ⟨rfl,hb⟩
     exact hK _ _ ⟨_,_,_,_,_,_,_,_,_,by simp only [putAll,Act.put,List.setIfInBounds_toArray,List.set_cons_succ,List.set_cons_zero],cv0.set (by decide),cv1.set (by decide),cv2.set (by decide),cv3.set (by decide),cv4.set (by decide),cv5.set (by decide),cv6.set (by decide),cv7.set (by decide),Vd.same (by simp),by exact hJ.trans (hb.mono hJ.size)⟩
   case re =>
    rintro ls a' W hall ⟨x17,x18,x19,x20,x21,x22,x23,x24,x25,ha,cv0,cv1,cv2,cv3,cv4,cv5,cv6,cv7,cv8,hJ⟩ o hop
    simp only [putAll,Act.put,List.setIfInBounds_toArray,List.set_cons_succ,List.set_cons_zero] at ha
    subst ha
    simp at hop;subst hop
    obtain rfl:=(cv0.get (hall 0 (by decide))).symm
    obtain rfl:=(cv1.get (hall 1 (by decide))).symm
    obtain rfl:=(cv2.get (hall 2 (by decide))).symm
    obtain rfl:=(cv3.get (hall 3 (by decide))).symm
    obtain rfl:=(cv4.get (hall 4 (by decide))).symm
    obtain rfl:=(cv5.get (hall 5 (by decide))).symm
    obtain rfl:=(cv6.get (hall 6 (by decide))).symm
    obtain rfl:=(cv7.get (hall 7 (by decide))).symm
    obtain rfl:=(cv8.get (hall 8 (by decide))).symm
    go_simp
    have HB2:=hide (HB.out.trans (hJ.mono HB.out.size))
    clear hJ HE
    go_wp2_with fail
    go_roundw
    case rel=>exact ⟨k+1,by omega,by go_num,HB2⟩
    case measure=>simp [intOf];omega
   -- end eq
  ·have e:k=n:=by omega
   subst e
   have HBX:=HB
   go_wp2_with fail
   go_ret
   exact ⟨rfl,HBX.out⟩
end Go.Proofs.YtfbgppkdnfljhaaGreatDoor
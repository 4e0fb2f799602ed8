/-
  The walk of FnTsoFence: it answers true and turns nothing that was there. No condition but the bytes' own, and the listed variables' cells.
-/
import Derived.Test.YtfbgppkdnfljhaaGreatDoorZt41
import Derived.Test.YtfbgppkdnfljhaaGreatDoorZt40
import Derived.Test.YtfbgppkdnfljhaaGreatDoorZt14
import Derived.Test.YtfbgppkdnfljhaaGreatDoorZt18
import Derived.Test.YtfbgppkdnfljhaaGreatDoorZt08
import Derived.Test.YtfbgppkdnfljhaaGreatDoorZt10
set_option maxHeartbeats 6400000
set_option maxRecDepth 100000
namespace Go.Proofs.YtfbgppkdnfljhaaGreatDoor
open Go.RowKit
theorem full_lens {P:List (List Ins)} (h:putOk P (gapsV P)=true):lenA (putV P (gapsV P)) mTso=lenA (putV P (gapsV P)) mSeq∧lenA (putV P (gapsV P)) mPso=lenA (putV P (gapsV P)) mSeq:=by
 have hQ:putV P (gapsV P)=putP (inL (gapsV P)) P:=by unfold putV;rw [if_pos h]
 have h':=h
 unfold putOk at h'
 simp only [Bool.and_eq_true] at h'
 obtain ⟨⟨hp, -⟩,hq⟩:=h'
 have hg:gapsV P=gapsP P:=by unfold gapsV;rw [if_pos hp]
 rw [hQ]
 rw [hg] at hq ⊢
 have hf:=full_models hq (full_adj P)
 unfold lenA allowV
 simp only [hq,seq_good.ok,tso_good.ok,pso_good.ok,and_self,if_true]
 rw [hf.1,hf.2]
 exact ⟨rfl,rfl⟩
theorem putV_flatT (P:List (List Ins)) (L:List Gp):(putV P L).flatten.length≤42:=by
 unfold putV
 split
 ·rename_i h
  unfold putOk at h
  simp only [Bool.and_eq_true] at h
  obtain ⟨hv1, -,hv3, -⟩:=valid_le h.1.1
  exact putP_flat hv1 (fun r hr=>(hv3 r hr).1)
 ·simp
theorem lawFnTsoFence (v:Value) (xs:List Int) (w:World) (h:Rep ByteE w v xs∧∀ x∈xs,0≤x∧x≤255) (hg:Glob w) (hg2:Glob2 w) :
 Calls Tryz.prog 4 #[v] w fun e w'=>e = .returned (.bool true)∧Below w.heap.size w w':=by
 obtain ⟨hx,hb⟩:=h
 obtain ⟨a0,c0,rfl, -,hm0, -,hx⟩:=hx.open
 have HD:=hide (DrawAllowedExecs_any (.slice a0 xs.length c0) xs w hx hb)
 have HG:=hide hg;have HG2:=hide hg2
 clear hx hb hg hg2
 generalize xs.length=n at *
 by_cases hl:(n:Int) > 1048576
 ·go_enter Tryz.func4,Tryz.ntmps4
  go_wp2_with fail
  go_ret
  exact ⟨rfl,Below.refl _ _⟩
 have hl':decide ((n:Int) > 1048576)=false:=decide_eq_false hl
 go_enter Tryz.func4,Tryz.ntmps4
 go_wp2_with fail
 (with_reducible refine HD.out.mono ?_);rintro e w1 ⟨vp,s,P,m0,rfl,hP,hPl,hPr,hm, -, -,hb1⟩
 have hfl:=flatten_bound9 hPl hPr
 have HP:=hide hP;have HB1:=hide hb1
 have HGP:=hide (GapsOf_any vp P w1 hP (by omega))
 clear hP hm hb1 HD
 go_wp2_with fail
 (with_reducible refine HGP.out.mono ?_);rintro e w2 ⟨v5,rfl,ho5,hb2⟩
 have HB2:=hide (HB1.out.trans (hb2.mono HB1.out.size))
 have HP2:=hide (HP.out.below hb2)
 have HL2:=hide ho5.rep
 have HPF:=hide (PutFences_any vp v5 P (gapsV P) w2 HP2.out HL2.out (by omega))
 clear ho5 hb2 HGP
 go_wp2_with fail
 (with_reducible refine HPF.out.mono ?_);rintro e w3 ⟨vq,rfl,ho3,hb3⟩
 have HB3:=hide (HB2.out.trans (hb3.mono HB2.out.size))
 have HQ3:=hide ho3.rep
 have HSF:=hide (sPutFences_any vp v5 P (gapsV P) w3 (HP2.out.below hb3) (HL2.out.below hb3) (by omega) (by omega))
 clear ho3 hb3 HPF
 go_wp2_with fail
 (with_reducible refine HSF.out.mono ?_);rintro e w4 ⟨vw,rfl,ho4,hb4⟩
 have HB4:=hide (HB3.out.trans (hb4.mono HB3.out.size))
 have HQ4:=hide (HQ3.out.below hb4)
 have HW4:=hide ho4.rep
 have hqf:=putV_flatT P (gapsV P)
 have HFL:=hide (fun h=>full_lens (P:=P) h)
 have HPS:=hide (fun (W:World) (hb:Below w4.heap.size w4 W)=>ProgramSame_any vq vw (putV P (gapsV P)) (putV P (gapsV P)) W (HQ4.out.below hb) (HW4.out.below hb))
 simp only [decide_true] at HPS
 clear ho4 hb4 HSF HQ3
 generalize putV P (gapsV P)=Q at *
 generalize putOk P (gapsV P)=b at *
 cases b
 ·go_wp2_with fail
  (with_reducible refine (HPS.out w4 (Below.refl _ _)).mono ?_);rintro e w5 ⟨rfl,hb5⟩
  have HB5:=hide (HB4.out.trans (hb5.mono HB4.out.size))
  have HPS5:=hide (HPS.out w5 hb5)
  clear hb5
  go_wp2_with fail
  (with_reducible refine HPS5.out.mono ?_);rintro e w6 ⟨rfl,hb6⟩
  go_wp2_with fail
  go_ret
  exact ⟨rfl,HB5.out.trans (hb6.mono HB5.out.size)⟩
 ·obtain ⟨hl1,hl2⟩:=HFL.out rfl
  clear HFL
  have HA:=hide (fun (m:List Ru) (a:Option Addr) n c W (h:RepP W vq Q) (hr:RepM 0 W ⟨a,n,c⟩ m) (hg:Glob W)=>AllowedExecs_any vq a n c Q m W h hr (by omega) hg)
  go_wp2_with fail
  (with_reducible refine (HPS.out w4 (Below.refl _ _)).mono ?_);rintro e w5 ⟨rfl,hb5⟩
  have HB5:=hide (HB4.out.trans (hb5.mono HB4.out.size))
  have HQ5:=hide (HQ4.out.below hb5)
  have HM5:=hide (ModelOf_at (k:=0) rfl rfl w5 (HG.out.below HB5.out) (HG2.out.below HB5.out))
  clear hb5
  go_wp2_with fail
  (with_reducible refine HM5.out.mono ?_);rintro e w6 ⟨v6,rfl,ho6,hb6⟩
  obtain ⟨⟨s1,s2,s3⟩,rfl, -⟩:=ho6.toSlc
  have HR6:=hide (ho6.rep.low (Nat.zero_le _))
  have HB6:=hide (HB5.out.trans (hb6.mono HB5.out.size))
  have HQ6:=hide (HQ5.out.below hb6)
  have HM6:=hide (ModelOf_at (k:=1) rfl rfl w6 (HG.out.below HB6.out) (HG2.out.below HB6.out))
  clear hb6 ho6
  go_wp2_with fail
  (with_reducible refine HM6.out.mono ?_);rintro e w7 ⟨v7,rfl,ho7,hb7⟩
  obtain ⟨⟨t1,t2,t3⟩,rfl, -⟩:=ho7.toSlc
  have HR7:=hide (ho7.rep.low (Nat.zero_le _))
  have HB7:=hide (HB6.out.trans (hb7.mono HB6.out.size))
  have HQ7:=hide (HQ6.out.below hb7)
  have HR67:=hide (HR6.out.below hb7)
  have HM7:=hide (ModelOf_at (k:=2) rfl rfl w7 (HG.out.below HB7.out) (HG2.out.below HB7.out))
  clear hb7 ho7
  go_wp2_with fail
  (with_reducible refine HM7.out.mono ?_);rintro e w8 ⟨v8,rfl,ho8,hb8⟩
  obtain ⟨⟨u1,u2,u3⟩,rfl, -⟩:=ho8.toSlc
  have HR8:=hide (ho8.rep.low (Nat.zero_le _))
  have HB8:=hide (HB7.out.trans (hb8.mono HB7.out.size))
  have HQ8:=hide (HQ7.out.below hb8)
  have HR68:=hide (HR67.out.below hb8)
  have HR78:=hide (HR7.out.below hb8)
  have HA8:=hide (HA.out mSeq s1 s2 s3 w8 HQ8.out HR68.out (HG.out.below HB8.out))
  clear hb8 ho8
  unfold lenA at hl1 hl2
  generalize allowV Q mSeq=E0 at *
  generalize hE0:E0.length=n0 at *
  have HE0:=hide hE0
  clear hE0
  go_wp2_with fail
  (with_reducible refine HA8.out.mono ?_);rintro e w9 ⟨⟨x1,x2,x3⟩,rfl,hr9,hb9⟩
  obtain rfl:x2=n0:=(RowsX.lenM hr9).trans HE0.out
  have hbnd:=boundX hr9
  rw [HE0.out] at hbnd
  have HB9:=hide (HB8.out.trans (hb9.mono HB8.out.size))
  have HQ9:=hide (HQ8.out.below hb9)
  have HR9:=hide (HR8.out.below hb9)
  have HA9:=hide (HA.out mTso t1 t2 t3 w9 HQ9.out (HR78.out.below hb9) (HG.out.below HB9.out))
  clear hr9 hb9
  generalize allowV Q mTso=E1 at *
  have HE1:Hid (E1.length=x2):=hide (by omega)
  clear hl1
  go_wp2_with fail
  (with_reducible refine HA9.out.mono ?_);rintro e w10 ⟨⟨y1,y2,y3⟩,rfl,hr10,hb10⟩
  obtain rfl:y2=x2:=(RowsX.lenM hr10).trans HE1.out
  have HB10:=hide (HB9.out.trans (hb10.mono HB9.out.size))
  have HA10:=hide (HA.out mPso u1 u2 u3 w10 (HQ9.out.below hb10) (HR9.out.below hb10) (HG.out.below HB10.out))
  clear hr10 hb10
  generalize allowV Q mPso=E2 at *
  have HE2:Hid (E2.length=y2):=hide (by omega)
  clear hl2
  go_wp2_with fail
  (with_reducible refine HA10.out.mono ?_);rintro e w11 ⟨⟨z1,z2,z3⟩,rfl,hr11,hb11⟩
  obtain rfl:z2=y2:=(RowsX.lenM hr11).trans HE2.out
  have HB11:=hide (HB10.out.trans (hb11.mono HB10.out.size))
  clear hr11 hb11
  go_wp2_with fail
  go_ret
  exact ⟨by simp,HB11.out⟩
end Go.Proofs.YtfbgppkdnfljhaaGreatDoor